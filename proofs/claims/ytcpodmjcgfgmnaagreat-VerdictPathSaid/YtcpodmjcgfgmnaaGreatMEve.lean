/- Ev: a region that draws its order, run in the order of its text. No program. -/
import Derived.Test.YtcpodmjcgfgmnaaGreatMEvd
import Derived.Test.YtcpodmjcgfgmnaaGreatEv8c
import Derived.Test.YtcpodmjcgfgmnaaGreatEv8k
namespace Go.Proofs.YtcpodmjcgfgmnaaGreat
open Go.RowKit
namespace Ev
variable {P:Program}
def Zc7:Operand→Option Tmp
 | .tmp t=>some t
 | _=>none
def Qd9 (ops:Array Oper) (o:Oper):List Tmp:=o.op.operands.toList.filterMap Zc7++(match o.guard with | some (j,_)=>(match Flow.dstOf ops j with | some d=>[d] | none=>[]) | none=>[])
def dsts (ops:Array Oper):List (Option Tmp):=ops.toList.map (·.dst)
def Qca (ops:Array Oper):List Nat:=(List.range ops.size).filter (Qaq ops)
def Qmi (ops:Array Oper):List Nat:=(List.range ops.size).filter fun i=>match ops[i]? with | some o=>Qcu o.op | none=>false
def Qna (S:List Nat) (C:List Nat) (n0 i q:Nat):Bool:=S.all fun k=>if k < n0+q then !(C.getD k 0).testBit i else !(C.getD i 0).testBit k
def Qlx (ops:Array Oper) (n0:Nat):List Nat:=(List.range ops.size).filter (Qdu ops n0)
theorem Qrc (ops:Array Oper) (n0 i q:Nat):Qna (Qlx ops n0) (clos ops) n0 i q=Qdp ops n0 i q:=by
 unfold Qna Qdp Qlx;rw [List.all_filter]
def Qnt (S:List Nat) (n0 i q:Nat):Bool:=S.all fun k=>!((Nat.ble (max i n0) k && Nat.blt k (n0+q)) || (Nat.ble (n0+q) k && Nat.blt k i))
def qsOf (S:List Nat) (n0:Nat):List Nat:=0 :: (S.filter fun k=>Nat.ble n0 k).map fun k=>k+1 - n0
def Qcd (ops:Array Oper) (n0:Nat):List (Nat × Nat) :=
 (Qmi ops).flatMap fun i=>((qsOf (Qca ops) n0).filter fun q=>Qna (Qlx ops n0) (clos ops) n0 i q && !Qnt (Qca ops) n0 i q).map fun q=>(i,q)
def Qf1 (t:Tmp) (s i:Nat):Nat→List (Option Tmp)→List Nat→Bool
 | _,[],_=>true
 | k,none :: r,_ :: C=>Qf1 t s i (k+1) r C
 | k,some d :: r,c :: C=>if Nat.beq d t then ((Nat.blt k i && s.testBit k) || (Nat.blt i k && c.testBit i)) && Qf1 t s i (k+1) r C else Qf1 t s i (k+1) r C
 | _,_ :: _,[]=>false
def offs (d:Tmp):List (Option Tmp)→Bool
 | []=>true
 | none :: r=>offs d r
 | some t :: r=>!Nat.beq t d && offs d r
def Qs8 (n0 s:Nat):Nat→List Oper→Bool
 | _,[]=>true
 | k,o :: r=>(Qc0 o.op || s.testBit k || (Nat.blt k n0 && isMk o)) && Qs8 n0 s (k+1) r
def Qfr (o:Oper):Bool:=match o.op with
 | .store _ _ _=>o.dst.isNone && o.guard.isNone
 | _=>false
def Zb4 (ops:Array Oper) (C:List Nat):List Nat→Nat × Nat
 | [a,b]=>match ops[a]?,ops[b]? with
  | some x,some y=>if Qfr x && Qfr y && !(C.getD b 0).testBit a then (a,b) else (0,0)
  | _,_=>(0,0)
 | _ :: b :: c :: r=>Zb4 ops C (b :: c :: r)
 | _=>(0,0)
def Qas (ops:Array Oper):Nat × Nat:=Zb4 ops (clos ops) (Qca ops)
def bitX (p:Nat × Nat) (i s:Nat):Nat:=if Nat.beq i p.2 then s ||| 2 ^ p.1 else s
def Zab (ops:Array Oper) (n0 i:Nat) (o:Oper) (s:Nat):Bool :=
 (match o.dst with | none=>Nat.ble n0 i | some d=>offs d ((dsts ops).take i)) && o.after.toList.all (fun e=>!Region.binds .any e || Nat.blt e.on i) &&
 (Qd9 ops o).all (fun t=>Qf1 t s i 0 (dsts ops) (clos ops)) && (Nat.blt i n0 || Qc0 o.op || Qs8 n0 (bitX (Qas ops) i s) 0 (ops.toList.take i))
def Qus (ops:Array Oper) (n0:Nat):Nat→List Oper→List Nat→Bool
 | _,[],_=>true
 | i,o :: r,s :: S=>Zab ops n0 i o s && Qus ops n0 (i+1) r S
 | _,_ :: _,[]=>false
def Qf7 (ops:Array Oper) (i:Nat):Bool:=match ops[i]? with
 | some o=>(Qd9 ops o).all fun t=>offs t ((dsts ops).drop i)
 | none=>true
def Qg7 (ops:Array Oper) (p:Nat × Nat):List Nat:=(Qmi ops).filter fun i=>!((clos ops).getD p.2 0).testBit i && !((clos ops).getD i 0).testBit p.1
def storeAt (ops:Array Oper) (k:Nat):Bool:=match ops[k]? with
 | some o=>Qfr o
 | none=>false
def Ql2 (ops:Array Oper) (n0:Nat):Bool:=if Nat.blt (Qas ops).1 (Qas ops).2 then
  Nat.ble n0 (Qas ops).1 && Nat.blt (Qas ops).2 ops.size && storeAt ops (Qas ops).1 && storeAt ops (Qas ops).2 && Qf7 ops (Qas ops).1 && Qf7 ops (Qas ops).2 &&
   (Qg7 ops (Qas ops)).all (Qf7 ops) && (Qca ops).all (fun k=>Nat.beq k (Qas ops).1 || Nat.beq k (Qas ops).2 || Nat.blt k (Qas ops).1)
 else true
def Qb8 (ops:Array Oper) (n0:Nat):Bool:=Nat.ble n0 ops.size && Qus ops n0 0 ops.toList (clos ops) && (Qcd ops n0).all (fun p=>Qf7 ops p.1) && Ql2 ops n0
theorem Qgb {t s i:Nat}:∀ {l:List (Option Tmp)} {C:List Nat} {k:Nat},Qf1 t s i k l C=true→∀ j:Nat,l[j]?=some (some t)→(k+j < i∧s.testBit (k+j)=true)∨(i < k+j∧(C.getD j 0).testBit i=true)
 | [],_,_,_,j,hj=>by simp at hj
 | none :: r,_ :: C,k,h,0,hj=>by simp at hj
 | none :: r,_ :: C,k,h,j+1,hj=>by
  have:=Qgb (l:=r) (C:=C) (k:=k+1) h j (by simpa using hj);rw [show k+1+j=k+(j+1) by omega] at this;simpa using this
 | some d :: r,c :: C,k,h,0,hj=>by
  simp at hj;subst hj;simp only [Qf1,Nat.beq_refl,if_true,Bool.and_eq_true,Bool.or_eq_true,Nat.blt_eq] at h;simpa using h.1
 | some d :: r,c :: C,k,h,j+1,hj=>by
  have h':Qf1 t s i (k+1) r C=true:=by
   simp only [Qf1] at h;split at h
   ·simp only [Bool.and_eq_true] at h;exact h.2
   ·exact h
  have:=Qgb (l:=r) (C:=C) (k:=k+1) h' j (by simpa using hj);rw [show k+1+j=k+(j+1) by omega] at this;simpa using this
 | none :: _,[],_,h,_,_=>by simp [Qf1] at h
 | some _ :: _,[],_,h,_,_=>by simp [Qf1] at h
theorem Qgl {d:Tmp}:∀ {l:List (Option Tmp)},offs d l=true→∀ j:Nat,l[j]?≠some (some d)
 | [],_,j=>by simp
 | none :: r,h,0=>by simp
 | none :: r,h,j+1=>by simpa using Qgl (l:=r) h j
 | some t :: r,h,0=>by
  simp only [offs,Bool.and_eq_true,Bool.not_eq_true'] at h;intro e;simp at e;subst e;rw [Nat.beq_refl] at h;cases h.1
 | some t :: r,h,j+1=>by
  simp only [offs,Bool.and_eq_true] at h;simpa using Qgl (l:=r) h.2 j
theorem Qkt {n0 s:Nat}:∀ {l:List Oper} {k:Nat},Qs8 n0 s k l=true→∀ (j:Nat) (o:Oper),l[j]?=some o→Qc0 o.op=false→(Nat.blt (k+j) n0 && isMk o)=false→s.testBit (k+j)=true
 | [],_,_,j,o,hj,_,_=>by simp at hj
 | x :: r,k,h,0,o,hj,hf,hm=>by
  simp at hj;subst hj;simp only [Qs8,Bool.and_eq_true,Bool.or_eq_true] at h;rcases h.1 with (h1 | h1) | h1
  ·rw [hf] at h1;cases h1
  ·exact h1
  ·rw [Nat.add_zero] at hm;simp [h1.1,h1.2] at hm
 | x :: r,k,h,j+1,o,hj,hf,hm=>by
  simp only [Qs8,Bool.and_eq_true] at h;have:=Qkt (l:=r) (k:=k+1) h.2 j o (by simpa using hj) hf (by rwa [show k+1+j=k+(j+1) by omega]);rwa [show k+1+j=k+(j+1) by omega] at this
theorem Qkq {ops:Array Oper} {n0:Nat}:∀ {l:List Oper} {S:List Nat} {i:Nat},Qus ops n0 i l S=true→∀ (j:Nat) (o:Oper),l[j]?=some o→Zab ops n0 (i+j) o (S.getD j 0)=true
 | [],_,_,_,j,o,hj=>by simp at hj
 | x :: r,s :: S,i,h,0,o,hj=>by
  simp at hj;subst hj;simp only [Qus,Bool.and_eq_true] at h;simpa using h.1
 | x :: r,s :: S,i,h,j+1,o,hj=>by
  simp only [Qus,Bool.and_eq_true] at h;have:=Qkq (l:=r) h.2 j o (by simpa using hj);rw [show i+1+j=i+(j+1) by omega] at this;simpa using this
 | x :: r,[],i,h,_,_,_=>by cases h
def Qb4 (ops:Array Oper) (k:Nat):Option Tmp:=match ops[k]? with | some o=>o.dst | none=>none
theorem Qm4 {ops:Array Oper} {k:Nat} {t:Tmp} (h:Qb4 ops k=some t):(dsts ops)[k]?=some (some t):=by
 unfold Qb4 at h;split at h
 ·rename_i o ho;simp [dsts,ho,h]
 ·cases h
structure Stat (ops:Array Oper) (n0 i:Nat) (o:Oper):Prop where
 dst:∀ d,o.dst=some d→∀ k,k < i→Qb4 ops k≠some d
 none:o.dst=none→n0≤i
 back:∀ e∈o.after.toList,Region.binds .any e=true→e.on < i
 back':(o.after.toList.all (fun e=>!Region.binds .any e || decide (e.on < i)))=true
 reads:∀ t∈Qd9 ops o,∀ k,Qb4 ops k=some t→(k < i∧((clos ops).getD i 0).testBit k=true)∨(i < k∧((clos ops).getD k 0).testBit i=true)
 sens:n0≤i→Qc0 o.op=false→∀ k,k < i→Qdu ops n0 k=true→(k=(Qas ops).1∧i=(Qas ops).2)∨((clos ops).getD i 0).testBit k=true
theorem Qd7 {ops:Array Oper} {n0:Nat} (h:Qb8 ops n0=true) {i:Nat} {o:Oper} (ho:ops[i]?=some o):Stat ops n0 i o:=by
 simp only [Qb8,Bool.and_eq_true] at h;have hs:=Qkq h.1.1.2 i o (by simpa using ho);rw [Nat.zero_add] at hs;simp only [Zab,Bool.and_eq_true,Bool.or_eq_true] at hs;obtain ⟨⟨⟨h1,h2⟩,h3⟩,h4⟩:=hs;have hb:∀ e∈o.after.toList,Region.binds .any e=true→e.on < i:=fun e he hb=>by
  have:=List.all_eq_true.1 h2 e he;simpa [hb,Nat.blt_eq] using this
 refine ⟨fun d hd k hk e=>?_,fun hd=>?_,hb,?_,fun t ht k hk=>?_,fun hi hf k hk hsk=>?_⟩
 ·rw [hd] at h1;exact Qgl h1 k (by rw [List.getElem?_take,if_pos hk];exact Qm4 e)
 ·rw [hd] at h1;simpa using h1
 ·rw [List.all_eq_true];intro e he;cases hbe:Region.binds .any e with
  | false=>rfl
  | true=>simpa using hb e he hbe
 ·have:=Qgb (List.all_eq_true.1 h3 t ht) k (Qm4 hk);simpa using this
 ·rcases h4 with (h4 | h4) | h4
  ·have:i < n0:=by simpa using h4
   omega
  ·rw [hf] at h4;cases h4
  ·simp only [Qdu,Qaq,Qfu,Bool.and_eq_true,Bool.not_eq_true'] at hsk;obtain ⟨hsk,hlk⟩:=hsk;split at hsk
   ·rename_i o' ho';rw [ho'] at hlk;have:=Qkt h4 k o' (by rw [List.getElem?_take,if_pos hk];simpa using ho') (by simpa using hsk) (by rw [Nat.zero_add];exact hlk);rw [Nat.zero_add] at this;unfold bitX at this;split at this
    ·rename_i hi2;rw [Nat.testBit_or,Bool.or_eq_true,Nat.testBit_two_pow] at this;rcases this with h | h
     ·exact .inr (by simpa using h)
     ·exact .inl ⟨(of_decide_eq_true h).symm,by simpa using hi2⟩
    ·exact .inr (by simpa using this)
   ·cases hsk
def Qao (e0:Env):List Tr→Env
 | []=>e0
 | t :: r=>Qao (e0.set t.d t.pv) r
def setU (e0:Env):List Tl→Env
 | []=>e0
 | t :: r=>setU (setE e0 t.d t.pv) r
theorem Qd8 (e0:Env) (T U:List Tr):Qao e0 (T++U)=Qao (Qao e0 T) U:=by
 induction T generalizing e0 with
 | nil=>rfl
 | cons u r ih=>exact ih _
theorem Qi2 (e0:Env) (T:List Tr) (t:Tr):Qao e0 (T++[t])=(Qao e0 T).set t.d t.pv:=Qd8 e0 T [t]
theorem Qf5 (e0:Env) (T U:List Tl):setU e0 (T++U)=setU (setU e0 T) U:=by
 induction T generalizing e0 with
 | nil=>rfl
 | cons u r ih=>exact ih _
theorem Qnj (e0:Env) (T:List Tl) (t:Tl):setU e0 (T++[t])=setE (setU e0 T) t.d t.pv:=Qf5 e0 T [t]
theorem Qro (e:Env) (d:Option Tmp) (pv:PV):(setE e d pv).length=e.length:=by cases d <;> simp [setE]
theorem Qdt:∀ (T:List Tr) (e:Env),(Qao e T).length=e.length
 | [],_=>rfl
 | t :: r,e=>by rw [Qao,Qdt r];simp
theorem Qrn:∀ (T:List Tl) (e:Env),(setU e T).length=e.length
 | [],_=>rfl
 | t :: r,e=>by rw [setU,Qrn r,Qro]
theorem Qha {x:Tmp}:∀ {T:List Tr} {e:Env},(∀ t∈T,t.d≠x)→(Qao e T)[x]?=e[x]?
 | [],_,_=>rfl
 | t :: r,e,h=>by
  rw [Qao,Qha fun u hu=>h u (by simp [hu]),List.getElem?_set_ne (h t (by simp))]
theorem Qpo {e:Env} {d:Option Tmp} {pv:PV} {x:Tmp} (h:d≠some x):(setE e d pv)[x]?=e[x]?:=by
 cases d with
 | none=>rfl
 | some t=>exact List.getElem?_set_ne fun e=>h (by rw [e])
theorem Qgi {x:Tmp}:∀ {T:List Tl} {e:Env},(∀ t∈T,t.d≠some x)→(setU e T)[x]?=e[x]?
 | [],_,_=>rfl
 | t :: r,e,h=>by rw [setU,Qgi fun u hu=>h u (by simp [hu]),Qpo (h t (by simp))]
theorem Qv2 {x:Tmp}:∀ {ds:List Tmp} {e:Env},x∉ds→(Qoh e ds)[x]?=e[x]?
 | [],_,_=>rfl
 | d :: r,e,h=>by
  simp only [Qoh];rw [Qv2 (fun k=>h (List.mem_cons_of_mem _ k)),List.getElem?_set_ne (fun k=>h (by simp [k]))]
theorem Qr6 {x:Tmp} {s:Nat}:∀ {T:List Tr} {e e':Env} {k0:Nat},e.length=e'.length→e[x]?=e'[x]?→(∀ (k:Nat) t,T[k]?=some t→t.d=x→s.testBit (k0+k)=true)→(Qmf e T s k0)[x]?=(Qao e' T)[x]?
 | [],_,_,_,_,h,_=>h
 | t :: r,e,e',k0,hl,h,hb=>by
  simp only [Qmf,Qao];refine Qr6 (by simp [hl]) ?_ fun k u hk hu=>by
   have:=hb (k+1) u (by simpa using hk) hu;rwa [show k0+(k+1)=k0+1+k by omega] at this
  by_cases hx:t.d=x
  ·have:=hb 0 t rfl hx;rw [Nat.add_zero] at this;rw [this,if_pos rfl,hx,List.getElem?_set,List.getElem?_set,hl,if_pos rfl,if_pos rfl]
  ·rw [List.getElem?_set_ne hx,List.getElem?_set_ne hx,h]
theorem Qv1 {x:Tmp} {s:Nat}:∀ {T:List Tl} {e e':Env} {k0:Nat},e.length=e'.length→e[x]?=e'[x]?→(∀ (k:Nat) t,T[k]?=some t→t.d=some x→s.testBit (k0+k)=true)→(Qog e T s k0)[x]?=(setU e' T)[x]?
 | [],_,_,_,_,h,_=>h
 | t :: r,e,e',k0,hl,h,hb=>by
  simp only [Qog,setU];refine Qv1 (by simp [hl,Qro]) ?_ fun k u hk hu=>by
   have:=hb (k+1) u (by simpa using hk) hu;rwa [show k0+(k+1)=k0+1+k by omega] at this
  by_cases hx:t.d=some x
  ·have:=hb 0 t rfl hx;rw [Nat.add_zero] at this;rw [this,if_pos rfl,hx];simp only [setE];rw [List.getElem?_set,List.getElem?_set,hl,if_pos rfl,if_pos rfl]
  ·rw [Qpo hx,Qpo hx,h]
theorem Qfq {C:List Nat} {i:Nat} {d:Tmp}:∀ {l:List Oper} {k:Nat},d∈Qay C i l k→∃ (j:Nat) (o:Oper),l[j]?=some o∧o.dst=some d∧(C.getD (k+j) 0).testBit i=false
 | [],_,h=>by simp [Qay] at h
 | o :: r,k,h=>by
  have up:(∃ (j:Nat) (o:Oper),r[j]?=some o∧o.dst=some d∧(C.getD (k+1+j) 0).testBit i=false)→∃ (j:Nat) (o':Oper),(o :: r)[j]?=some o'∧o'.dst=some d∧(C.getD (k+j) 0).testBit i=false:=fun ⟨j,o',h1,h2,h3⟩ =>
   ⟨j+1,o',by simpa using h1,h2,by rwa [show k+(j+1)=k+1+j by omega]⟩
  simp only [Qay] at h;split at h
  ·exact up (Qfq h)
  ·rename_i d' hd;split at h
   ·exact up (Qfq h)
   ·rename_i hb;rcases List.mem_cons.1 h with rfl | h
    ·exact ⟨0,o,rfl,hd,by rw [Nat.add_zero];simpa using hb⟩
    ·exact up (Qfq h)
theorem Qn9 {ops:Array Oper} {n0 i:Nat} {o:Oper} (hs:Stat ops n0 i o) {t:Tmp} (ht:t∈Qd9 ops o):t∉Qay (clos ops) i (ops.toList.drop (i+1)) (i+1):=fun hm=>by
 obtain ⟨j,o',h1,h2,h3⟩:=Qfq hm;rw [List.getElem?_drop] at h1;have h1':ops[i+1+j]?=some o':=by simpa using h1
 rcases hs.reads t ht (i+1+j) (by unfold Qb4;rw [h1'];exact h2) with h | h
 ·omega
 ·rw [h3] at h;cases h.2
theorem Qlr {ops:Array Oper} {n0 i:Nat} {o:Oper} {e0:Env} {T:List Tr} (hs:Stat ops n0 i o) (hi:T.length≤i) (hT:∀ k t,T[k]?=some t→Qb4 ops k=some t.d) {t:Tmp} (ht:t∈Qd9 ops o) :
  (Qfw e0 T ((clos ops).getD i 0) (Qay (clos ops) i (ops.toList.drop (i+1)) (i+1)))[t]?=(Qao e0 T)[t]?:=by
 unfold Qfw;rw [Qv2 (Qn9 hs ht)];exact Qr6 rfl rfl fun k u hu hx=>by
  rw [Nat.zero_add];have hk:=(List.getElem?_eq_some_iff.1 hu).1;rcases hs.reads t ht k (by rw [hT k u hu,hx]) with h | h
  ·exact h.2
  ·omega
theorem Qiw {ops:Array Oper} {n0 i:Nat} {o:Oper} {e0:Env} {T:List Tr} {U:List Tl} (hs:Stat ops n0 i o) (hi:T.length+U.length≤i) (hT:∀ k t,T[k]?=some t→Qb4 ops k=some t.d) (hU:∀ q u,U[q]?=some u→Qb4 ops (T.length+q)=u.d) {t:Tmp} (ht:t∈Qd9 ops o) :
  (envT e0 T U ((clos ops).getD i 0) (Qay (clos ops) i (ops.toList.drop (i+1)) (i+1)))[t]?=(setU (Qao e0 T) U)[t]?:=by
 unfold envT;rw [Qv2 (Qn9 hs ht)];refine Qv1 (by rw [Qdz,Qdt]) (Qr6 rfl rfl fun k u hu hx=>?_) fun q u hu hx=>?_
 ·rw [Nat.zero_add];have hk:=(List.getElem?_eq_some_iff.1 hu).1;rcases hs.reads t ht k (by rw [hT k u hu,hx]) with h | h
  ·exact h.2
  ·omega
 ·have hk:=(List.getElem?_eq_some_iff.1 hu).1;rcases hs.reads t ht _ (by rw [hU q u hu,hx]) with h | h
  ·exact h.2
  ·omega
theorem Qir {n k:Nat} (h:k < n):(2 ^ n - 1).testBit k=true:=by
 rw [Nat.testBit_two_pow_sub_one];simpa using h
theorem Qfm {ops:Array Oper} {o:Oper} {e e':Env} (h:∀ t∈Qd9 ops o,e[t]?=e'[t]?):(∀ x∈o.op.operands.toList,evX (lk e) x=evX (lk e') x)∧Qaz ops e o=Qaz ops e' o:=by
 refine ⟨fun x hx=>?_,?_⟩
 ·cases x with
  | tmp t=>exact h t (List.mem_append_left _ (List.mem_filterMap.2 ⟨_,hx,rfl⟩))
  | _=>rfl
 ·unfold Qaz;cases hg:o.guard with
  | none=>rfl
  | some q =>
   obtain ⟨j,want⟩:=q;cases hd:Flow.dstOf ops j with
   | none=>simp only [hd]
   | some d =>
    simp only [hd];rw [h d (List.mem_append_right _ (by simp [hg,hd]))]
variable (P)
def evT (ev:Qav) (ops:Array Oper):List Oper→Env→List O→Option (Env × List O)
 | [],e,h=>some (e,h)
 | o :: r,e,h=>match o.dst with
  | none=>none
  | some d=>match Qaz ops e o with
   | none=>none
   | some false=>evT ev ops r (e.set d .skip) h
   | some true=>match Qbd P ev e ⟨h,h.length⟩ o with
    | none=>none
    | some (pv,st)=>if h.length≤st.lo then evT ev ops r (e.set d pv) st.h else none
def evU (ev:Qav) (ops:Array Oper):List Oper→Env→St→Option (Env × List St)
 | [],e,_=>some (e,[])
 | o :: r,e,st=>match Qaz ops e o with
  | none=>none
  | some false=>(match evU ev ops r (setE e o.dst .skip) st with | some (e',l)=>some (e',st :: l) | none=>none)
  | some true=>match Qbd P ev e st o with
   | none=>none
   | some (pv,st')=>(match evU ev ops r (setE e o.dst pv) st' with | some (e',l)=>some (e',st' :: l) | none=>none)
variable {P}
theorem Qcp {ev:Qav} {ops:Array Oper} {e0:Env} {h0:List O} {T:List Tr} (hT:∀ i,i < T.length→StepP P ev ops e0 h0 T i):∀ k t,T[k]?=some t→Qb4 ops k=some t.d:=fun k t ht=>by
 obtain ⟨o,t',h1,h2,h3,_⟩:=hT k (List.getElem?_eq_some_iff.1 ht).1;rw [ht] at h2;cases h2;unfold Qb4;rw [h1];exact h3
theorem Qsm {ev:Qav} {ops:Array Oper} {e0:Env} {h0:List O} {n0:Nat} (hst:Qb8 ops n0=true) (hk:Qa9 ev):∀ {l:List Oper} {T:List Tr} {e':Env} {h':List O},(∀ j o,l[j]?=some o→ops[T.length+j]?=some o) →
  (∀ i,i < T.length→StepP P ev ops e0 h0 T i)→evT P ev ops l (Qao e0 T) (hAt h0 T T.length)=some (e',h')→∃ T':List Tr,T'.length=T.length+l.length∧(∀ i,i < T'.length→StepP P ev ops e0 h0 T' i)∧e'=Qao e0 T'∧h'=hAt h0 T' T'.length
 | [],T,e',h',hl,hT,h=>by cases h;exact ⟨T,rfl,hT,rfl,rfl⟩
 | o :: r,T,e',h',hl,hT,h=>by
  have ho:ops[T.length]?=some o:=hl 0 o rfl;have hs:=Qd7 hst ho;have hdT:=Qcp hT;simp only [evT] at h;split at h
  ·cases h
  rename_i d hd;have hag:=Qfm fun t ht=>(Qlr (e0:=e0) hs (Nat.le_refl _) hdT ht).symm;have next:∀ (pv:PV) (hh:List O),StepP P ev ops e0 h0 (T++[⟨d,pv,(clos ops).getD T.length 0,hh⟩]) T.length→evT P ev ops r ((Qao e0 T).set d pv) hh=some (e',h') →
    ∃ T':List Tr,T'.length=T.length+(o :: r).length∧(∀ i,i < T'.length→StepP P ev ops e0 h0 T' i)∧e'=Qao e0 T'∧h'=hAt h0 T' T'.length:=fun pv hh hsp hrun=>by
   obtain ⟨T',a1,a2⟩:=Qsm hst hk (l:=r) (T:=T++[⟨d,pv,(clos ops).getD T.length 0,hh⟩]) (e':=e') (h':=h') (fun j o' hj=>by
     have:=hl (j+1) o' (by simpa using hj);rw [List.length_append,List.length_singleton,show T.length+1+j=T.length+(j+1) by omega];exact this)
    (fun i hi=>by
      rw [List.length_append,List.length_singleton] at hi;by_cases e:i < T.length
      ·exact (hT i e).append e
      ·have:i=T.length:=by omega
       subst this;exact hsp)
    (by
      rw [Qi2];have:hAt h0 (T++[⟨d,pv,(clos ops).getD T.length 0,hh⟩]) (T++[⟨d,pv,(clos ops).getD T.length 0,hh⟩]:List Tr).length=hh:=by
       rw [List.length_append,List.length_singleton];simp [hAt]
      rw [this];exact hrun)
   exact ⟨T',by rw [a1];simp;omega,a2⟩
  have base:∀ t:Tr,t.d=d→t.s=(clos ops).getD T.length 0 →
    ((Qaz ops (Qfw e0 T ((clos ops).getD T.length 0) (Qay (clos ops) T.length (ops.toList.drop (T.length+1)) (T.length+1))) o=some false∧t.pv=.skip∧t.h=hAt h0 T T.length) ∨
     (Qaz ops (Qfw e0 T ((clos ops).getD T.length 0) (Qay (clos ops) T.length (ops.toList.drop (T.length+1)) (T.length+1))) o=some true∧∃ st,Qbd P ev (Qfw e0 T ((clos ops).getD T.length 0) (Qay (clos ops) T.length (ops.toList.drop (T.length+1)) (T.length+1))) ⟨hAt h0 T T.length,(hAt h0 T T.length).length⟩ o=some (t.pv,st)∧(hAt h0 T T.length).length≤st.lo∧t.h=hAt h0 T T.length++st.h.drop (hAt h0 T T.length).length)) →
    StepP P ev ops e0 h0 (T++[t]) T.length:=fun t htd hts hor=>by
   have htk:(T++[t]).take T.length=T:=by simp
   have hha:hAt h0 (T++[t]) T.length=hAt h0 T T.length:=Qk6 (Nat.le_refl _);refine ⟨o,t,ho,by simp,by rw [hd,htd],fun k u hk hu=>?_,hs.back,hts,?_⟩
   ·rw [List.getElem?_append_left hk] at hu;intro e;exact hs.dst d hd k hk (by rw [hdT k u hu,e,htd])
   ·rw [htk,hha,hts];exact hor
  split at h
  ·cases h
  ·rename_i hw;exact next .skip _ (base ⟨d,.skip,_,_⟩ rfl rfl (.inl ⟨by rw [← hag.2];exact hw,rfl,rfl⟩)) h
  ·rename_i hw;split at h
   ·cases h
   rename_i pv st hstep;split at h
   ·rename_i hlo;have hkp:=Qds hk hstep;refine next pv st.h (base ⟨d,pv,_,_⟩ rfl rfl (.inr ⟨by rw [← hag.2];exact hw,st,?_,hlo,hkp.eq_append hlo⟩)) h
    rw [← Qhz hag.1];exact hstep
   ·cases h
theorem Qco {X:Xp} {ev:Qav} {ops:Array Oper} {e0:Env} {T:List Tr} {st0:St} {U:List Tl} (hU:∀ q,q < U.length→TailP P X ev ops e0 T st0 U q):∀ q u,U[q]?=some u→Qb4 ops (T.length+q)=u.d:=fun q u hu=>by
 obtain ⟨o,t',h1,h2,h3,_⟩:=hU q (List.getElem?_eq_some_iff.1 hu).1;rw [hu] at h2;cases h2;unfold Qb4;rw [h1];exact h3
theorem Qsl {X:Xp} {ev:Qav} {ops:Array Oper} (hXp:X.A=(Qas ops).1∧X.B=(Qas ops).2) {e0:Env} {T:List Tr} {st0:St} (hst:Qb8 ops T.length=true) (hdT:∀ k t,T[k]?=some t→Qb4 ops k=some t.d):∀ {l:List Oper} {U:List Tl} {e':Env} {sts:List St},(∀ j o,l[j]?=some o→ops[T.length+U.length+j]?=some o) →
  (∀ q,q < U.length→TailP P X ev ops e0 T st0 U q)→evU P ev ops l (setU (Qao e0 T) U) (stAt st0 U U.length)=some (e',sts) →
  ∃ V:List Tl,V.map (·.st)=sts∧V.length=l.length∧(∀ q,q < (U++V).length→TailP P X ev ops e0 T st0 (U++V) q)∧e'=setU (Qao e0 T) (U++V)
 | [],U,e',sts,hl,hU,h=>by cases h;exact ⟨[],rfl,rfl,by simpa using hU,by simp⟩
 | o :: r,U,e',sts,hl,hU,h=>by
  have ho:ops[T.length+U.length]?=some o:=hl 0 o rfl;have hs:=Qd7 hst ho;have hdU:=Qco hU;have hag:=Qfm fun t ht=>(Qiw (e0:=e0) hs (Nat.le_refl _) hdT hdU ht).symm;have next:∀ (u:Tl) (sts':List St),sts=u.st :: sts'→TailP P X ev ops e0 T st0 (U++[u]) U.length→evU P ev ops r (setE (setU (Qao e0 T) U) u.d u.pv) u.st=some (e',sts') →
    ∃ V:List Tl,V.map (·.st)=sts∧V.length=(o :: r).length∧(∀ q,q < (U++V).length→TailP P X ev ops e0 T st0 (U++V) q)∧e'=setU (Qao e0 T) (U++V):=fun u sts' hsts hsp hrun=>by
   obtain ⟨V,a1,a2,a3,a4⟩:=Qsl hXp hst hdT (l:=r) (U:=U++[u]) (e':=e') (sts:=sts') (fun j o' hj=>by
     have:=hl (j+1) o' (by simpa using hj);rw [List.length_append,List.length_singleton,show T.length+(U.length+1)+j=T.length+U.length+(j+1) by omega];exact this)
    (fun i hi=>by
      rw [List.length_append,List.length_singleton] at hi;by_cases e:i < U.length
      ·exact (hU i e).append e
      ·have:i=U.length:=by omega
       subst this;exact hsp)
    (by
      rw [Qnj];have:stAt st0 (U++[u]) (U++[u]:List Tl).length=u.st:=by
       rw [List.length_append,List.length_singleton];simp [stAt]
      rw [this];exact hrun)
   refine ⟨u :: V,by simp [a1,hsts],by simp [a2],?_,?_⟩
   ·rw [List.append_assoc] at a3;exact a3
   ·rw [List.append_assoc] at a4;exact a4
  have base:∀ u:Tl,u.d=o.dst→u.s=(clos ops).getD (T.length+U.length) 0 →
    ((Qaz ops (envT e0 T U ((clos ops).getD (T.length+U.length) 0) (Qay (clos ops) (T.length+U.length) (ops.toList.drop (T.length+U.length+1)) (T.length+U.length+1))) o=some false∧u.pv=.skip∧u.st=stAt st0 U U.length) ∨
     (Qaz ops (envT e0 T U ((clos ops).getD (T.length+U.length) 0) (Qay (clos ops) (T.length+U.length) (ops.toList.drop (T.length+U.length+1)) (T.length+U.length+1))) o=some true∧Qbd P ev (envT e0 T U ((clos ops).getD (T.length+U.length) 0) (Qay (clos ops) (T.length+U.length) (ops.toList.drop (T.length+U.length+1)) (T.length+U.length+1))) (stAt st0 U U.length) o=some (u.pv,u.st))) →
    TailP P X ev ops e0 T st0 (U++[u]) U.length:=fun u hud hus hor=>by
   have htk:(U++[u]).take U.length=U:=by simp
   have hha:stAt st0 (U++[u]) U.length=stAt st0 U U.length:=Qix (Nat.le_refl _);refine ⟨o,u,ho,by simp,hud.symm,fun d hd=>⟨fun t ht e=>?_,fun k v hk hv e=>?_⟩,hs.back,hus,fun hf k hk hsk=>by rw [hus,hXp.1,hXp.2];exact hs.sens (by omega) hf k hk hsk,?_⟩
   ·obtain ⟨k,hk,rfl⟩:=List.mem_iff_getElem.1 ht;exact hs.dst d (by rw [← hud,hd]) k (by omega) (by rw [hdT k T[k] (by simp),e])
   ·rw [List.getElem?_append_left hk] at hv;exact hs.dst d (by rw [← hud,hd]) (T.length+k) (by omega) (by rw [hdU k v hv,e])
   ·rw [htk,hha,hus];exact hor
  simp only [evU] at h;split at h
  ·cases h
  ·rename_i hw;split at h
   ·rename_i e1 l1 hrun;cases h;exact next ⟨o.dst,.skip,(clos ops).getD (T.length+U.length) 0,stAt st0 U U.length⟩ l1 rfl (base _ rfl rfl (.inl ⟨by rw [← hag.2];exact hw,rfl,rfl⟩)) hrun
   ·cases h
  ·rename_i hw;split at h
   ·cases h
   rename_i pv st' hstep;split at h
   ·rename_i e1 l1 hrun;cases h;refine next ⟨o.dst,pv,(clos ops).getD (T.length+U.length) 0,st'⟩ l1 rfl (base _ rfl rfl (.inr ⟨by rw [← hag.2];exact hw,?_⟩)) hrun
    rw [← Qhz hag.1];exact hstep
   ·cases h
end Ev
end Go.Proofs.YtcpodmjcgfgmnaaGreat
namespace Go.Proofs.YtcpodmjcgfgmnaaGreat
open Go.RowKit
namespace Ev
variable {P:Program}
theorem sensIdx_mem {ops:Array Oper} {k:Nat}:k∈Qca ops↔Qaq ops k=true:=by
 unfold Qca;rw [List.mem_filter,List.mem_range];refine ⟨fun h=>h.2,fun h=>⟨?_,h⟩⟩;unfold Qaq at h;split at h
 ·rename_i o ho;exact (Array.getElem?_eq_some_iff.1 ho).1
 ·cases h
theorem Qob {ops:Array Oper} {n0 i q:Nat} {o:Oper} (ho:ops[i]?=some o) (hl:Qcu o.op=true) (hq:q∈qsOf (Qca ops) n0) (ha:Qdp ops n0 i q=true) (hn:Qnt (Qca ops) n0 i q=false):(i,q)∈Qcd ops n0:=by
 unfold Qcd;refine List.mem_flatMap.2 ⟨i,?_,List.mem_map.2 ⟨q,List.mem_filter.2 ⟨hq,?_⟩,rfl⟩⟩
 ·unfold Qmi;refine List.mem_filter.2 ⟨List.mem_range.2 (Array.getElem?_eq_some_iff.1 ho).1,?_⟩;simp only [ho,hl]
 ·rw [Qrc,ha,hn];rfl
theorem Qr4 (ops:Array Oper) (n0:Nat):∀ q,∃ q',q'∈qsOf (Qca ops) n0∧q'≤q∧∀ k,n0+q'≤k→k < n0+q→Qaq ops k=false
 | 0=>⟨0,by simp [qsOf],Nat.le_refl _,fun k h1 h2=>by omega⟩
 | q+1=>by
  cases hs:Qaq ops (n0+q) with
  | true =>
   refine ⟨q+1,?_,Nat.le_refl _,fun k h1 h2=>by omega⟩;simp only [qsOf,List.mem_cons,List.mem_map,List.mem_filter];exact .inr ⟨n0+q,⟨sensIdx_mem.2 hs,by simp⟩,by omega⟩
  | false =>
   obtain ⟨q',h1,h2,h3⟩:=Qr4 ops n0 q;refine ⟨q',h1,by omega,fun k g1 g2=>?_⟩;by_cases e:k=n0+q
   ·subst e;exact hs
   ·exact h3 k g1 (by omega)
theorem Qh2 {ops:Array Oper} {n0 i q q':Nat} (h:Qdp ops n0 i q=true) (hle:q'≤q) (hn:∀ k,n0+q'≤k→k < n0+q→Qaq ops k=false):Qdp ops n0 i q'=true:=by
 unfold Qdp at *;rw [List.all_eq_true] at *;intro k hk;have h1:=h k hk;cases hs:Qdu ops n0 k with
 | false=>rfl
 | true =>
  rw [hs] at h1;simp only [Bool.not_true,Bool.false_or] at h1 ⊢;by_cases c1:k < n0+q'
  ·rw [if_pos c1];rw [if_pos (by omega)] at h1;exact h1
  ·rw [if_neg c1];by_cases c2:k < n0+q
   ·have:=hn k (by omega) c2;rw [Qc6 hs] at this;cases this
   ·rw [if_neg c2] at h1;exact h1
theorem Ql0 {ops:Array Oper} {n0 i q:Nat} (h:Qnt (Qca ops) n0 i q=true) {k:Nat} (hk:max i n0≤k∧k < n0+q∨n0+q≤k∧k < i):Qaq ops k=false:=by
 cases hs:Qaq ops k with
 | false=>rfl
 | true =>
  have:=List.all_eq_true.1 h k (sensIdx_mem.2 hs);simp only [Bool.not_eq_true',Bool.or_eq_false_iff,Bool.and_eq_false_iff] at this;rcases hk with ⟨h1,h2⟩ | ⟨h1,h2⟩
  ·have e1:Nat.ble (max i n0) k=true:=by simpa using h1
   have e2:Nat.blt k (n0+q)=true:=by simpa [Nat.blt_eq] using h2
   rcases this.1 with h | h
   ·rw [e1] at h;cases h
   ·rw [e2] at h;cases h
  ·have e1:Nat.ble (n0+q) k=true:=by simpa using h1
   have e2:Nat.blt k i=true:=by simpa [Nat.blt_eq] using h2
   rcases this.2 with h | h
   ·rw [e1] at h;cases h
   ·rw [e2] at h;cases h
variable (P)
def Qer (ops:Array Oper) (e:Env) (sts:List St) (p:Nat × Nat):Bool:=match ops[p.1]?,sts[p.2]? with
 | some o,some st=>(match o.dst with
  | some d=>(match e[d]? with
   | some .skip=>true
   | some pv=>Qrq (evLd P (lk e) st o) pv
   | none=>false)
  | none=>false)
 | _,_=>false
variable {P}
theorem Qfs {e e':Look} {st:St} {o:Oper} (h:∀ x∈o.op.operands.toList,evX e x=evX e' x):evLd P e st o=evLd P e' st o:=by
 unfold evLd;split
 ·rename_i T x ho;rw [ho] at h;rw [Qam (h x (by simp [Op.operands]))]
 ·rfl
theorem Qw0 {e:Look} {h h':List O} {lo lo':Nat} {o:Oper} {s:S} (hs:evLd P e ⟨h,lo⟩ o=some s) (hp:∃ L,h'=h++L):evLd P e ⟨h',lo'⟩ o=some s:=by
 obtain ⟨L,rfl⟩:=hp;unfold evLd at *;split at hs
 ·split at hs
  ·rename_i i off _;unfold Qd3 at *;split at hs
   ·cases hs
   rename_i ob hob;have hi:i < h.length:=(List.getElem?_eq_some_iff.1 hob).1;simp only [List.getElem?_append_left hi,hob];exact hs
  ·cases hs
 ·cases hs
theorem Qls {st0:St} {U:List Tl} {q:Nat} (hq:q≤U.length):(st0 :: U.map (·.st))[q]?=some (stAt st0 U q):=by
 cases q with
 | zero=>rfl
 | succ q =>
  have hlt:q < U.length:=by omega
  simp [stAt,hlt]
theorem Qik {α:Type} {l:List α} {n:Nat} {u:α} (h:u∈l.drop n):∃ q,l[n+q]?=some u:=by
 obtain ⟨q,hq⟩:=List.getElem?_of_mem h;exact ⟨q,by rwa [List.getElem?_drop] at hq⟩
section
variable {X:Xp} {ev:Qav} {ops:Array Oper} {e0:Env} {h0:List O} {T:List Tr} {U:List Tl} {lo:Nat}
theorem Qei (hdT:∀ k t,T[k]?=some t→Qb4 ops k=some t.d) (hdU:∀ q u,U[q]?=some u→Qb4 ops (T.length+q)=u.d) {i:Nat} {t:Tmp} (hno:∀ k,i≤k→Qb4 ops k≠some t) :
  (i≤T.length→(setU (Qao e0 T) U)[t]?=(Qao e0 (T.take i))[t]?)∧(T.length≤i→(setU (Qao e0 T) U)[t]?=(setU (Qao e0 T) (U.take (i - T.length)))[t]?):=by
 refine ⟨fun hi=>?_,fun hi=>?_⟩
 ·have e1:(setU (Qao e0 T) U)[t]?=(Qao e0 T)[t]?:=Qgi fun u hu e=>by
   obtain ⟨q,hq,rfl⟩:=List.mem_iff_getElem.1 hu;exact hno (T.length+q) (by omega) (by rw [hdU q U[q] (by simp),e])
  rw [e1];have:Qao e0 T=Qao (Qao e0 (T.take i)) (T.drop i):=by rw [← Qd8,List.take_append_drop]
  rw [this];exact Qha fun u hu e=>by
   obtain ⟨q,hq⟩:=Qik hu;exact hno (i+q) (by omega) (by rw [hdT (i+q) _ hq,e])
 ·have:setU (Qao e0 T) U=setU (setU (Qao e0 T) (U.take (i - T.length))) (U.drop (i - T.length)):=by rw [← Qf5,List.take_append_drop]
  rw [this];exact Qgi fun u hu e=>by
   obtain ⟨q,hq⟩:=Qik hu;exact hno (T.length+(i - T.length+q)) (by omega) (by rw [hdU (i - T.length+q) _ hq,e])
theorem Qez {i:Nat} (h1:Qf7 ops i=true) {o:Oper} (ho:ops[i]?=some o) {t:Tmp} (ht:t∈Qd9 ops o):∀ k,i≤k→Qb4 ops k≠some t:=fun k hk e=>by
 unfold Qf7 at h1;simp only [ho] at h1;have h2:=Qgl (List.all_eq_true.1 h1 t ht) (k - i);rw [List.getElem?_drop,show i+(k - i)=k by omega] at h2;exact h2 (Qm4 e)
theorem Qr3 (hst:Qb8 ops T.length=true) {i q:Nat} (hm:(i,q)∈Qcd ops T.length) {o:Oper} (ho:ops[i]?=some o) {t:Tmp} (ht:t∈Qd9 ops o):∀ k,i≤k→Qb4 ops k≠some t:=fun k hk e=>by
 simp only [Qb8,Bool.and_eq_true] at hst;exact Qez (List.all_eq_true.1 hst.1.2 (i,q) hm) ho ht k hk e
theorem Qqx (hst:Qb8 ops T.length=true) (hdT:∀ k t,T[k]?=some t→Qb4 ops k=some t.d) (hdU:∀ q u,U[q]?=some u→Qb4 ops (T.length+q)=u.d) (hsz:T.length+U.length=ops.size) {i:Nat} {t:Tr} (ht:T[i]?=some t) (hlt:t.d < e0.length) :
  (setU (Qao e0 T) U)[t.d]?=some t.pv:=by
 have hi:i < T.length:=(List.getElem?_eq_some_iff.1 ht).1;have hno:∀ k,i < k→Qb4 ops k≠some t.d:=fun k hk e=>by
  have hko:∃ o,ops[k]?=some o∧o.dst=some t.d:=by
   unfold Qb4 at e;split at e
   ·exact ⟨_,by assumption,e⟩
   ·cases e
  obtain ⟨o,h1,h2⟩:=hko;exact (Qd7 hst h1).dst _ h2 i hk (hdT i t ht)
 have e1:(setU (Qao e0 T) U)[t.d]?=(Qao e0 T)[t.d]?:=Qgi fun u hu e=>by
  obtain ⟨q,hq,rfl⟩:=List.mem_iff_getElem.1 hu;exact hno (T.length+q) (by omega) (by rw [hdU q U[q] (by simp),e])
 rw [e1];have:Qao e0 T=Qao (Qao e0 (T.take (i+1))) (T.drop (i+1)):=by rw [← Qd8,List.take_append_drop]
 rw [this,Qha fun u hu e=>by
  obtain ⟨q,hq⟩:=Qik hu;exact hno (i+1+q) (by omega) (by rw [hdT (i+1+q) _ hq,e])]
 have e2:T.take (i+1)=T.take i++[t]:=by
  rw [List.take_add_one,ht];rfl
 rw [e2,Qi2,List.getElem?_set_self (by rw [Qdt];exact hlt)]
theorem Qwv (hst:Qb8 ops T.length=true) (_hdT:∀ k t,T[k]?=some t→Qb4 ops k=some t.d) (hdU:∀ q u,U[q]?=some u→Qb4 ops (T.length+q)=u.d) {i:Nat} {u:Tl} (hu:U[i]?=some u) {d:Tmp} (hd:u.d=some d) (hlt:d < e0.length) :
  (setU (Qao e0 T) U)[d]?=some u.pv:=by
 have hi:i < U.length:=(List.getElem?_eq_some_iff.1 hu).1;have hno:∀ k,T.length+i < k→Qb4 ops k≠some d:=fun k hk e=>by
  have hko:∃ o,ops[k]?=some o∧o.dst=some d:=by
   unfold Qb4 at e;split at e
   ·exact ⟨_,by assumption,e⟩
   ·cases e
  obtain ⟨o,h1,h2⟩:=hko;exact (Qd7 hst h1).dst _ h2 _ hk (by rw [hdU i u hu,hd])
 have:setU (Qao e0 T) U=setU (setU (Qao e0 T) (U.take (i+1))) (U.drop (i+1)):=by rw [← Qf5,List.take_append_drop]
 rw [this,Qgi fun v hv e=>by
  obtain ⟨q,hq⟩:=Qik hv;exact hno (T.length+(i+1+q)) (by omega) (by rw [hdU (i+1+q) _ hq,e])]
 have e2:U.take (i+1)=U.take i++[u]:=by
  rw [List.take_add_one,hu];rfl
 rw [e2,Qnj,hd];simp only [setE];rw [List.getElem?_set_self (by rw [Qrn,Qdt];exact hlt)]
theorem Qsh (h:(Qcd ops T.length).all (Qer P ops (setU (Qao e0 T) U) (⟨hAt h0 T T.length,lo⟩ :: U.map (·.st)))=true) {i q:Nat} {o:Oper} {d:Tmp} {pv:PV} (hm:(i,q)∈Qcd ops T.length) (hq:q≤U.length) (ho:ops[i]?=some o) (hd:o.dst=some d)
  (hpv:(setU (Qao e0 T) U)[d]?=some pv) (hne:pv≠.skip):∃ s,evLd P (lk (setU (Qao e0 T) U)) (stAt ⟨hAt h0 T T.length,lo⟩ U q) o=some s∧pv=.s s:=by
 have:=List.all_eq_true.1 h (i,q) hm;unfold Qer at this;simp only [ho,Qls hq,hd,hpv] at this;obtain ⟨s,h1,h2⟩:=Qi3 this;exact ⟨s,h1,h2⟩
theorem Za1 (hst:Qb8 ops T.length=true) (hT:∀ i,i < T.length→StepP P ev ops e0 h0 T i) (hU:∀ q,q < U.length→TailP P X ev ops e0 T ⟨hAt h0 T T.length,lo⟩ U q) (hsz:T.length+U.length=ops.size) (hlt:∀ (i:Nat) (o:Oper) (d:Tmp),ops[i]?=some o→o.dst=some d→d < e0.length)
  (hf:(Qcd ops T.length).all (Qer P ops (setU (Qao e0 T) U) (⟨hAt h0 T T.length,lo⟩ :: U.map (·.st)))=true):Qzz P ops e0 T U ⟨hAt h0 T T.length,lo⟩:=by
 intro i o t ho ht hl hne q hq ha;have hdT:=Qcp hT;have hdU:=Qco hU;have hi:i < T.length:=(List.getElem?_eq_some_iff.1 ht).1;have hs:=Qd7 hst ho;obtain ⟨o',t',g1,g2,g3,g4,g5,g6,g7⟩:=hT i hi;rw [ho] at g1;cases g1;rw [ht] at g2;cases g2;have hlen:(T.take i).length=i:=by rw [List.length_take];omega
 have hdTi:∀ k u,(T.take i)[k]?=some u→Qb4 ops k=some u.d:=fun k u hu=>by
  rw [List.getElem?_take] at hu;split at hu
  ·exact hdT k u hu
  ·cases hu
 have hag:∀ q,(i,q)∈Qcd ops T.length→∀ x∈o.op.operands.toList,evX (lk (Qfw e0 (T.take i) ((clos ops).getD i 0) (Qay (clos ops) i (ops.toList.drop (i+1)) (i+1)))) x=evX (lk (setU (Qao e0 T) U)) x:=fun q hm =>
  (Qfm fun z hz=>by rw [Qlr hs (by omega) hdTi hz,(Qei hdT hdU (Qr3 hst hm ho hz)).1 (by omega)]).1
 obtain ⟨q',n1,n2,n3⟩:=Qr4 ops T.length q;have ha':=Qh2 ha n2 n3;have hsame:stAt ⟨hAt h0 T T.length,lo⟩ U q=stAt ⟨hAt h0 T T.length,lo⟩ U q':=Qb6 hU n2 hq n3;rw [hsame,g6];cases hqb:Qnt (Qca ops) T.length i q' with
 | false =>
  have hm:=Qob ho hl n1 ha' hqb;obtain ⟨s,h1,h2⟩:=Qsh hf hm (by omega) ho g3 (Qqx hst hdT hdU hsz ht (hlt i o _ ho g3)) hne;exact ⟨s,by rw [Qfs (hag _ hm)];exact h1,h2⟩
 | true =>
  rcases g7 with ⟨_,h,_⟩ | ⟨_,st,h,_⟩
  ·exact absurd h hne
  ·obtain ⟨s,h1,h2⟩:=Qpn hl h;refine ⟨s,?_,h2⟩;have hs0:stAt ⟨hAt h0 T T.length,lo⟩ U q'=⟨hAt h0 T T.length,lo⟩:=Qb6 hU (Nat.zero_le _) (by omega) fun k k1 k2=>Ql0 hqb (.inl ⟨by omega,k2⟩);rw [hs0];rw [g6] at h1;exact Qw0 h1 (Qev hT (show i≤T.length by omega) (Nat.le_refl _))
theorem Za0 (hst:Qb8 ops T.length=true) (hT:∀ i,i < T.length→StepP P ev ops e0 h0 T i) (hU:∀ q,q < U.length→TailP P X ev ops e0 T ⟨hAt h0 T T.length,lo⟩ U q) (hsz:T.length+U.length=ops.size) (hlt:∀ (i:Nat) (o:Oper) (d:Tmp),ops[i]?=some o→o.dst=some d→d < e0.length)
  (hld:∀ (i:Nat) (o:Oper),ops[i]?=some o→Qcu o.op=true→o.dst≠none)
  (hf:(Qcd ops T.length).all (Qer P ops (setU (Qao e0 T) U) (⟨hAt h0 T T.length,lo⟩ :: U.map (·.st)))=true):Qzy P ops e0 T U ⟨hAt h0 T T.length,lo⟩:=by
 intro j o u ho hu hl hne q hq ha;have hdT:=Qcp hT;have hdU:=Qco hU;have hj:j < U.length:=(List.getElem?_eq_some_iff.1 hu).1;have hs:=Qd7 hst ho;obtain ⟨o',u',g1,g2,g3,g4,g5,g6,g7,g8⟩:=hU j hj;rw [ho] at g1;cases g1;rw [hu] at g2;cases g2;have hdUi:∀ k v,(U.take j)[k]?=some v→Qb4 ops (T.length+k)=v.d:=fun k v hv=>by
  rw [List.getElem?_take] at hv;split at hv
  ·exact hdU k v hv
  ·cases hv
 have hag:∀ q,(T.length+j,q)∈Qcd ops T.length→∀ x∈o.op.operands.toList,evX (lk (envT e0 T (U.take j) ((clos ops).getD (T.length+j) 0) (Qay (clos ops) (T.length+j) (ops.toList.drop (T.length+j+1)) (T.length+j+1)))) x=evX (lk (setU (Qao e0 T) U)) x:=fun q hm =>
  (Qfm fun z hz=>by
    rw [Qiw hs (by rw [List.length_take];omega) hdT hdUi hz];have:=(Qei (e0:=e0) hdT hdU (Qr3 hst hm ho hz)).2 (by omega);rw [this,show T.length+j - T.length=j by omega]).1
 obtain ⟨q',n1,n2,n3⟩:=Qr4 ops T.length q;have ha':=Qh2 ha n2 n3;have hsame:stAt ⟨hAt h0 T T.length,lo⟩ U q=stAt ⟨hAt h0 T T.length,lo⟩ U q':=Qb6 hU n2 hq n3;rw [hsame,g6];cases hqb:Qnt (Qca ops) T.length (T.length+j) q' with
 | false =>
  cases hd:o.dst with
  | none=>exact absurd hd (hld _ o ho hl)
  | some d =>
   have hm:=Qob ho hl n1 ha' hqb;obtain ⟨s,h1,h2⟩:=Qsh hf hm (by omega) ho hd (Qwv hst hdT hdU hu (by rw [← g3,hd]) (hlt _ o d ho hd)) hne;exact ⟨s,by rw [Qfs (hag _ hm)];exact h1,h2⟩
 | true =>
  rcases g8 with ⟨_,h,_⟩ | ⟨_,h⟩
  ·exact absurd h hne
  ·obtain ⟨s,h1,h2⟩:=Qpn hl h;refine ⟨s,?_,h2⟩;rw [g6] at h1;have hst':stAt ⟨hAt h0 T T.length,lo⟩ U q'=stAt ⟨hAt h0 T T.length,lo⟩ U j:=by
    by_cases c:q'≤j
    ·exact (Qb6 hU c (by omega) fun k k1 k2=>Ql0 hqb (.inr ⟨k1,k2⟩)).symm
    ·exact Qb6 hU (by omega) (by omega) fun k k1 k2=>Ql0 hqb (.inl ⟨by omega,k2⟩)
   rw [hst'];exact h1
end
theorem Qjq {st st':St} {T:TypeId} {i off:Nat} {s:S} (h:Qbm P st T i off s=some st'):∃ o,st.h[i]?=some o∧∃ o',st'=⟨st.h.set i o',min st.lo i⟩∧∀ st2:St,st2.h[i]?=some o→Qbm P st2 T i off s=some ⟨st2.h.set i o',min st2.lo i⟩:=by
 unfold Qbm at h;split at h
 ·cases h
 rename_i o ho;split at h
 ·cases h
 rename_i hlr;split at h
 ·cases h
 rename_i n hn;split at h
 ·rename_i hc;cases h;refine ⟨o,ho,_,rfl,fun st2 h2=>?_⟩;unfold Qbm;simp only [h2,if_neg hlr,hn,if_pos hc]
 ·cases h
theorem Qs7 {st a b c:St} {T T':TypeId} {i j off off':Nat} {s s':S} (h1:Qbm P st T i off s=some a) (h2:Qbm P a T' j off' s'=some c) (h3:Qbm P st T' j off' s'=some b) (hij:i≠j):Qbm P b T i off s=some c:=by
 obtain ⟨o1,e1,n1,rfl,all1⟩:=Qjq h1;obtain ⟨o2,e2,n2,rfl,all2⟩:=Qjq h3;have:=all2 ⟨st.h.set i n1,min st.lo i⟩ (by show (st.h.set i n1)[j]?=_;rw [List.getElem?_set_ne hij];exact e2);rw [h2] at this;rw [this,all1 ⟨st.h.set j n2,min st.lo j⟩ (by show (st.h.set j n2)[i]?=_;rw [List.getElem?_set_ne (Ne.symm hij)];exact e1)];simp only [Option.some.injEq,St.mk.injEq];exact ⟨(List.set_comm n1 n2 hij).symm,by omega⟩
theorem Qkp {ev:Qav} {e:Look} {st st':St} {o:Oper} {T:TypeId} {x y:Operand} {pv:PV} (ho:o.op=.store T x y) (h:Qbd P ev e st o=some (pv,st')) :
  ∃ i off s,Qau e x=some (.ptr i off)∧evX e y=some (.s s)∧Qbm P st T i off s=some st'∧pv=.skip:=by
 rw [Qbb] at h;unfold Qcf at h;simp only [ho,evOp] at h;split at h
 ·rename_i i off s hc hs;split at h
  ·rename_i st1 h1;cases h;exact ⟨i,off,s,hc,hs,h1,rfl⟩
  ·cases h
 ·cases h
theorem Qge {ev:Qav} {e:Look} {st st':St} {o:Oper} {T:TypeId} {x y:Operand} {i off:Nat} {s:S} (ho:o.op=.store T x y) (hc:Qau e x=some (.ptr i off)) (hs:evX e y=some (.s s)) (h:Qbm P st T i off s=some st') :
  Qbd P ev e st o=some (.skip,st'):=by
 rw [Qbb];unfold Qcf;simp only [ho,evOp,hc,hs,h]
variable (P)
def Qhq (ops:Array Oper) (n0:Nat) (e:Env) (sts:List St):Option St:=match ops[(Qas ops).1]?,ops[(Qas ops).2]?,sts[(Qas ops).1 - n0]? with
 | some a,some b,some st=>(match a.op,b.op with
  | .store _ x _,.store T' x' y'=>(match Qau (lk e) x,Qau (lk e) x',evX (lk e) y' with
   | some (.ptr i _),some (.ptr j off),some (.s s)=>if i=j then none else Qbm P st T' j off s
   | _,_,_=>none)
  | _,_=>none)
 | _,_,_=>none
def Qkl (ops:Array Oper) (n0:Nat) (e:Env) (sts:List St):Bool:=if Nat.blt (Qas ops).1 (Qas ops).2 then (match Qhq P ops n0 e sts with
  | some st=>(Qg7 ops (Qas ops)).all fun i=>Qer P ops e [st] (i,0)
  | none=>false) else true
variable {P}
theorem Qin {p:Nat × Nat} {i:Nat} {o:Oper} {ops:Array Oper} (ho:ops[i]?=some o) (hl:Qcu o.op=true) (b1:((clos ops).getD p.2 0).testBit i=false) (b2:((clos ops).getD i 0).testBit p.1=false):i∈Qg7 ops p:=by
 unfold Qg7;refine List.mem_filter.2 ⟨?_,by rw [b1,b2];rfl⟩;unfold Qmi;refine List.mem_filter.2 ⟨List.mem_range.2 (Array.getElem?_eq_some_iff.1 ho).1,?_⟩;simp only [ho,hl]
theorem Qox {ops:Array Oper} {e:Env} {st:St} {i:Nat} {o:Oper} {d:Tmp} {pv:PV} (h:Qer P ops e [st] (i,0)=true) (ho:ops[i]?=some o) (hd:o.dst=some d) (hpv:e[d]?=some pv) (hne:pv≠.skip):∃ s,evLd P (lk e) st o=some s∧pv=.s s:=by
 unfold Qer at h;simp only [ho,List.getElem?_cons_zero,hd,hpv] at h;obtain ⟨s,h1,h2⟩:=Qi3 h;exact ⟨s,h1,h2⟩
theorem Qgt {o:Oper} (h:Qfr o=true):(∃ T x y,o.op=.store T x y)∧o.dst=none∧o.guard=none:=by
 unfold Qfr at h;split at h
 ·rename_i T x y ho;simp only [Bool.and_eq_true,Option.isNone_iff_eq_none] at h;exact ⟨⟨T,x,y,ho⟩,h.1,h.2⟩
 ·cases h
theorem Qhr {ops:Array Oper} {k:Nat} (h:storeAt ops k=true):∃ o,ops[k]?=some o∧Qfr o=true:=by
 unfold storeAt at h;split at h
 ·rename_i o ho;exact ⟨o,ho,h⟩
 ·cases h
section
variable {X:Xp} {ev:Qav} {ops:Array Oper} {e0:Env} {h0:List O} {T:List Tr} {U:List Tl} {lo:Nat}
theorem x_ok (hst:Qb8 ops T.length=true) (hXA:X.A=(Qas ops).1) (hXB:X.B=(Qas ops).2) (hab:X.A < X.B) (hT:∀ i,i < T.length→StepP P ev ops e0 h0 T i) (hU:∀ q,q < U.length→TailP P X ev ops e0 T ⟨hAt h0 T T.length,lo⟩ U q) (hsz:T.length+U.length=ops.size)
  (hlt:∀ (i:Nat) (o:Oper) (d:Tmp),ops[i]?=some o→o.dst=some d→d < e0.length) (hld:∀ (i:Nat) (o:Oper),ops[i]?=some o→Qcu o.op=true→o.dst≠none)
  (hxs:Qhq P ops T.length (setU (Qao e0 T) U) (⟨hAt h0 T T.length,lo⟩ :: U.map (·.st))=some X.st) (hf:(Qg7 ops (Qas ops)).all (fun i=>Qer P ops (setU (Qao e0 T) U) [X.st] (i,0))=true) :
  XOk P X ev ops e0 T U ⟨hAt h0 T T.length,lo⟩:=by
 have hdT:=Qcp hT;have hdU:=Qco hU;have hps:Ql2 ops T.length=true:=by
  simp only [Qb8,Bool.and_eq_true] at hst;exact hst.2
 unfold Ql2 at hps;rw [if_pos (by rw [Nat.blt_eq,← hXA,← hXB];exact hab),← hXA,← hXB] at hps;simp only [Bool.and_eq_true,Nat.ble_eq,Nat.blt_eq] at hps;obtain ⟨⟨⟨⟨⟨⟨⟨p1,p2⟩,p3⟩,p4⟩,p5⟩,p6⟩,p7⟩,p8⟩:=hps;obtain ⟨oA,hoA,hsA⟩:=Qhr p3;obtain ⟨oB,hoB,hsB⟩:=Qhr p4;obtain ⟨⟨TA,xA,yA,hopA⟩,hdA,hgA⟩:=Qgt hsA;obtain ⟨⟨TB,xB,yB,hopB⟩,hdB,hgB⟩:=Qgt hsB;have hlast:∀ k,Qaq ops k=true→k≠X.A→k≠X.B→k < X.A:=fun k hk k1 k2=>by
  have:=List.all_eq_true.1 p8 k (sensIdx_mem.2 hk);simp only [Bool.or_eq_true,Nat.beq_eq,Nat.blt_eq] at this;omega
 have reads:∀ {k:Nat} {o:Oper},T.length≤k→ops[k]?=some o→Qf7 ops k=true→∀ x∈o.op.operands.toList,evX (lk (envT e0 T (U.take (k - T.length)) ((clos ops).getD k 0) (Qay (clos ops) k (ops.toList.drop (k+1)) (k+1)))) x=evX (lk (setU (Qao e0 T) U)) x:=fun {k o} hk ho hnl=>by
  have hs:=Qd7 hst ho;have hdUi:∀ q v,(U.take (k - T.length))[q]?=some v→Qb4 ops (T.length+q)=v.d:=fun q v hv=>by
   rw [List.getElem?_take] at hv;split at hv
   ·exact hdU q v hv
   ·cases hv
  exact (Qfm fun z hz=>by
   rw [Qiw hs (by rw [List.length_take];omega) hdT hdUi hz];exact ((Qei (e0:=e0) hdT hdU (Qez hnl ho hz)).2 hk).symm).1
 have run:∀ {k:Nat} {o:Oper},T.length≤k→k < T.length+U.length→ops[k]?=some o→o.guard=none→∃ u,U[k - T.length]?=some u∧u.s=(clos ops).getD k 0∧Qaz ops (envT e0 T (U.take (k - T.length)) u.s (Qay (clos ops) k (ops.toList.drop (k+1)) (k+1))) o=some true ∧
   Qbd P ev (envT e0 T (U.take (k - T.length)) u.s (Qay (clos ops) k (ops.toList.drop (k+1)) (k+1))) (stAt ⟨hAt h0 T T.length,lo⟩ U (k - T.length)) o=some (u.pv,u.st):=fun {k o} hk hk2 ho hg=>by
  obtain ⟨o',u,g1,g2,g3,g4,g5,g6,g7,g8⟩:=hU (k - T.length) (by omega);have ek:T.length+(k - T.length)=k:=by omega
  rw [ek] at g1 g6 g8;rw [ho] at g1;cases g1;rcases g8 with ⟨h,_⟩ | ⟨h1,h2⟩
  ·simp [Qaz,hg] at h
  ·exact ⟨u,g2,g6,h1,h2⟩
 obtain ⟨uA,huA,hsuA,hwA,hrA⟩:=run p1 (by omega) hoA hgA;obtain ⟨uB,huB,hsuB,hwB,hrB⟩:=run (by omega) (by omega) hoB hgB;have rA:=reads p1 hoA p5;have rB:=reads (show T.length≤X.B by omega) hoB p6;rw [← hsuA] at rA;rw [← hsuB] at rB;obtain ⟨iA,offA,sA,cA,vA,stA,pvA⟩:=Qkp hopA hrA;obtain ⟨iB,offB,sB,cB,vB,stB,pvB⟩:=Qkp hopB hrB;have memA:xA∈oA.op.operands.toList∧yA∈oA.op.operands.toList:=by rw [hopA];simp [Op.operands]
 have memB:xB∈oB.op.operands.toList∧yB∈oB.op.operands.toList:=by rw [hopB];simp [Op.operands]
 have cA':Qau (lk (setU (Qao e0 T) U)) xA=some (.ptr iA offA):=by rw [← Qam (rA xA memA.1)];exact cA
 have cB':Qau (lk (setU (Qao e0 T) U)) xB=some (.ptr iB offB):=by rw [← Qam (rB xB memB.1)];exact cB
 have vB':evX (lk (setU (Qao e0 T) U)) yB=some (.s sB):=by rw [← rB yB memB.2];exact vB
 have hstN:(⟨hAt h0 T T.length,lo⟩ :: U.map (·.st))[X.A - T.length]?=some (stAt ⟨hAt h0 T T.length,lo⟩ U (X.A - T.length)):=Qls (by omega);unfold Qhq at hxs;rw [← hXA,← hXB] at hxs;simp only [hoA,hoB,hstN,hopA,hopB,cA',cB',vB'] at hxs;split at hxs
 ·cases hxs
 rename_i hij;have eA:stAt ⟨hAt h0 T T.length,lo⟩ U (X.A - T.length+1)=uA.st:=by simp [stAt,huA]
 have eB:stAt ⟨hAt h0 T T.length,lo⟩ U (X.B - T.length+1)=uB.st:=by simp [stAt,huB]
 have nosens:∀ k,X.A < k→k≠X.B→Qaq ops k=false:=fun k k1 k2=>by
  cases hs:Qaq ops k with
  | false=>rfl
  | true=>have:=hlast k hs (by omega) k2;omega
 have e1:stAt ⟨hAt h0 T T.length,lo⟩ U (X.B - T.length)=uA.st:=by
  rw [← eA];exact Qb6 hU (by omega) (by omega) fun k k1 k2=>nosens k (by omega) (by omega)
 have e2:stAt ⟨hAt h0 T T.length,lo⟩ U U.length=uB.st:=by
  rw [← eB];exact Qb6 hU (by omega) (Nat.le_refl _) fun k k1 k2=>nosens k (by omega) (by omega)
 rw [e1] at stB;refine ⟨hlast,⟨p1,by omega⟩,fun o u ho hu=>?_,fun o u ho hu=>?_,fun i o t ho ht hl hne b1 b2=>?_,fun j o u ho hu hl hne b1 b2=>?_⟩
 ·rw [hoB] at ho;cases ho;rw [huB] at hu;cases hu;exact ⟨hwB,by rw [pvB];exact Qge hopB cB vB hxs⟩
 ·rw [hoA] at ho;cases ho;rw [huA] at hu;cases hu;refine ⟨hwA,?_⟩;rw [pvA,e2];exact Qge hopA cA vA (Qs7 stA stB hxs hij)
 ·have hs:=Qd7 hst ho;have hi:i < T.length:=(List.getElem?_eq_some_iff.1 ht).1;obtain ⟨o',t',g1,g2,g3,g4,g5,g6,g7⟩:=hT i hi;rw [ho] at g1;cases g1;rw [ht] at g2;cases g2;have hlen:(T.take i).length=i:=by rw [List.length_take];omega
  have hdTi:∀ k u,(T.take i)[k]?=some u→Qb4 ops k=some u.d:=fun k u hu=>by
   rw [List.getElem?_take] at hu;split at hu
   ·exact hdT k u hu
   ·cases hu
  rw [hXB] at b1;rw [hXA] at b2;have hm:=Qin (p:=Qas ops) ho hl b1 b2;have hnl:=List.all_eq_true.1 p7 i hm;have hag:∀ x∈o.op.operands.toList,evX (lk (Qfw e0 (T.take i) ((clos ops).getD i 0) (Qay (clos ops) i (ops.toList.drop (i+1)) (i+1)))) x=evX (lk (setU (Qao e0 T) U)) x :=
   (Qfm fun z hz=>by rw [Qlr hs (by omega) hdTi hz,(Qei hdT hdU (Qez hnl ho hz)).1 (by omega)]).1
  obtain ⟨s,h1,h2⟩:=Qox (List.all_eq_true.1 hf i hm) ho g3 (Qqx hst hdT hdU hsz ht (hlt i o _ ho g3)) hne;rw [g6];exact ⟨s,by rw [Qfs hag];exact h1,h2⟩
 ·have hs:=Qd7 hst ho;have hj:j < U.length:=(List.getElem?_eq_some_iff.1 hu).1;obtain ⟨o',u',g1,g2,g3,g4,g5,g6,g7,g8⟩:=hU j hj;rw [ho] at g1;cases g1;rw [hu] at g2;cases g2;rw [hXB] at b1;rw [hXA] at b2;have hm:=Qin (p:=Qas ops) ho hl b1 b2;have hnl:=List.all_eq_true.1 p7 (T.length+j) hm;have hag:=reads (show T.length≤T.length+j by omega) ho hnl;rw [show T.length+j - T.length=j by omega] at hag;cases hd:o.dst with
  | none=>exact absurd hd (hld _ o ho hl)
  | some d =>
   obtain ⟨s,h1,h2⟩:=Qox (List.all_eq_true.1 hf _ hm) ho hd (Qwv hst hdT hdU hu (by rw [← g3,hd]) (hlt _ o d ho hd)) hne;rw [g6];exact ⟨s,by rw [Qfs hag];exact h1,h2⟩
end
def eqO (a b:O):Bool:=eqCs a.cells b.cells && Nat.beq a.ty b.ty && (a.rw == b.rw) && (a.live == b.live) && (a.full == b.full)
theorem Qy0 {a b:O} (h:eqO a b=true):a=b:=by
 simp only [eqO,Bool.and_eq_true,Nat.beq_eq,beq_iff_eq] at h;obtain ⟨⟨⟨⟨h1,h2⟩,h3⟩,h4⟩,h5⟩:=h;cases a;cases b;simp only at h1 h2 h3 h4 h5;rw [Qjy h1,h2,h3,h4,h5]
def Zbt (ops:Array Oper) (n0 i q:Nat):Bool:=(Qca ops).all fun k=>!(Nat.ble n0 k && Nat.blt k (n0+q)) || !((clos ops).getD k 0).testBit i
def Qqo (ops:Array Oper) (n0:Nat):List (Nat × Nat):=((List.range n0).filter (Qfu ops n0)).flatMap fun i=>((qsOf (Qca ops) n0).filter fun q=>!Nat.beq q 0 && Zbt ops n0 i q).map fun q=>(i,q)
def Qsa (ops:Array Oper) (e:Env) (h1:List O) (i:Nat) (st:St):Bool:=match Qb4 ops i with
 | some d=>(match e[d]? with
  | some pv=>(match idPV pv with
   | some id=>(match st.h[id]?,h1[id]? with
    | some a,some b=>eqO a b
    | _,_=>false)
   | none=>false)
  | none=>false)
 | none=>false
def Qwc (ops:Array Oper) (e:Env) (h1:List O) (sts:List St) (p:Nat × Nat):Bool:=match sts[p.2]? with
 | some st=>Qsa ops e h1 p.1 st
 | none=>false
def Zcj (ops:Array Oper) (n0 B:Nat):List Nat:=((List.range n0).filter (Qfu ops n0)).filter fun i=>!((clos ops).getD B 0).testBit i
section
variable {X:Xp} {ev:Qav} {ops:Array Oper} {e0:Env} {h0:List O} {T:List Tr} {U:List Tl} {lo:Nat}
theorem Qji (hst:Qb8 ops T.length=true) (hT:∀ i,i < T.length→StepP P ev ops e0 h0 T i) (hU:∀ q,q < U.length→TailP P X ev ops e0 T ⟨hAt h0 T T.length,lo⟩ U q) (hsz:T.length+U.length=ops.size)
  (hlt:∀ (i:Nat) (o:Oper) (d:Tmp),ops[i]?=some o→o.dst=some d→d < e0.length) {i:Nat} (hl:Qfu ops T.length i=true) {st:St} (h:Qsa ops (setU (Qao e0 T) U) (hAt h0 T T.length) i st=true) :
  st.h[(hAt h0 T i).length]?=(hAt h0 T (i+1))[(hAt h0 T i).length]?:=by
 simp only [Qfu,Bool.and_eq_true,Nat.blt_eq] at hl;obtain ⟨hiT,hm⟩:=hl;obtain ⟨o,t,g1,g2,g3,g4,g5,g6,g7⟩:=hT i hiT;rw [g1] at hm;have hm:isMk o=true:=hm;have hd:Qb4 ops i=some t.d:=by unfold Qb4;rw [g1];exact g3
 unfold Qsa at h;rw [hd] at h;simp only at h;rw [Qqx hst (Qcp hT) (Qco hU) hsz g2 (hlt i o t.d g1 g3)] at h;simp only at h;rcases g7 with ⟨hw,_,_⟩ | ⟨hw,st1,hs1,hlo,hh⟩
 ·simp [Qaz,Qhl hm] at hw
 ·obtain ⟨cs,ty,fl,f,hid,hpv,hst',_⟩:=Qp8 hm hs1;have hid:idPV t.pv=some (hAt h0 T i).length:=hid;rw [hid] at h;simp only at h;have hth:hAt h0 T (i+1)=hAt h0 T i++[⟨cs,ty,true,true,fl⟩]:=by
   have e1:hAt h0 T (i+1)=t.h:=by simp [hAt,g2]
   rw [e1,hh,hst'];simp
  obtain ⟨L,hL⟩:=Qev hT (show i+1≤T.length by omega) (Nat.le_refl _);have e2:(hAt h0 T T.length)[(hAt h0 T i).length]?=(hAt h0 T (i+1))[(hAt h0 T i).length]?:=by
   rw [hL,List.getElem?_append_left (by rw [hth];simp)]
  rw [← e2];split at h
  ·rename_i a b ha hb;rw [ha,hb,Qy0 h]
  ·cases h
theorem Qym (hst:Qb8 ops T.length=true) (hT:∀ i,i < T.length→StepP P ev ops e0 h0 T i) (hU:∀ q,q < U.length→TailP P X ev ops e0 T ⟨hAt h0 T T.length,lo⟩ U q) (hsz:T.length+U.length=ops.size)
  (hlt:∀ (i:Nat) (o:Oper) (d:Tmp),ops[i]?=some o→o.dst=some d→d < e0.length)
  (h:(Qqo ops T.length).all (Qwc ops (setU (Qao e0 T) U) (hAt h0 T T.length) (⟨hAt h0 T T.length,lo⟩ :: U.map (·.st)))=true) :
  ∀ i,Qfu ops T.length i=true→∀ q,q≤U.length→(∀ k,T.length≤k→k < T.length+q→Qaq ops k=true→((clos ops).getD k 0).testBit i=false)→(stAt ⟨hAt h0 T T.length,lo⟩ U q).h[(hAt h0 T i).length]?=(hAt h0 T (i+1))[(hAt h0 T i).length]?:=fun i hl q hq hk=>by
 obtain ⟨q',h1,h2,h3⟩:=Qr4 ops T.length q;rw [Qb6 hU h2 hq h3];have hiT:i < T.length:=by simp only [Qfu,Bool.and_eq_true,Nat.blt_eq] at hl;exact hl.1
 by_cases e:q'=0
 ·subst e;show (hAt h0 T T.length)[(hAt h0 T i).length]?=_;obtain ⟨L,hL⟩:=Qev hT (show i+1≤T.length by omega) (Nat.le_refl _);obtain ⟨o,t,g1,g2,g3,g4,g5,g6,g7⟩:=hT i hiT;have hm:isMk o=true:=by simp only [Qfu,Bool.and_eq_true,g1] at hl;exact hl.2
  rcases g7 with ⟨hw,_,_⟩ | ⟨hw,st1,hs1,hlo,hh⟩
  ·simp [Qaz,Qhl hm] at hw
  ·obtain ⟨cs,ty,fl,f,hid,hpv,hst',_⟩:=Qp8 hm hs1;have hth:hAt h0 T (i+1)=hAt h0 T i++[⟨cs,ty,true,true,fl⟩]:=by
    have e1:hAt h0 T (i+1)=t.h:=by simp [hAt,g2]
    rw [e1,hh,hst'];simp
   rw [hL,List.getElem?_append_left (by rw [hth];simp)]
 ·have hmem:(i,q')∈Qqo ops T.length:=by
   unfold Qqo;refine List.mem_flatMap.2 ⟨i,List.mem_filter.2 ⟨List.mem_range.2 hiT,hl⟩,List.mem_map.2 ⟨q',List.mem_filter.2 ⟨h1,?_⟩,rfl⟩⟩;simp only [Bool.and_eq_true,Bool.not_eq_true'];refine ⟨by cases hq:Nat.beq q' 0 with | false=>rfl | true=>exact absurd (Nat.eq_of_beq_eq_true hq) e,List.all_eq_true.2 fun k hks=>?_⟩;cases hb:(Nat.ble T.length k && Nat.blt k (T.length+q')) with
   | false=>rfl
   | true =>
    simp only [Bool.and_eq_true,Nat.ble_eq,Nat.blt_eq] at hb;rw [hk k hb.1 (by omega) (sensIdx_mem.1 hks)];rfl
  have h9:=List.all_eq_true.1 h _ hmem;unfold Qwc at h9;rw [Qls (by omega)] at h9;exact Qji hst hT hU hsz hlt hl h9
theorem Qlt (hk:Qa9 ev) (hU:∀ q,q < U.length→TailP P X ev ops e0 T ⟨hAt h0 T T.length,lo⟩ U q):∀ q,q≤U.length→(hAt h0 T T.length).length≤(stAt ⟨hAt h0 T T.length,lo⟩ U q).h.length
 | 0,_=>Nat.le_refl _
 | q+1,hq=>by
  have ih:=Qlt hk hU q (by omega);obtain ⟨o,u,h1,h2,_,_,_,_,_,h8⟩:=hU q (by omega);have e:stAt ⟨hAt h0 T T.length,lo⟩ U (q+1)=u.st:=by simp [stAt,h2]
  rw [e];rcases h8 with ⟨_,_,h⟩ | ⟨_,h⟩
  ·rw [h];exact ih
  ·exact Nat.le_trans ih (Qds hk h).len
theorem Qz3 (hk:Qa9 ev) (hU:∀ q,q < U.length→TailP P X ev ops e0 T ⟨hAt h0 T T.length,lo⟩ U q) (hx:XOk P X ev ops e0 T U ⟨hAt h0 T T.length,lo⟩) (hab:X.A < X.B):(hAt h0 T T.length).length≤X.st.h.length:=by
 have hin:=hx.inU;obtain ⟨o,u,h1,h2,_⟩:=hU (X.B - T.length) (by omega);rw [show T.length+(X.B - T.length)=X.B by omega] at h1;exact Nat.le_trans (Qlt hk hU (X.A - T.length) (by omega)) (Qds hk (hx.stepB o u h1 h2).2).len
end
variable (P)
def Qoo (ops:Array Oper) (n0:Nat) (e:Env) (h1:List O) (sts:List St):Bool:=if Nat.blt (Qas ops).1 (Qas ops).2 then (match Qhq P ops n0 e sts with
  | some st=>(Zcj ops n0 (Qas ops).2).all fun i=>Qsa ops e h1 i st
  | none=>false)
 else true
variable {P}
def cutL (ops:Array Oper):Nat→List Oper→List Nat→Nat→Nat
 | i,o :: r,s :: S,n=>cutL ops (i+1) r S (if Qc0 o.op || Qs8 0 (bitX (Qas ops) i s) 0 (ops.toList.take i) then n else i+1)
 | _,_,_,n=>n
def Zbj (ops:Array Oper):Nat:=cutL ops 0 ops.toList (clos ops) 0
def Qyl (o:Oper):Bool:=!Qcu o.op || o.dst.isSome
def Qy2 (n:Nat) (o:Oper):Bool:=match o.dst with
 | none=>true
 | some d=>Nat.blt d n
variable (P)
def Qmz (ev:Qav) (ops:Array Oper) (n0:Nat) (e:Env) (st:St):Option (Env × St) :=
 if Qb8 ops n0 && ops.toList.all Qyl && ops.toList.all (Qy2 e.length) then match evT P ev ops (ops.toList.take n0) e st.h with
  | none=>none
  | some (e1,h1)=>match evU P ev ops (ops.toList.drop n0) e1 ⟨h1,st.lo⟩ with
   | none=>none
   | some (e2,sts)=>if (Qcd ops n0).all (Qer P ops e2 (⟨h1,st.lo⟩ :: sts)) && Qkl P ops n0 e2 (⟨h1,st.lo⟩ :: sts) && (Qqo ops n0).all (Qwc ops e2 h1 (⟨h1,st.lo⟩ :: sts)) && Qoo P ops n0 e2 h1 (⟨h1,st.lo⟩ :: sts) then some (e2,(sts.getLast?).getD ⟨h1,st.lo⟩) else none
 else none
def Qz4 (o:Oper):Bool:=match o.op with
 | .call c=>(match c.callee with
  | .builtin .append=>true
  | .builtin _=>false
  | _=>true)
 | .store _ _ _=>true
 | _=>false
def Qga (ops:Array Oper):List Nat:=(List.range ops.size).filter fun k=>(List.range ops.size).any fun i=>(match ops[i]? with | some o=>isMk o | none=>false) && (Nat.beq k i || ((clos ops).getD i 0).testBit k)
def Qvy (ops:Array Oper):Option (List Nat × Nat) :=
 if (ops.toList.take (Zbj ops)).any Qz4 && (Qga ops).all (fun k=>match ops[k]? with | some o=>Qc0 o.op || isMk o | none=>false) && Qb8 (Qbw (Qga ops++(List.range ops.size).filter (fun k=>!(Qga ops).contains k)) ops) (Qga ops).length then
  some (Qga ops++(List.range ops.size).filter (fun k=>!(Qga ops).contains k),(Qga ops).length)
 else none
def Qej (ev:Qav) (ops:Array Oper) (draw:Bool) (e:Env) (st:St):Option (Env × St) :=
 if draw then (match Qvy ops with
  | none=>Qmz P ev ops (Zbj ops) e st
  | some (σ,n0)=>if Qrx σ ops.size then Qmz P ev (Qbw σ ops) n0 e st else none)
 else Qjr P ev ops ops.toList e st
variable {P}
theorem Qwd {st0:St}:∀ {U:List Tl},((U.map (·.st)).getLast?).getD st0=stAt st0 U U.length:=by
 intro U;rcases List.eq_nil_or_concat U with rfl | ⟨V,u,rfl⟩
 ·rfl
 ·simp [stAt]
theorem Qzk (hN:Qcx P) {ev:Qav} (hev:Qfj P ev) (hk:Qa9 ev) {ops:Array Oper} {n0:Nat} {Q:Exit→Act→World→Prop} {m:M} {st st':St} {w:World} {a:Act} {e e':Env} (hs:SR m st.h w) (he:ER m e a)
  (h:Qmz P ev ops n0 e st=some (e',st')) (hQ:∀ a' w' m',ER m' e' a'→Res m st w m' st' w'→Q .normal a' w'):wpAny P .any ops Q ops.size (Array.replicate ops.size false) a w.drew:=by
 unfold Qmz at h;split at h
 ·rename_i hh;simp only [Bool.and_eq_true] at hh;obtain ⟨⟨hst,hld⟩,hdl⟩:=hh;have hcut:n0≤ops.size:=by simp only [Qb8,Bool.and_eq_true,Nat.ble_eq] at hst;exact hst.1.1.1
  split at h
  ·cases h
  rename_i e1 h1 hrT;obtain ⟨T,a1,a2,a3,a4⟩:=Qsm (e0:=e) (h0:=st.h) hst hk (T:=[]) (fun j o hj=>by
   rw [List.getElem?_take] at hj;split at hj
   ·simpa using hj
   ·cases hj) (fun i hi=>by simp at hi) hrT
  have hTl:T.length=n0:=by rw [a1];simp;omega
  subst a3;subst a4;split at h
  ·cases h
  rename_i e2 sts hrU;rw [← hTl] at hrU hst h;have hdT:=Qcp a2;obtain ⟨xst,hxst⟩:∃ x:St,∀ st',Qhq P ops T.length e2 (⟨hAt st.h T T.length,st.lo⟩ :: sts)=some st'→x=st':=by
   cases hx:Qhq P ops T.length e2 (⟨hAt st.h T T.length,st.lo⟩ :: sts) with
   | none=>exact ⟨⟨[],0⟩,fun _ h=>by cases h⟩
   | some x=>exact ⟨x,fun _ h=>by cases h;rfl⟩
  obtain ⟨U,b1,b2,b3,b4⟩:=Qsl (X:=⟨(Qas ops).1,(Qas ops).2,xst⟩) ⟨rfl,rfl⟩ hst hdT (U:=[]) (fun j o hj=>by
   rw [List.getElem?_drop] at hj;simpa using hj) (fun q hq=>by simp at hq) hrU
  subst b1;rw [List.nil_append] at b3 b4;subst b4;have hsz:T.length+U.length=ops.size:=by rw [b2];simp;omega
  have hlt:∀ (i:Nat) (o:Oper) (d:Tmp),ops[i]?=some o→o.dst=some d→d < e.length:=fun i o d ho hd=>by
   have hmem:o∈ops.toList:=by have:=Array.mem_of_getElem? ho;simpa using this
   have:=List.all_eq_true.1 hdl o hmem;simpa [Qy2,hd,Nat.blt_eq] using this
  have hldd:∀ (i:Nat) (o:Oper),ops[i]?=some o→Qcu o.op=true→o.dst≠none:=fun i o ho hl e=>by
   have hmem:o∈ops.toList:=by have:=Array.mem_of_getElem? ho;simpa using this
   have:=List.all_eq_true.1 hld o hmem;simp [Qyl,hl,e] at this
  split at h
  ·rename_i hf;simp only [Bool.and_eq_true] at hf;obtain ⟨⟨⟨hf,hxc⟩,hlt1⟩,hlx⟩:=hf;have hel:e.length=a.tmps.size:=by have:=he.slots.1;simpa using this
   have hlT:=Za1 (P:=P) (ev:=ev) (lo:=st.lo) hst a2 b3 hsz hlt hf;have hlU:=Za0 (P:=P) (ev:=ev) (lo:=st.lo) hst a2 b3 hsz hlt hldd hf;have hdU:=Qco b3;have hXk:(Qas ops).1 < (Qas ops).2→Qaq ops (Qas ops).1=true→Qaq ops (Qas ops).2=true→XOk P ⟨(Qas ops).1,(Qas ops).2,xst⟩ ev ops e T U ⟨hAt st.h T T.length,st.lo⟩:=fun hab _ _=>by
    unfold Qkl at hxc;rw [if_pos (by rw [Nat.blt_eq];exact hab)] at hxc;split at hxc
    ·rename_i st1 hx1;have:=hxst _ hx1;subst this;exact x_ok hst rfl rfl hab a2 b3 hsz hlt hldd hx1 hxc
    ·cases hxc
   have hLX:(Qas ops).1 < (Qas ops).2→Qaq ops (Qas ops).1=true→Qaq ops (Qas ops).2=true→∀ i,Qfu ops T.length i=true→((clos ops).getD (Qas ops).2 0).testBit i=false→xst.h[(hAt st.h T i).length]?=(hAt st.h T (i+1))[(hAt st.h T i).length]?:=fun hab _ _ i hl hb=>by
    unfold Qoo at hlx;rw [if_pos (by rw [Nat.blt_eq];exact hab)] at hlx;split at hlx
    ·rename_i st1 hx1;have:=hxst _ hx1;subst this;refine Qji hst a2 b3 hsz hlt hl (List.all_eq_true.1 hlx i ?_);unfold Zcj;refine List.mem_filter.2 ⟨List.mem_filter.2 ⟨List.mem_range.2 ?_,hl⟩,by rw [hb];rfl⟩;simp only [Qfu,Bool.and_eq_true,Nat.blt_eq] at hl;exact hl.1
    ·cases hlx
   have hend:envT e T U (2 ^ ops.size - 1) []=setU (Qao e T) U:=by
    refine List.ext_getElem? fun d=>?_;show (Qog (Qmf e T (2 ^ ops.size - 1) 0) U (2 ^ ops.size - 1) T.length)[d]?=_;refine Qv1 (by rw [Qdz,Qdt]) (Qr6 rfl rfl fun k t hk _=>?_) fun k t hk _=>?_
    ·have:=(List.getElem?_eq_some_iff.1 hk).1;exact Qir (by omega)
    ·have:=(List.getElem?_eq_some_iff.1 hk).1;exact Qir (by omega)
   rw [Qwd] at h;obtain ⟨rfl,rfl⟩:=Prod.mk.inj (Option.some.inj h);refine (any2 hN hev (lo:=st.lo) a2 b3 hsz hlT hlU hXk (Qlt hk b3) (fun c1 c2 c3=>Qz3 hk b3 (hXk c1 c2 c3) c1) (Qym hst a2 b3 hsz hlt hlt1) hLX hs he (fun k o d hk hod=>?_) (fun a' w' m' h1 h2=>hQ a' w' m' (by rw [← hend];exact h1) h2) ops.size (Array.replicate ops.size false) a w.drew m (by simp) (by simp [Flow.left,List.countP_replicate]) ?_ (fun q hqs hq=>?_))
   ·rw [← hel];exact hlt k o d hk hod
   ·have hst:=Inv.start (ops:=ops) a2 hs he;have e1:(fun k=>(Array.replicate ops.size false).getD k false)=fun _=>false:=by
     funext k;rcases Nat.lt_or_ge k ops.size with h | h <;> simp [h]
    rw [e1];exact ⟨hst.defers,hst.size,hst.off,fun _ _ h=>h,(fun k t h=>by cases h),(fun q u d h=>by cases h),hst.unm a2,.inl ⟨hst,(fun k _ h=>by cases h)⟩⟩
   ·simp [hqs] at hq
  ·cases h
 ·cases h
theorem Qu5 (hN:Qcx P) (hM:P.follows .mixedOrders=true) {ev:Qav} (hev:Qfj P ev) (hk:Qa9 ev) {id:Nat} {ops:Array Oper} {draw:Bool} {Q:Exit→Act→World→Prop} {m:M} {st st':St} {w:World} {a:Act} {e e':Env} (hs:SR m st.h w) (he:ER m e a)
  (h:Qej P ev ops draw e st=some (e',st')) (hQ:∀ a' w' m',ER m' e' a'→Res m st w m' st' w'→Q .normal a' w'):(Code.region id ops draw).wp P Q a w:=by
 unfold Qej at h;cases draw with
 | false =>
  simp only [Bool.false_eq_true,if_false] at h;exact wp_region_list (Quv hN hev hs he h hQ)
 | true =>
  simp only [if_true] at h;refine wp_region_any hM ?_;split at h
  ·exact Qzk hN hev hk hs he h hQ
  ·rename_i σ n0 _;split at h
   ·rename_i hp;have hp:=Zao hp;have hr:=Qzk hN hev hk hs he h hQ;rw [Qi5 hp] at hr;exact Qrw hp _ _ _ _ _ (Quz hp) hr
   ·cases h
end Ev
end Go.Proofs.YtcpodmjcgfgmnaaGreat
namespace Go.Proofs.YtcpodmjcgfgmnaaGreat
open Go.RowKit
namespace Ev
variable {P:Program}
inductive X where
 | norm
 | exit (id:Nat)
 | ret
def X.to:X→Exit
 | .norm=>.normal
 | .exit id=>.exit id
 | .ret=>.ret
abbrev Out:=X × Env × St
def iter (f:Env→St→Option Out):Nat→Env→St→Option Out
 | 0,_,_=>none
 | n+1,e,st=>match f e st with
  | some (.norm,e',st')=>iter f n e' st'
  | r=>r
variable (P)
def Qa6 (ev:Qav) (N:Nat):Code→Env→St→Option Out
 | .skip,e,st=>some (.norm,e,st)
 | .region _ ops draw,e,st=>match Qej P ev ops draw e st with | some (e',st')=>some (.norm,e',st') | none=>none
 | .seq x y,e,st=>match Qa6 ev N x e st with
  | some (.norm,e',st')=>Qa6 ev N y e' st'
  | r=>r
 | .cond c x y,e,st=>match Qau (lk e) c with
  | some (.flat (.bool true))=>Qa6 ev N x e st
  | some (.flat (.bool false))=>Qa6 ev N y e st
  | _=>none
 | .block id c,e,st=>match Qa6 ev N c e st with
  | some (.exit id',e',st')=>if id'=id then some (.norm,e',st') else some (.exit id',e',st')
  | r=>r
 | .loop c,e,st=>iter (Qa6 ev N c) N e st
 | .exit id,e,st=>some (.exit id,e,st)
 | .scope c,e,st=>Qa6 ev N c e st
 | .label _,e,st=>some (.norm,e,st)
 | .ret,e,st=>some (.ret,e,st)
 | _,_,_=>none
variable {P}
def Post (m:M) (st:St) (w:World) (x:X) (e':Env) (st':St) (ex:Exit) (a':Act) (w':World):Prop:=ex=x.to∧∃ m',ER m' e' a'∧Res m st w m' st' w'
theorem Qpb {m:M} {e:Env} {a:Act} {c:Operand} {b:Bool} (he:ER m e a) (h:Qau (lk e) c=some (.flat (.bool b))):a.eval c=.bool b :=
 (show VC m (.flat (.bool b)) (a.eval c) from Qai he.el (Qac h)).1
theorem Zbk (hN:Qcx P) (hM:P.follows .mixedOrders=true) {ev:Qav} (hev:Qfj P ev) (hkp:Qa9 ev) {N:Nat}:∀ (c:Code) {m:M} {st st':St} {w:World} {a:Act} {e e':Env} {x:X},SR m st.h w→ER m e a→Qa6 P ev N c e st=some (x,e',st')→c.wp P (Post m st w x e' st') a w:=by
 intro c;induction c with
 | skip=>intro m st st' w a e e' x hs he h;cases h;exact wp_skip ⟨rfl,m,he,Res.refl hs⟩
 | region id ops draw =>
  intro m st st' w a e e' x hs he h;simp only [Qa6] at h;split at h
  ·rename_i hr;cases h;exact Qu5 hN hM hev hkp hs he hr fun a' w' m' h1 h2=>⟨rfl,m',h1,h2⟩
  ·cases h
 | seq x y ihx ihy =>
  intro m st st' w a e e' ex hs he h;simp only [Qa6] at h;refine wp_seq ?_;split at h
  ·rename_i e1 st1 h1;refine wp_mono (ihx hs he h1) ?_;rintro _ a1 w1 ⟨rfl,m1,he1,hr1⟩;refine wp_mono (ihy hr1.sr he1 h) ?_;rintro _ a2 w2 ⟨rfl,m2,he2,hr2⟩;exact ⟨rfl,m2,he2,hr1.trans hr2⟩
  ·rename_i hne;refine wp_mono (ihx hs he h) ?_;rintro _ a1 w1 ⟨rfl,hh⟩;cases ex with
   | norm=>exact (hne _ _ h).elim
   | exit id=>exact ⟨rfl,hh⟩
   | ret=>exact ⟨rfl,hh⟩
 | cond c x y ihx ihy =>
  intro m st st' w a e e' ex hs he h;simp only [Qa6] at h;split at h
  ·rename_i hc;exact wp_cond_true (Qpb he hc) (ihx hs he h)
  ·rename_i hc;exact wp_cond_false (Qpb he hc) (ihy hs he h)
  ·cases h
 | block id c ih =>
  intro m st st' w a e e' ex hs he h;simp only [Qa6] at h;refine wp_block ?_;split at h
  ·rename_i id' e1 st1 h1;refine wp_mono (ih hs he h1) ?_;rintro _ a1 w1 ⟨rfl,hh⟩;simp only [X.to,Exit.inBlock];split at h
   ·rename_i hid;cases h;rw [if_pos hid];exact ⟨rfl,hh⟩
   ·rename_i hid;cases h;rw [if_neg hid];exact ⟨rfl,hh⟩
  ·rename_i hne;refine wp_mono (ih hs he h) ?_;rintro _ a1 w1 ⟨rfl,hh⟩;cases ex with
   | norm=>exact ⟨rfl,hh⟩
   | exit id=>exact (hne _ _ _ h).elim
   | ret=>exact ⟨rfl,hh⟩
 | loop c ih =>
  intro m st st' w a e e' ex hs he h;simp only [Qa6] at h;have key:∀ n {m1:M} {st1:St} {w1:World} {a1:Act} {e1:Env},SR m1 st1.h w1→ER m1 e1 a1→Res m st w m1 st1 w1→iter (Qa6 P ev N c) n e1 st1=some (ex,e',st')→Code.rounds P c (Post m st w ex e' st') n a1 w1:=by
   intro n;induction n with
   | zero=>intro m1 st1 w1 a1 e1 _ _ _ h;cases h
   | succ n ihn =>
    intro m1 st1 w1 a1 e1 hs1 he1 hr1 h;rw [rounds_succ];simp only [iter] at h;split at h
    ·rename_i e2 st2 h2;refine wp_mono (ih hs1 he1 h2) ?_;rintro _ a2 w2 ⟨rfl,m2,he2,hr2⟩;exact ihn hr2.sr he2 (hr1.trans hr2) h
    ·rename_i hne;refine wp_mono (ih hs1 he1 h) ?_;rintro _ a2 w2 ⟨rfl,m2,he2,hr2⟩;cases ex with
     | norm=>exact (hne _ _ h).elim
     | exit id=>exact ⟨rfl,m2,he2,hr1.trans hr2⟩
     | ret=>exact ⟨rfl,m2,he2,hr1.trans hr2⟩
  exact wp_loop_rounds N (key N hs he (Res.refl hs) h)
 | exit id=>intro m st st' w a e e' x hs he h;cases h;exact wp_exit ⟨rfl,m,he,Res.refl hs⟩
 | scope c ih =>
  intro m st st' w a e e' ex hs he h;simp only [Qa6] at h;refine wp_scope_straight (wp_mono (ih hs he h) ?_);rintro _ a1 w1 ⟨rfl,hh⟩;cases ex <;> exact ⟨rfl,hh⟩
 | label l=>intro m st st' w a e e' x hs he h;cases h;exact wp_label ⟨rfl,m,he,Res.refl hs⟩
 | ret=>intro m st st' w a e e' x hs he h;cases h;exact wp_ret ⟨rfl,m,he,Res.refl hs⟩
 | rangeFunc f ps x y _ _=>intro m st st' w a e e' x hs he h;cases h
 | goto l=>intro m st st' w a e e' x hs he h;cases h
 | refuse s=>intro m st st' w a e e' x hs he h;cases h
theorem Qlw {ev:Qav} (hk:Qa9 ev) {ops:Array Oper}:∀ {l:List Oper} {e e':Env} {st st':St},Qjr P ev ops l e st=some (e',st')→Keep st st'
 | [],e,e',st,st',h=>by cases h;exact Keep.refl _
 | o :: r,e,e',st,st',h=>by
  simp only [Qjr] at h;split at h
  ·cases h
  ·exact Qlw hk h
  ·split at h
   ·cases h
   ·rename_i hs;exact (Qds hk hs).trans (Qlw hk h)
theorem Qxp {ev:Qav} (hk:Qa9 ev) {ops:Array Oper} {lo:Nat}:∀ {l:List Oper} {e e':Env} {h h':List O},evT P ev ops l e h=some (e',h')→Keep ⟨h,lo⟩ ⟨h',lo⟩
 | [],e,e',st,st',h=>by cases h;exact Keep.refl _
 | o :: r,e,e',hh,h',h=>by
  simp only [evT] at h;split at h
  ·cases h
  split at h
  ·cases h
  ·exact Qxp hk h
  ·split at h
   ·cases h
   rename_i pv st hs;split at h
   ·rename_i hlo;have k1:=Qds hk hs;have e1:=k1.eq_append hlo;have k2:Keep ⟨hh,lo⟩ ⟨st.h,lo⟩:=⟨k1.len,Nat.le_refl _,fun i hi _=>by
     show st.h[i]?=hh[i]?;have hi:i < hh.length:=hi;rw [e1];exact List.getElem?_append_left hi⟩
    exact k2.trans (Qxp hk h)
   ·cases h
theorem Qxo {ev:Qav} (hk:Qa9 ev) {ops:Array Oper}:∀ {l:List Oper} {e e':Env} {st:St} {sts:List St},evU P ev ops l e st=some (e',sts)→Keep st ((sts.getLast?).getD st)
 | [],e,e',st,sts,h=>by cases h;exact Keep.refl _
 | o :: r,e,e',st,sts,h=>by
  have last:∀ (s:St) (l:List St),((s :: l).getLast?).getD st=(l.getLast?).getD s:=fun s l=>by
   cases l with
   | nil=>rfl
   | cons a b=>simp [List.getLast?_cons]
  simp only [evU] at h;split at h
  ·cases h
  ·split at h
   ·rename_i hr;cases h;rw [last];exact Qxo hk hr
   ·cases h
  ·split at h
   ·cases h
   rename_i hs;split at h
   ·rename_i hr;cases h;rw [last];exact (Qds hk hs).trans (Qxo hk hr)
   ·cases h
theorem Qru {ev:Qav} (hk:Qa9 ev) {ops:Array Oper} {n0:Nat} {e e':Env} {st st':St} (h:Qmz P ev ops n0 e st=some (e',st')):Keep st st':=by
 unfold Qmz at h;split at h
 ·split at h
  ·cases h
  rename_i hT;split at h
  ·cases h
  rename_i hU;split at h
  ·cases h;exact (Qxp (lo:=st.lo) hk hT).trans (Qxo hk hU)
  ·cases h
 ·cases h
theorem Qpr {ev:Qav} (hk:Qa9 ev) {ops:Array Oper} {draw:Bool} {e e':Env} {st st':St} (h:Qej P ev ops draw e st=some (e',st')):Keep st st':=by
 unfold Qej at h;split at h
 ·split at h
  ·exact Qru hk h
  ·split at h
   ·exact Qru hk h
   ·cases h
 ·exact Qlw hk h
theorem Qoq {f:Env→St→Option Out} (hf:∀ e st x e' st',f e st=some (x,e',st')→Keep st st'):∀ {n:Nat} {e e':Env} {st st':St} {x:X},iter f n e st=some (x,e',st')→Keep st st'
 | 0,_,_,_,_,_,h=>by cases h
 | n+1,e,e',st,st',x,h=>by
  simp only [iter] at h;split at h
  ·rename_i h1;exact (hf _ _ _ _ _ h1).trans (Qoq hf h)
  ·exact hf _ _ _ _ _ h
theorem Qxa {ev:Qav} (hk:Qa9 ev) {N:Nat}:∀ (c:Code) {e e':Env} {st st':St} {x:X},Qa6 P ev N c e st=some (x,e',st')→Keep st st':=by
 intro c;induction c with
 | skip=>intro e e' st st' x h;cases h;exact Keep.refl _
 | region id ops draw =>
  intro e e' st st' x h;simp only [Qa6] at h;split at h
  ·rename_i hr;cases h;exact Qpr hk hr
  ·cases h
 | seq a b iha ihb =>
  intro e e' st st' x h;simp only [Qa6] at h;split at h
  ·rename_i h1;exact (iha h1).trans (ihb h)
  ·exact iha h
 | cond c a b iha ihb =>
  intro e e' st st' x h;simp only [Qa6] at h;split at h
  ·exact iha h
  ·exact ihb h
  ·cases h
 | block id c ih =>
  intro e e' st st' x h;simp only [Qa6] at h;split at h
  ·rename_i h1;split at h <;> cases h <;> exact ih h1
  ·exact ih h
 | loop c ih =>
  intro e e' st st' x h;exact Qoq (fun _ _ _ _ _ h=>ih h) h
 | exit id=>intro e e' st st' x h;cases h;exact Keep.refl _
 | scope c ih=>intro e e' st st' x h;exact ih h
 | label l=>intro e e' st st' x h;cases h;exact Keep.refl _
 | ret=>intro e e' st st' x h;cases h;exact Keep.refl _
 | rangeFunc f ps a b _ _=>intro e e' st st' x h;cases h
 | goto l=>intro e e' st st' x h;cases h
 | refuse s=>intro e e' st st' x h;cases h
variable (P)
def Qb0 (e:Env) (st:St):ResultVar→Option S
 | .tmp t=>match e[t]? with
  | some (.s s)=>some s
  | _=>none
 | .cell t T=>match e[t]? with
  | some (.s (.c (.ptr i off)))=>Qd3 P st T i off
  | _=>none
variable {P}
def pvOf:List S→PV
 | [s]=>.s s
 | ss=>.t ss
def resF (a:Act):ResultVar→Sem Value
 | .tmp t=>pure (a.tmps.getD t undef)
 | .cell x t=>do loadVar t (← asAddr (a.tmps.getD x undef))
theorem Qnr {m:M} {e:Env} {a:Act} {st:St} {w:World} (hs:SR m st.h w) (he:ER m e a) {fn:Func} {ss:List S} (h:all? (Qb0 P e st) fn.results.toList=some ss) :
  ∃ v,(results fn a.tmps).run P w=.ok v w∧VP m (pvOf ss) v:=by
 have one:∀ (r:ResultVar) (s:S),Qb0 P e st r=some s→∃ v,(resF a r).run P w=.ok v w∧VS m s v:=fun r s hr=>by
  cases r with
  | tmp t =>
   simp only [Qb0] at hr;split at hr
   ·rename_i s' hs';cases hr;exact ⟨a.tmps.getD t undef,by simp [resF],Qe3 (x:=.tmp t) he hs'⟩
   ·cases hr
  | cell t T =>
   simp only [Qb0] at hr;split at hr
   ·rename_i i off hp;obtain ⟨p,hm,hv⟩:VC m (.ptr i off) (a.eval (.tmp t)):=Qe3 (x:=.tmp t) he hp;obtain ⟨v,hl,hvs⟩:=Qhw hs hr hm;have hv':a.tmps.getD t undef=.pointer (some ⟨p.b,p.o+off,none⟩):=hv;exact ⟨v,by simp only [resF,hv',asAddr];simpa using hl,hvs⟩
   ·cases hr
 have key:∀ (l:List ResultVar) (ss:List S),all? (Qb0 P e st) l=some ss→∃ vs:List Value,(l.mapM (resF a):Sem (List Value)).run P w=.ok vs w∧All2 (VS m) ss vs:=by
  intro l;induction l with
  | nil=>intro ss h;cases h;exact ⟨[],by simp,All2.nil⟩
  | cons r l ih =>
   intro ss h;simp only [all?] at h;cases hr:Qb0 P e st r with
   | none=>rw [hr] at h;cases h
   | some s =>
    rw [hr] at h;cases hl:all? (Qb0 P e st) l with
    | none=>simp only [hl] at h;cases h
    | some ss' =>
     simp only [hl,Option.some.injEq] at h;subst h;obtain ⟨v,h1,h2⟩:=one r s hr;obtain ⟨vs,h3,h4⟩:=ih ss' hl;exact ⟨v :: vs,by rw [List.mapM_cons,Sem.run_bind,h1,Result.andThen_ok,Sem.run_bind,h3,Result.andThen_ok];rfl,All2.cons h2 h4⟩
 obtain ⟨vs,h1,h2⟩:=key _ _ h;have hm:(results fn a.tmps).run P w=.ok (if h:vs.toArray.size=1 then vs.toArray[0] else .tuple vs.toArray) w:=by
  have e1:results fn a.tmps=(do let vs ← fn.results.mapM (resF a);pure (if h:vs.size=1 then vs[0] else .tuple vs)):=rfl;rw [e1,Array.mapM_eq_mapM_toList,Sem.run_bind];have:(List.toArray <$> (fn.results.toList.mapM (resF a)):Sem (Array Value)).run P w=.ok vs.toArray w:=by
   rw [map_eq_pure_bind,Sem.run_bind,h1];rfl
  rw [this];rfl
 refine ⟨_,hm,?_⟩;rcases ss with _ | ⟨s,_ | ⟨s2,ss⟩⟩
 ·have:vs=[]:=List.eq_nil_of_length_eq_zero h2.1.symm;subst this;exact ⟨[],rfl,h2⟩
 ·obtain ⟨v,rfl⟩:∃ v,vs=[v]:=List.length_eq_one_iff.1 h2.1.symm;exact h2.2 0 s v rfl rfl
 ·have hl:¬ vs.toArray.size=1:=by have:=h2.1;simp at this ⊢;omega
  rw [dif_neg hl];exact ⟨vs,rfl,h2⟩
def Qp6:C→Bool
 | .flat _=>true
 | .str _=>true
 | .emp _=>true
 | .low _ _=>true
 | .fn _ caps=>caps.isEmpty
 | _=>false
def Qvw:S→Bool
 | .c x=>Qp6 x
 | .a cs=>cs.all Qp6
def noId:PV→Bool
 | .s x=>Qvw x
 | .t xs=>xs.all Qvw
 | _=>false
theorem Qk1 {m m':M} {c:C} {v:Value} (h:Qp6 c=true) (k:VC m c v):VC m' c v:=by
 cases c with
 | flat u=>exact k
 | str l=>exact k
 | emp z=>exact k
 | low a b=>exact k
 | fn f caps =>
  have:caps=[]:=by simpa [Qp6] using h
  subst this;obtain ⟨as,h1,h2⟩:=k;exact ⟨as,h1,h2.1,fun j x v hx=>by simp at hx⟩
 | sl _ _ _ _=>cases h
 | ptr _ _=>cases h
 | q _ _ _=>cases h
 | mt _ _ _=>cases h
 | mp _=>cases h
theorem Qkz {m m':M} {c:S} {v:Value} (h:Qvw c=true) (k:VS m c v):VS m' c v:=by
 cases c with
 | c x=>exact Qk1 h k
 | a cs =>
  obtain ⟨vs,h1,h2⟩:=k;exact ⟨vs,h1,h2.1,fun j x v hx hv=>Qk1 (List.all_eq_true.1 h x (List.mem_of_getElem? hx)) (h2.2 j x v hx hv)⟩
theorem Qvv {m m':M} {c:PV} {v:Value} (h:noId c=true) (k:VP m c v):VP m' c v:=by
 cases c with
 | s x=>exact Qkz h k
 | t xs =>
  obtain ⟨vs,h1,h2⟩:=k;exact ⟨vs,h1,h2.1,fun j x v hx hv=>Qkz (List.all_eq_true.1 h x (List.mem_of_getElem? hx)) (h2.2 j x v hx hv)⟩
 | any=>cases h
 | skip=>cases h
variable (P)
def Qh6 (orc:Qav) (N:Nat):Nat→Qav
 | 0,_,_,_=>none
 | n+1,F,args,st=>match orc F args st with
  | some r=>some r
  | none=>match P.funcs[F]? with
   | none=>none
   | some fn=>match fn.body with
    | none=>none
    | some c=>match Qa6 P (Qh6 orc N n) N c (args++List.replicate (fn.ntmps - args.length) .skip) ⟨st.h,st.h.length⟩ with
     | some (.exit _,_,_)=>none
     | some (_,e',st')=>match all? (Qb0 P e' st') fn.results.toList with
      | none=>none
      | some ss=>if noId (pvOf ss) && decide (st.h.length≤st'.lo) then some (pvOf ss,st) else some (pvOf ss,⟨st'.h,min st.lo st'.lo⟩)
     | none=>none
variable {P}
theorem Qxz (m:M) (n:Nat):All2 (VP m) (List.replicate n PV.skip) (List.replicate n undef) :=
 ⟨by simp,fun j x v hx hv=>by
  rw [List.getElem?_replicate] at hx hv;split at hx
  ·rw [if_pos (by assumption)] at hv;cases hx;cases hv;rfl
  ·cases hx⟩
theorem Qsg {orc:Qav} (horc:Qa9 orc) (N:Nat):∀ n,Qa9 (Qh6 P orc N n)
 | 0=>fun F pvs st r st' h=>by cases h
 | n+1=>fun F pvs st r st' h=>by
  simp only [Qh6] at h;split at h
  ·rename_i hq;cases h;exact horc _ _ _ _ _ hq
  ·split at h
   ·cases h
   split at h
   ·cases h
   split at h
   ·cases h
   ·rename_i hc;have kc:=Qxa (Qsg horc N n) _ hc;split at h
    ·cases h
    ·split at h
     ·cases h;exact Keep.refl _
     ·cases h;exact ⟨kc.len,Nat.min_le_left _ _,fun i hi hl=>kc.old i hi (Nat.lt_of_lt_of_le hl (Nat.min_le_right _ _))⟩
   ·cases h
theorem Qzt (hN:Qcx P) (hM:P.follows .mixedOrders=true) {orc:Qav} (horc:Qfj P orc) (hork:Qa9 orc) (N:Nat):∀ n,Qfj P (Qh6 P orc N n)
 | 0=>fun F pvs st r st' m w args h=>by cases h
 | n+1=>fun F pvs st r st' m w args h hs hargs=>by
  simp only [Qh6] at h;split at h
  ·rename_i q hq;cases h;exact horc F pvs st r st' m w args hq hs hargs
  ·split at h
   ·cases h
   rename_i fn hfn;split at h
   ·cases h
   rename_i c hc;have hs':SR m (⟨st.h,st.h.length⟩:St).h w:=hs;have he:ER m (pvs++List.replicate (fn.ntmps - pvs.length) .skip) { tmps:=args.toArray++Array.replicate (fn.ntmps - args.toArray.size) undef,defers:=[] }:=by
    refine ⟨rfl,?_⟩;have e1:(args.toArray++Array.replicate (fn.ntmps - args.toArray.size) undef).toList=args++List.replicate (fn.ntmps - pvs.length) undef:=by simp [hargs.1]
    rw [e1];exact hargs.append (Qxz m _)
   have fin:∀ {e':Env} {st1:St} {x:X},(x=.norm∨x=.ret)→Qa6 P (Qh6 P orc N n) N c (pvs++List.replicate (fn.ntmps - pvs.length) .skip) ⟨st.h,st.h.length⟩=some (x,e',st1) →
     (match all? (Qb0 P e' st1) fn.results.toList with | none=>none | some ss=>if noId (pvOf ss) && decide (st.h.length≤st1.lo) then some (pvOf ss,st) else some (pvOf ss,⟨st1.h,min st.lo st1.lo⟩))=some (r,st') →
     Calls P F args.toArray w fun e w'=>∃ v m',e=.returned v∧VP m' r v∧Res m st w m' st' w':=fun {e' st1 x} hx hcode h=>by
    split at h
    ·cases h
    rename_i ss hss;refine calls_of_wp hfn hc (wp_mono (Zbk hN hM (Qzt hN hM horc hork N n) (Qsg hork N n) c hs' he hcode) ?_);rintro ex a1 w1 ⟨rfl,m1,he1,hr1⟩;obtain ⟨v,hrun,hv⟩:=Qnr hr1.sr he1 hss;have hfin:∃ m',VP m' r v∧Res m st w m' st' w1:=by
     split at h
     ·rename_i hg;simp only [Bool.and_eq_true,decide_eq_true_eq] at hg;cases h;have hkeep:∀ b,b < w.heap.size→w1.heap[b]?=w.heap[b]?:=fun b hb=>hr1.fr.keep b hb fun i p g1 g2=>by
       have g2':i < st.h.length:=g2;omega
      exact ⟨m,Qvv hg.1 hv,hs.grow hkeep,⟨fun _ _ h=>h,fun _ _=>rfl,fun j p hj hm=>by have:=hs.dom j p hm;omega,hr1.fr.size,hr1.fr.os,hr1.fr.tape,hr1.fr.output,fun b hb _=>hkeep b hb⟩,Nat.le_refl _,Nat.le_refl _,fun _ _ _=>rfl⟩
     ·cases h;have hf:=hr1.fr.mono (Nat.min_le_right st.lo st1.lo);exact ⟨m1,hv,hr1.sr,hf,hr1.len,Nat.min_le_left _ _,fun i hi hl=>hr1.old i hi (Nat.lt_of_lt_of_le hl (Nat.min_le_right _ _))⟩
    obtain ⟨m',h1,h2⟩:=hfin;rcases hx with rfl | rfl
    ·exact ⟨he1.defers,v,hrun,v,m',rfl,h1,h2⟩
    ·exact ⟨he1.defers,v,hrun,v,m',rfl,h1,h2⟩
   split at h
   ·cases h
   ·rename_i x e' st1 hne hcode;cases x with
    | norm=>exact fin (.inl rfl) hcode h
    | ret=>exact fin (.inr rfl) hcode h
    | exit id=>exact (hne id rfl).elim
   ·cases h
end Ev
end Go.Proofs.YtcpodmjcgfgmnaaGreat
namespace Go.Proofs.YtcpodmjcgfgmnaaGreat
open Go.RowKit
namespace Ev
variable {P:Program}
def Zar:Qav:=fun _ _ _=>none
theorem Qtl:Qa9 Zar:=fun F pvs st r st' h=>by cases h
theorem Qyf:Qfj P Zar:=fun F pvs st r st' m w args h=>by cases h
theorem Zb0 (w:World):SR (fun _=>none) [] w:=⟨(fun i p h=>by cases h),(fun i p o h=>by cases h),(fun i j p q o o' h=>by cases h),⟨(fun i p o r h=>by cases h),(fun i j p q o o' r r' h=>by cases h)⟩⟩
theorem Qqs {st:St} {w w':World} {m':M} (h:Res (fun _=>none) ⟨[],0⟩ w m' st w'):Flow.Grow w w' :=
 ⟨h.fr.os,h.fr.tape,h.fr.output,h.fr.size,fun b hb _=>h.fr.keep b hb fun i p _ _ h=>by cases h⟩
theorem Qpc (hN:Qcx P) (hM:P.follows .mixedOrders=true) {orc:Qav} (horc:Qfj P orc) (hork:Qa9 orc) {N n:Nat} {F:FuncId} {pvs:List PV} {v:Value} {st:St} (h:Qh6 P orc N n F pvs ⟨[],0⟩=some (.s (.c (.flat v)),st))
  {args:List Value} (hargs:All2 (VP fun _=>none) pvs args) (w:World):Calls P F args.toArray w fun e w'=>e=.returned v∧Flow.Grow w w' :=
 (Qzt hN hM horc hork N n F pvs ⟨[],0⟩ _ st (fun _=>none) w args h (Zb0 w) hargs).mono fun e w' ⟨u,m',he,hv,hres⟩=>by
   obtain ⟨rfl,_⟩:u=v∧_:=hv;exact ⟨he,Qqs hres⟩
theorem Qtm (h : (P.funcs.toList.all fun f => !(f.name == "runtime.NumGoroutine")) = true) : Qcx P := fun f fn hf => by
 have hm:fn∈P.funcs.toList:=by have:=Array.mem_of_getElem? hf;simpa using this
 have:=List.all_eq_true.1 h fn hm;simpa using this
end Ev
end Go.Proofs.YtcpodmjcgfgmnaaGreat

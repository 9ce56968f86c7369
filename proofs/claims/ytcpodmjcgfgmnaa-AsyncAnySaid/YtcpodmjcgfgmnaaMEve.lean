/- Ev: a region that draws its order, run in the order of its text. No program. -/
import Derived.Test.YtcpodmjcgfgmnaaMEvd
import Derived.Test.YtcpodmjcgfgmnaaEv8c
import Derived.Test.YtcpodmjcgfgmnaaEv8k
namespace Go.Proofs.Ytcpodmjcgfgmnaa
open Go.RowKit
namespace Ev
variable {P:Program}
def tmpOf:Operand→Option Tmp
 | .tmp t=>some t
 | _=>none
def readsOf (ops:Array Oper) (o:Oper):List Tmp:=o.op.operands.toList.filterMap tmpOf++(match o.guard with | some (j,_)=>(match Flow.dstOf ops j with | some d=>[d] | none=>[]) | none=>[])
def dsts (ops:Array Oper):List (Option Tmp):=ops.toList.map (·.dst)
def sensIdx (ops:Array Oper):List Nat:=(List.range ops.size).filter (sensAt ops)
def loadIdx (ops:Array Oper):List Nat:=(List.range ops.size).filter fun i=>match ops[i]? with | some o=>isLoad o.op | none=>false
def allowedS (S:List Nat) (C:List Nat) (n0 i q:Nat):Bool:=S.all fun k=>if k < n0+q then !(C.getD k 0).testBit i else !(C.getD i 0).testBit k
def sensIdxC (ops:Array Oper) (n0:Nat):List Nat:=(List.range ops.size).filter (sensC ops n0)
theorem allowedS_eq (ops:Array Oper) (n0 i q:Nat):allowedS (sensIdxC ops n0) (clos ops) n0 i q=allowed ops n0 i q:=by
 unfold allowedS allowed sensIdxC
 rw [List.all_filter]
def quietB (S:List Nat) (n0 i q:Nat):Bool:=S.all fun k=>!((Nat.ble (max i n0) k && Nat.blt k (n0+q)) || (Nat.ble (n0+q) k && Nat.blt k i))
def qsOf (S:List Nat) (n0:Nat):List Nat:=0 :: (S.filter fun k=>Nat.ble n0 k).map fun k=>k+1 - n0
def floatsL (ops:Array Oper) (n0:Nat):List (Nat × Nat) :=
 (loadIdx ops).flatMap fun i=>((qsOf (sensIdx ops) n0).filter fun q=>allowedS (sensIdxC ops n0) (clos ops) n0 i q && !quietB (sensIdx ops) n0 i q).map fun q=>(i,q)
def byOnly (t:Tmp) (s i:Nat):Nat→List (Option Tmp)→List Nat→Bool
 | _,[],_=>true
 | k,none :: r,_ :: C=>byOnly t s i (k+1) r C
 | k,some d :: r,c :: C=>if Nat.beq d t then ((Nat.blt k i && s.testBit k) || (Nat.blt i k && c.testBit i)) && byOnly t s i (k+1) r C else byOnly t s i (k+1) r C
 | _,_ :: _,[]=>false
def offs (d:Tmp):List (Option Tmp)→Bool
 | []=>true
 | none :: r=>offs d r
 | some t :: r=>!Nat.beq t d && offs d r
def sensL (n0 s:Nat):Nat→List Oper→Bool
 | _,[]=>true
 | k,o :: r=>(floatK o.op || s.testBit k || (Nat.blt k n0 && isMk o)) && sensL n0 s (k+1) r
def isStoreO (o:Oper):Bool:=match o.op with
 | .store _ _ _=>o.dst.isNone && o.guard.isNone
 | _=>false
def pairL (ops:Array Oper) (C:List Nat):List Nat→Nat × Nat
 | [a,b]=>match ops[a]?,ops[b]? with
  | some x,some y=>if isStoreO x && isStoreO y && !(C.getD b 0).testBit a then (a,b) else (0,0)
  | _,_=>(0,0)
 | _ :: b :: c :: r=>pairL ops C (b :: c :: r)
 | _=>(0,0)
def pairOf (ops:Array Oper):Nat × Nat:=pairL ops (clos ops) (sensIdx ops)
def bitX (p:Nat × Nat) (i s:Nat):Nat:=if Nat.beq i p.2 then s ||| 2 ^ p.1 else s
def statI (ops:Array Oper) (n0 i:Nat) (o:Oper) (s:Nat):Bool :=
 (match o.dst with | none=>Nat.ble n0 i | some d=>offs d ((dsts ops).take i)) && o.after.toList.all (fun e=>!Region.binds .any e || Nat.blt e.on i) &&
 (readsOf ops o).all (fun t=>byOnly t s i 0 (dsts ops) (clos ops)) && (Nat.blt i n0 || floatK o.op || sensL n0 (bitX (pairOf ops) i s) 0 (ops.toList.take i))
def statL (ops:Array Oper) (n0:Nat):Nat→List Oper→List Nat→Bool
 | _,[],_=>true
 | i,o :: r,s :: S=>statI ops n0 i o s && statL ops n0 (i+1) r S
 | _,_ :: _,[]=>false
def noLater (ops:Array Oper) (i:Nat):Bool:=match ops[i]? with
 | some o=>(readsOf ops o).all fun t=>offs t ((dsts ops).drop i)
 | none=>true
def xFloats (ops:Array Oper) (p:Nat × Nat):List Nat:=(loadIdx ops).filter fun i=>!((clos ops).getD p.2 0).testBit i && !((clos ops).getD i 0).testBit p.1
def storeAt (ops:Array Oper) (k:Nat):Bool:=match ops[k]? with
 | some o=>isStoreO o
 | none=>false
def pairStat (ops:Array Oper) (n0:Nat):Bool:=if Nat.blt (pairOf ops).1 (pairOf ops).2 then
  Nat.ble n0 (pairOf ops).1 && Nat.blt (pairOf ops).2 ops.size && storeAt ops (pairOf ops).1 && storeAt ops (pairOf ops).2 && noLater ops (pairOf ops).1 && noLater ops (pairOf ops).2 &&
   (xFloats ops (pairOf ops)).all (noLater ops) && (sensIdx ops).all (fun k=>Nat.beq k (pairOf ops).1 || Nat.beq k (pairOf ops).2 || Nat.blt k (pairOf ops).1)
 else true
def statOk (ops:Array Oper) (n0:Nat):Bool:=Nat.ble n0 ops.size && statL ops n0 0 ops.toList (clos ops) && (floatsL ops n0).all (fun p=>noLater ops p.1) && pairStat ops n0
theorem byOnly_spec {t s i:Nat}:∀ {l:List (Option Tmp)} {C:List Nat} {k:Nat},byOnly t s i k l C=true→∀ j:Nat,l[j]?=some (some t)→(k+j < i∧s.testBit (k+j)=true)∨(i < k+j∧(C.getD j 0).testBit i=true)
 | [],_,_,_,j,hj=>by simp at hj
 | none :: r,_ :: C,k,h,0,hj=>by simp at hj
 | none :: r,_ :: C,k,h,j+1,hj=>by
  have:=byOnly_spec (l:=r) (C:=C) (k:=k+1) h j (by simpa using hj)
  rw [show k+1+j=k+(j+1) by omega] at this
  simpa using this
 | some d :: r,c :: C,k,h,0,hj=>by
  simp at hj;subst hj
  simp only [byOnly,Nat.beq_refl,if_true,Bool.and_eq_true,Bool.or_eq_true,Nat.blt_eq] at h
  simpa using h.1
 | some d :: r,c :: C,k,h,j+1,hj=>by
  have h':byOnly t s i (k+1) r C=true:=by
   simp only [byOnly] at h
   split at h
   ·simp only [Bool.and_eq_true] at h;exact h.2
   ·exact h
  have:=byOnly_spec (l:=r) (C:=C) (k:=k+1) h' j (by simpa using hj)
  rw [show k+1+j=k+(j+1) by omega] at this
  simpa using this
 | none :: _,[],_,h,_,_=>by simp [byOnly] at h
 | some _ :: _,[],_,h,_,_=>by simp [byOnly] at h
theorem offs_spec {d:Tmp}:∀ {l:List (Option Tmp)},offs d l=true→∀ j:Nat,l[j]?≠some (some d)
 | [],_,j=>by simp
 | none :: r,h,0=>by simp
 | none :: r,h,j+1=>by simpa using offs_spec (l:=r) h j
 | some t :: r,h,0=>by
  simp only [offs,Bool.and_eq_true,Bool.not_eq_true'] at h
  intro e
  simp at e
  subst e
  rw [Nat.beq_refl] at h
  cases h.1
 | some t :: r,h,j+1=>by
  simp only [offs,Bool.and_eq_true] at h
  simpa using offs_spec (l:=r) h.2 j
theorem sensL_spec {n0 s:Nat}:∀ {l:List Oper} {k:Nat},sensL n0 s k l=true→∀ (j:Nat) (o:Oper),l[j]?=some o→floatK o.op=false→(Nat.blt (k+j) n0 && isMk o)=false→s.testBit (k+j)=true
 | [],_,_,j,o,hj,_,_=>by simp at hj
 | x :: r,k,h,0,o,hj,hf,hm=>by
  simp at hj;subst hj
  simp only [sensL,Bool.and_eq_true,Bool.or_eq_true] at h
  rcases h.1 with (h1 | h1) | h1
  ·rw [hf] at h1;cases h1
  ·exact h1
  ·rw [Nat.add_zero] at hm
   simp [h1.1,h1.2] at hm
 | x :: r,k,h,j+1,o,hj,hf,hm=>by
  simp only [sensL,Bool.and_eq_true] at h
  have:=sensL_spec (l:=r) (k:=k+1) h.2 j o (by simpa using hj) hf (by rwa [show k+1+j=k+(j+1) by omega])
  rwa [show k+1+j=k+(j+1) by omega] at this
theorem statL_spec {ops:Array Oper} {n0:Nat}:∀ {l:List Oper} {S:List Nat} {i:Nat},statL ops n0 i l S=true→∀ (j:Nat) (o:Oper),l[j]?=some o→statI ops n0 (i+j) o (S.getD j 0)=true
 | [],_,_,_,j,o,hj=>by simp at hj
 | x :: r,s :: S,i,h,0,o,hj=>by
  simp at hj;subst hj
  simp only [statL,Bool.and_eq_true] at h
  simpa using h.1
 | x :: r,s :: S,i,h,j+1,o,hj=>by
  simp only [statL,Bool.and_eq_true] at h
  have:=statL_spec (l:=r) h.2 j o (by simpa using hj)
  rw [show i+1+j=i+(j+1) by omega] at this
  simpa using this
 | x :: r,[],i,h,_,_,_=>by cases h
def dstAt (ops:Array Oper) (k:Nat):Option Tmp:=match ops[k]? with | some o=>o.dst | none=>none
theorem dsts_get {ops:Array Oper} {k:Nat} {t:Tmp} (h:dstAt ops k=some t):(dsts ops)[k]?=some (some t):=by
 unfold dstAt at h
 split at h
 ·rename_i o ho
  simp [dsts,ho,h]
 ·cases h
structure Stat (ops:Array Oper) (n0 i:Nat) (o:Oper):Prop where
 dst:∀ d,o.dst=some d→∀ k,k < i→dstAt ops k≠some d
 none:o.dst=none→n0≤i
 back:∀ e∈o.after.toList,Region.binds .any e=true→e.on < i
 back':(o.after.toList.all (fun e=>!Region.binds .any e || decide (e.on < i)))=true
 reads:∀ t∈readsOf ops o,∀ k,dstAt ops k=some t→(k < i∧((clos ops).getD i 0).testBit k=true)∨(i < k∧((clos ops).getD k 0).testBit i=true)
 sens:n0≤i→floatK o.op=false→∀ k,k < i→sensC ops n0 k=true→(k=(pairOf ops).1∧i=(pairOf ops).2)∨((clos ops).getD i 0).testBit k=true
theorem stat_at {ops:Array Oper} {n0:Nat} (h:statOk ops n0=true) {i:Nat} {o:Oper} (ho:ops[i]?=some o):Stat ops n0 i o:=by
 simp only [statOk,Bool.and_eq_true] at h
 have hs:=statL_spec h.1.1.2 i o (by simpa using ho)
 rw [Nat.zero_add] at hs
 simp only [statI,Bool.and_eq_true,Bool.or_eq_true] at hs
 obtain ⟨⟨⟨h1,h2⟩,h3⟩,h4⟩:=hs
 have hb:∀ e∈o.after.toList,Region.binds .any e=true→e.on < i:=fun e he hb=>by
  have:=List.all_eq_true.1 h2 e he
  simpa [hb,Nat.blt_eq] using this
 refine ⟨fun d hd k hk e=>?_,fun hd=>?_,hb,?_,fun t ht k hk=>?_,fun hi hf k hk hsk=>?_⟩
 ·rw [hd] at h1
  exact offs_spec h1 k (by rw [List.getElem?_take,if_pos hk];exact dsts_get e)
 ·rw [hd] at h1;simpa using h1
 ·rw [List.all_eq_true]
  intro e he
  cases hbe:Region.binds .any e with
  | false=>rfl
  | true=>simpa using hb e he hbe
 ·have:=byOnly_spec (List.all_eq_true.1 h3 t ht) k (dsts_get hk)
  simpa using this
 ·rcases h4 with (h4 | h4) | h4
  ·have:i < n0:=by simpa using h4
   omega
  ·rw [hf] at h4;cases h4
  ·simp only [sensC,sensAt,lateK,Bool.and_eq_true,Bool.not_eq_true'] at hsk
   obtain ⟨hsk,hlk⟩:=hsk
   split at hsk
   ·rename_i o' ho'
    rw [ho'] at hlk
    have:=sensL_spec h4 k o' (by rw [List.getElem?_take,if_pos hk];simpa using ho') (by simpa using hsk) (by rw [Nat.zero_add];exact hlk)
    rw [Nat.zero_add] at this
    unfold bitX at this
    split at this
    ·rename_i hi2
     rw [Nat.testBit_or,Bool.or_eq_true,Nat.testBit_two_pow] at this
     rcases this with h | h
     ·exact .inr (by simpa using h)
     ·exact .inl ⟨(of_decide_eq_true h).symm,by simpa using hi2⟩
    ·exact .inr (by simpa using this)
   ·cases hsk
def setAll (e0:Env):List Tr→Env
 | []=>e0
 | t :: r=>setAll (e0.set t.d t.pv) r
def setU (e0:Env):List Tl→Env
 | []=>e0
 | t :: r=>setU (setE e0 t.d t.pv) r
theorem setAll_append (e0:Env) (T U:List Tr):setAll e0 (T++U)=setAll (setAll e0 T) U:=by
 induction T generalizing e0 with
 | nil=>rfl
 | cons u r ih=>exact ih _
theorem setAll_snoc (e0:Env) (T:List Tr) (t:Tr):setAll e0 (T++[t])=(setAll e0 T).set t.d t.pv:=setAll_append e0 T [t]
theorem setU_append (e0:Env) (T U:List Tl):setU e0 (T++U)=setU (setU e0 T) U:=by
 induction T generalizing e0 with
 | nil=>rfl
 | cons u r ih=>exact ih _
theorem setU_snoc (e0:Env) (T:List Tl) (t:Tl):setU e0 (T++[t])=setE (setU e0 T) t.d t.pv:=setU_append e0 T [t]
theorem setE_len (e:Env) (d:Option Tmp) (pv:PV):(setE e d pv).length=e.length:=by cases d <;> simp [setE]
theorem setAll_len:∀ (T:List Tr) (e:Env),(setAll e T).length=e.length
 | [],_=>rfl
 | t :: r,e=>by rw [setAll,setAll_len r];simp
theorem setU_len:∀ (T:List Tl) (e:Env),(setU e T).length=e.length
 | [],_=>rfl
 | t :: r,e=>by rw [setU,setU_len r,setE_len]
theorem setAll_off {x:Tmp}:∀ {T:List Tr} {e:Env},(∀ t∈T,t.d≠x)→(setAll e T)[x]?=e[x]?
 | [],_,_=>rfl
 | t :: r,e,h=>by
  rw [setAll,setAll_off fun u hu=>h u (by simp [hu]),List.getElem?_set_ne (h t (by simp))]
theorem setE_ne {e:Env} {d:Option Tmp} {pv:PV} {x:Tmp} (h:d≠some x):(setE e d pv)[x]?=e[x]?:=by
 cases d with
 | none=>rfl
 | some t=>exact List.getElem?_set_ne fun e=>h (by rw [e])
theorem setU_off {x:Tmp}:∀ {T:List Tl} {e:Env},(∀ t∈T,t.d≠some x)→(setU e T)[x]?=e[x]?
 | [],_,_=>rfl
 | t :: r,e,h=>by rw [setU,setU_off fun u hu=>h u (by simp [hu]),setE_ne (h t (by simp))]
theorem maskLf {x:Tmp}:∀ {ds:List Tmp} {e:Env},x∉ds→(maskL e ds)[x]?=e[x]?
 | [],_,_=>rfl
 | d :: r,e,h=>by
  simp only [maskL]
  rw [maskLf (fun k=>h (List.mem_cons_of_mem _ k)),List.getElem?_set_ne (fun k=>h (by simp [k]))]
theorem maskRf {x:Tmp} {s:Nat}:∀ {T:List Tr} {e e':Env} {k0:Nat},e.length=e'.length→e[x]?=e'[x]?→(∀ (k:Nat) t,T[k]?=some t→t.d=x→s.testBit (k0+k)=true)→(maskR e T s k0)[x]?=(setAll e' T)[x]?
 | [],_,_,_,_,h,_=>h
 | t :: r,e,e',k0,hl,h,hb=>by
  simp only [maskR,setAll]
  refine maskRf (by simp [hl]) ?_ fun k u hk hu=>by
   have:=hb (k+1) u (by simpa using hk) hu
   rwa [show k0+(k+1)=k0+1+k by omega] at this
  by_cases hx:t.d=x
  ·have:=hb 0 t rfl hx
   rw [Nat.add_zero] at this
   rw [this,if_pos rfl,hx,List.getElem?_set,List.getElem?_set,hl,if_pos rfl,if_pos rfl]
  ·rw [List.getElem?_set_ne hx,List.getElem?_set_ne hx,h]
theorem maskUf {x:Tmp} {s:Nat}:∀ {T:List Tl} {e e':Env} {k0:Nat},e.length=e'.length→e[x]?=e'[x]?→(∀ (k:Nat) t,T[k]?=some t→t.d=some x→s.testBit (k0+k)=true)→(maskU e T s k0)[x]?=(setU e' T)[x]?
 | [],_,_,_,_,h,_=>h
 | t :: r,e,e',k0,hl,h,hb=>by
  simp only [maskU,setU]
  refine maskUf (by simp [hl,setE_len]) ?_ fun k u hk hu=>by
   have:=hb (k+1) u (by simpa using hk) hu
   rwa [show k0+(k+1)=k0+1+k by omega] at this
  by_cases hx:t.d=some x
  ·have:=hb 0 t rfl hx
   rw [Nat.add_zero] at this
   rw [this,if_pos rfl,hx]
   simp only [setE]
   rw [List.getElem?_set,List.getElem?_set,hl,if_pos rfl,if_pos rfl]
  ·rw [setE_ne hx,setE_ne hx,h]
theorem laterD_dst {C:List Nat} {i:Nat} {d:Tmp}:∀ {l:List Oper} {k:Nat},d∈laterD C i l k→∃ (j:Nat) (o:Oper),l[j]?=some o∧o.dst=some d∧(C.getD (k+j) 0).testBit i=false
 | [],_,h=>by simp [laterD] at h
 | o :: r,k,h=>by
  have up:(∃ (j:Nat) (o:Oper),r[j]?=some o∧o.dst=some d∧(C.getD (k+1+j) 0).testBit i=false)→∃ (j:Nat) (o':Oper),(o :: r)[j]?=some o'∧o'.dst=some d∧(C.getD (k+j) 0).testBit i=false:=fun ⟨j,o',h1,h2,h3⟩ =>
   ⟨j+1,o',by simpa using h1,h2,by rwa [show k+(j+1)=k+1+j by omega]⟩
  simp only [laterD] at h
  split at h
  ·exact up (laterD_dst h)
  ·rename_i d' hd
   split at h
   ·exact up (laterD_dst h)
   ·rename_i hb
    rcases List.mem_cons.1 h with rfl | h
    ·exact ⟨0,o,rfl,hd,by rw [Nat.add_zero];simpa using hb⟩
    ·exact up (laterD_dst h)
theorem not_later {ops:Array Oper} {n0 i:Nat} {o:Oper} (hs:Stat ops n0 i o) {t:Tmp} (ht:t∈readsOf ops o):t∉laterD (clos ops) i (ops.toList.drop (i+1)) (i+1):=fun hm=>by
 obtain ⟨j,o',h1,h2,h3⟩:=laterD_dst hm
 rw [List.getElem?_drop] at h1
 have h1':ops[i+1+j]?=some o':=by simpa using h1
 rcases hs.reads t ht (i+1+j) (by unfold dstAt;rw [h1'];exact h2) with h | h
 ·omega
 ·rw [h3] at h;cases h.2
theorem stat_env {ops:Array Oper} {n0 i:Nat} {o:Oper} {e0:Env} {T:List Tr} (hs:Stat ops n0 i o) (hi:T.length≤i) (hT:∀ k t,T[k]?=some t→dstAt ops k=some t.d) {t:Tmp} (ht:t∈readsOf ops o) :
  (envAt e0 T ((clos ops).getD i 0) (laterD (clos ops) i (ops.toList.drop (i+1)) (i+1)))[t]?=(setAll e0 T)[t]?:=by
 unfold envAt
 rw [maskLf (not_later hs ht)]
 exact maskRf rfl rfl fun k u hu hx=>by
  rw [Nat.zero_add]
  have hk:=(List.getElem?_eq_some_iff.1 hu).1
  rcases hs.reads t ht k (by rw [hT k u hu,hx]) with h | h
  ·exact h.2
  ·omega
theorem stat_envT {ops:Array Oper} {n0 i:Nat} {o:Oper} {e0:Env} {T:List Tr} {U:List Tl} (hs:Stat ops n0 i o) (hi:T.length+U.length≤i) (hT:∀ k t,T[k]?=some t→dstAt ops k=some t.d) (hU:∀ q u,U[q]?=some u→dstAt ops (T.length+q)=u.d) {t:Tmp} (ht:t∈readsOf ops o) :
  (envT e0 T U ((clos ops).getD i 0) (laterD (clos ops) i (ops.toList.drop (i+1)) (i+1)))[t]?=(setU (setAll e0 T) U)[t]?:=by
 unfold envT
 rw [maskLf (not_later hs ht)]
 refine maskUf (by rw [maskR_len,setAll_len]) (maskRf rfl rfl fun k u hu hx=>?_) fun q u hu hx=>?_
 ·rw [Nat.zero_add]
  have hk:=(List.getElem?_eq_some_iff.1 hu).1
  rcases hs.reads t ht k (by rw [hT k u hu,hx]) with h | h
  ·exact h.2
  ·omega
 ·have hk:=(List.getElem?_eq_some_iff.1 hu).1
  rcases hs.reads t ht _ (by rw [hU q u hu,hx]) with h | h
  ·exact h.2
  ·omega
theorem testBit_all {n k:Nat} (h:k < n):(2 ^ n - 1).testBit k=true:=by
 rw [Nat.testBit_two_pow_sub_one];simpa using h
theorem reads_lk {ops:Array Oper} {o:Oper} {e e':Env} (h:∀ t∈readsOf ops o,e[t]?=e'[t]?):(∀ x∈o.op.operands.toList,evX (lk e) x=evX (lk e') x)∧wantedE ops e o=wantedE ops e' o:=by
 refine ⟨fun x hx=>?_,?_⟩
 ·cases x with
  | tmp t=>exact h t (List.mem_append_left _ (List.mem_filterMap.2 ⟨_,hx,rfl⟩))
  | _=>rfl
 ·unfold wantedE
  cases hg:o.guard with
  | none=>rfl
  | some q =>
   obtain ⟨j,want⟩:=q
   cases hd:Flow.dstOf ops j with
   | none=>simp only [hd]
   | some d =>
    simp only [hd]
    rw [h d (List.mem_append_right _ (by simp [hg,hd]))]
variable (P)
def evT (ev:CallE) (ops:Array Oper):List Oper→Env→List O→Option (Env × List O)
 | [],e,h=>some (e,h)
 | o :: r,e,h=>match o.dst with
  | none=>none
  | some d=>match wantedE ops e o with
   | none=>none
   | some false=>evT ev ops r (e.set d .skip) h
   | some true=>match evStep P ev e ⟨h,h.length⟩ o with
    | none=>none
    | some (pv,st)=>if h.length≤st.lo then evT ev ops r (e.set d pv) st.h else none
def evU (ev:CallE) (ops:Array Oper):List Oper→Env→St→Option (Env × List St)
 | [],e,_=>some (e,[])
 | o :: r,e,st=>match wantedE ops e o with
  | none=>none
  | some false=>(match evU ev ops r (setE e o.dst .skip) st with | some (e',l)=>some (e',st :: l) | none=>none)
  | some true=>match evStep P ev e st o with
   | none=>none
   | some (pv,st')=>(match evU ev ops r (setE e o.dst pv) st' with | some (e',l)=>some (e',st' :: l) | none=>none)
variable {P}
theorem dst_of_step {ev:CallE} {ops:Array Oper} {e0:Env} {h0:List O} {T:List Tr} (hT:∀ i,i < T.length→StepP P ev ops e0 h0 T i):∀ k t,T[k]?=some t→dstAt ops k=some t.d:=fun k t ht=>by
 obtain ⟨o,t',h1,h2,h3,_⟩:=hT k (List.getElem?_eq_some_iff.1 ht).1
 rw [ht] at h2;cases h2
 unfold dstAt;rw [h1];exact h3
theorem evT_spec {ev:CallE} {ops:Array Oper} {e0:Env} {h0:List O} {n0:Nat} (hst:statOk ops n0=true) (hk:CallKeep ev):∀ {l:List Oper} {T:List Tr} {e':Env} {h':List O},(∀ j o,l[j]?=some o→ops[T.length+j]?=some o) →
  (∀ i,i < T.length→StepP P ev ops e0 h0 T i)→evT P ev ops l (setAll e0 T) (hAt h0 T T.length)=some (e',h')→∃ T':List Tr,T'.length=T.length+l.length∧(∀ i,i < T'.length→StepP P ev ops e0 h0 T' i)∧e'=setAll e0 T'∧h'=hAt h0 T' T'.length
 | [],T,e',h',hl,hT,h=>by cases h;exact ⟨T,rfl,hT,rfl,rfl⟩
 | o :: r,T,e',h',hl,hT,h=>by
  have ho:ops[T.length]?=some o:=hl 0 o rfl
  have hs:=stat_at hst ho
  have hdT:=dst_of_step hT
  simp only [evT] at h
  split at h
  ·cases h
  rename_i d hd
  have hag:=reads_lk fun t ht=>(stat_env (e0:=e0) hs (Nat.le_refl _) hdT ht).symm
  have next:∀ (pv:PV) (hh:List O),StepP P ev ops e0 h0 (T++[⟨d,pv,(clos ops).getD T.length 0,hh⟩]) T.length→evT P ev ops r ((setAll e0 T).set d pv) hh=some (e',h') →
    ∃ T':List Tr,T'.length=T.length+(o :: r).length∧(∀ i,i < T'.length→StepP P ev ops e0 h0 T' i)∧e'=setAll e0 T'∧h'=hAt h0 T' T'.length:=fun pv hh hsp hrun=>by
   obtain ⟨T',a1,a2⟩:=evT_spec hst hk (l:=r) (T:=T++[⟨d,pv,(clos ops).getD T.length 0,hh⟩]) (e':=e') (h':=h') (fun j o' hj=>by
     have:=hl (j+1) o' (by simpa using hj)
     rw [List.length_append,List.length_singleton,show T.length+1+j=T.length+(j+1) by omega];exact this)
    (fun i hi=>by
      rw [List.length_append,List.length_singleton] at hi
      by_cases e:i < T.length
      ·exact (hT i e).append e
      ·have:i=T.length:=by omega
       subst this;exact hsp)
    (by
      rw [setAll_snoc]
      have:hAt h0 (T++[⟨d,pv,(clos ops).getD T.length 0,hh⟩]) (T++[⟨d,pv,(clos ops).getD T.length 0,hh⟩]:List Tr).length=hh:=by
       rw [List.length_append,List.length_singleton];simp [hAt]
      rw [this];exact hrun)
   exact ⟨T',by rw [a1];simp;omega,a2⟩
  have base:∀ t:Tr,t.d=d→t.s=(clos ops).getD T.length 0 →
    ((wantedE ops (envAt e0 T ((clos ops).getD T.length 0) (laterD (clos ops) T.length (ops.toList.drop (T.length+1)) (T.length+1))) o=some false∧t.pv=.skip∧t.h=hAt h0 T T.length) ∨
     (wantedE ops (envAt e0 T ((clos ops).getD T.length 0) (laterD (clos ops) T.length (ops.toList.drop (T.length+1)) (T.length+1))) o=some true∧∃ st,evStep P ev (envAt e0 T ((clos ops).getD T.length 0) (laterD (clos ops) T.length (ops.toList.drop (T.length+1)) (T.length+1))) ⟨hAt h0 T T.length,(hAt h0 T T.length).length⟩ o=some (t.pv,st)∧(hAt h0 T T.length).length≤st.lo∧t.h=hAt h0 T T.length++st.h.drop (hAt h0 T T.length).length)) →
    StepP P ev ops e0 h0 (T++[t]) T.length:=fun t htd hts hor=>by
   have htk:(T++[t]).take T.length=T:=by simp
   have hha:hAt h0 (T++[t]) T.length=hAt h0 T T.length:=hAt_append (Nat.le_refl _)
   refine ⟨o,t,ho,by simp,by rw [hd,htd],fun k u hk hu=>?_,hs.back,hts,?_⟩
   ·rw [List.getElem?_append_left hk] at hu
    intro e
    exact hs.dst d hd k hk (by rw [hdT k u hu,e,htd])
   ·rw [htk,hha,hts];exact hor
  split at h
  ·cases h
  ·rename_i hw
   exact next .skip _ (base ⟨d,.skip,_,_⟩ rfl rfl (.inl ⟨by rw [← hag.2];exact hw,rfl,rfl⟩)) h
  ·rename_i hw
   split at h
   ·cases h
   rename_i pv st hstep
   split at h
   ·rename_i hlo
    have hkp:=step_keep hk hstep
    refine next pv st.h (base ⟨d,pv,_,_⟩ rfl rfl (.inr ⟨by rw [← hag.2];exact hw,st,?_,hlo,hkp.eq_append hlo⟩)) h
    rw [← evStep_congr hag.1];exact hstep
   ·cases h
theorem dst_of_tail {X:Xp} {ev:CallE} {ops:Array Oper} {e0:Env} {T:List Tr} {st0:St} {U:List Tl} (hU:∀ q,q < U.length→TailP P X ev ops e0 T st0 U q):∀ q u,U[q]?=some u→dstAt ops (T.length+q)=u.d:=fun q u hu=>by
 obtain ⟨o,t',h1,h2,h3,_⟩:=hU q (List.getElem?_eq_some_iff.1 hu).1
 rw [hu] at h2;cases h2
 unfold dstAt;rw [h1];exact h3
theorem evU_spec {X:Xp} {ev:CallE} {ops:Array Oper} (hXp:X.A=(pairOf ops).1∧X.B=(pairOf ops).2) {e0:Env} {T:List Tr} {st0:St} (hst:statOk ops T.length=true) (hdT:∀ k t,T[k]?=some t→dstAt ops k=some t.d):∀ {l:List Oper} {U:List Tl} {e':Env} {sts:List St},(∀ j o,l[j]?=some o→ops[T.length+U.length+j]?=some o) →
  (∀ q,q < U.length→TailP P X ev ops e0 T st0 U q)→evU P ev ops l (setU (setAll e0 T) U) (stAt st0 U U.length)=some (e',sts) →
  ∃ V:List Tl,V.map (·.st)=sts∧V.length=l.length∧(∀ q,q < (U++V).length→TailP P X ev ops e0 T st0 (U++V) q)∧e'=setU (setAll e0 T) (U++V)
 | [],U,e',sts,hl,hU,h=>by cases h;exact ⟨[],rfl,rfl,by simpa using hU,by simp⟩
 | o :: r,U,e',sts,hl,hU,h=>by
  have ho:ops[T.length+U.length]?=some o:=hl 0 o rfl
  have hs:=stat_at hst ho
  have hdU:=dst_of_tail hU
  have hag:=reads_lk fun t ht=>(stat_envT (e0:=e0) hs (Nat.le_refl _) hdT hdU ht).symm
  have next:∀ (u:Tl) (sts':List St),sts=u.st :: sts'→TailP P X ev ops e0 T st0 (U++[u]) U.length→evU P ev ops r (setE (setU (setAll e0 T) U) u.d u.pv) u.st=some (e',sts') →
    ∃ V:List Tl,V.map (·.st)=sts∧V.length=(o :: r).length∧(∀ q,q < (U++V).length→TailP P X ev ops e0 T st0 (U++V) q)∧e'=setU (setAll e0 T) (U++V):=fun u sts' hsts hsp hrun=>by
   obtain ⟨V,a1,a2,a3,a4⟩:=evU_spec hXp hst hdT (l:=r) (U:=U++[u]) (e':=e') (sts:=sts') (fun j o' hj=>by
     have:=hl (j+1) o' (by simpa using hj)
     rw [List.length_append,List.length_singleton,show T.length+(U.length+1)+j=T.length+U.length+(j+1) by omega];exact this)
    (fun i hi=>by
      rw [List.length_append,List.length_singleton] at hi
      by_cases e:i < U.length
      ·exact (hU i e).append e
      ·have:i=U.length:=by omega
       subst this;exact hsp)
    (by
      rw [setU_snoc]
      have:stAt st0 (U++[u]) (U++[u]:List Tl).length=u.st:=by
       rw [List.length_append,List.length_singleton];simp [stAt]
      rw [this];exact hrun)
   refine ⟨u :: V,by simp [a1,hsts],by simp [a2],?_,?_⟩
   ·rw [List.append_assoc] at a3;exact a3
   ·rw [List.append_assoc] at a4;exact a4
  have base:∀ u:Tl,u.d=o.dst→u.s=(clos ops).getD (T.length+U.length) 0 →
    ((wantedE ops (envT e0 T U ((clos ops).getD (T.length+U.length) 0) (laterD (clos ops) (T.length+U.length) (ops.toList.drop (T.length+U.length+1)) (T.length+U.length+1))) o=some false∧u.pv=.skip∧u.st=stAt st0 U U.length) ∨
     (wantedE ops (envT e0 T U ((clos ops).getD (T.length+U.length) 0) (laterD (clos ops) (T.length+U.length) (ops.toList.drop (T.length+U.length+1)) (T.length+U.length+1))) o=some true∧evStep P ev (envT e0 T U ((clos ops).getD (T.length+U.length) 0) (laterD (clos ops) (T.length+U.length) (ops.toList.drop (T.length+U.length+1)) (T.length+U.length+1))) (stAt st0 U U.length) o=some (u.pv,u.st))) →
    TailP P X ev ops e0 T st0 (U++[u]) U.length:=fun u hud hus hor=>by
   have htk:(U++[u]).take U.length=U:=by simp
   have hha:stAt st0 (U++[u]) U.length=stAt st0 U U.length:=stAt_append (Nat.le_refl _)
   refine ⟨o,u,ho,by simp,hud.symm,fun d hd=>⟨fun t ht e=>?_,fun k v hk hv e=>?_⟩,hs.back,hus,fun hf k hk hsk=>by rw [hus,hXp.1,hXp.2];exact hs.sens (by omega) hf k hk hsk,?_⟩
   ·obtain ⟨k,hk,rfl⟩:=List.mem_iff_getElem.1 ht
    exact hs.dst d (by rw [← hud,hd]) k (by omega) (by rw [hdT k T[k] (by simp),e])
   ·rw [List.getElem?_append_left hk] at hv
    exact hs.dst d (by rw [← hud,hd]) (T.length+k) (by omega) (by rw [hdU k v hv,e])
   ·rw [htk,hha,hus];exact hor
  simp only [evU] at h
  split at h
  ·cases h
  ·rename_i hw
   split at h
   ·rename_i e1 l1 hrun
    cases h
    exact next ⟨o.dst,.skip,(clos ops).getD (T.length+U.length) 0,stAt st0 U U.length⟩ l1 rfl (base _ rfl rfl (.inl ⟨by rw [← hag.2];exact hw,rfl,rfl⟩)) hrun
   ·cases h
  ·rename_i hw
   split at h
   ·cases h
   rename_i pv st' hstep
   split at h
   ·rename_i e1 l1 hrun
    cases h
    refine next ⟨o.dst,pv,(clos ops).getD (T.length+U.length) 0,st'⟩ l1 rfl (base _ rfl rfl (.inr ⟨by rw [← hag.2];exact hw,?_⟩)) hrun
    rw [← evStep_congr hag.1];exact hstep
   ·cases h
end Ev
end Go.Proofs.Ytcpodmjcgfgmnaa
namespace Go.Proofs.Ytcpodmjcgfgmnaa
open Go.RowKit
namespace Ev
variable {P:Program}
theorem sensIdx_mem {ops:Array Oper} {k:Nat}:k∈sensIdx ops↔sensAt ops k=true:=by
 unfold sensIdx
 rw [List.mem_filter,List.mem_range]
 refine ⟨fun h=>h.2,fun h=>⟨?_,h⟩⟩
 unfold sensAt at h
 split at h
 ·rename_i o ho;exact (Array.getElem?_eq_some_iff.1 ho).1
 ·cases h
theorem mem_loads {ops:Array Oper} {n0 i q:Nat} {o:Oper} (ho:ops[i]?=some o) (hl:isLoad o.op=true) (hq:q∈qsOf (sensIdx ops) n0) (ha:allowed ops n0 i q=true) (hn:quietB (sensIdx ops) n0 i q=false):(i,q)∈floatsL ops n0:=by
 unfold floatsL
 refine List.mem_flatMap.2 ⟨i,?_,List.mem_map.2 ⟨q,List.mem_filter.2 ⟨hq,?_⟩,rfl⟩⟩
 ·unfold loadIdx
  refine List.mem_filter.2 ⟨List.mem_range.2 (Array.getElem?_eq_some_iff.1 ho).1,?_⟩
  simp only [ho,hl]
 ·rw [allowedS_eq,ha,hn];rfl
theorem near_q (ops:Array Oper) (n0:Nat):∀ q,∃ q',q'∈qsOf (sensIdx ops) n0∧q'≤q∧∀ k,n0+q'≤k→k < n0+q→sensAt ops k=false
 | 0=>⟨0,by simp [qsOf],Nat.le_refl _,fun k h1 h2=>by omega⟩
 | q+1=>by
  cases hs:sensAt ops (n0+q) with
  | true =>
   refine ⟨q+1,?_,Nat.le_refl _,fun k h1 h2=>by omega⟩
   simp only [qsOf,List.mem_cons,List.mem_map,List.mem_filter]
   exact .inr ⟨n0+q,⟨sensIdx_mem.2 hs,by simp⟩,by omega⟩
  | false =>
   obtain ⟨q',h1,h2,h3⟩:=near_q ops n0 q
   refine ⟨q',h1,by omega,fun k g1 g2=>?_⟩
   by_cases e:k=n0+q
   ·subst e;exact hs
   ·exact h3 k g1 (by omega)
theorem allowed_near {ops:Array Oper} {n0 i q q':Nat} (h:allowed ops n0 i q=true) (hle:q'≤q) (hn:∀ k,n0+q'≤k→k < n0+q→sensAt ops k=false):allowed ops n0 i q'=true:=by
 unfold allowed at *
 rw [List.all_eq_true] at *
 intro k hk
 have h1:=h k hk
 cases hs:sensC ops n0 k with
 | false=>rfl
 | true =>
  rw [hs] at h1
  simp only [Bool.not_true,Bool.false_or] at h1 ⊢
  by_cases c1:k < n0+q'
  ·rw [if_pos c1];rw [if_pos (by omega)] at h1;exact h1
  ·rw [if_neg c1]
   by_cases c2:k < n0+q
   ·have:=hn k (by omega) c2;rw [sensC_sens hs] at this;cases this
   ·rw [if_neg c2] at h1;exact h1
theorem quiet_no {ops:Array Oper} {n0 i q:Nat} (h:quietB (sensIdx ops) n0 i q=true) {k:Nat} (hk:max i n0≤k∧k < n0+q∨n0+q≤k∧k < i):sensAt ops k=false:=by
 cases hs:sensAt ops k with
 | false=>rfl
 | true =>
  have:=List.all_eq_true.1 h k (sensIdx_mem.2 hs)
  simp only [Bool.not_eq_true',Bool.or_eq_false_iff,Bool.and_eq_false_iff] at this
  rcases hk with ⟨h1,h2⟩ | ⟨h1,h2⟩
  ·have e1:Nat.ble (max i n0) k=true:=by simpa using h1
   have e2:Nat.blt k (n0+q)=true:=by simpa [Nat.blt_eq] using h2
   rcases this.1 with h | h
   ·rw [e1] at h;cases h
   ·rw [e2] at h;cases h
  ·have e1:Nat.ble (n0+q) k=true:=by simpa using h1
   have e2:Nat.blt k i=true:=by simpa [Nat.blt_eq] using h2
   rcases this.2 with h | h
   ·rw [e1] at h;cases h
   ·rw [e2] at h;cases h
variable (P)
def float1 (ops:Array Oper) (e:Env) (sts:List St) (p:Nat × Nat):Bool:=match ops[p.1]?,sts[p.2]? with
 | some o,some st=>(match o.dst with
  | some d=>(match e[d]? with
   | some .skip=>true
   | some pv=>sameLd (evLd P (lk e) st o) pv
   | none=>false)
  | none=>false)
 | _,_=>false
variable {P}
theorem evLd_congr {e e':Look} {st:St} {o:Oper} (h:∀ x∈o.op.operands.toList,evX e x=evX e' x):evLd P e st o=evLd P e' st o:=by
 unfold evLd
 split
 ·rename_i T x ho
  rw [ho] at h
  rw [cellX_congr (h x (by simp [Op.operands]))]
 ·rfl
theorem evLd_more {e:Look} {h h':List O} {lo lo':Nat} {o:Oper} {s:S} (hs:evLd P e ⟨h,lo⟩ o=some s) (hp:∃ L,h'=h++L):evLd P e ⟨h',lo'⟩ o=some s:=by
 obtain ⟨L,rfl⟩:=hp
 unfold evLd at *
 split at hs
 ·split at hs
  ·rename_i i off _
   unfold evLoad at *
   split at hs
   ·cases hs
   rename_i ob hob
   have hi:i < h.length:=(List.getElem?_eq_some_iff.1 hob).1
   simp only [List.getElem?_append_left hi,hob]
   exact hs
  ·cases hs
 ·cases hs
theorem stAt_sts {st0:St} {U:List Tl} {q:Nat} (hq:q≤U.length):(st0 :: U.map (·.st))[q]?=some (stAt st0 U q):=by
 cases q with
 | zero=>rfl
 | succ q =>
  have hlt:q < U.length:=by omega
  simp [stAt,hlt]
theorem drop_mem {α:Type} {l:List α} {n:Nat} {u:α} (h:u∈l.drop n):∃ q,l[n+q]?=some u:=by
 obtain ⟨q,hq⟩:=List.getElem?_of_mem h
 exact ⟨q,by rwa [List.getElem?_drop] at hq⟩
section
variable {X:Xp} {ev:CallE} {ops:Array Oper} {e0:Env} {h0:List O} {T:List Tr} {U:List Tl} {lo:Nat}
theorem final_reads (hdT:∀ k t,T[k]?=some t→dstAt ops k=some t.d) (hdU:∀ q u,U[q]?=some u→dstAt ops (T.length+q)=u.d) {i:Nat} {t:Tmp} (hno:∀ k,i≤k→dstAt ops k≠some t) :
  (i≤T.length→(setU (setAll e0 T) U)[t]?=(setAll e0 (T.take i))[t]?)∧(T.length≤i→(setU (setAll e0 T) U)[t]?=(setU (setAll e0 T) (U.take (i - T.length)))[t]?):=by
 refine ⟨fun hi=>?_,fun hi=>?_⟩
 ·have e1:(setU (setAll e0 T) U)[t]?=(setAll e0 T)[t]?:=setU_off fun u hu e=>by
   obtain ⟨q,hq,rfl⟩:=List.mem_iff_getElem.1 hu
   exact hno (T.length+q) (by omega) (by rw [hdU q U[q] (by simp),e])
  rw [e1]
  have:setAll e0 T=setAll (setAll e0 (T.take i)) (T.drop i):=by rw [← setAll_append,List.take_append_drop]
  rw [this]
  exact setAll_off fun u hu e=>by
   obtain ⟨q,hq⟩:=drop_mem hu
   exact hno (i+q) (by omega) (by rw [hdT (i+q) _ hq,e])
 ·have:setU (setAll e0 T) U=setU (setU (setAll e0 T) (U.take (i - T.length))) (U.drop (i - T.length)):=by rw [← setU_append,List.take_append_drop]
  rw [this]
  exact setU_off fun u hu e=>by
   obtain ⟨q,hq⟩:=drop_mem hu
   exact hno (T.length+(i - T.length+q)) (by omega) (by rw [hdU (i - T.length+q) _ hq,e])
theorem noLater_spec {i:Nat} (h1:noLater ops i=true) {o:Oper} (ho:ops[i]?=some o) {t:Tmp} (ht:t∈readsOf ops o):∀ k,i≤k→dstAt ops k≠some t:=fun k hk e=>by
 unfold noLater at h1
 simp only [ho] at h1
 have h2:=offs_spec (List.all_eq_true.1 h1 t ht) (k - i)
 rw [List.getElem?_drop,show i+(k - i)=k by omega] at h2
 exact h2 (dsts_get e)
theorem no_later (hst:statOk ops T.length=true) {i q:Nat} (hm:(i,q)∈floatsL ops T.length) {o:Oper} (ho:ops[i]?=some o) {t:Tmp} (ht:t∈readsOf ops o):∀ k,i≤k→dstAt ops k≠some t:=fun k hk e=>by
 simp only [statOk,Bool.and_eq_true] at hst
 exact noLater_spec (List.all_eq_true.1 hst.1.2 (i,q) hm) ho ht k hk e
theorem final_T (hst:statOk ops T.length=true) (hdT:∀ k t,T[k]?=some t→dstAt ops k=some t.d) (hdU:∀ q u,U[q]?=some u→dstAt ops (T.length+q)=u.d) (hsz:T.length+U.length=ops.size) {i:Nat} {t:Tr} (ht:T[i]?=some t) (hlt:t.d < e0.length) :
  (setU (setAll e0 T) U)[t.d]?=some t.pv:=by
 have hi:i < T.length:=(List.getElem?_eq_some_iff.1 ht).1
 have hno:∀ k,i < k→dstAt ops k≠some t.d:=fun k hk e=>by
  have hko:∃ o,ops[k]?=some o∧o.dst=some t.d:=by
   unfold dstAt at e
   split at e
   ·exact ⟨_,by assumption,e⟩
   ·cases e
  obtain ⟨o,h1,h2⟩:=hko
  exact (stat_at hst h1).dst _ h2 i hk (hdT i t ht)
 have e1:(setU (setAll e0 T) U)[t.d]?=(setAll e0 T)[t.d]?:=setU_off fun u hu e=>by
  obtain ⟨q,hq,rfl⟩:=List.mem_iff_getElem.1 hu
  exact hno (T.length+q) (by omega) (by rw [hdU q U[q] (by simp),e])
 rw [e1]
 have:setAll e0 T=setAll (setAll e0 (T.take (i+1))) (T.drop (i+1)):=by rw [← setAll_append,List.take_append_drop]
 rw [this,setAll_off fun u hu e=>by
  obtain ⟨q,hq⟩:=drop_mem hu
  exact hno (i+1+q) (by omega) (by rw [hdT (i+1+q) _ hq,e])]
 have e2:T.take (i+1)=T.take i++[t]:=by
  rw [List.take_add_one,ht];rfl
 rw [e2,setAll_snoc,List.getElem?_set_self (by rw [setAll_len];exact hlt)]
theorem final_U (hst:statOk ops T.length=true) (_hdT:∀ k t,T[k]?=some t→dstAt ops k=some t.d) (hdU:∀ q u,U[q]?=some u→dstAt ops (T.length+q)=u.d) {i:Nat} {u:Tl} (hu:U[i]?=some u) {d:Tmp} (hd:u.d=some d) (hlt:d < e0.length) :
  (setU (setAll e0 T) U)[d]?=some u.pv:=by
 have hi:i < U.length:=(List.getElem?_eq_some_iff.1 hu).1
 have hno:∀ k,T.length+i < k→dstAt ops k≠some d:=fun k hk e=>by
  have hko:∃ o,ops[k]?=some o∧o.dst=some d:=by
   unfold dstAt at e
   split at e
   ·exact ⟨_,by assumption,e⟩
   ·cases e
  obtain ⟨o,h1,h2⟩:=hko
  exact (stat_at hst h1).dst _ h2 _ hk (by rw [hdU i u hu,hd])
 have:setU (setAll e0 T) U=setU (setU (setAll e0 T) (U.take (i+1))) (U.drop (i+1)):=by rw [← setU_append,List.take_append_drop]
 rw [this,setU_off fun v hv e=>by
  obtain ⟨q,hq⟩:=drop_mem hv
  exact hno (T.length+(i+1+q)) (by omega) (by rw [hdU (i+1+q) _ hq,e])]
 have e2:U.take (i+1)=U.take i++[u]:=by
  rw [List.take_add_one,hu];rfl
 rw [e2,setU_snoc,hd]
 simp only [setE]
 rw [List.getElem?_set_self (by rw [setU_len,setAll_len];exact hlt)]
theorem float_at (h:(floatsL ops T.length).all (float1 P ops (setU (setAll e0 T) U) (⟨hAt h0 T T.length,lo⟩ :: U.map (·.st)))=true) {i q:Nat} {o:Oper} {d:Tmp} {pv:PV} (hm:(i,q)∈floatsL ops T.length) (hq:q≤U.length) (ho:ops[i]?=some o) (hd:o.dst=some d)
  (hpv:(setU (setAll e0 T) U)[d]?=some pv) (hne:pv≠.skip):∃ s,evLd P (lk (setU (setAll e0 T) U)) (stAt ⟨hAt h0 T T.length,lo⟩ U q) o=some s∧pv=.s s:=by
 have:=List.all_eq_true.1 h (i,q) hm
 unfold float1 at this
 simp only [ho,stAt_sts hq,hd,hpv] at this
 obtain ⟨s,h1,h2⟩:=sameLd_spec this
 exact ⟨s,h1,h2⟩
theorem loads_T (hst:statOk ops T.length=true) (hT:∀ i,i < T.length→StepP P ev ops e0 h0 T i) (hU:∀ q,q < U.length→TailP P X ev ops e0 T ⟨hAt h0 T T.length,lo⟩ U q) (hsz:T.length+U.length=ops.size) (hlt:∀ (i:Nat) (o:Oper) (d:Tmp),ops[i]?=some o→o.dst=some d→d < e0.length)
  (hf:(floatsL ops T.length).all (float1 P ops (setU (setAll e0 T) U) (⟨hAt h0 T T.length,lo⟩ :: U.map (·.st)))=true):LoadsT P ops e0 T U ⟨hAt h0 T T.length,lo⟩:=by
 intro i o t ho ht hl hne q hq ha
 have hdT:=dst_of_step hT
 have hdU:=dst_of_tail hU
 have hi:i < T.length:=(List.getElem?_eq_some_iff.1 ht).1
 have hs:=stat_at hst ho
 obtain ⟨o',t',g1,g2,g3,g4,g5,g6,g7⟩:=hT i hi
 rw [ho] at g1;cases g1
 rw [ht] at g2;cases g2
 have hlen:(T.take i).length=i:=by rw [List.length_take];omega
 have hdTi:∀ k u,(T.take i)[k]?=some u→dstAt ops k=some u.d:=fun k u hu=>by
  rw [List.getElem?_take] at hu
  split at hu
  ·exact hdT k u hu
  ·cases hu
 have hag:∀ q,(i,q)∈floatsL ops T.length→∀ x∈o.op.operands.toList,evX (lk (envAt e0 (T.take i) ((clos ops).getD i 0) (laterD (clos ops) i (ops.toList.drop (i+1)) (i+1)))) x=evX (lk (setU (setAll e0 T) U)) x:=fun q hm =>
  (reads_lk fun z hz=>by rw [stat_env hs (by omega) hdTi hz,(final_reads hdT hdU (no_later hst hm ho hz)).1 (by omega)]).1
 obtain ⟨q',n1,n2,n3⟩:=near_q ops T.length q
 have ha':=allowed_near ha n2 n3
 have hsame:stAt ⟨hAt h0 T T.length,lo⟩ U q=stAt ⟨hAt h0 T T.length,lo⟩ U q':=stAt_run hU n2 hq n3
 rw [hsame,g6]
 cases hqb:quietB (sensIdx ops) T.length i q' with
 | false =>
  have hm:=mem_loads ho hl n1 ha' hqb
  obtain ⟨s,h1,h2⟩:=float_at hf hm (by omega) ho g3 (final_T hst hdT hdU hsz ht (hlt i o _ ho g3)) hne
  exact ⟨s,by rw [evLd_congr (hag _ hm)];exact h1,h2⟩
 | true =>
  rcases g7 with ⟨_,h,_⟩ | ⟨_,st,h,_⟩
  ·exact absurd h hne
  ·obtain ⟨s,h1,h2⟩:=step_ld hl h
   refine ⟨s,?_,h2⟩
   have hs0:stAt ⟨hAt h0 T T.length,lo⟩ U q'=⟨hAt h0 T T.length,lo⟩:=stAt_run hU (Nat.zero_le _) (by omega) fun k k1 k2=>quiet_no hqb (.inl ⟨by omega,k2⟩)
   rw [hs0]
   rw [g6] at h1
   exact evLd_more h1 (pre_h hT (show i≤T.length by omega) (Nat.le_refl _))
theorem loads_U (hst:statOk ops T.length=true) (hT:∀ i,i < T.length→StepP P ev ops e0 h0 T i) (hU:∀ q,q < U.length→TailP P X ev ops e0 T ⟨hAt h0 T T.length,lo⟩ U q) (hsz:T.length+U.length=ops.size) (hlt:∀ (i:Nat) (o:Oper) (d:Tmp),ops[i]?=some o→o.dst=some d→d < e0.length)
  (hld:∀ (i:Nat) (o:Oper),ops[i]?=some o→isLoad o.op=true→o.dst≠none)
  (hf:(floatsL ops T.length).all (float1 P ops (setU (setAll e0 T) U) (⟨hAt h0 T T.length,lo⟩ :: U.map (·.st)))=true):LoadsU P ops e0 T U ⟨hAt h0 T T.length,lo⟩:=by
 intro j o u ho hu hl hne q hq ha
 have hdT:=dst_of_step hT
 have hdU:=dst_of_tail hU
 have hj:j < U.length:=(List.getElem?_eq_some_iff.1 hu).1
 have hs:=stat_at hst ho
 obtain ⟨o',u',g1,g2,g3,g4,g5,g6,g7,g8⟩:=hU j hj
 rw [ho] at g1;cases g1
 rw [hu] at g2;cases g2
 have hdUi:∀ k v,(U.take j)[k]?=some v→dstAt ops (T.length+k)=v.d:=fun k v hv=>by
  rw [List.getElem?_take] at hv
  split at hv
  ·exact hdU k v hv
  ·cases hv
 have hag:∀ q,(T.length+j,q)∈floatsL ops T.length→∀ x∈o.op.operands.toList,evX (lk (envT e0 T (U.take j) ((clos ops).getD (T.length+j) 0) (laterD (clos ops) (T.length+j) (ops.toList.drop (T.length+j+1)) (T.length+j+1)))) x=evX (lk (setU (setAll e0 T) U)) x:=fun q hm =>
  (reads_lk fun z hz=>by
    rw [stat_envT hs (by rw [List.length_take];omega) hdT hdUi hz]
    have:=(final_reads (e0:=e0) hdT hdU (no_later hst hm ho hz)).2 (by omega)
    rw [this,show T.length+j - T.length=j by omega]).1
 obtain ⟨q',n1,n2,n3⟩:=near_q ops T.length q
 have ha':=allowed_near ha n2 n3
 have hsame:stAt ⟨hAt h0 T T.length,lo⟩ U q=stAt ⟨hAt h0 T T.length,lo⟩ U q':=stAt_run hU n2 hq n3
 rw [hsame,g6]
 cases hqb:quietB (sensIdx ops) T.length (T.length+j) q' with
 | false =>
  cases hd:o.dst with
  | none=>exact absurd hd (hld _ o ho hl)
  | some d =>
   have hm:=mem_loads ho hl n1 ha' hqb
   obtain ⟨s,h1,h2⟩:=float_at hf hm (by omega) ho hd (final_U hst hdT hdU hu (by rw [← g3,hd]) (hlt _ o d ho hd)) hne
   exact ⟨s,by rw [evLd_congr (hag _ hm)];exact h1,h2⟩
 | true =>
  rcases g8 with ⟨_,h,_⟩ | ⟨_,h⟩
  ·exact absurd h hne
  ·obtain ⟨s,h1,h2⟩:=step_ld hl h
   refine ⟨s,?_,h2⟩
   rw [g6] at h1
   have hst':stAt ⟨hAt h0 T T.length,lo⟩ U q'=stAt ⟨hAt h0 T T.length,lo⟩ U j:=by
    by_cases c:q'≤j
    ·exact (stAt_run hU c (by omega) fun k k1 k2=>quiet_no hqb (.inr ⟨k1,k2⟩)).symm
    ·exact stAt_run hU (by omega) (by omega) fun k k1 k2=>quiet_no hqb (.inl ⟨by omega,k2⟩)
   rw [hst'];exact h1
end
theorem evStore_inv {st st':St} {T:TypeId} {i off:Nat} {s:S} (h:evStore P st T i off s=some st'):∃ o,st.h[i]?=some o∧∃ o',st'=⟨st.h.set i o',min st.lo i⟩∧∀ st2:St,st2.h[i]?=some o→evStore P st2 T i off s=some ⟨st2.h.set i o',min st2.lo i⟩:=by
 unfold evStore at h
 split at h
 ·cases h
 rename_i o ho
 split at h
 ·cases h
 rename_i hlr
 split at h
 ·cases h
 rename_i n hn
 split at h
 ·rename_i hc
  cases h
  refine ⟨o,ho,_,rfl,fun st2 h2=>?_⟩
  unfold evStore
  simp only [h2,if_neg hlr,hn,if_pos hc]
 ·cases h
theorem store_comm {st a b c:St} {T T':TypeId} {i j off off':Nat} {s s':S} (h1:evStore P st T i off s=some a) (h2:evStore P a T' j off' s'=some c) (h3:evStore P st T' j off' s'=some b) (hij:i≠j):evStore P b T i off s=some c:=by
 obtain ⟨o1,e1,n1,rfl,all1⟩:=evStore_inv h1
 obtain ⟨o2,e2,n2,rfl,all2⟩:=evStore_inv h3
 have:=all2 ⟨st.h.set i n1,min st.lo i⟩ (by show (st.h.set i n1)[j]?=_;rw [List.getElem?_set_ne hij];exact e2)
 rw [h2] at this
 rw [this,all1 ⟨st.h.set j n2,min st.lo j⟩ (by show (st.h.set j n2)[i]?=_;rw [List.getElem?_set_ne (Ne.symm hij)];exact e1)]
 simp only [Option.some.injEq,St.mk.injEq]
 exact ⟨(List.set_comm n1 n2 hij).symm,by omega⟩
theorem step_store {ev:CallE} {e:Look} {st st':St} {o:Oper} {T:TypeId} {x y:Operand} {pv:PV} (ho:o.op=.store T x y) (h:evStep P ev e st o=some (pv,st')) :
  ∃ i off s,cellX e x=some (.ptr i off)∧evX e y=some (.s s)∧evStore P st T i off s=some st'∧pv=.skip:=by
 rw [evStep_old] at h
 unfold evStepO at h
 simp only [ho,evOp] at h
 split at h
 ·rename_i i off s hc hs
  split at h
  ·rename_i st1 h1
   cases h
   exact ⟨i,off,s,hc,hs,h1,rfl⟩
  ·cases h
 ·cases h
theorem step_store_mk {ev:CallE} {e:Look} {st st':St} {o:Oper} {T:TypeId} {x y:Operand} {i off:Nat} {s:S} (ho:o.op=.store T x y) (hc:cellX e x=some (.ptr i off)) (hs:evX e y=some (.s s)) (h:evStore P st T i off s=some st') :
  evStep P ev e st o=some (.skip,st'):=by
 rw [evStep_old]
 unfold evStepO
 simp only [ho,evOp,hc,hs,h]
variable (P)
def xState (ops:Array Oper) (n0:Nat) (e:Env) (sts:List St):Option St:=match ops[(pairOf ops).1]?,ops[(pairOf ops).2]?,sts[(pairOf ops).1 - n0]? with
 | some a,some b,some st=>(match a.op,b.op with
  | .store _ x _,.store T' x' y'=>(match cellX (lk e) x,cellX (lk e) x',evX (lk e) y' with
   | some (.ptr i _),some (.ptr j off),some (.s s)=>if i=j then none else evStore P st T' j off s
   | _,_,_=>none)
  | _,_=>none)
 | _,_,_=>none
def xCheck (ops:Array Oper) (n0:Nat) (e:Env) (sts:List St):Bool:=if Nat.blt (pairOf ops).1 (pairOf ops).2 then (match xState P ops n0 e sts with
  | some st=>(xFloats ops (pairOf ops)).all fun i=>float1 P ops e [st] (i,0)
  | none=>false) else true
variable {P}
theorem xFloats_mem {p:Nat × Nat} {i:Nat} {o:Oper} {ops:Array Oper} (ho:ops[i]?=some o) (hl:isLoad o.op=true) (b1:((clos ops).getD p.2 0).testBit i=false) (b2:((clos ops).getD i 0).testBit p.1=false):i∈xFloats ops p:=by
 unfold xFloats
 refine List.mem_filter.2 ⟨?_,by rw [b1,b2];rfl⟩
 unfold loadIdx
 refine List.mem_filter.2 ⟨List.mem_range.2 (Array.getElem?_eq_some_iff.1 ho).1,?_⟩
 simp only [ho,hl]
theorem float_one {ops:Array Oper} {e:Env} {st:St} {i:Nat} {o:Oper} {d:Tmp} {pv:PV} (h:float1 P ops e [st] (i,0)=true) (ho:ops[i]?=some o) (hd:o.dst=some d) (hpv:e[d]?=some pv) (hne:pv≠.skip):∃ s,evLd P (lk e) st o=some s∧pv=.s s:=by
 unfold float1 at h
 simp only [ho,List.getElem?_cons_zero,hd,hpv] at h
 obtain ⟨s,h1,h2⟩:=sameLd_spec h
 exact ⟨s,h1,h2⟩
theorem isStoreO_spec {o:Oper} (h:isStoreO o=true):(∃ T x y,o.op=.store T x y)∧o.dst=none∧o.guard=none:=by
 unfold isStoreO at h
 split at h
 ·rename_i T x y ho
  simp only [Bool.and_eq_true,Option.isNone_iff_eq_none] at h
  exact ⟨⟨T,x,y,ho⟩,h.1,h.2⟩
 ·cases h
theorem storeAt_spec {ops:Array Oper} {k:Nat} (h:storeAt ops k=true):∃ o,ops[k]?=some o∧isStoreO o=true:=by
 unfold storeAt at h
 split at h
 ·rename_i o ho;exact ⟨o,ho,h⟩
 ·cases h
section
variable {X:Xp} {ev:CallE} {ops:Array Oper} {e0:Env} {h0:List O} {T:List Tr} {U:List Tl} {lo:Nat}
theorem x_ok (hst:statOk ops T.length=true) (hXA:X.A=(pairOf ops).1) (hXB:X.B=(pairOf ops).2) (hab:X.A < X.B) (hT:∀ i,i < T.length→StepP P ev ops e0 h0 T i) (hU:∀ q,q < U.length→TailP P X ev ops e0 T ⟨hAt h0 T T.length,lo⟩ U q) (hsz:T.length+U.length=ops.size)
  (hlt:∀ (i:Nat) (o:Oper) (d:Tmp),ops[i]?=some o→o.dst=some d→d < e0.length) (hld:∀ (i:Nat) (o:Oper),ops[i]?=some o→isLoad o.op=true→o.dst≠none)
  (hxs:xState P ops T.length (setU (setAll e0 T) U) (⟨hAt h0 T T.length,lo⟩ :: U.map (·.st))=some X.st) (hf:(xFloats ops (pairOf ops)).all (fun i=>float1 P ops (setU (setAll e0 T) U) [X.st] (i,0))=true) :
  XOk P X ev ops e0 T U ⟨hAt h0 T T.length,lo⟩:=by
 have hdT:=dst_of_step hT
 have hdU:=dst_of_tail hU
 have hps:pairStat ops T.length=true:=by
  simp only [statOk,Bool.and_eq_true] at hst;exact hst.2
 unfold pairStat at hps
 rw [if_pos (by rw [Nat.blt_eq,← hXA,← hXB];exact hab),← hXA,← hXB] at hps
 simp only [Bool.and_eq_true,Nat.ble_eq,Nat.blt_eq] at hps
 obtain ⟨⟨⟨⟨⟨⟨⟨p1,p2⟩,p3⟩,p4⟩,p5⟩,p6⟩,p7⟩,p8⟩:=hps
 obtain ⟨oA,hoA,hsA⟩:=storeAt_spec p3
 obtain ⟨oB,hoB,hsB⟩:=storeAt_spec p4
 obtain ⟨⟨TA,xA,yA,hopA⟩,hdA,hgA⟩:=isStoreO_spec hsA
 obtain ⟨⟨TB,xB,yB,hopB⟩,hdB,hgB⟩:=isStoreO_spec hsB
 have hlast:∀ k,sensAt ops k=true→k≠X.A→k≠X.B→k < X.A:=fun k hk k1 k2=>by
  have:=List.all_eq_true.1 p8 k (sensIdx_mem.2 hk)
  simp only [Bool.or_eq_true,Nat.beq_eq,Nat.blt_eq] at this
  omega
 have reads:∀ {k:Nat} {o:Oper},T.length≤k→ops[k]?=some o→noLater ops k=true→∀ x∈o.op.operands.toList,evX (lk (envT e0 T (U.take (k - T.length)) ((clos ops).getD k 0) (laterD (clos ops) k (ops.toList.drop (k+1)) (k+1)))) x=evX (lk (setU (setAll e0 T) U)) x:=fun {k o} hk ho hnl=>by
  have hs:=stat_at hst ho
  have hdUi:∀ q v,(U.take (k - T.length))[q]?=some v→dstAt ops (T.length+q)=v.d:=fun q v hv=>by
   rw [List.getElem?_take] at hv
   split at hv
   ·exact hdU q v hv
   ·cases hv
  exact (reads_lk fun z hz=>by
   rw [stat_envT hs (by rw [List.length_take];omega) hdT hdUi hz]
   exact ((final_reads (e0:=e0) hdT hdU (noLater_spec hnl ho hz)).2 hk).symm).1
 have run:∀ {k:Nat} {o:Oper},T.length≤k→k < T.length+U.length→ops[k]?=some o→o.guard=none→∃ u,U[k - T.length]?=some u∧u.s=(clos ops).getD k 0∧wantedE ops (envT e0 T (U.take (k - T.length)) u.s (laterD (clos ops) k (ops.toList.drop (k+1)) (k+1))) o=some true ∧
   evStep P ev (envT e0 T (U.take (k - T.length)) u.s (laterD (clos ops) k (ops.toList.drop (k+1)) (k+1))) (stAt ⟨hAt h0 T T.length,lo⟩ U (k - T.length)) o=some (u.pv,u.st):=fun {k o} hk hk2 ho hg=>by
  obtain ⟨o',u,g1,g2,g3,g4,g5,g6,g7,g8⟩:=hU (k - T.length) (by omega)
  have ek:T.length+(k - T.length)=k:=by omega
  rw [ek] at g1 g6 g8
  rw [ho] at g1;cases g1
  rcases g8 with ⟨h,_⟩ | ⟨h1,h2⟩
  ·simp [wantedE,hg] at h
  ·exact ⟨u,g2,g6,h1,h2⟩
 obtain ⟨uA,huA,hsuA,hwA,hrA⟩:=run p1 (by omega) hoA hgA
 obtain ⟨uB,huB,hsuB,hwB,hrB⟩:=run (by omega) (by omega) hoB hgB
 have rA:=reads p1 hoA p5
 have rB:=reads (show T.length≤X.B by omega) hoB p6
 rw [← hsuA] at rA
 rw [← hsuB] at rB
 obtain ⟨iA,offA,sA,cA,vA,stA,pvA⟩:=step_store hopA hrA
 obtain ⟨iB,offB,sB,cB,vB,stB,pvB⟩:=step_store hopB hrB
 have memA:xA∈oA.op.operands.toList∧yA∈oA.op.operands.toList:=by rw [hopA];simp [Op.operands]
 have memB:xB∈oB.op.operands.toList∧yB∈oB.op.operands.toList:=by rw [hopB];simp [Op.operands]
 have cA':cellX (lk (setU (setAll e0 T) U)) xA=some (.ptr iA offA):=by rw [← cellX_congr (rA xA memA.1)];exact cA
 have cB':cellX (lk (setU (setAll e0 T) U)) xB=some (.ptr iB offB):=by rw [← cellX_congr (rB xB memB.1)];exact cB
 have vB':evX (lk (setU (setAll e0 T) U)) yB=some (.s sB):=by rw [← rB yB memB.2];exact vB
 have hstN:(⟨hAt h0 T T.length,lo⟩ :: U.map (·.st))[X.A - T.length]?=some (stAt ⟨hAt h0 T T.length,lo⟩ U (X.A - T.length)):=stAt_sts (by omega)
 unfold xState at hxs
 rw [← hXA,← hXB] at hxs
 simp only [hoA,hoB,hstN,hopA,hopB,cA',cB',vB'] at hxs
 split at hxs
 ·cases hxs
 rename_i hij
 have eA:stAt ⟨hAt h0 T T.length,lo⟩ U (X.A - T.length+1)=uA.st:=by simp [stAt,huA]
 have eB:stAt ⟨hAt h0 T T.length,lo⟩ U (X.B - T.length+1)=uB.st:=by simp [stAt,huB]
 have nosens:∀ k,X.A < k→k≠X.B→sensAt ops k=false:=fun k k1 k2=>by
  cases hs:sensAt ops k with
  | false=>rfl
  | true=>have:=hlast k hs (by omega) k2;omega
 have e1:stAt ⟨hAt h0 T T.length,lo⟩ U (X.B - T.length)=uA.st:=by
  rw [← eA]
  exact stAt_run hU (by omega) (by omega) fun k k1 k2=>nosens k (by omega) (by omega)
 have e2:stAt ⟨hAt h0 T T.length,lo⟩ U U.length=uB.st:=by
  rw [← eB]
  exact stAt_run hU (by omega) (Nat.le_refl _) fun k k1 k2=>nosens k (by omega) (by omega)
 rw [e1] at stB
 refine ⟨hlast,⟨p1,by omega⟩,fun o u ho hu=>?_,fun o u ho hu=>?_,fun i o t ho ht hl hne b1 b2=>?_,fun j o u ho hu hl hne b1 b2=>?_⟩
 ·rw [hoB] at ho;cases ho
  rw [huB] at hu;cases hu
  exact ⟨hwB,by rw [pvB];exact step_store_mk hopB cB vB hxs⟩
 ·rw [hoA] at ho;cases ho
  rw [huA] at hu;cases hu
  refine ⟨hwA,?_⟩
  rw [pvA,e2]
  exact step_store_mk hopA cA vA (store_comm stA stB hxs hij)
 ·have hs:=stat_at hst ho
  have hi:i < T.length:=(List.getElem?_eq_some_iff.1 ht).1
  obtain ⟨o',t',g1,g2,g3,g4,g5,g6,g7⟩:=hT i hi
  rw [ho] at g1;cases g1
  rw [ht] at g2;cases g2
  have hlen:(T.take i).length=i:=by rw [List.length_take];omega
  have hdTi:∀ k u,(T.take i)[k]?=some u→dstAt ops k=some u.d:=fun k u hu=>by
   rw [List.getElem?_take] at hu
   split at hu
   ·exact hdT k u hu
   ·cases hu
  rw [hXB] at b1;rw [hXA] at b2
  have hm:=xFloats_mem (p:=pairOf ops) ho hl b1 b2
  have hnl:=List.all_eq_true.1 p7 i hm
  have hag:∀ x∈o.op.operands.toList,evX (lk (envAt e0 (T.take i) ((clos ops).getD i 0) (laterD (clos ops) i (ops.toList.drop (i+1)) (i+1)))) x=evX (lk (setU (setAll e0 T) U)) x :=
   (reads_lk fun z hz=>by rw [stat_env hs (by omega) hdTi hz,(final_reads hdT hdU (noLater_spec hnl ho hz)).1 (by omega)]).1
  obtain ⟨s,h1,h2⟩:=float_one (List.all_eq_true.1 hf i hm) ho g3 (final_T hst hdT hdU hsz ht (hlt i o _ ho g3)) hne
  rw [g6]
  exact ⟨s,by rw [evLd_congr hag];exact h1,h2⟩
 ·have hs:=stat_at hst ho
  have hj:j < U.length:=(List.getElem?_eq_some_iff.1 hu).1
  obtain ⟨o',u',g1,g2,g3,g4,g5,g6,g7,g8⟩:=hU j hj
  rw [ho] at g1;cases g1
  rw [hu] at g2;cases g2
  rw [hXB] at b1;rw [hXA] at b2
  have hm:=xFloats_mem (p:=pairOf ops) ho hl b1 b2
  have hnl:=List.all_eq_true.1 p7 (T.length+j) hm
  have hag:=reads (show T.length≤T.length+j by omega) ho hnl
  rw [show T.length+j - T.length=j by omega] at hag
  cases hd:o.dst with
  | none=>exact absurd hd (hld _ o ho hl)
  | some d =>
   obtain ⟨s,h1,h2⟩:=float_one (List.all_eq_true.1 hf _ hm) ho hd (final_U hst hdT hdU hu (by rw [← g3,hd]) (hlt _ o d ho hd)) hne
   rw [g6]
   exact ⟨s,by rw [evLd_congr hag];exact h1,h2⟩
end
def eqO (a b:O):Bool:=eqCs a.cells b.cells && Nat.beq a.ty b.ty && (a.rw == b.rw) && (a.live == b.live) && (a.full == b.full)
theorem eqO_spec {a b:O} (h:eqO a b=true):a=b:=by
 simp only [eqO,Bool.and_eq_true,Nat.beq_eq,beq_iff_eq] at h
 obtain ⟨⟨⟨⟨h1,h2⟩,h3⟩,h4⟩,h5⟩:=h
 cases a;cases b
 simp only at h1 h2 h3 h4 h5
 rw [eqCs_spec h1,h2,h3,h4,h5]
def undone (ops:Array Oper) (n0 i q:Nat):Bool:=(sensIdx ops).all fun k=>!(Nat.ble n0 k && Nat.blt k (n0+q)) || !((clos ops).getD k 0).testBit i
def lateL (ops:Array Oper) (n0:Nat):List (Nat × Nat):=((List.range n0).filter (lateK ops n0)).flatMap fun i=>((qsOf (sensIdx ops) n0).filter fun q=>!Nat.beq q 0 && undone ops n0 i q).map fun q=>(i,q)
def lateAt (ops:Array Oper) (e:Env) (h1:List O) (i:Nat) (st:St):Bool:=match dstAt ops i with
 | some d=>(match e[d]? with
  | some pv=>(match idPV pv with
   | some id=>(match st.h[id]?,h1[id]? with
    | some a,some b=>eqO a b
    | _,_=>false)
   | none=>false)
  | none=>false)
 | none=>false
def late1 (ops:Array Oper) (e:Env) (h1:List O) (sts:List St) (p:Nat × Nat):Bool:=match sts[p.2]? with
 | some st=>lateAt ops e h1 p.1 st
 | none=>false
def lateX (ops:Array Oper) (n0 B:Nat):List Nat:=((List.range n0).filter (lateK ops n0)).filter fun i=>!((clos ops).getD B 0).testBit i
section
variable {X:Xp} {ev:CallE} {ops:Array Oper} {e0:Env} {h0:List O} {T:List Tr} {U:List Tl} {lo:Nat}
theorem lateAt_spec (hst:statOk ops T.length=true) (hT:∀ i,i < T.length→StepP P ev ops e0 h0 T i) (hU:∀ q,q < U.length→TailP P X ev ops e0 T ⟨hAt h0 T T.length,lo⟩ U q) (hsz:T.length+U.length=ops.size)
  (hlt:∀ (i:Nat) (o:Oper) (d:Tmp),ops[i]?=some o→o.dst=some d→d < e0.length) {i:Nat} (hl:lateK ops T.length i=true) {st:St} (h:lateAt ops (setU (setAll e0 T) U) (hAt h0 T T.length) i st=true) :
  st.h[(hAt h0 T i).length]?=(hAt h0 T (i+1))[(hAt h0 T i).length]?:=by
 simp only [lateK,Bool.and_eq_true,Nat.blt_eq] at hl
 obtain ⟨hiT,hm⟩:=hl
 obtain ⟨o,t,g1,g2,g3,g4,g5,g6,g7⟩:=hT i hiT
 rw [g1] at hm
 have hm:isMk o=true:=hm
 have hd:dstAt ops i=some t.d:=by unfold dstAt;rw [g1];exact g3
 unfold lateAt at h
 rw [hd] at h
 simp only at h
 rw [final_T hst (dst_of_step hT) (dst_of_tail hU) hsz g2 (hlt i o t.d g1 g3)] at h
 simp only at h
 rcases g7 with ⟨hw,_,_⟩ | ⟨hw,st1,hs1,hlo,hh⟩
 ·simp [wantedE,isMk_guard hm] at hw
 ·obtain ⟨cs,ty,fl,f,hid,hpv,hst',_⟩:=mk_step hm hs1
  have hid:idPV t.pv=some (hAt h0 T i).length:=hid
  rw [hid] at h
  simp only at h
  have hth:hAt h0 T (i+1)=hAt h0 T i++[⟨cs,ty,true,true,fl⟩]:=by
   have e1:hAt h0 T (i+1)=t.h:=by simp [hAt,g2]
   rw [e1,hh,hst']
   simp
  obtain ⟨L,hL⟩:=pre_h hT (show i+1≤T.length by omega) (Nat.le_refl _)
  have e2:(hAt h0 T T.length)[(hAt h0 T i).length]?=(hAt h0 T (i+1))[(hAt h0 T i).length]?:=by
   rw [hL,List.getElem?_append_left (by rw [hth];simp)]
  rw [← e2]
  split at h
  ·rename_i a b ha hb
   rw [ha,hb,eqO_spec h]
  ·cases h
theorem late_all (hst:statOk ops T.length=true) (hT:∀ i,i < T.length→StepP P ev ops e0 h0 T i) (hU:∀ q,q < U.length→TailP P X ev ops e0 T ⟨hAt h0 T T.length,lo⟩ U q) (hsz:T.length+U.length=ops.size)
  (hlt:∀ (i:Nat) (o:Oper) (d:Tmp),ops[i]?=some o→o.dst=some d→d < e0.length)
  (h:(lateL ops T.length).all (late1 ops (setU (setAll e0 T) U) (hAt h0 T T.length) (⟨hAt h0 T T.length,lo⟩ :: U.map (·.st)))=true) :
  ∀ i,lateK ops T.length i=true→∀ q,q≤U.length→(∀ k,T.length≤k→k < T.length+q→sensAt ops k=true→((clos ops).getD k 0).testBit i=false)→(stAt ⟨hAt h0 T T.length,lo⟩ U q).h[(hAt h0 T i).length]?=(hAt h0 T (i+1))[(hAt h0 T i).length]?:=fun i hl q hq hk=>by
 obtain ⟨q',h1,h2,h3⟩:=near_q ops T.length q
 rw [stAt_run hU h2 hq h3]
 have hiT:i < T.length:=by simp only [lateK,Bool.and_eq_true,Nat.blt_eq] at hl;exact hl.1
 by_cases e:q'=0
 ·subst e
  show (hAt h0 T T.length)[(hAt h0 T i).length]?=_
  obtain ⟨L,hL⟩:=pre_h hT (show i+1≤T.length by omega) (Nat.le_refl _)
  obtain ⟨o,t,g1,g2,g3,g4,g5,g6,g7⟩:=hT i hiT
  have hm:isMk o=true:=by simp only [lateK,Bool.and_eq_true,g1] at hl;exact hl.2
  rcases g7 with ⟨hw,_,_⟩ | ⟨hw,st1,hs1,hlo,hh⟩
  ·simp [wantedE,isMk_guard hm] at hw
  ·obtain ⟨cs,ty,fl,f,hid,hpv,hst',_⟩:=mk_step hm hs1
   have hth:hAt h0 T (i+1)=hAt h0 T i++[⟨cs,ty,true,true,fl⟩]:=by
    have e1:hAt h0 T (i+1)=t.h:=by simp [hAt,g2]
    rw [e1,hh,hst']
    simp
   rw [hL,List.getElem?_append_left (by rw [hth];simp)]
 ·have hmem:(i,q')∈lateL ops T.length:=by
   unfold lateL
   refine List.mem_flatMap.2 ⟨i,List.mem_filter.2 ⟨List.mem_range.2 hiT,hl⟩,List.mem_map.2 ⟨q',List.mem_filter.2 ⟨h1,?_⟩,rfl⟩⟩
   simp only [Bool.and_eq_true,Bool.not_eq_true']
   refine ⟨by cases hq:Nat.beq q' 0 with | false=>rfl | true=>exact absurd (Nat.eq_of_beq_eq_true hq) e,List.all_eq_true.2 fun k hks=>?_⟩
   cases hb:(Nat.ble T.length k && Nat.blt k (T.length+q')) with
   | false=>rfl
   | true =>
    simp only [Bool.and_eq_true,Nat.ble_eq,Nat.blt_eq] at hb
    rw [hk k hb.1 (by omega) (sensIdx_mem.1 hks)]
    rfl
  have h9:=List.all_eq_true.1 h _ hmem
  unfold late1 at h9
  rw [stAt_sts (by omega)] at h9
  exact lateAt_spec hst hT hU hsz hlt hl h9
theorem stAt_len (hk:CallKeep ev) (hU:∀ q,q < U.length→TailP P X ev ops e0 T ⟨hAt h0 T T.length,lo⟩ U q):∀ q,q≤U.length→(hAt h0 T T.length).length≤(stAt ⟨hAt h0 T T.length,lo⟩ U q).h.length
 | 0,_=>Nat.le_refl _
 | q+1,hq=>by
  have ih:=stAt_len hk hU q (by omega)
  obtain ⟨o,u,h1,h2,_,_,_,_,_,h8⟩:=hU q (by omega)
  have e:stAt ⟨hAt h0 T T.length,lo⟩ U (q+1)=u.st:=by simp [stAt,h2]
  rw [e]
  rcases h8 with ⟨_,_,h⟩ | ⟨_,h⟩
  ·rw [h];exact ih
  ·exact Nat.le_trans ih (step_keep hk h).len
theorem xst_len (hk:CallKeep ev) (hU:∀ q,q < U.length→TailP P X ev ops e0 T ⟨hAt h0 T T.length,lo⟩ U q) (hx:XOk P X ev ops e0 T U ⟨hAt h0 T T.length,lo⟩) (hab:X.A < X.B):(hAt h0 T T.length).length≤X.st.h.length:=by
 have hin:=hx.inU
 obtain ⟨o,u,h1,h2,_⟩:=hU (X.B - T.length) (by omega)
 rw [show T.length+(X.B - T.length)=X.B by omega] at h1
 exact Nat.le_trans (stAt_len hk hU (X.A - T.length) (by omega)) (step_keep hk (hx.stepB o u h1 h2).2).len
end
variable (P)
def lateXc (ops:Array Oper) (n0:Nat) (e:Env) (h1:List O) (sts:List St):Bool:=if Nat.blt (pairOf ops).1 (pairOf ops).2 then (match xState P ops n0 e sts with
  | some st=>(lateX ops n0 (pairOf ops).2).all fun i=>lateAt ops e h1 i st
  | none=>false)
 else true
variable {P}
def cutL (ops:Array Oper):Nat→List Oper→List Nat→Nat→Nat
 | i,o :: r,s :: S,n=>cutL ops (i+1) r S (if floatK o.op || sensL 0 (bitX (pairOf ops) i s) 0 (ops.toList.take i) then n else i+1)
 | _,_,_,n=>n
def cutOf (ops:Array Oper):Nat:=cutL ops 0 ops.toList (clos ops) 0
def ldDst (o:Oper):Bool:=!isLoad o.op || o.dst.isSome
def dstLt (n:Nat) (o:Oper):Bool:=match o.dst with
 | none=>true
 | some d=>Nat.blt d n
variable (P)
def evReg (ev:CallE) (ops:Array Oper) (n0:Nat) (e:Env) (st:St):Option (Env × St) :=
 if statOk ops n0 && ops.toList.all ldDst && ops.toList.all (dstLt e.length) then match evT P ev ops (ops.toList.take n0) e st.h with
  | none=>none
  | some (e1,h1)=>match evU P ev ops (ops.toList.drop n0) e1 ⟨h1,st.lo⟩ with
   | none=>none
   | some (e2,sts)=>if (floatsL ops n0).all (float1 P ops e2 (⟨h1,st.lo⟩ :: sts)) && xCheck P ops n0 e2 (⟨h1,st.lo⟩ :: sts) && (lateL ops n0).all (late1 ops e2 h1 (⟨h1,st.lo⟩ :: sts)) && lateXc P ops n0 e2 h1 (⟨h1,st.lo⟩ :: sts) then some (e2,(sts.getLast?).getD ⟨h1,st.lo⟩) else none
 else none
def writesO (o:Oper):Bool:=match o.op with
 | .call c=>(match c.callee with
  | .builtin _=>false
  | _=>true)
 | .store _ _ _=>true
 | _=>false
def frontOf (ops:Array Oper):List Nat:=(List.range ops.size).filter fun k=>(List.range ops.size).any fun i=>(match ops[i]? with | some o=>isMk o | none=>false) && (Nat.beq k i || ((clos ops).getD i 0).testBit k)
def modeOf (ops:Array Oper):Option (List Nat × Nat) :=
 if (ops.toList.take (cutOf ops)).any writesO && (frontOf ops).all (fun k=>match ops[k]? with | some o=>floatK o.op || isMk o | none=>false) && statOk (permOps (frontOf ops++(List.range ops.size).filter (fun k=>!(frontOf ops).contains k)) ops) (frontOf ops).length then
  some (frontOf ops++(List.range ops.size).filter (fun k=>!(frontOf ops).contains k),(frontOf ops).length)
 else none
def evRegion (ev:CallE) (ops:Array Oper) (draw:Bool) (e:Env) (st:St):Option (Env × St) :=
 if draw then (match modeOf ops with
  | none=>evReg P ev ops (cutOf ops) e st
  | some (σ,n0)=>if permOk σ ops.size then evReg P ev (permOps σ ops) n0 e st else none)
 else evSeq P ev ops ops.toList e st
variable {P}
theorem last_stAt {st0:St}:∀ {U:List Tl},((U.map (·.st)).getLast?).getD st0=stAt st0 U U.length:=by
 intro U
 rcases List.eq_nil_or_concat U with rfl | ⟨V,u,rfl⟩
 ·rfl
 ·simp [stAt]
theorem reg_wp (hN:NoCount P) {ev:CallE} (hev:CallOk P ev) (hk:CallKeep ev) {ops:Array Oper} {n0:Nat} {Q:Exit→Act→World→Prop} {m:M} {st st':St} {w:World} {a:Act} {e e':Env} (hs:SR m st.h w) (he:ER m e a)
  (h:evReg P ev ops n0 e st=some (e',st')) (hQ:∀ a' w' m',ER m' e' a'→Res m st w m' st' w'→Q .normal a' w'):wpAny P .any ops Q ops.size (Array.replicate ops.size false) a w.drew:=by
 unfold evReg at h
 split at h
 ·rename_i hh
  simp only [Bool.and_eq_true] at hh
  obtain ⟨⟨hst,hld⟩,hdl⟩:=hh
  have hcut:n0≤ops.size:=by simp only [statOk,Bool.and_eq_true,Nat.ble_eq] at hst;exact hst.1.1.1
  split at h
  ·cases h
  rename_i e1 h1 hrT
  obtain ⟨T,a1,a2,a3,a4⟩:=evT_spec (e0:=e) (h0:=st.h) hst hk (T:=[]) (fun j o hj=>by
   rw [List.getElem?_take] at hj
   split at hj
   ·simpa using hj
   ·cases hj) (fun i hi=>by simp at hi) hrT
  have hTl:T.length=n0:=by rw [a1];simp;omega
  subst a3
  subst a4
  split at h
  ·cases h
  rename_i e2 sts hrU
  rw [← hTl] at hrU hst h
  have hdT:=dst_of_step a2
  obtain ⟨xst,hxst⟩:∃ x:St,∀ st',xState P ops T.length e2 (⟨hAt st.h T T.length,st.lo⟩ :: sts)=some st'→x=st':=by
   cases hx:xState P ops T.length e2 (⟨hAt st.h T T.length,st.lo⟩ :: sts) with
   | none=>exact ⟨⟨[],0⟩,fun _ h=>by cases h⟩
   | some x=>exact ⟨x,fun _ h=>by cases h;rfl⟩
  obtain ⟨U,b1,b2,b3,b4⟩:=evU_spec (X:=⟨(pairOf ops).1,(pairOf ops).2,xst⟩) ⟨rfl,rfl⟩ hst hdT (U:=[]) (fun j o hj=>by
   rw [List.getElem?_drop] at hj
   simpa using hj) (fun q hq=>by simp at hq) hrU
  subst b1
  rw [List.nil_append] at b3 b4
  subst b4
  have hsz:T.length+U.length=ops.size:=by rw [b2];simp;omega
  have hlt:∀ (i:Nat) (o:Oper) (d:Tmp),ops[i]?=some o→o.dst=some d→d < e.length:=fun i o d ho hd=>by
   have hmem:o∈ops.toList:=by have:=Array.mem_of_getElem? ho;simpa using this
   have:=List.all_eq_true.1 hdl o hmem
   simpa [dstLt,hd,Nat.blt_eq] using this
  have hldd:∀ (i:Nat) (o:Oper),ops[i]?=some o→isLoad o.op=true→o.dst≠none:=fun i o ho hl e=>by
   have hmem:o∈ops.toList:=by have:=Array.mem_of_getElem? ho;simpa using this
   have:=List.all_eq_true.1 hld o hmem
   simp [ldDst,hl,e] at this
  split at h
  ·rename_i hf
   simp only [Bool.and_eq_true] at hf
   obtain ⟨⟨⟨hf,hxc⟩,hlt1⟩,hlx⟩:=hf
   have hel:e.length=a.tmps.size:=by have:=he.slots.1;simpa using this
   have hlT:=loads_T (P:=P) (ev:=ev) (lo:=st.lo) hst a2 b3 hsz hlt hf
   have hlU:=loads_U (P:=P) (ev:=ev) (lo:=st.lo) hst a2 b3 hsz hlt hldd hf
   have hdU:=dst_of_tail b3
   have hXk:(pairOf ops).1 < (pairOf ops).2→sensAt ops (pairOf ops).1=true→sensAt ops (pairOf ops).2=true→XOk P ⟨(pairOf ops).1,(pairOf ops).2,xst⟩ ev ops e T U ⟨hAt st.h T T.length,st.lo⟩:=fun hab _ _=>by
    unfold xCheck at hxc
    rw [if_pos (by rw [Nat.blt_eq];exact hab)] at hxc
    split at hxc
    ·rename_i st1 hx1
     have:=hxst _ hx1
     subst this
     exact x_ok hst rfl rfl hab a2 b3 hsz hlt hldd hx1 hxc
    ·cases hxc
   have hLX:(pairOf ops).1 < (pairOf ops).2→sensAt ops (pairOf ops).1=true→sensAt ops (pairOf ops).2=true→∀ i,lateK ops T.length i=true→((clos ops).getD (pairOf ops).2 0).testBit i=false→xst.h[(hAt st.h T i).length]?=(hAt st.h T (i+1))[(hAt st.h T i).length]?:=fun hab _ _ i hl hb=>by
    unfold lateXc at hlx
    rw [if_pos (by rw [Nat.blt_eq];exact hab)] at hlx
    split at hlx
    ·rename_i st1 hx1
     have:=hxst _ hx1
     subst this
     refine lateAt_spec hst a2 b3 hsz hlt hl (List.all_eq_true.1 hlx i ?_)
     unfold lateX
     refine List.mem_filter.2 ⟨List.mem_filter.2 ⟨List.mem_range.2 ?_,hl⟩,by rw [hb];rfl⟩
     simp only [lateK,Bool.and_eq_true,Nat.blt_eq] at hl;exact hl.1
    ·cases hlx
   have hend:envT e T U (2 ^ ops.size - 1) []=setU (setAll e T) U:=by
    refine List.ext_getElem? fun d=>?_
    show (maskU (maskR e T (2 ^ ops.size - 1) 0) U (2 ^ ops.size - 1) T.length)[d]?=_
    refine maskUf (by rw [maskR_len,setAll_len]) (maskRf rfl rfl fun k t hk _=>?_) fun k t hk _=>?_
    ·have:=(List.getElem?_eq_some_iff.1 hk).1
     exact testBit_all (by omega)
    ·have:=(List.getElem?_eq_some_iff.1 hk).1
     exact testBit_all (by omega)
   rw [last_stAt] at h
   obtain ⟨rfl,rfl⟩:=Prod.mk.inj (Option.some.inj h)
   refine (any2 hN hev (lo:=st.lo) a2 b3 hsz hlT hlU hXk (stAt_len hk b3) (fun c1 c2 c3=>xst_len hk b3 (hXk c1 c2 c3) c1) (late_all hst a2 b3 hsz hlt hlt1) hLX hs he (fun k o d hk hod=>?_) (fun a' w' m' h1 h2=>hQ a' w' m' (by rw [← hend];exact h1) h2) ops.size (Array.replicate ops.size false) a w.drew m (by simp) (by simp [Flow.left,List.countP_replicate]) ?_ (fun q hqs hq=>?_))
   ·rw [← hel];exact hlt k o d hk hod
   ·have hst:=Inv.start (ops:=ops) a2 hs he
    have e1:(fun k=>(Array.replicate ops.size false).getD k false)=fun _=>false:=by
     funext k
     rcases Nat.lt_or_ge k ops.size with h | h <;> simp [h]
    rw [e1]
    exact ⟨hst.defers,hst.size,hst.off,fun _ _ h=>h,(fun k t h=>by cases h),(fun q u d h=>by cases h),hst.unm a2,.inl ⟨hst,(fun k _ h=>by cases h)⟩⟩
   ·simp [hqs] at hq
  ·cases h
 ·cases h
theorem region_wp (hN:NoCount P) (hM:P.follows .mixedOrders=true) {ev:CallE} (hev:CallOk P ev) (hk:CallKeep ev) {id:Nat} {ops:Array Oper} {draw:Bool} {Q:Exit→Act→World→Prop} {m:M} {st st':St} {w:World} {a:Act} {e e':Env} (hs:SR m st.h w) (he:ER m e a)
  (h:evRegion P ev ops draw e st=some (e',st')) (hQ:∀ a' w' m',ER m' e' a'→Res m st w m' st' w'→Q .normal a' w'):(Code.region id ops draw).wp P Q a w:=by
 unfold evRegion at h
 cases draw with
 | false =>
  simp only [Bool.false_eq_true,if_false] at h
  exact wp_region_list (seq_wp hN hev hs he h hQ)
 | true =>
  simp only [if_true] at h
  refine wp_region_any hM ?_
  split at h
  ·exact reg_wp hN hev hk hs he h hQ
  ·rename_i σ n0 _
   split at h
   ·rename_i hp
    have hp:=perm_of hp
    have hr:=reg_wp hN hev hk hs he h hQ
    rw [perm_size hp] at hr
    exact perm_any hp _ _ _ _ _ (same_none hp) hr
   ·cases h
end Ev
end Go.Proofs.Ytcpodmjcgfgmnaa
namespace Go.Proofs.Ytcpodmjcgfgmnaa
open Go.RowKit
namespace Ev
variable {P:Program}
inductive X where
 | norm
 | exit (id:Nat)
 | ret
def X.to:X→Exit
 | .norm=>.normal
 | .exit id=>.exit id
 | .ret=>.ret
abbrev Out:=X × Env × St
def iter (f:Env→St→Option Out):Nat→Env→St→Option Out
 | 0,_,_=>none
 | n+1,e,st=>match f e st with
  | some (.norm,e',st')=>iter f n e' st'
  | r=>r
variable (P)
def evCode (ev:CallE) (N:Nat):Code→Env→St→Option Out
 | .skip,e,st=>some (.norm,e,st)
 | .region _ ops draw,e,st=>match evRegion P ev ops draw e st with | some (e',st')=>some (.norm,e',st') | none=>none
 | .seq x y,e,st=>match evCode ev N x e st with
  | some (.norm,e',st')=>evCode ev N y e' st'
  | r=>r
 | .cond c x y,e,st=>match cellX (lk e) c with
  | some (.flat (.bool true))=>evCode ev N x e st
  | some (.flat (.bool false))=>evCode ev N y e st
  | _=>none
 | .block id c,e,st=>match evCode ev N c e st with
  | some (.exit id',e',st')=>if id'=id then some (.norm,e',st') else some (.exit id',e',st')
  | r=>r
 | .loop c,e,st=>iter (evCode ev N c) N e st
 | .exit id,e,st=>some (.exit id,e,st)
 | .scope c,e,st=>evCode ev N c e st
 | .label _,e,st=>some (.norm,e,st)
 | .ret,e,st=>some (.ret,e,st)
 | _,_,_=>none
variable {P}
def Post (m:M) (st:St) (w:World) (x:X) (e':Env) (st':St) (ex:Exit) (a':Act) (w':World):Prop:=ex=x.to∧∃ m',ER m' e' a'∧Res m st w m' st' w'
theorem cond_spec {m:M} {e:Env} {a:Act} {c:Operand} {b:Bool} (he:ER m e a) (h:cellX (lk e) c=some (.flat (.bool b))):a.eval c=.bool b :=
 (show VC m (.flat (.bool b)) (a.eval c) from evX_spec he.el (cellX_spec h)).1
theorem code_wp (hN:NoCount P) (hM:P.follows .mixedOrders=true) {ev:CallE} (hev:CallOk P ev) (hkp:CallKeep ev) {N:Nat}:∀ (c:Code) {m:M} {st st':St} {w:World} {a:Act} {e e':Env} {x:X},SR m st.h w→ER m e a→evCode P ev N c e st=some (x,e',st')→c.wp P (Post m st w x e' st') a w:=by
 intro c
 induction c with
 | skip=>intro m st st' w a e e' x hs he h;cases h;exact wp_skip ⟨rfl,m,he,Res.refl hs⟩
 | region id ops draw =>
  intro m st st' w a e e' x hs he h
  simp only [evCode] at h
  split at h
  ·rename_i hr
   cases h
   exact region_wp hN hM hev hkp hs he hr fun a' w' m' h1 h2=>⟨rfl,m',h1,h2⟩
  ·cases h
 | seq x y ihx ihy =>
  intro m st st' w a e e' ex hs he h
  simp only [evCode] at h
  refine wp_seq ?_
  split at h
  ·rename_i e1 st1 h1
   refine wp_mono (ihx hs he h1) ?_
   rintro _ a1 w1 ⟨rfl,m1,he1,hr1⟩
   refine wp_mono (ihy hr1.sr he1 h) ?_
   rintro _ a2 w2 ⟨rfl,m2,he2,hr2⟩
   exact ⟨rfl,m2,he2,hr1.trans hr2⟩
  ·rename_i hne
   refine wp_mono (ihx hs he h) ?_
   rintro _ a1 w1 ⟨rfl,hh⟩
   cases ex with
   | norm=>exact (hne _ _ h).elim
   | exit id=>exact ⟨rfl,hh⟩
   | ret=>exact ⟨rfl,hh⟩
 | cond c x y ihx ihy =>
  intro m st st' w a e e' ex hs he h
  simp only [evCode] at h
  split at h
  ·rename_i hc;exact wp_cond_true (cond_spec he hc) (ihx hs he h)
  ·rename_i hc;exact wp_cond_false (cond_spec he hc) (ihy hs he h)
  ·cases h
 | block id c ih =>
  intro m st st' w a e e' ex hs he h
  simp only [evCode] at h
  refine wp_block ?_
  split at h
  ·rename_i id' e1 st1 h1
   refine wp_mono (ih hs he h1) ?_
   rintro _ a1 w1 ⟨rfl,hh⟩
   simp only [X.to,Exit.inBlock]
   split at h
   ·rename_i hid;cases h;rw [if_pos hid];exact ⟨rfl,hh⟩
   ·rename_i hid;cases h;rw [if_neg hid];exact ⟨rfl,hh⟩
  ·rename_i hne
   refine wp_mono (ih hs he h) ?_
   rintro _ a1 w1 ⟨rfl,hh⟩
   cases ex with
   | norm=>exact ⟨rfl,hh⟩
   | exit id=>exact (hne _ _ _ h).elim
   | ret=>exact ⟨rfl,hh⟩
 | loop c ih =>
  intro m st st' w a e e' ex hs he h
  simp only [evCode] at h
  have key:∀ n {m1:M} {st1:St} {w1:World} {a1:Act} {e1:Env},SR m1 st1.h w1→ER m1 e1 a1→Res m st w m1 st1 w1→iter (evCode P ev N c) n e1 st1=some (ex,e',st')→Code.rounds P c (Post m st w ex e' st') n a1 w1:=by
   intro n
   induction n with
   | zero=>intro m1 st1 w1 a1 e1 _ _ _ h;cases h
   | succ n ihn =>
    intro m1 st1 w1 a1 e1 hs1 he1 hr1 h
    rw [rounds_succ]
    simp only [iter] at h
    split at h
    ·rename_i e2 st2 h2
     refine wp_mono (ih hs1 he1 h2) ?_
     rintro _ a2 w2 ⟨rfl,m2,he2,hr2⟩
     exact ihn hr2.sr he2 (hr1.trans hr2) h
    ·rename_i hne
     refine wp_mono (ih hs1 he1 h) ?_
     rintro _ a2 w2 ⟨rfl,m2,he2,hr2⟩
     cases ex with
     | norm=>exact (hne _ _ h).elim
     | exit id=>exact ⟨rfl,m2,he2,hr1.trans hr2⟩
     | ret=>exact ⟨rfl,m2,he2,hr1.trans hr2⟩
  exact wp_loop_rounds N (key N hs he (Res.refl hs) h)
 | exit id=>intro m st st' w a e e' x hs he h;cases h;exact wp_exit ⟨rfl,m,he,Res.refl hs⟩
 | scope c ih =>
  intro m st st' w a e e' ex hs he h
  simp only [evCode] at h
  refine wp_scope_straight (wp_mono (ih hs he h) ?_)
  rintro _ a1 w1 ⟨rfl,hh⟩
  cases ex <;> exact ⟨rfl,hh⟩
 | label l=>intro m st st' w a e e' x hs he h;cases h;exact wp_label ⟨rfl,m,he,Res.refl hs⟩
 | ret=>intro m st st' w a e e' x hs he h;cases h;exact wp_ret ⟨rfl,m,he,Res.refl hs⟩
 | rangeFunc f ps x y _ _=>intro m st st' w a e e' x hs he h;cases h
 | goto l=>intro m st st' w a e e' x hs he h;cases h
 | refuse s=>intro m st st' w a e e' x hs he h;cases h
theorem seq_keep {ev:CallE} (hk:CallKeep ev) {ops:Array Oper}:∀ {l:List Oper} {e e':Env} {st st':St},evSeq P ev ops l e st=some (e',st')→Keep st st'
 | [],e,e',st,st',h=>by cases h;exact Keep.refl _
 | o :: r,e,e',st,st',h=>by
  simp only [evSeq] at h
  split at h
  ·cases h
  ·exact seq_keep hk h
  ·split at h
   ·cases h
   ·rename_i hs
    exact (step_keep hk hs).trans (seq_keep hk h)
theorem T_keep {ev:CallE} (hk:CallKeep ev) {ops:Array Oper} {lo:Nat}:∀ {l:List Oper} {e e':Env} {h h':List O},evT P ev ops l e h=some (e',h')→Keep ⟨h,lo⟩ ⟨h',lo⟩
 | [],e,e',st,st',h=>by cases h;exact Keep.refl _
 | o :: r,e,e',hh,h',h=>by
  simp only [evT] at h
  split at h
  ·cases h
  split at h
  ·cases h
  ·exact T_keep hk h
  ·split at h
   ·cases h
   rename_i pv st hs
   split at h
   ·rename_i hlo
    have k1:=step_keep hk hs
    have e1:=k1.eq_append hlo
    have k2:Keep ⟨hh,lo⟩ ⟨st.h,lo⟩:=⟨k1.len,Nat.le_refl _,fun i hi _=>by
     show st.h[i]?=hh[i]?
     have hi:i < hh.length:=hi
     rw [e1];exact List.getElem?_append_left hi⟩
    exact k2.trans (T_keep hk h)
   ·cases h
theorem U_keep {ev:CallE} (hk:CallKeep ev) {ops:Array Oper}:∀ {l:List Oper} {e e':Env} {st:St} {sts:List St},evU P ev ops l e st=some (e',sts)→Keep st ((sts.getLast?).getD st)
 | [],e,e',st,sts,h=>by cases h;exact Keep.refl _
 | o :: r,e,e',st,sts,h=>by
  have last:∀ (s:St) (l:List St),((s :: l).getLast?).getD st=(l.getLast?).getD s:=fun s l=>by
   cases l with
   | nil=>rfl
   | cons a b=>simp [List.getLast?_cons]
  simp only [evU] at h
  split at h
  ·cases h
  ·split at h
   ·rename_i hr
    cases h
    rw [last]
    exact U_keep hk hr
   ·cases h
  ·split at h
   ·cases h
   rename_i hs
   split at h
   ·rename_i hr
    cases h
    rw [last]
    exact (step_keep hk hs).trans (U_keep hk hr)
   ·cases h
theorem reg_keep {ev:CallE} (hk:CallKeep ev) {ops:Array Oper} {n0:Nat} {e e':Env} {st st':St} (h:evReg P ev ops n0 e st=some (e',st')):Keep st st':=by
 unfold evReg at h
 split at h
 ·split at h
  ·cases h
  rename_i hT
  split at h
  ·cases h
  rename_i hU
  split at h
  ·cases h
   exact (T_keep (lo:=st.lo) hk hT).trans (U_keep hk hU)
  ·cases h
 ·cases h
theorem region_keep {ev:CallE} (hk:CallKeep ev) {ops:Array Oper} {draw:Bool} {e e':Env} {st st':St} (h:evRegion P ev ops draw e st=some (e',st')):Keep st st':=by
 unfold evRegion at h
 split at h
 ·split at h
  ·exact reg_keep hk h
  ·split at h
   ·exact reg_keep hk h
   ·cases h
 ·exact seq_keep hk h
theorem iter_keep {f:Env→St→Option Out} (hf:∀ e st x e' st',f e st=some (x,e',st')→Keep st st'):∀ {n:Nat} {e e':Env} {st st':St} {x:X},iter f n e st=some (x,e',st')→Keep st st'
 | 0,_,_,_,_,_,h=>by cases h
 | n+1,e,e',st,st',x,h=>by
  simp only [iter] at h
  split at h
  ·rename_i h1
   exact (hf _ _ _ _ _ h1).trans (iter_keep hf h)
  ·exact hf _ _ _ _ _ h
theorem code_keep {ev:CallE} (hk:CallKeep ev) {N:Nat}:∀ (c:Code) {e e':Env} {st st':St} {x:X},evCode P ev N c e st=some (x,e',st')→Keep st st':=by
 intro c
 induction c with
 | skip=>intro e e' st st' x h;cases h;exact Keep.refl _
 | region id ops draw =>
  intro e e' st st' x h
  simp only [evCode] at h
  split at h
  ·rename_i hr;cases h;exact region_keep hk hr
  ·cases h
 | seq a b iha ihb =>
  intro e e' st st' x h
  simp only [evCode] at h
  split at h
  ·rename_i h1;exact (iha h1).trans (ihb h)
  ·exact iha h
 | cond c a b iha ihb =>
  intro e e' st st' x h
  simp only [evCode] at h
  split at h
  ·exact iha h
  ·exact ihb h
  ·cases h
 | block id c ih =>
  intro e e' st st' x h
  simp only [evCode] at h
  split at h
  ·rename_i h1
   split at h <;> cases h <;> exact ih h1
  ·exact ih h
 | loop c ih =>
  intro e e' st st' x h
  exact iter_keep (fun _ _ _ _ _ h=>ih h) h
 | exit id=>intro e e' st st' x h;cases h;exact Keep.refl _
 | scope c ih=>intro e e' st st' x h;exact ih h
 | label l=>intro e e' st st' x h;cases h;exact Keep.refl _
 | ret=>intro e e' st st' x h;cases h;exact Keep.refl _
 | rangeFunc f ps a b _ _=>intro e e' st st' x h;cases h
 | goto l=>intro e e' st st' x h;cases h
 | refuse s=>intro e e' st st' x h;cases h
variable (P)
def evResult (e:Env) (st:St):ResultVar→Option S
 | .tmp t=>match e[t]? with
  | some (.s s)=>some s
  | _=>none
 | .cell t T=>match e[t]? with
  | some (.s (.c (.ptr i off)))=>evLoad P st T i off
  | _=>none
variable {P}
def pvOf:List S→PV
 | [s]=>.s s
 | ss=>.t ss
def resF (a:Act):ResultVar→Sem Value
 | .tmp t=>pure (a.tmps.getD t undef)
 | .cell x t=>do loadVar t (← asAddr (a.tmps.getD x undef))
theorem results_spec {m:M} {e:Env} {a:Act} {st:St} {w:World} (hs:SR m st.h w) (he:ER m e a) {fn:Func} {ss:List S} (h:all? (evResult P e st) fn.results.toList=some ss) :
  ∃ v,(results fn a.tmps).run P w=.ok v w∧VP m (pvOf ss) v:=by
 have one:∀ (r:ResultVar) (s:S),evResult P e st r=some s→∃ v,(resF a r).run P w=.ok v w∧VS m s v:=fun r s hr=>by
  cases r with
  | tmp t =>
   simp only [evResult] at hr
   split at hr
   ·rename_i s' hs'
    cases hr
    exact ⟨a.tmps.getD t undef,by simp [resF],lk_spec (x:=.tmp t) he hs'⟩
   ·cases hr
  | cell t T =>
   simp only [evResult] at hr
   split at hr
   ·rename_i i off hp
    obtain ⟨p,hm,hv⟩:VC m (.ptr i off) (a.eval (.tmp t)):=lk_spec (x:=.tmp t) he hp
    obtain ⟨v,hl,hvs⟩:=loadVar_spec hs hr hm
    have hv':a.tmps.getD t undef=.pointer (some ⟨p.b,p.o+off,none⟩):=hv
    exact ⟨v,by simp only [resF,hv',asAddr];simpa using hl,hvs⟩
   ·cases hr
 have key:∀ (l:List ResultVar) (ss:List S),all? (evResult P e st) l=some ss→∃ vs:List Value,(l.mapM (resF a):Sem (List Value)).run P w=.ok vs w∧All2 (VS m) ss vs:=by
  intro l
  induction l with
  | nil=>intro ss h;cases h;exact ⟨[],by simp,All2.nil⟩
  | cons r l ih =>
   intro ss h
   simp only [all?] at h
   cases hr:evResult P e st r with
   | none=>rw [hr] at h;cases h
   | some s =>
    rw [hr] at h
    cases hl:all? (evResult P e st) l with
    | none=>simp only [hl] at h;cases h
    | some ss' =>
     simp only [hl,Option.some.injEq] at h
     subst h
     obtain ⟨v,h1,h2⟩:=one r s hr
     obtain ⟨vs,h3,h4⟩:=ih ss' hl
     exact ⟨v :: vs,by rw [List.mapM_cons,Sem.run_bind,h1,Result.andThen_ok,Sem.run_bind,h3,Result.andThen_ok];rfl,All2.cons h2 h4⟩
 obtain ⟨vs,h1,h2⟩:=key _ _ h
 have hm:(results fn a.tmps).run P w=.ok (if h:vs.toArray.size=1 then vs.toArray[0] else .tuple vs.toArray) w:=by
  have e1:results fn a.tmps=(do let vs ← fn.results.mapM (resF a);pure (if h:vs.size=1 then vs[0] else .tuple vs)):=rfl
  rw [e1,Array.mapM_eq_mapM_toList,Sem.run_bind]
  have:(List.toArray <$> (fn.results.toList.mapM (resF a)):Sem (Array Value)).run P w=.ok vs.toArray w:=by
   rw [map_eq_pure_bind,Sem.run_bind,h1];rfl
  rw [this]
  rfl
 refine ⟨_,hm,?_⟩
 rcases ss with _ | ⟨s,_ | ⟨s2,ss⟩⟩
 ·have:vs=[]:=List.eq_nil_of_length_eq_zero h2.1.symm
  subst this
  exact ⟨[],rfl,h2⟩
 ·obtain ⟨v,rfl⟩:∃ v,vs=[v]:=List.length_eq_one_iff.1 h2.1.symm
  exact h2.2 0 s v rfl rfl
 ·have hl:¬ vs.toArray.size=1:=by have:=h2.1;simp at this ⊢;omega
  rw [dif_neg hl]
  exact ⟨vs,rfl,h2⟩
def noIdC:C→Bool
 | .flat _=>true
 | .str _=>true
 | .emp _=>true
 | .low _ _=>true
 | .fn _ caps=>caps.isEmpty
 | _=>false
def noIdS:S→Bool
 | .c x=>noIdC x
 | .a cs=>cs.all noIdC
def noId:PV→Bool
 | .s x=>noIdS x
 | .t xs=>xs.all noIdS
 | _=>false
theorem noIdC_spec {m m':M} {c:C} {v:Value} (h:noIdC c=true) (k:VC m c v):VC m' c v:=by
 cases c with
 | flat u=>exact k
 | str l=>exact k
 | emp z=>exact k
 | low a b=>exact k
 | fn f caps =>
  have:caps=[]:=by simpa [noIdC] using h
  subst this
  obtain ⟨as,h1,h2⟩:=k
  exact ⟨as,h1,h2.1,fun j x v hx=>by simp at hx⟩
 | sl _ _ _ _=>cases h
 | ptr _ _=>cases h
 | q _ _ _=>cases h
 | mt _ _ _=>cases h
 | mp _=>cases h
theorem noIdS_spec {m m':M} {c:S} {v:Value} (h:noIdS c=true) (k:VS m c v):VS m' c v:=by
 cases c with
 | c x=>exact noIdC_spec h k
 | a cs =>
  obtain ⟨vs,h1,h2⟩:=k
  exact ⟨vs,h1,h2.1,fun j x v hx hv=>noIdC_spec (List.all_eq_true.1 h x (List.mem_of_getElem? hx)) (h2.2 j x v hx hv)⟩
theorem noId_spec {m m':M} {c:PV} {v:Value} (h:noId c=true) (k:VP m c v):VP m' c v:=by
 cases c with
 | s x=>exact noIdS_spec h k
 | t xs =>
  obtain ⟨vs,h1,h2⟩:=k
  exact ⟨vs,h1,h2.1,fun j x v hx hv=>noIdS_spec (List.all_eq_true.1 h x (List.mem_of_getElem? hx)) (h2.2 j x v hx hv)⟩
 | any=>cases h
 | skip=>cases h
variable (P)
def evFun (orc:CallE) (N:Nat):Nat→CallE
 | 0,_,_,_=>none
 | n+1,F,args,st=>match orc F args st with
  | some r=>some r
  | none=>match P.funcs[F]? with
   | none=>none
   | some fn=>match fn.body with
    | none=>none
    | some c=>match evCode P (evFun orc N n) N c (args++List.replicate (fn.ntmps - args.length) .skip) ⟨st.h,st.h.length⟩ with
     | some (.exit _,_,_)=>none
     | some (_,e',st')=>match all? (evResult P e' st') fn.results.toList with
      | none=>none
      | some ss=>if noId (pvOf ss) && decide (st.h.length≤st'.lo) then some (pvOf ss,st) else some (pvOf ss,⟨st'.h,min st.lo st'.lo⟩)
     | none=>none
variable {P}
theorem skip_all (m:M) (n:Nat):All2 (VP m) (List.replicate n PV.skip) (List.replicate n undef) :=
 ⟨by simp,fun j x v hx hv=>by
  rw [List.getElem?_replicate] at hx hv
  split at hx
  ·rw [if_pos (by assumption)] at hv;cases hx;cases hv;rfl
  ·cases hx⟩
theorem fun_keep {orc:CallE} (horc:CallKeep orc) (N:Nat):∀ n,CallKeep (evFun P orc N n)
 | 0=>fun F pvs st r st' h=>by cases h
 | n+1=>fun F pvs st r st' h=>by
  simp only [evFun] at h
  split at h
  ·rename_i hq
   cases h
   exact horc _ _ _ _ _ hq
  ·split at h
   ·cases h
   split at h
   ·cases h
   split at h
   ·cases h
   ·rename_i hc
    have kc:=code_keep (fun_keep horc N n) _ hc
    split at h
    ·cases h
    ·split at h
     ·cases h;exact Keep.refl _
     ·cases h
      exact ⟨kc.len,Nat.min_le_left _ _,fun i hi hl=>kc.old i hi (Nat.lt_of_lt_of_le hl (Nat.min_le_right _ _))⟩
   ·cases h
theorem fun_ok (hN:NoCount P) (hM:P.follows .mixedOrders=true) {orc:CallE} (horc:CallOk P orc) (hork:CallKeep orc) (N:Nat):∀ n,CallOk P (evFun P orc N n)
 | 0=>fun F pvs st r st' m w args h=>by cases h
 | n+1=>fun F pvs st r st' m w args h hs hargs=>by
  simp only [evFun] at h
  split at h
  ·rename_i q hq
   cases h
   exact horc F pvs st r st' m w args hq hs hargs
  ·split at h
   ·cases h
   rename_i fn hfn
   split at h
   ·cases h
   rename_i c hc
   have hs':SR m (⟨st.h,st.h.length⟩:St).h w:=hs
   have he:ER m (pvs++List.replicate (fn.ntmps - pvs.length) .skip) { tmps:=args.toArray++Array.replicate (fn.ntmps - args.toArray.size) undef,defers:=[] }:=by
    refine ⟨rfl,?_⟩
    have e1:(args.toArray++Array.replicate (fn.ntmps - args.toArray.size) undef).toList=args++List.replicate (fn.ntmps - pvs.length) undef:=by simp [hargs.1]
    rw [e1]
    exact hargs.append (skip_all m _)
   have fin:∀ {e':Env} {st1:St} {x:X},(x=.norm∨x=.ret)→evCode P (evFun P orc N n) N c (pvs++List.replicate (fn.ntmps - pvs.length) .skip) ⟨st.h,st.h.length⟩=some (x,e',st1) →
     (match all? (evResult P e' st1) fn.results.toList with | none=>none | some ss=>if noId (pvOf ss) && decide (st.h.length≤st1.lo) then some (pvOf ss,st) else some (pvOf ss,⟨st1.h,min st.lo st1.lo⟩))=some (r,st') →
     Calls P F args.toArray w fun e w'=>∃ v m',e=.returned v∧VP m' r v∧Res m st w m' st' w':=fun {e' st1 x} hx hcode h=>by
    split at h
    ·cases h
    rename_i ss hss
    refine calls_of_wp hfn hc (wp_mono (code_wp hN hM (fun_ok hN hM horc hork N n) (fun_keep hork N n) c hs' he hcode) ?_)
    rintro ex a1 w1 ⟨rfl,m1,he1,hr1⟩
    obtain ⟨v,hrun,hv⟩:=results_spec hr1.sr he1 hss
    have hfin:∃ m',VP m' r v∧Res m st w m' st' w1:=by
     split at h
     ·rename_i hg
      simp only [Bool.and_eq_true,decide_eq_true_eq] at hg
      cases h
      have hkeep:∀ b,b < w.heap.size→w1.heap[b]?=w.heap[b]?:=fun b hb=>hr1.fr.keep b hb fun i p g1 g2=>by
       have g2':i < st.h.length:=g2
       omega
      exact ⟨m,noId_spec hg.1 hv,hs.grow hkeep,⟨fun _ _ h=>h,fun _ _=>rfl,fun j p hj hm=>by have:=hs.dom j p hm;omega,hr1.fr.size,hr1.fr.os,hr1.fr.tape,hr1.fr.output,fun b hb _=>hkeep b hb⟩,Nat.le_refl _,Nat.le_refl _,fun _ _ _=>rfl⟩
     ·cases h
      have hf:=hr1.fr.mono (Nat.min_le_right st.lo st1.lo)
      exact ⟨m1,hv,hr1.sr,hf,hr1.len,Nat.min_le_left _ _,fun i hi hl=>hr1.old i hi (Nat.lt_of_lt_of_le hl (Nat.min_le_right _ _))⟩
    obtain ⟨m',h1,h2⟩:=hfin
    rcases hx with rfl | rfl
    ·exact ⟨he1.defers,v,hrun,v,m',rfl,h1,h2⟩
    ·exact ⟨he1.defers,v,hrun,v,m',rfl,h1,h2⟩
   split at h
   ·cases h
   ·rename_i x e' st1 hne hcode
    cases x with
    | norm=>exact fin (.inl rfl) hcode h
    | ret=>exact fin (.inr rfl) hcode h
    | exit id=>exact (hne id rfl).elim
   ·cases h
end Ev
end Go.Proofs.Ytcpodmjcgfgmnaa
namespace Go.Proofs.Ytcpodmjcgfgmnaa
open Go.RowKit
namespace Ev
variable {P:Program}
def noOrc:CallE:=fun _ _ _=>none
theorem noOrc_keep:CallKeep noOrc:=fun F pvs st r st' h=>by cases h
theorem noOrc_ok:CallOk P noOrc:=fun F pvs st r st' m w args h=>by cases h
theorem sr_nil (w:World):SR (fun _=>none) [] w:=⟨(fun i p h=>by cases h),(fun i p o h=>by cases h),(fun i j p q o o' h=>by cases h),⟨(fun i p o r h=>by cases h),(fun i j p q o o' r r' h=>by cases h)⟩⟩
theorem grow_of_res {st:St} {w w':World} {m':M} (h:Res (fun _=>none) ⟨[],0⟩ w m' st w'):Flow.Grow w w' :=
 ⟨h.fr.os,h.fr.tape,h.fr.output,h.fr.size,fun b hb _=>h.fr.keep b hb fun i p _ _ h=>by cases h⟩
theorem closed_calls (hN:NoCount P) (hM:P.follows .mixedOrders=true) {orc:CallE} (horc:CallOk P orc) (hork:CallKeep orc) {N n:Nat} {F:FuncId} {pvs:List PV} {v:Value} {st:St} (h:evFun P orc N n F pvs ⟨[],0⟩=some (.s (.c (.flat v)),st))
  {args:List Value} (hargs:All2 (VP fun _=>none) pvs args) (w:World):Calls P F args.toArray w fun e w'=>e=.returned v∧Flow.Grow w w' :=
 (fun_ok hN hM horc hork N n F pvs ⟨[],0⟩ _ st (fun _=>none) w args h (sr_nil w) hargs).mono fun e w' ⟨u,m',he,hv,hres⟩=>by
   obtain ⟨rfl,_⟩:u=v∧_:=hv
   exact ⟨he,grow_of_res hres⟩
def endE:Option (PV × St)→Option Value
 | some (.s (.c (.flat v)),_)=>some v
 | _=>none
theorem endE_some {r:Option (PV × St)} {v:Value} (h:endE r=some v):∃ st,r=some (.s (.c (.flat v)),st):=by
 unfold endE at h
 split at h
 ·injection h with h;subst h;exact ⟨_,rfl⟩
 ·cases h
theorem closed_ends (hN:NoCount P) (hM:P.follows .mixedOrders=true) {orc:CallE} (horc:CallOk P orc) (hork:CallKeep orc) {N n:Nat} {F:FuncId} {pvs:List PV} {v:Value} (h:endE (evFun P orc N n F pvs ⟨[],0⟩)=some v)
  {args:List Value} (hargs:All2 (VP fun _=>none) pvs args) (w:World):Calls P F args.toArray w fun e w'=>e=.returned v∧Flow.Grow w w':=by
 obtain ⟨st,hr⟩:=endE_some h
 exact closed_calls hN hM horc hork hr hargs w
theorem noCount_of (h : (P.funcs.toList.all fun f => !(f.name == "runtime.NumGoroutine")) = true) : NoCount P := fun f fn hf => by
 have hm:fn∈P.funcs.toList:=by have:=Array.mem_of_getElem? hf;simpa using this
 have:=List.all_eq_true.1 h fn hm
 simpa using this
end Ev
end Go.Proofs.Ytcpodmjcgfgmnaa

/- Ev: an operation that makes an object, come up late: the object has its number already. No program. -/
import Derived.Test.YtcpodmjcgfgmnaaGreatMEvc
namespace Go.Proofs.YtcpodmjcgfgmnaaGreat
open Go.RowKit
namespace Ev
variable {P:Program}
theorem SR.putAt {m:M} {h:List O} {w:World} (hs:SR m h w) {i:Nat} {cs:List C} {T:TypeId} {fl:Bool} (hi:h[i]?=some ⟨cs,T,true,true,fl⟩) (hm:m i=none) {vs:List Value} (hv:All2 (VC m) cs vs) :
  SR (put m i ⟨w.heap.size,0,vs.length⟩) h (w.alloc (.cells vs.toArray T)):=by
 have hext:∀ j p,m j=some p→put m i ⟨w.heap.size,0,vs.length⟩ j=some p:=fun j p hj=>by
  by_cases e:j=i
  ·subst e;rw [hm] at hj;cases hj
  ·rw [Qa0 _ _ e];exact hj
 have hold:∀ b,b < w.heap.size→(w.alloc (.cells vs.toArray T)).heap[b]?=w.heap[b]?:=fun b hb=>Below.heap_alloc w _ b hb;refine ⟨fun j p hj=>?_,fun j p o hj ho hl=>?_,fun j k p q o o' hj hk ho ho' hrw hl hl' hne=>?_,hs.mr.grow (fun j p o rest hj ho hmp=>⟨?_,ho⟩) hold⟩
 ·by_cases e:j=i
  ·subst e;exact (List.getElem?_eq_some_iff.1 hi).1
  ·rw [Qa0 _ _ e] at hj;exact hs.dom j p hj
 ·by_cases e:j=i
  ·subst e;rw [Qat] at hj;cases hj;rw [hi] at ho;cases ho;refine ⟨_,_,heap_alloc_new w _,by simp,by simp [hv.1],fun q c hc=>?_,(fun _=>rfl),(fun h=>⟨rfl,by simp [hv.1]⟩)⟩;have hq:q < vs.length:=by rw [← hv.1];exact (List.getElem?_eq_some_iff.1 hc).1
   exact ⟨vs[q],by simp [hq],(hv.2 q c vs[q] hc (by simp [hq])).ext hext⟩
  ·rw [Qa0 _ _ e] at hj;obtain ⟨cur,fr,h1,h2,h3,h4,h5⟩:=hs.obj j p o hj ho hl;exact ⟨cur,fr,by rw [hold _ (Array.getElem?_eq_some_iff.1 h1).1];exact h1,h2,h3,fun q c hc=>by obtain ⟨v,a,b⟩:=h4 q c hc;exact ⟨v,a,b.ext hext⟩,h5⟩
 ·by_cases ej:j=i
  ·subst ej;rw [Qat] at hj;cases hj;rw [Qa0 _ _ (Ne.symm hne)] at hk;have:=hs.lt hk ho' hl';show w.heap.size≠q.b;omega
  ·rw [Qa0 _ _ ej] at hj;by_cases ek:k=i
   ·subst ek;rw [Qat] at hk;cases hk;have:=hs.lt hj ho hl;show p.b≠w.heap.size;omega
   ·rw [Qa0 _ _ ek] at hk;exact hs.sep j k p q o o' hj hk ho ho' hrw hl hl' hne
 ·by_cases e:j=i
  ·subst e;rw [hi] at ho;cases ho;cases hmp.1
  ·rwa [Qa0 _ _ e] at hj
def idPV:PV→Option Nat
 | .s (.c (.ptr i 0))=>some i
 | .s (.c (.sl i 0 _ _))=>some i
 | _=>none
def isMk (o:Oper):Bool:=match o.op with
 | .alloc _=>o.guard.isNone
 | .buildSlice _ _ _=>o.guard.isNone
 | _=>false
theorem Qhl {o:Oper} (h:isMk o=true):o.guard=none:=by
 unfold isMk at h;split at h
 ·simpa using h
 ·simpa using h
 ·cases h
def MkDo (P:Program) (m:M) (w:World) (a:Act) (o:Oper) (cs:List C) (T:TypeId) (pv:Nat→PV):Prop :=
 ∃ (vs:List Value) (v:Value),All2 (VC m) cs vs∧(execOp a.eval o).run P w=.ok (.value v) (w.alloc (.cells vs.toArray T))∧∀ (m':M) (i:Nat),m' i=some ⟨w.heap.size,0,vs.length⟩→VP m' (pv i) v
theorem Qyh {e:Look} {st st':St} {o:Oper} {T:TypeId} {pv:PV} (ho:o.op=.alloc T) (h:Qff P st T=some (pv,st')) :
  ∃ cs fl f,idPV pv=some st.h.length∧pv=f st.h.length∧st'=⟨st.h++[⟨cs,T,true,true,fl⟩],st.lo⟩∧∀ m w a,EL m e a→MkDo P m w a o cs T f:=by
 unfold Qff at h;split at h
 ·cases h
 rename_i i hi;split at h
 ·cases h
 rename_i z hz;split at h
 ·cases h
 rename_i cs hcs;cases h;refine ⟨cs,false,fun i=>.s (.c (.ptr i 0)),rfl,rfl,rfl,fun m w a _=>?_⟩;have hv:All2 (VC m) cs z.cells.toList:=(Qbh hcs).flip.imp fun _ _ h=>Qcl h;refine ⟨z.cells.toList,.pointer (some ⟨w.heap.size,0,none⟩),hv,?_,fun m' i hm=>⟨_,hm,by simp⟩⟩;simp [execOp,ho,Instr.alloc,zeroValue,typeInfo,hi,hz,Sem.run_bind,Qhb]
theorem Qmb {e:Look} {st st':St} {o:Oper} {T:TypeId} {n:Nat} {ps:Array (Nat × Operand)} {qs:List (Nat × S)} {pv:PV} (ho:o.op=.buildSlice T n ps) (hp:Qde e ps.toList=some qs) (h:Qa4 P st T n qs=some (pv,st')) :
  ∃ cs el fl f,idPV pv=some st.h.length∧pv=f st.h.length∧st'=⟨st.h++[⟨cs,el,true,true,fl⟩],st.lo⟩∧∀ m w a,EL m e a→MkDo P m w a o cs el f:=by
 unfold Qa4 at h;split at h
 ·rename_i el hu;split at h
  ·cases h
  rename_i zc hzc;split at h
  ·cases h
  rename_i size hsz;split at h
  ·rename_i hh;obtain ⟨h24,h0,hzl⟩:=hh;split at h
   ·rename_i cs hf;cases h;refine ⟨cs,el,true,fun i=>.s (.c (.sl i 0 n size)),rfl,rfl,rfl,fun m w a he=>?_⟩;have hps:=Qfc he hp;obtain ⟨z,hz,hzv⟩:=Qg6 (m:=m) hzc;have hmade:=Qjg hzv (n * size) (fun _=>by omega);obtain ⟨us,hfill,hus⟩:=Qfa _ hf hmade hps;have hlen:cs.length=n * size:=by
     have key:∀ {ps:List (Nat × S)} {cells out:List C} {place:Nat→Option (Nat × Nat)},Qkg place cells ps=some out→out.length=cells.length:=by
      intro ps;induction ps with
      | nil=>intro cells out place h;cases h;rfl
      | cons p ps ih =>
       intro cells out place h;obtain ⟨i,s⟩:=p;simp only [Qkg] at h;split at h
       ·cases h
       ·split at h
        ·rename_i hc;rw [ih h];simp only [List.length_append,List.length_take,List.length_drop];omega
        ·cases h
     rw [key hf,Qdk]
    have hul:us.size=n * size:=by have:=hus.1;simp at this;omega
    refine ⟨us.toList,.slice (some ⟨w.heap.size,0,none⟩) n n,hus,?_,fun m' i hm=>⟨_,_,hm,by simp,Nat.le_refl _,by
      have:n≤n * size:=Nat.le_mul_of_pos_right _ h0;simp only [maxLen];omega,by simp [hul]⟩⟩
    rw [Array.toArray_toList];have h24':¬ (n * size > 2 ^ 24):=by omega
    have hfill':Instr.fill (fun i=>some (i * size,size)) ((Array.range (n * size)).map (z.cells[· % z.cells.size]!)) (ps.map fun p=>(p.1,a.eval p.2)).toList=some us:=hfill;by_cases hn:n * size=0
    ·have hn0:Instr.fill (fun i=>some (i * size,size)) ((Array.range (n * size)).map ((#[]:Array Value)[· % (#[]:Array Value).size]!)) (ps.map fun p=>(p.1,a.eval p.2)).toList=some us:=by
      rw [← hfill',hn,show Array.range 0=#[] from rfl];simp
     simp only [execOp,ho,Instr.buildSlice,Sem.run_bind,run_underlying hu,Result.andThen_ok,Qa3 hsz,if_neg h24',if_pos hn,Sem.run_pure,hn0];rfl
    ·simp only [execOp,ho,Instr.buildSlice,Sem.run_bind,run_underlying hu,Result.andThen_ok,Qa3 hsz,if_neg h24',if_neg hn,hz w,Sem.run_pure,hfill'];rfl
   ·cases h
  ·cases h
 ·cases h
theorem Qp8 {ev:Qav} {e:Look} {st st':St} {o:Oper} {pv:PV} (hmk:isMk o=true) (h:Qbd P ev e st o=some (pv,st')) :
  ∃ cs T fl f,idPV pv=some st.h.length∧pv=f st.h.length∧st'=⟨st.h++[⟨cs,T,true,true,fl⟩],st.lo⟩∧∀ m w a,EL m e a→MkDo P m w a o cs T f:=by
 rw [Qbb] at h;unfold isMk at hmk;split at hmk
 ·rename_i T ho;simp only [Qcf,ho,evOp] at h;obtain ⟨cs,fl,f,h1⟩:=Qyh (e:=e) ho h;exact ⟨cs,T,fl,f,h1⟩
 ·rename_i T n ps ho;simp only [Qcf,ho,evOp] at h;split at h
  ·rename_i qs hq;exact Qmb ho hq h
  ·cases h
 ·cases hmk
theorem Qwb {m0 m:M} {h0:List O} {lo:Nat} {w0 w:World} {stq:St} {a:Act} {o:Oper} {i:Nat} {cs:List C} {T:TypeId} {fl:Bool} {f:Nat→PV} {Q:Exit→Act→World→Prop} (hdo:MkDo P m w a o cs T f)
  (hres:Res m0 ⟨h0,lo⟩ w0 m stq w) (hi0:h0.length≤i) (hi:stq.h[i]?=some ⟨cs,T,true,true,fl⟩) (hm:m i=none) :
  o.wp P a w (fun a' w'=>∃ v m',a'=a.put o.dst v∧VP m' (f i) v∧(∀ k p,m k=some p→m' k=some p)∧(∀ k,k≠i→m' k=m k)∧Res m0 ⟨h0,lo⟩ w0 m' stq w') Q:=by
 obtain ⟨vs,v,hv,hr,hp⟩:=hdo;have hext:∀ j p,m j=some p→put m i ⟨w.heap.size,0,vs.length⟩ j=some p:=fun j p hj=>by
  by_cases e:j=i
  ·subst e;rw [hm] at hj;cases hj
  ·rw [Qa0 _ _ e];exact hj
 have hf:=hres.fr;unfold Oper.wp;rw [hr];refine ⟨v,put m i ⟨w.heap.size,0,vs.length⟩,rfl,hp _ i (Qat _ _ _),hext,fun k hk=>Qa0 _ _ hk,hres.sr.putAt hi hm hv,⟨fun j p hj=>hext j p (hf.same j p hj),fun j hj=>?_,fun j p hj hjm=>?_,?_,hf.os,hf.tape,hf.output,fun b hb hn=>?_⟩,hres.len,hres.lo,hres.old⟩
 ·have hj':j < h0.length:=hj;rw [Qa0 _ _ (by omega)];exact hf.back j hj
 ·by_cases e:j=i
  ·subst e;rw [Qat] at hjm;cases hjm;exact .inl hf.size
  ·rw [Qa0 _ _ e] at hjm;exact hf.new j p hj hjm
 ·have:=hf.size;simp;omega
 ·rw [Below.heap_alloc w _ b (by have:=hf.size;omega)];exact hf.keep b hb hn
end Ev
end Go.Proofs.YtcpodmjcgfgmnaaGreat
namespace Go.Proofs.YtcpodmjcgfgmnaaGreat
open Go.RowKit
namespace Ev
variable {P:Program}
structure Tl where
 d:Option Tmp
 pv:PV
 s:Nat
 st:St
def Qog (e:Env):List Tl→Nat→Nat→Env
 | [],_,_=>e
 | t :: r,s,k=>Qog (setE e t.d (if s.testBit k then t.pv else .any)) r s (k+1)
def envT (e0:Env) (T:List Tr) (U:List Tl) (s:Nat) (ds:List Tmp):Env:=Qoh (Qog (Qmf e0 T s 0) U s T.length) ds
def stAt (st0:St) (U:List Tl):Nat→St
 | 0=>st0
 | q+1=>match U[q]? with
  | some u=>u.st
  | none=>st0
def Qaq (ops:Array Oper) (k:Nat):Bool:=match ops[k]? with
 | some o=>!Qc0 o.op
 | none=>false
def Qfu (ops:Array Oper) (n0 k:Nat):Bool:=Nat.blt k n0 && (match ops[k]? with | some o=>isMk o | none=>false)
def Qdu (ops:Array Oper) (n0 k:Nat):Bool:=Qaq ops k && !Qfu ops n0 k
theorem Qf6 {ops:Array Oper} {n0 k:Nat} (h:n0≤k):Qdu ops n0 k=Qaq ops k:=by
 have:Nat.blt k n0=false:=by
  cases hb:Nat.blt k n0 with
  | false=>rfl
  | true=>rw [Nat.blt_eq] at hb;omega
 simp [Qdu,Qfu,this]
theorem Qc6 {ops:Array Oper} {n0 k:Nat} (h:Qdu ops n0 k=true):Qaq ops k=true:=by
 simp only [Qdu,Bool.and_eq_true] at h;exact h.1
structure Xp where
 A:Nat
 B:Nat
 st:St
variable (P)
def TailP (X:Xp) (ev:Qav) (ops:Array Oper) (e0:Env) (T:List Tr) (st0:St) (U:List Tl) (q:Nat):Prop :=
 ∃ o u,ops[T.length+q]?=some o∧U[q]?=some u∧o.dst=u.d∧(∀ d,u.d=some d→(∀ t∈T,t.d≠d)∧∀ k v,k < q→U[k]?=some v→v.d≠some d)∧(∀ e∈o.after.toList,Region.binds .any e=true→e.on < T.length+q) ∧
  u.s=(clos ops).getD (T.length+q) 0∧(Qc0 o.op=false→∀ k,k < T.length+q→Qdu ops T.length k=true→(k=X.A∧T.length+q=X.B)∨u.s.testBit k=true) ∧
  ((Qaz ops (envT e0 T (U.take q) u.s (Qay (clos ops) (T.length+q) (ops.toList.drop (T.length+q+1)) (T.length+q+1))) o=some false∧u.pv=.skip∧u.st=stAt st0 U q) ∨
   (Qaz ops (envT e0 T (U.take q) u.s (Qay (clos ops) (T.length+q) (ops.toList.drop (T.length+q+1)) (T.length+q+1))) o=some true∧Qbd P ev (envT e0 T (U.take q) u.s (Qay (clos ops) (T.length+q) (ops.toList.drop (T.length+q+1)) (T.length+q+1))) (stAt st0 U q) o=some (u.pv,u.st)))
variable {P}
theorem Qix {st0:St} {U V:List Tl} {q:Nat} (hq:q≤U.length):stAt st0 (U++V) q=stAt st0 U q:=by
 cases q with
 | zero=>rfl
 | succ q=>simp [stAt,List.getElem?_append_left (show q < U.length by omega)]
theorem TailP.append {X:Xp} {ev:Qav} {ops:Array Oper} {e0:Env} {T:List Tr} {st0:St} {U V:List Tl} {q:Nat} (hq:q < U.length) (h:TailP P X ev ops e0 T st0 U q):TailP P X ev ops e0 T st0 (U++V) q:=by
 obtain ⟨o,u,h1,h2,h3,h4,h5,h6,h7,h8⟩:=h;have ht:(U++V).take q=U.take q:=List.take_append_of_le_length (by omega);refine ⟨o,u,h1,by rw [List.getElem?_append_left hq];exact h2,h3,fun d hd=>⟨(h4 d hd).1,fun k v hk hv=>(h4 d hd).2 k v hk (by rwa [List.getElem?_append_left (by omega)] at hv)⟩,h5,h6,h7,?_⟩;rw [ht,Qix (by omega)];exact h8
theorem Qof:∀ {U:List Tl} {e:Env} {s k t:Nat} {x:PV},(Qog e U s k)[t]?=some x→(∃ j r,U[j]?=some r∧r.d=some t∧x=if s.testBit (k+j) then r.pv else .any)∨((∀ r∈U,r.d≠some t)∧e[t]?=some x)
 | [],e,s,k,t,x,h=>.inr ⟨by simp,h⟩
 | r :: U,e,s,k,t,x,h=>by
  rcases Qof (U:=U) h with ⟨j,r',h1,h2,h3⟩ | ⟨h1,h2⟩
  ·exact .inl ⟨j+1,r',by simpa using h1,h2,by rw [h3,show k+1+j=k+(j+1) by omega]⟩
  ·by_cases e':r.d=some t
   ·rw [e'] at h2;simp only [setE] at h2;have hlt:t < e.length:=by have:=(List.getElem?_eq_some_iff.1 h2).1;simpa using this
    rw [List.getElem?_set_self hlt] at h2;exact .inl ⟨0,r,rfl,e',by simpa using h2.symm⟩
   ·have h3:e[t]?=some x:=by
     cases hd:r.d with
     | none=>rw [hd] at h2;exact h2
     | some d =>
      rw [hd] at h2 e';simp only [setE] at h2;rwa [List.getElem?_set_ne (fun e=>e' (by rw [e]))] at h2
    refine .inr ⟨fun r' hr'=>?_,h3⟩;rcases List.mem_cons.1 hr' with rfl | hr'
    ·exact e'
    ·exact h1 r' hr'
theorem Qoe:∀ (U:List Tl) (e:Env) (s k:Nat),(Qog e U s k).length=e.length
 | [],_,_,_=>rfl
 | r :: U,e,s,k=>by rw [Qog,Qoe U];cases r.d <;> simp [setE]
section
variable {X:Xp} {ev:Qav} {ops:Array Oper} {e0:Env} {h0:List O} {T:List Tr} {U:List Tl} {m0:M} {w0:World} {a0:Act} {lo:Nat}
theorem Zcr {D:Nat→Bool} {a:Act} {m:M} (hT:∀ i,i < T.length→StepP P ev ops e0 h0 T i) (hU:∀ q,q < U.length→TailP P X ev ops e0 T ⟨hAt h0 T T.length,lo⟩ U q) (hdef:a.defers=[]) (hsz:a.tmps.size=a0.tmps.size)
  (hoff:∀ t,(∀ (k:Nat) (o:Oper),ops[k]?=some o→D k=true→o.dst≠some t)→a.eval (.tmp t)=a0.eval (.tmp t)) (he:ER m0 e0 a0) (hm0:∀ k p,m0 k=some p→m k=some p)
  (hvT:∀ k t,D k=true→T[k]?=some t→VP m t.pv (a.eval (.tmp t.d))) (hvU:∀ q u d,D (T.length+q)=true→U[q]?=some u→u.d=some d→VP m u.pv (a.eval (.tmp d)))
  {q s:Nat} (hq:q≤U.length) (hD:∀ k,k < T.length+q→s.testBit k=true→D k=true) (hlate:∀ (k:Nat) (o:Oper),T.length+q≤k→ops[k]?=some o→D k=true→k≠T.length+q∧((clos ops).getD k 0).testBit (T.length+q)=false):ER m (envT e0 T (U.take q) s (Qay (clos ops) (T.length+q) (ops.toList.drop (T.length+q+1)) (T.length+q+1))) a:=by
 refine ⟨hdef,⟨by rw [envT,Qgp,Qoe,Qdz,he.slots.1];simp [hsz],fun t x v hx hv=>?_⟩⟩;have hv':=Qjp hv;rcases Qgq hx with rfl | ⟨hnd,hx⟩
 ·exact trivial
 rcases Qof hx with ⟨j,r,h1,h2,h3⟩ | ⟨hnU,hx⟩
 ·split at h3
  ·rename_i hb;rw [List.getElem?_take] at h1;split at h1
   ·rename_i hj;have:=hvU j r t (hD _ (by omega) hb) h1 h2;rw [hv'] at this;rw [h3];exact this
   ·cases h1
  ·rw [h3];exact trivial
 rcases Qgo hx with ⟨j,r,h1,h2,h3⟩ | ⟨hnT,hx⟩
 ·rw [Nat.zero_add] at h3;split at h3
  ·rename_i hb;have hj:=(List.getElem?_eq_some_iff.1 h1).1;have:=hvT j r (hD _ (by omega) hb) h1;rw [h2,hv'] at this;rw [h3];exact this
  ·rw [h3];exact trivial
 ·have ho:a.eval (.tmp t)=a0.eval (.tmp t):=hoff t fun k o hk hDk e=>by
   by_cases hk1:k < T.length
   ·obtain ⟨o',t',g1,g2,g3,_⟩:=hT k hk1;rw [hk] at g1;cases g1;rw [g3] at e;cases e;exact hnT t' (List.mem_of_getElem? g2) rfl
   ·by_cases hk2:k < T.length+q
    ·obtain ⟨o',u',g1,g2,g3,_⟩:=hU (k - T.length) (by omega);rw [show T.length+(k - T.length)=k by omega,hk] at g1;cases g1;exact hnU u' (List.mem_of_getElem? (i:=k - T.length) (by rw [List.getElem?_take,if_pos (by omega)];exact g2)) (by rw [← g3,e])
    ·obtain ⟨l1,l2⟩:=hlate k o (by omega) hk hDk;apply hnd;have g1':ops.toList[k]?=some o:=by simpa using hk
     refine Qfp (j:=k - (T.length+q+1)) (o:=o) ?_ e (by rwa [show T.length+q+1+(k - (T.length+q+1))=k by omega]);rw [List.getElem?_drop,show T.length+q+1+(k - (T.length+q+1))=k by omega];exact g1'
  have:=Qe3 (x:=.tmp t) he hx;rw [← ho,hv'] at this;exact this.ext hm0
def Qdp (ops:Array Oper) (n0 i q:Nat):Bool:=(List.range ops.size).all fun k=>!Qdu ops n0 k || (if k < n0+q then !((clos ops).getD k 0).testBit i else !((clos ops).getD i 0).testBit k)
variable (P)
def Qzz (ops:Array Oper) (e0:Env) (T:List Tr) (U:List Tl) (st0:St):Prop:=∀ (i:Nat) (o:Oper) (t:Tr),ops[i]?=some o→T[i]?=some t→Qcu o.op=true→t.pv≠.skip→∀ q,q≤U.length→Qdp ops T.length i q=true →
 ∃ s,evLd P (Qfw e0 (T.take i) t.s (Qay (clos ops) i (ops.toList.drop (i+1)) (i+1))) (stAt st0 U q) o=some s∧t.pv=.s s
def Qzy (ops:Array Oper) (e0:Env) (T:List Tr) (U:List Tl) (st0:St):Prop:=∀ (j:Nat) (o:Oper) (u:Tl),ops[T.length+j]?=some o→U[j]?=some u→Qcu o.op=true→u.pv≠.skip→∀ q,q≤U.length→Qdp ops T.length (T.length+j) q=true →
 ∃ s,evLd P (envT e0 T (U.take j) u.s (Qay (clos ops) (T.length+j) (ops.toList.drop (T.length+j+1)) (T.length+j+1))) (stAt st0 U q) o=some s∧u.pv=.s s
variable {P}
def Ph2 (ops:Array Oper) (h0:List O) (T:List Tr) (U:List Tl) (m0:M) (w0:World) (lo:Nat) (D:Nat→Bool) (w:World) (m:M):Prop :=
 ∃ q,0 < q∧q≤U.length∧(∀ k,k < T.length+q→Qdu ops T.length k=true→D k=true)∧(∀ k,T.length+q≤k→D k=true→Qaq ops k=false)∧Res m0 ⟨h0,lo⟩ w0 m (stAt ⟨hAt h0 T T.length,lo⟩ U q) w
def Ph3 (X:Xp) (ops:Array Oper) (n0:Nat) (h0:List O) (m0:M) (w0:World) (lo:Nat) (D:Nat→Bool) (w:World) (m:M):Prop :=
 (X.A < X.B∧n0≤X.A)∧Qaq ops X.A=true∧Qaq ops X.B=true∧D X.B=true∧D X.A=false∧(∀ k,Qdu ops n0 k=true→k≠X.A→D k=true)∧Res m0 ⟨h0,lo⟩ w0 m X.st w
structure Inv2 (X:Xp) (ops:Array Oper) (h0:List O) (T:List Tr) (U:List Tl) (m0:M) (w0:World) (a0:Act) (lo:Nat) (D:Nat→Bool) (a:Act) (w:World) (m:M):Prop where
 defers:a.defers=[]
 size:a.tmps.size=a0.tmps.size
 off:∀ t,(∀ (k:Nat) (o:Oper),ops[k]?=some o→D k=true→o.dst≠some t)→a.eval (.tmp t)=a0.eval (.tmp t)
 m0m:∀ k p,m0 k=some p→m k=some p
 vT:∀ (k:Nat) (t:Tr),D k=true→T[k]?=some t→VP m t.pv (a.eval (.tmp t.d))
 vU:∀ (q:Nat) (u:Tl) (d:Tmp),D (T.length+q)=true→U[q]?=some u→u.d=some d→VP m u.pv (a.eval (.tmp d))
 unm:∀ (j:Nat),D j=false→j < T.length→∀ i,(hAt h0 T j).length≤i→i < (hAt h0 T (j+1)).length→m i=none
 phase:(Inv ops h0 T m0 w0 a0 D a w m∧∀ k,T.length≤k→D k=true→Qaq ops k=false)∨Ph2 ops h0 T U m0 w0 lo D w m∨Ph3 X ops T.length h0 m0 w0 lo D w m
theorem Ph2.more {D:Nat→Bool} {w:World} {m:M} (h:Ph2 ops h0 T U m0 w0 lo D w m) {i:Nat} (hk:Qaq ops i=false):Ph2 ops h0 T U m0 w0 lo (fun k=>D k || k == i) w m:=by
 obtain ⟨q,q1,q2,q3,q4,q5⟩:=h;refine ⟨q,q1,q2,fun k hk1 hk2=>by simp [q3 k hk1 hk2],fun k hk1 hk2=>?_,q5⟩;by_cases e:k=i
 ·subst e;exact hk
 ·exact q4 k hk1 (by simpa [e] using hk2)
theorem Ph3.more {n0:Nat} {D:Nat→Bool} {w:World} {m:M} (h:Ph3 X ops n0 h0 m0 w0 lo D w m) {i:Nat} (hk:Qaq ops i=false):Ph3 X ops n0 h0 m0 w0 lo (fun k=>D k || k == i) w m:=by
 obtain ⟨h1,h2,h3,h4,h5,h6,h7⟩:=h;refine ⟨h1,h2,h3,by simp [h4],?_,fun k k1 k2=>by simp [h6 k k1 k2],h7⟩;have:X.A≠i:=fun e=>by rw [e,hk] at h2;cases h2
 simp [h5,this]
theorem Zbf (hT:∀ i,i < T.length→StepP P ev ops e0 h0 T i) {k:Nat} {t:Tr} (ht:T[k]?=some t):∃ o,ops[k]?=some o∧o.dst=some t.d:=by
 obtain ⟨o',t',g1,g2,g3,_⟩:=hT k (List.getElem?_eq_some_iff.1 ht).1;rw [ht] at g2;cases g2;exact ⟨o',g1,g3⟩
theorem Qy1 (hU:∀ q,q < U.length→TailP P X ev ops e0 T ⟨hAt h0 T T.length,lo⟩ U q) {q:Nat} {u:Tl} (hu:U[q]?=some u):∃ o,ops[T.length+q]?=some o∧o.dst=u.d:=by
 obtain ⟨o',t',g1,g2,g3,_⟩:=hU q (List.getElem?_eq_some_iff.1 hu).1;rw [hu] at g2;cases g2;exact ⟨o',g1,g3⟩
theorem Qm5 (hT:∀ i,i < T.length→StepP P ev ops e0 h0 T i) (hU:∀ q,q < U.length→TailP P X ev ops e0 T ⟨hAt h0 T T.length,lo⟩ U q) (hn:T.length+U.length=ops.size) :
  ∀ {k j:Nat} {x y:Oper} {d:Tmp},ops[k]?=some x→ops[j]?=some y→x.dst=some d→y.dst=some d→k=j:=by
 have g:∀ (k j:Nat) (x y:Oper) (d:Tmp),ops[k]?=some x→ops[j]?=some y→x.dst=some d→y.dst=some d→¬ k < j:=fun k j x y d hx hy dx dy hlt=>by
  have hjo:j < ops.size:=(Array.getElem?_eq_some_iff.1 hy).1;by_cases hj:j < T.length
  ·obtain ⟨o',t',g1,g2,g3,g4,_⟩:=hT j hj;rw [hy] at g1;cases g1;have hkT:k < T.length:=by omega
   obtain ⟨o2,t2,k1,k2,k3,_⟩:=hT k hkT;rw [hx] at k1;cases k1;rw [dx] at k3;rw [dy] at g3;exact g4 k t2 hlt k2 (by have e1:=Option.some.inj k3;have e2:=Option.some.inj g3;rw [← e1,← e2])
  ·obtain ⟨o',u',g1,g2,g3,g4,_⟩:=hU (j - T.length) (by omega);rw [show T.length+(j - T.length)=j by omega,hy] at g1;cases g1;obtain ⟨f1,f2⟩:=g4 d (by rw [← g3,dy]);by_cases hkT:k < T.length
   ·obtain ⟨o2,t2,k1,k2,k3,_⟩:=hT k hkT;rw [hx] at k1;cases k1;rw [dx] at k3;exact f1 t2 (List.mem_of_getElem? k2) (Option.some.inj k3).symm
   ·obtain ⟨o2,u2,k1,k2,k3,_⟩:=hU (k - T.length) (by omega);rw [show T.length+(k - T.length)=k by omega,hx] at k1;cases k1;exact f2 (k - T.length) u2 (by omega) k2 (by rw [← k3,dx])
 intro k j x y d hx hy dx dy;have:=g k j x y d hx hy dx dy;have:=g j k y x d hy hx dy dx;omega
theorem Inv2.put {D:Nat→Bool} {a:Act} {w:World} {m:M} (hT:∀ i,i < T.length→StepP P ev ops e0 h0 T i) (hU:∀ q,q < U.length→TailP P X ev ops e0 T ⟨hAt h0 T T.length,lo⟩ U q) (hn:T.length+U.length=ops.size)
  (hI:Inv2 X ops h0 T U m0 w0 a0 lo D a w m) (_hs0:SR m0 h0 w0) (hds:∀ (k:Nat) (o:Oper) (d:Tmp),ops[k]?=some o→o.dst=some d→d < a0.tmps.size) {i:Nat} {o:Oper} (ho:ops[i]?=some o) (hi:T.length≤i∨Ph2 ops h0 T U m0 w0 lo D w m∨Ph3 X ops T.length h0 m0 w0 lo D w m)
  (hk:Qaq ops i=false) {v:Value} (hvT:∀ t,T[i]?=some t→VP m t.pv v) (hvU:∀ u,T.length≤i→U[i - T.length]?=some u→VP m u.pv v) :
  Inv2 X ops h0 T U m0 w0 a0 lo (fun k=>D k || k == i) (a.put o.dst v) w m:=by
 have hio:i < ops.size:=(Array.getElem?_eq_some_iff.1 ho).1;have dstT:=fun (k:Nat) (t:Tr) (ht:T[k]?=some t)=>Zbf hT ht;have dstU:=fun (q:Nat) (u:Tl) (hu:U[q]?=some u)=>Qy1 hU hu;have sep:=fun (k j:Nat) (x y:Oper) (d:Tmp) (hx:ops[k]?=some x) (hy:ops[j]?=some y) (dx:x.dst=some d) (dy:y.dst=some d)=>Qm5 hT hU hn hx hy dx dy;have ev_ne:∀ (k:Nat) (x:Oper) (d:Tmp),ops[k]?=some x→x.dst=some d→k≠i→(a.put o.dst v).eval (.tmp d)=a.eval (.tmp d):=fun k x d hx hd hne=>by
  cases hod:o.dst with
  | none=>rfl
  | some d'=>exact Flow.eval_put_ne fun e=>hne (sep k i x o d hx ho hd (by rw [hod,e]))
 have ev_same:∀ d,o.dst=some d→(a.put o.dst v).eval (.tmp d)=v:=fun d hd=>by
  rw [hd];exact Flow.eval_put_same (by rw [hI.size];exact hds i o d ho hd)
 have hoff':∀ t,(∀ (k:Nat) (o:Oper),ops[k]?=some o→(D k || k == i)=true→o.dst≠some t)→(a.put o.dst v).eval (.tmp t)=a0.eval (.tmp t):=fun t ht=>by
  rw [← hI.off t fun k o hk hD=>ht k o hk (by simp [hD])];cases hod:o.dst with
  | none=>rfl
  | some d'=>exact Flow.eval_put_ne fun e=>ht i o ho (by simp) (by rw [hod,e])
 refine ⟨by rw [Flow.put_defers];exact hI.defers,by rw [Flow.put_size];exact hI.size,hoff',hI.m0m,fun k t hD ht=>?_,fun q u d hD hu hd=>?_,fun j hD=>hI.unm j (by
  have hD:(D j || j == i)=false:=hD;simp only [Bool.or_eq_false_iff] at hD;exact hD.1),?_⟩
 ·obtain ⟨x,hx,hxd⟩:=dstT k t ht;by_cases e:k=i
  ·subst e;rw [ho] at hx;cases hx;rw [ev_same t.d hxd];exact hvT t ht
  ·rw [ev_ne k x t.d hx hxd e];exact hI.vT k t (by simpa [e] using hD) ht
 ·obtain ⟨x,hx,hxd⟩:=dstU q u hu;rw [hd] at hxd;by_cases e:T.length+q=i
  ·subst e;rw [ho] at hx;cases hx;rw [ev_same d hxd];exact hvU u (by omega) (by rw [show T.length+q - T.length=q by omega];exact hu)
  ·rw [ev_ne _ x d hx hxd e];exact hI.vU q u d (by simpa [e] using hD) hu hd
 ·rcases hI.phase with ⟨hI1,h2⟩ | h
  ·rcases hi with hi | h | h
   ·refine .inl ⟨⟨hI1.base,fun k p hkp=>(hI1.doms k p hkp).imp id fun ⟨j,g1,g2⟩=>⟨j,by simp [g1],g2⟩,hI1.sr,fun k t hD ht=>?_,by rw [Flow.put_defers];exact hI1.defers,by rw [Flow.put_size];exact hI1.size,hoff',hI1.fr⟩,fun k hk1 hk2=>?_⟩
    ·have hkT:=(List.getElem?_eq_some_iff.1 ht).1;obtain ⟨x,hx,hxd⟩:=dstT k t ht;have e:k≠i:=by omega
     rw [ev_ne k x t.d hx hxd e];exact hI1.vals k t (by simpa [e] using hD) ht
    ·by_cases e:k=i
     ·subst e;exact hk
     ·exact h2 k hk1 (by simpa [e] using hk2)
   ·exact .inr (.inl (h.more hk))
   ·exact .inr (.inr (h.more hk))
  ·rcases h with h | h
   ·exact .inr (.inl (h.more hk))
   ·exact .inr (.inr (h.more hk))
end
end Ev
end Go.Proofs.YtcpodmjcgfgmnaaGreat
namespace Go.Proofs.YtcpodmjcgfgmnaaGreat
open Go.RowKit
namespace Ev
variable {P:Program}
section
variable {X:Xp} {ev:Qav} {ops:Array Oper} {e0:Env} {h0:List O} {T:List Tr} {U:List Tl} {m0:M} {w0:World} {a0:Act} {lo:Nat}
theorem er_T {D:Nat→Bool} {a:Act} {m:M} (hT:∀ i,i < T.length→StepP P ev ops e0 h0 T i) (hdef:a.defers=[]) (hsz:a.tmps.size=a0.tmps.size)
  (hoff:∀ t,(∀ (k:Nat) (o:Oper),ops[k]?=some o→D k=true→o.dst≠some t)→a.eval (.tmp t)=a0.eval (.tmp t)) (he:ER m0 e0 a0) (hm0:∀ k p,m0 k=some p→m k=some p)
  (hvT:∀ k t,D k=true→T[k]?=some t→VP m t.pv (a.eval (.tmp t.d))) {i s:Nat} (hi:i≤T.length) (hD:∀ k,k < i→s.testBit k=true→D k=true) (hlate:∀ (k:Nat) (o:Oper),i≤k→ops[k]?=some o→D k=true→k≠i∧((clos ops).getD k 0).testBit i=false) :
  ER m (Qfw e0 (T.take i) s (Qay (clos ops) i (ops.toList.drop (i+1)) (i+1))) a:=by
 refine ⟨hdef,⟨by rw [Qfw,Qgp,Qdz,he.slots.1];simp [hsz],fun t x v hx hv=>?_⟩⟩;have hv':=Qjp hv;rcases Qgq hx with rfl | ⟨hnd,hx⟩
 ·exact trivial
 rcases Qgo hx with ⟨j,r,h1,h2,h3⟩ | ⟨hnT,hx⟩
 ·rw [Nat.zero_add] at h3;split at h3
  ·rename_i hb;rw [List.getElem?_take] at h1;split at h1
   ·rename_i hj;have:=hvT j r (hD _ hj hb) h1;rw [h2,hv'] at this;rw [h3];exact this
   ·cases h1
  ·rw [h3];exact trivial
 ·have ho:a.eval (.tmp t)=a0.eval (.tmp t):=hoff t fun k o hk hDk e=>by
   by_cases hk1:k < i
   ·obtain ⟨o',t',g1,g2,g3,_⟩:=hT k (by omega);rw [hk] at g1;cases g1;rw [g3] at e;cases e;exact hnT t' (List.mem_of_getElem? (i:=k) (by rw [List.getElem?_take,if_pos hk1];exact g2)) rfl
   ·obtain ⟨l1,l2⟩:=hlate k o (by omega) hk hDk;apply hnd;have g1':ops.toList[k]?=some o:=by simpa using hk
    refine Qfp (j:=k - (i+1)) (o:=o) ?_ e (by rwa [show i+1+(k - (i+1))=k by omega]);rw [List.getElem?_drop,show i+1+(k - (i+1))=k by omega];exact g1'
  have:=Qe3 (x:=.tmp t) he hx;rw [← ho,hv'] at this;exact this.ext hm0
theorem Inv.full {D:Nat→Bool} {a:Act} {w:World} {m:M} (hT:∀ i,i < T.length→StepP P ev ops e0 h0 T i) (hI:Inv ops h0 T m0 w0 a0 D a w m):res m (hAt h0 T T.length).length=m:=by
 funext k;unfold res;split
 ·rfl
 ·rename_i hk;cases hm:m k with
  | none=>rfl
  | some p =>
   exfalso;rcases hI.doms k p hm with h | ⟨j,_,h2,_,h4⟩
   ·obtain ⟨L,hL⟩:=Qev hT (Nat.zero_le T.length) (Nat.le_refl _);have hL:hAt h0 T T.length=h0++L:=hL;rw [hL] at hk;simp at hk;omega
   ·obtain ⟨L,hL⟩:=Qev hT (show j+1≤T.length by omega) (Nat.le_refl _);rw [hL] at hk;simp at hk;omega
theorem Inv.res {D:Nat→Bool} {a:Act} {w:World} {m:M} (hT:∀ i,i < T.length→StepP P ev ops e0 h0 T i) (_hs0:SR m0 h0 w0) (hI:Inv ops h0 T m0 w0 a0 D a w m):Res m0 ⟨h0,lo⟩ w0 m ⟨hAt h0 T T.length,lo⟩ w:=by
 obtain ⟨L,hL⟩:=Qev hT (Nat.zero_le T.length) (Nat.le_refl _);have hL:hAt h0 T T.length=h0++L:=hL;have hle:h0.length≤(hAt h0 T T.length).length:=by rw [hL];simp
 have hf:=hI.fr;have hsr:=hI.sr T.length (Nat.le_refl _);rw [hI.full hT] at hsr;refine ⟨hsr,⟨hf.same,hf.back,fun k p hk hm=>?_,hf.size,hf.os,hf.tape,hf.output,fun b hb _=>hf.keep b hb fun i p h1 h2=>by omega⟩,hle,Nat.le_refl _,fun i hi _=>?_⟩
 ·rcases hf.new k p hk hm with h | ⟨i,q,h1,h2,_⟩
  ·exact .inl h
  ·omega
 ·show (hAt h0 T T.length)[i]?=h0[i]?;rw [hL,List.getElem?_append_left hi]
theorem Qut (hU:∀ q,q < U.length→TailP P X ev ops e0 T ⟨hAt h0 T T.length,lo⟩ U q) {q:Nat} (hq:q < U.length) (hs:Qaq ops (T.length+q)=false):stAt ⟨hAt h0 T T.length,lo⟩ U (q+1)=stAt ⟨hAt h0 T T.length,lo⟩ U q:=by
 obtain ⟨o,u,h1,h2,_,_,_,_,_,h8⟩:=hU q hq;have e:stAt ⟨hAt h0 T T.length,lo⟩ U (q+1)=u.st:=by simp [stAt,h2]
 rw [e];rcases h8 with ⟨_,_,h⟩ | ⟨_,h⟩
 ·exact h
 ·have hp:Qc0 o.op=true:=by simpa [Qaq,h1] using hs
  simp only [Qc0,Bool.or_eq_true] at hp;rcases hp with hp | hp
  ·exact (Qiv hp h).1
  ·exact Qur hp h
theorem Qb6 (hU:∀ q,q < U.length→TailP P X ev ops e0 T ⟨hAt h0 T T.length,lo⟩ U q):∀ {q p:Nat},p≤q→q≤U.length→(∀ k,T.length+p≤k→k < T.length+q→Qaq ops k=false)→stAt ⟨hAt h0 T T.length,lo⟩ U q=stAt ⟨hAt h0 T T.length,lo⟩ U p
 | 0,p,hp,_,_=>by rw [show p=0 by omega]
 | q+1,p,hp,hq,hs=>by
  by_cases e:p=q+1
  ·rw [e]
  ·rw [Qut hU (by omega) (hs _ (by omega) (by omega))];exact Qb6 hU (by omega) (by omega) fun k h1 h2=>hs k h1 (by omega)
theorem Inv2.res {D:Nat→Bool} {a:Act} {w:World} {m:M} (hT:∀ i,i < T.length→StepP P ev ops e0 h0 T i) (hU:∀ q,q < U.length→TailP P X ev ops e0 T ⟨hAt h0 T T.length,lo⟩ U q) (hs0:SR m0 h0 w0)
  (hI:Inv2 X ops h0 T U m0 w0 a0 lo D a w m) {q:Nat} (hq:q≤U.length) (hall:∀ k,k < T.length+q→Qdu ops T.length k=true→D k=true) (hnone:∀ k,T.length+q≤k→D k=true→Qaq ops k=false):Res m0 ⟨h0,lo⟩ w0 m (stAt ⟨hAt h0 T T.length,lo⟩ U q) w:=by
 rcases hI.phase with ⟨h1,h2⟩ | ⟨p,p1,p2,p3,p4,p5⟩ | ⟨x1,x2,x3,x4,x5,x6,x7⟩
 ·rw [Qb6 hU (Nat.zero_le q) hq fun k k1 k2=>by
   cases hs:Qaq ops k with
   | false=>rfl
   | true=>have:=h2 k (by omega) (hall k k2 (by rw [Qf6 (by omega)];exact hs));rw [hs] at this;cases this]
  exact h1.res hT hs0
 ·by_cases hpq:p≤q
  ·rw [Qb6 hU hpq hq fun k k1 k2=>by
    cases hs:Qaq ops k with
    | false=>rfl
    | true=>have:=p4 k k1 (hall k k2 (by rw [Qf6 (by omega)];exact hs));rw [hs] at this;cases this]
   exact p5
  ·rw [← Qb6 hU (show q≤p by omega) p2 fun k k1 k2=>by
    cases hs:Qaq ops k with
    | false=>rfl
    | true=>have:=hnone k k1 (p3 k k2 (by rw [Qf6 (by omega)];exact hs));rw [hs] at this;cases this]
   exact p5
 ·exfalso;by_cases c:X.A < T.length+q
  ·have:=hall X.A c (by rw [Qf6 x1.2];exact x2);rw [x5] at this;cases this
  ·have:=hnone X.B (by have:=x1.1;omega) x4;rw [x3] at this;cases this
structure XOk (P:Program) (X:Xp) (ev:Qav) (ops:Array Oper) (e0:Env) (T:List Tr) (U:List Tl) (st0:St):Prop where
 last:∀ k,Qaq ops k=true→k≠X.A→k≠X.B→k < X.A
 inU:T.length≤X.A∧X.B < T.length+U.length
 stepB:∀ o u,ops[X.B]?=some o→U[X.B - T.length]?=some u→Qaz ops (envT e0 T (U.take (X.B - T.length)) u.s (Qay (clos ops) X.B (ops.toList.drop (X.B+1)) (X.B+1))) o=some true ∧
  Qbd P ev (envT e0 T (U.take (X.B - T.length)) u.s (Qay (clos ops) X.B (ops.toList.drop (X.B+1)) (X.B+1))) (stAt st0 U (X.A - T.length)) o=some (u.pv,X.st)
 stepA:∀ o u,ops[X.A]?=some o→U[X.A - T.length]?=some u→Qaz ops (envT e0 T (U.take (X.A - T.length)) u.s (Qay (clos ops) X.A (ops.toList.drop (X.A+1)) (X.A+1))) o=some true ∧
  Qbd P ev (envT e0 T (U.take (X.A - T.length)) u.s (Qay (clos ops) X.A (ops.toList.drop (X.A+1)) (X.A+1))) X.st o=some (u.pv,stAt st0 U U.length)
 loadT:∀ (i:Nat) (o:Oper) (t:Tr),ops[i]?=some o→T[i]?=some t→Qcu o.op=true→t.pv≠.skip→((clos ops).getD X.B 0).testBit i=false→((clos ops).getD i 0).testBit X.A=false →
  ∃ s,evLd P (Qfw e0 (T.take i) t.s (Qay (clos ops) i (ops.toList.drop (i+1)) (i+1))) X.st o=some s∧t.pv=.s s
 loadU:∀ (j:Nat) (o:Oper) (u:Tl),ops[T.length+j]?=some o→U[j]?=some u→Qcu o.op=true→u.pv≠.skip→((clos ops).getD X.B 0).testBit (T.length+j)=false→((clos ops).getD (T.length+j) 0).testBit X.A=false →
  ∃ s,evLd P (envT e0 T (U.take j) u.s (Qay (clos ops) (T.length+j) (ops.toList.drop (T.length+j+1)) (T.length+j+1))) X.st o=some s∧u.pv=.s s
theorem Inv.unm {D:Nat→Bool} {a:Act} {w:World} {m:M} (hT:∀ i,i < T.length→StepP P ev ops e0 h0 T i) (hI:Inv ops h0 T m0 w0 a0 D a w m):∀ (j:Nat),D j=false→j < T.length→∀ i,(hAt h0 T j).length≤i→i < (hAt h0 T (j+1)).length→m i=none:=fun j hD hj i h1 h2=>by
 have mono:∀ {p q:Nat},p≤q→q≤T.length→(hAt h0 T p).length≤(hAt h0 T q).length:=fun {p q} h1 h2=>by
  obtain ⟨L,hL⟩:=Qev hT h1 h2;rw [hL];simp
 cases hm:m i with
 | none=>rfl
 | some p =>
  exfalso;rcases hI.doms i p hm with h | ⟨k,g1,g2,g3,g4⟩
  ·have:=mono (Nat.zero_le j) (by omega);rw [show hAt h0 T 0=h0 from rfl] at this;omega
  ·by_cases e:k=j
   ·subst e;rw [hD] at g1;cases g1
   ·rcases Nat.lt_or_gt_of_ne e with hlt | hlt
    ·have:=mono (show k+1≤j by omega) (by omega);omega
    ·have:=mono (show j+1≤k by omega) (by omega);omega
theorem Inv2.late {D:Nat→Bool} {a:Act} {w w':World} {m m':M} (hT:∀ i,i < T.length→StepP P ev ops e0 h0 T i) (hU:∀ q,q < U.length→TailP P X ev ops e0 T ⟨hAt h0 T T.length,lo⟩ U q) (hn:T.length+U.length=ops.size)
  (hI:Inv2 X ops h0 T U m0 w0 a0 lo D a w m) (hds:∀ (k:Nat) (o:Oper) (d:Tmp),ops[k]?=some o→o.dst=some d→d < a0.tmps.size) {i:Nat} {o:Oper} {t:Tr} (ho:ops[i]?=some o) (ht:T[i]?=some t) {v:Value} (hv:VP m' t.pv v)
  (hlen:(hAt h0 T i).length < (hAt h0 T (i+1)).length) (hsub:∀ k p,m k=some p→m' k=some p) (hoth:∀ k,k≠(hAt h0 T i).length→m' k=m k)
  (hph:Ph2 ops h0 T U m0 w0 lo (fun k=>D k || k == i) w' m'∨Ph3 X ops T.length h0 m0 w0 lo (fun k=>D k || k == i) w' m') :
  Inv2 X ops h0 T U m0 w0 a0 lo (fun k=>D k || k == i) (a.put o.dst v) w' m':=by
 have hiT:=(List.getElem?_eq_some_iff.1 ht).1;have mono:∀ {p q:Nat},p≤q→q≤T.length→(hAt h0 T p).length≤(hAt h0 T q).length:=fun {p q} h1 h2=>by
  obtain ⟨L,hL⟩:=Qev hT h1 h2;rw [hL];simp
 have ev_ne:∀ (k:Nat) (x:Oper) (d:Tmp),ops[k]?=some x→x.dst=some d→k≠i→(a.put o.dst v).eval (.tmp d)=a.eval (.tmp d):=fun k x d hx hd hne=>by
  cases hod:o.dst with
  | none=>rfl
  | some d'=>exact Flow.eval_put_ne fun e=>hne (Qm5 hT hU hn hx ho hd (by rw [hod,e]))
 refine ⟨by rw [Flow.put_defers];exact hI.defers,by rw [Flow.put_size];exact hI.size,fun t ht=>?_,fun k p hk=>hsub k p (hI.m0m k p hk),fun k t' hD ht'=>?_,fun q u d hD hu hd=>?_,fun j hD hj k h1 h2=>?_,.inr hph⟩
 ·rw [← hI.off t fun k o hk hD=>ht k o hk (by simp [hD])];cases hod:o.dst with
  | none=>rfl
  | some d'=>exact Flow.eval_put_ne fun e=>ht i o ho (by simp) (by rw [hod,e])
 ·obtain ⟨x,hx,hxd⟩:=Zbf hT ht';by_cases e:k=i
  ·subst e;rw [ht] at ht';cases ht';rw [ho] at hx;cases hx;rw [hxd,Flow.eval_put_same (by rw [hI.size];exact hds _ o t.d ho hxd)];exact hv
  ·rw [ev_ne k x t'.d hx hxd e];exact (hI.vT k t' (by simpa [e] using hD) ht').ext hsub
 ·obtain ⟨x,hx,hxd⟩:=Qy1 hU hu;rw [hd] at hxd;rw [ev_ne _ x d hx hxd (by omega)];exact (hI.vU q u d (by simpa [show T.length+q≠i by omega] using hD) hu hd).ext hsub
 ·have hD:(D j || j == i)=false:=hD;simp only [Bool.or_eq_false_iff,beq_eq_false_iff_ne,ne_eq] at hD;rw [hoth k fun e=>?_]
  ·exact hI.unm j hD.1 hj k h1 h2
  ·rcases Nat.lt_or_gt_of_ne hD.2 with hlt | hlt
   ·have:=mono (show j+1≤i by omega) (by omega);omega
   ·have:=mono (show i+1≤j by omega) (by omega);omega
theorem any2 (hN:Qcx P) (hev:Qfj P ev) {Q:Exit→Act→World→Prop} (hT:∀ i,i < T.length→StepP P ev ops e0 h0 T i) (hU:∀ q,q < U.length→TailP P X ev ops e0 T ⟨hAt h0 T T.length,lo⟩ U q) (hn:T.length+U.length=ops.size)
  (hlT:Qzz P ops e0 T U ⟨hAt h0 T T.length,lo⟩) (hlU:Qzy P ops e0 T U ⟨hAt h0 T T.length,lo⟩) (hX:X.A < X.B→Qaq ops X.A=true→Qaq ops X.B=true→XOk P X ev ops e0 T U ⟨hAt h0 T T.length,lo⟩)
  (hlen:∀ q,q≤U.length→(hAt h0 T T.length).length≤(stAt ⟨hAt h0 T T.length,lo⟩ U q).h.length) (hlenX:X.A < X.B→Qaq ops X.A=true→Qaq ops X.B=true→(hAt h0 T T.length).length≤X.st.h.length)
  (hL:∀ i,Qfu ops T.length i=true→∀ q,q≤U.length→(∀ k,T.length≤k→k < T.length+q→Qaq ops k=true→((clos ops).getD k 0).testBit i=false)→(stAt ⟨hAt h0 T T.length,lo⟩ U q).h[(hAt h0 T i).length]?=(hAt h0 T (i+1))[(hAt h0 T i).length]?)
  (hLX:X.A < X.B→Qaq ops X.A=true→Qaq ops X.B=true→∀ i,Qfu ops T.length i=true→((clos ops).getD X.B 0).testBit i=false→X.st.h[(hAt h0 T i).length]?=(hAt h0 T (i+1))[(hAt h0 T i).length]?)
  (hs0:SR m0 h0 w0) (he0:ER m0 e0 a0) (hds:∀ (k:Nat) (o:Oper) (d:Tmp),ops[k]?=some o→o.dst=some d→d < a0.tmps.size)
  (hQ:∀ a' w' m',ER m' (envT e0 T U (2 ^ ops.size - 1) []) a'→Res m0 ⟨h0,lo⟩ w0 m' (stAt ⟨hAt h0 T T.length,lo⟩ U U.length) w'→Q .normal a' w') :
  ∀ (fuel:Nat) (listed:Array Bool) (a:Act) (w:World) (m:M),listed.size=ops.size→Flow.left listed=fuel→Inv2 X ops h0 T U m0 w0 a0 lo (fun k=>listed.getD k false) a w m →
   (∀ q,q < ops.size→listed.getD q false=true→∀ k,((clos ops).getD q 0).testBit k=true→listed.getD k false=true)→wpAny P .any ops Q fuel listed a w:=by
 have hback:∀ (i:Nat) (o:Oper),ops[i]?=some o→∀ e∈o.after.toList,Region.binds .any e=true→e.on < i:=fun i o ho=>by
  have hio:i < ops.size:=(Array.getElem?_eq_some_iff.1 ho).1;by_cases hi:i < T.length
  ·obtain ⟨o',t,g1,_,_,_,g5,_⟩:=hT i hi;rw [ho] at g1;cases g1;exact g5
  ·obtain ⟨o',u,g1,_,_,_,g5,_⟩:=hU (i - T.length) (by omega);rw [show T.length+(i - T.length)=i by omega,ho] at g1;cases g1;exact fun e he hb=>by have:=g5 e he hb;omega
 have hclt:∀ n k,k < n→k < ops.size→∀ j,((clos ops).getD k 0).testBit j=true→j < k:=by
  intro n;induction n with
  | zero=>intro k h;omega
  | succ n ih =>
   intro k hk hks j hj;have ho:ops[k]?=some ops[k]:=by simp [hks]
   have hcs:=(Qfh (l:=ops.toList) (S:=[])).2.2 k ops[k] (by simp);simp only [List.length_nil,Nat.zero_add] at hcs;rw [hcs] at hj;rcases Qm6 hj with h | ⟨e,h1,h2,h3⟩
   ·simp at h
   ·have hlt:=hback k _ ho e h1 h2;rcases h3 with h3 | h3
    ·omega
    ·have e1:((Qcw ops.toList []).take k).getD e.on 0=(clos ops).getD e.on 0:=by
      rw [List.getD_eq_getElem?_getD,List.getElem?_take,if_pos hlt,← List.getD_eq_getElem?_getD]
     rw [e1] at h3;have:=ih e.on (by omega) (by omega) j h3;omega
 have hdone:∀ (listed:Array Bool) (a:Act) (w:World) (m:M),listed.size=ops.size→Inv2 X ops h0 T U m0 w0 a0 lo (fun k=>listed.getD k false) a w m→Region.ready .any ops listed=[]→Q .normal a w:=by
  intro listed a w m hsz hI hr;have hall:∀ n i,i < n→i < ops.size→listed.getD i false=true:=by
   intro n;induction n with
   | zero=>intro i h;omega
   | succ n ih =>
    intro i hi hio;by_cases hin:i < n
    ·exact ih i hin hio
    ·have hin:i=n:=by omega
     cases hl:listed.getD i false with
     | true=>rfl
     | false =>
      exfalso;have ho:ops[i]?=some ops[i]:=by simp [hio]
      have:i∈Region.ready .any ops listed:=mem_ready.2 ⟨by
       have:i < listed.size:=by omega
       simpa [this] using hl,_,ho,fun e he hbe=>ih e.on (by have:=hback i _ ho e (by simpa using he) hbe;omega) (by have:=hback i _ ho e (by simpa using he) hbe;omega)⟩
      rw [hr] at this;cases this
  have her:=Zcr hT hU hI.defers hI.size hI.off he0 hI.m0m hI.vT hI.vU (q:=U.length) (s:=2 ^ ops.size - 1) (Nat.le_refl _) (fun k hk _=>hall (k+1) k (by omega) (by omega)) (fun k o hk ho=>by have:=(Array.getElem?_eq_some_iff.1 ho).1;omega);rw [List.take_length,hn,List.drop_eq_nil_of_le (by simp)] at her;have hres:=hI.res hT hU hs0 (q:=U.length) (Nat.le_refl _) (fun k hk _=>hall (k+1) k (by omega) (by omega)) (fun k hk _=>by
   have:ops[k]?=none:=by simp;omega
   simp [Qaq,this])
  exact hQ a w m her hres
 intro fuel;induction fuel with
 | zero =>
  intro listed a w m hsz hl hI _;have hr:Region.ready .any ops listed=[]:=by
   cases hr:Region.ready .any ops listed with
   | nil=>rfl
   | cons i r =>
    have hi:i∈Region.ready .any ops listed:=by rw [hr];simp
    have:=Flow.left_set (mem_ready.1 hi).1;omega
  exact ⟨hr,hdone listed a w m hsz hI hr⟩
 | succ fuel ih =>
  intro listed a w m hsz hl hI hcl;refine ⟨hdone listed a w m hsz hI,fun i hi=>?_⟩;obtain ⟨hun,o,ho,hall⟩:=mem_ready.1 hi;have hio:i < ops.size:=(Array.getElem?_eq_some_iff.1 ho).1;have hDi:listed.getD i false=false:=by
   cases hh:listed.getD i false with
   | false=>rfl
   | true=>rw [Flow.getD_true_of_false hh] at hun;cases hun
  have hD':(fun k=>(listed.setIfInBounds i true).getD k false)=fun k=>listed.getD k false || k == i:=by
   funext k;by_cases e:k=i
   ·subst e;have:k < listed.size:=by omega
    simp [this]
   ·rw [getD_set_ne false (Ne.symm e)];simp [e]
  have hbits:∀ k,((clos ops).getD i 0).testBit k=true→listed.getD k false=true:=fun k hk=>by
   have hcs:=(Qfh (l:=ops.toList) (S:=[])).2.2 i o (by simpa using ho);simp only [List.length_nil,Nat.zero_add] at hcs;rw [hcs] at hk;rcases Qm6 hk with h | ⟨e,h1,h2,h3⟩
   ·simp at h
   ·have hon:=hall e (by simpa using h1) h2;have hlt:=hback i o ho e h1 h2;rcases h3 with h3 | h3
    ·rw [h3];exact hon
    ·refine hcl e.on (by omega) hon k ?_;have e1:((Qcw ops.toList []).take i).getD e.on 0=(clos ops).getD e.on 0:=by
      rw [List.getD_eq_getElem?_getD,List.getElem?_take,if_pos hlt,← List.getD_eq_getElem?_getD]
     rwa [e1] at h3
  have hlate:∀ (k:Nat) (o:Oper),i≤k→ops[k]?=some o→listed.getD k false=true→k≠i∧((clos ops).getD k 0).testBit i=false:=fun k o' hk ho' hD=>by
   refine ⟨(fun e=>by rw [e,hDi] at hD;cases hD),?_⟩;cases hb:((clos ops).getD k 0).testBit i with
   | false=>rfl
   | true=>have:=hcl k (Array.getElem?_eq_some_iff.1 ho').1 hD i hb;rw [hDi] at this;cases this
  have fin:∀ a' w' m',Inv2 X ops h0 T U m0 w0 a0 lo (fun k=>listed.getD k false || k == i) a' w' m'→wpAny P .any ops Q fuel (listed.setIfInBounds i true) a' w':=fun a' w' m' hI'=>by
   refine ih _ _ _ m' (by simpa using hsz) (by have:=Flow.left_set hun;omega) (by rw [hD'];exact hI') (fun q hqs hq k hk=>?_);by_cases e:q=i
   ·subst e;exact getD_set_true (hbits k hk)
   ·rw [getD_set_ne false (Ne.symm e)] at hq;exact getD_set_true (hcl q hqs hq k hk)
  unfold wpOp;simp only [ho];by_cases hiT:i < T.length
  ·obtain ⟨o',t,g1,g2,g3,g4,g5,g6,g7⟩:=hT i hiT;rw [ho] at g1;cases g1;have her:=er_T hT hI.defers hI.size hI.off he0 hI.m0m hI.vT (i:=i) (s:=t.s) (by omega) (fun k _ hk=>hbits k (by rwa [g6] at hk)) hlate;have hdl:t.d < a.tmps.size:=by rw [hI.size];exact hds i o t.d ho g3
   rcases hI.phase with ⟨hI1,hns⟩ | hph
   ·
    have lift:∀ a' w' m1 v,a'=a.put (some t.d) v→Inv ops h0 T m0 w0 a0 (fun k=>listed.getD k false || k == i) a' w' m1→(∀ k p,m k=some p→m1 k=some p)→Inv2 X ops h0 T U m0 w0 a0 lo (fun k=>listed.getD k false || k == i) a' w' m1:=fun a' w' m1 v ha hJ hsub=>by
     refine ⟨hJ.defers,hJ.size,hJ.off,fun k p hk=>hsub k p (hI.m0m k p hk),fun k t' hk ht'=>(hJ.vals k t' hk ht').ext fun q p hq=>(res_some.1 hq).2,fun q u d hq hu hd=>?_,hJ.unm hT,.inl ⟨hJ,fun k hk1 hk2=>hns k hk1 (by simpa [show k≠i by omega] using hk2)⟩⟩;obtain ⟨x,hx,hxd⟩:=Qy1 hU hu;rw [hd] at hxd;have hne:t.d≠d:=fun e=>by
      have:=Qm5 hT hU hn ho hx (by rw [g3,e]) hxd;omega
     rw [ha,Flow.eval_put_ne hne];exact (hI.vU q u d (by simpa [show T.length+q≠i by omega] using hq) hu hd).ext hsub
    rcases g7 with ⟨hw,hpv,hh⟩ | ⟨hw,st,hst,hlo,hh⟩
    ·rw [Qa7 her hw];simp only [Bool.false_eq_true,if_false];rw [g3];exact fin _ w m (lift _ _ m undef rfl (hI1.skip hT g2 hdl hpv) fun _ _ h=>h)
    ·rw [Qa7 her hw];simp only [if_true];have her1:=hI1.er hT hs0 he0 (i:=i) (s:=t.s) (by omega) (fun k _ hk=>hbits k (by rwa [g6] at hk)) hlate;refine .inl (Oper.wp_mono ?_ (Qiu hN hev (hI1.sr i (by omega)) her1.el hst));rintro a' w' ⟨v,m',rfl,hv,hres⟩;obtain ⟨m1,hJ,hsub⟩:=hI1.step hT hs0 hDi g2 hdl hres hlo hh hv;rw [g3];exact fin _ w' m1 (lift _ _ m1 v rfl hJ hsub)
   ·
    cases hlk:Qfu ops T.length i with
    | true =>
     have hmk:isMk o=true:=by
      simp only [Qfu,Bool.and_eq_true,ho] at hlk;exact hlk.2
     have hwant:∀ e,Qaz ops e o=some true:=fun e=>by simp [Qaz,Qhl hmk]
     rcases g7 with ⟨hw,_,_⟩ | ⟨hw,st,hst,hlo,hh⟩
     ·rw [hwant] at hw;cases hw
     ·rw [Qa7 her hw];simp only [if_true];obtain ⟨cs,ty,fl,f,_,hpv,hst',hmd⟩:=Qp8 hmk hst;have hmd:=hmd m w a her.el;have hth:hAt h0 T (i+1)=hAt h0 T i++[⟨cs,ty,true,true,fl⟩]:=by
       have e1:hAt h0 T (i+1)=t.h:=by simp [hAt,g2]
       rw [e1,hh,hst'];simp
      have hget:(hAt h0 T (i+1))[(hAt h0 T i).length]?=some ⟨cs,ty,true,true,fl⟩:=by rw [hth];simp
      have hlt:(hAt h0 T i).length < (hAt h0 T (i+1)).length:=by rw [hth];simp
      have hmn:=hI.unm i hDi hiT _ (Nat.le_refl _) hlt;have h0l:h0.length≤(hAt h0 T i).length:=by
       obtain ⟨L,hL⟩:=Qev hT (Nat.zero_le i) (by omega);rw [hL,show hAt h0 T 0=h0 from rfl];simp
      have hnb:∀ k,k < ops.size→listed.getD k false=true→((clos ops).getD k 0).testBit i=false:=fun k hk hD=>by
       cases hb:((clos ops).getD k 0).testBit i with
       | false=>rfl
       | true=>have:=hcl k hk hD i hb;rw [hDi] at this;cases this
      rcases hph with ⟨p,p1,p2,p3,p4,p5⟩ | ⟨x1,x2,x3,x4,x5,x6,x7⟩
      ·have hi:=hL i hlk p p2 fun k k1 k2 k3=>hnb k (by omega) (p3 k k2 (by rw [Qf6 k1];exact k3));rw [hget] at hi;refine .inl (Oper.wp_mono ?_ (Qwb hmd p5 h0l hi hmn));rintro a' w' ⟨v,m',rfl,hv,hsub,hoth,hr⟩;refine fin _ w' m' (hI.late hT hU hn hds ho g2 (by rw [hpv];exact hv) hlt hsub hoth (.inl ⟨p,p1,p2,fun k k1 k2=>?_,fun k k1 k2=>p4 k k1 ?_,hr⟩))
       ·have:=p3 k k1 k2;simp only at this;simp [this]
       ·simpa [show k≠i by omega] using k2
      ·have hx:=hX x1.1 x2 x3;have hi:=hLX x1.1 x2 x3 i hlk (hnb X.B (by have:=hx.inU;omega) x4);rw [hget] at hi;refine .inl (Oper.wp_mono ?_ (Qwb hmd x7 h0l hi hmn));rintro a' w' ⟨v,m',rfl,hv,hsub,hoth,hr⟩;refine fin _ w' m' (hI.late hT hU hn hds ho g2 (by rw [hpv];exact hv) hlt hsub hoth (.inr ⟨x1,x2,x3,?_,?_,fun k k1 k2=>?_,hr⟩))
       ·simp only at x4;simp [x4]
       ·simp only at x5;have:=x1.2;simp only [x5,Bool.false_or,beq_eq_false_iff_ne,ne_eq];omega
       ·have:=x6 k k1 k2;simp only at this;simp [this]
    | false =>
     have hsi:Qaq ops i=false:=by
      cases hs:Qaq ops i with
      | false=>rfl
      | true =>
       rcases hph with ⟨p,p1,p2,p3,p4,p5⟩ | ⟨x1,x2,x3,x4,x5,x6,x7⟩
       ·have e9:listed.getD i false=true:=p3 i (by omega) (by simp [Qdu,hs,hlk]);rw [hDi] at e9;cases e9
       ·have:=x1.2;have e9:listed.getD i false=true:=x6 i (by simp [Qdu,hs,hlk]) (by omega);rw [hDi] at e9;cases e9
     have hpi:Qc0 o.op=true:=by simpa [Qaq,ho] using hsi
     have put:=fun (v:Value) (hv:VP m t.pv v)=>hI.put hT hU hn hs0 hds ho (.inr hph) hsi (v:=v) (fun t' ht'=>by rw [g2] at ht';cases ht';exact hv) (fun u hu=>by omega);rcases g7 with ⟨hw,hpv,hh⟩ | ⟨hw,st,hst,hlo,hh⟩
     ·rw [Qa7 her hw];simp only [Bool.false_eq_true,if_false];exact fin _ w m (put undef (by rw [hpv];rfl))
     ·rw [Qa7 her hw];simp only [if_true];have hdo:DoesS P m w a o t.pv:=by
       simp only [Qc0,Bool.or_eq_true] at hpi;rcases hpi with hpi | hpi
       ·exact (Qiv hpi hst).2 m w a her.el
       ·have hnsk:t.pv≠.skip:=fun hsk=>by rw [hsk] at hst;exact Qf8 hpi hst
        rcases hph with ⟨p,p1,p2,p3,p4,p5⟩ | ⟨x1,x2,x3,x4,x5,x6,x7⟩
        ·have hok:Qdp ops T.length i p=true:=by
          refine List.all_eq_true.2 fun k hk=>?_;cases hks:Qdu ops T.length k with
          | false=>rfl
          | true =>
           simp only [Bool.not_true,Bool.false_or];have hk':k < ops.size:=by simpa using hk
           split
           ·rename_i hkp;cases hb:((clos ops).getD k 0).testBit i with
            | false=>rfl
            | true=>have:=hcl k hk' (p3 k hkp hks) i hb;rw [hDi] at this;cases this
           ·rename_i hkp;cases hb:((clos ops).getD i 0).testBit k with
            | false=>rfl
            | true=>have:=p4 k (by omega) (hbits k hb);rw [Qc6 hks] at this;cases this
         obtain ⟨s,hs1,hs2⟩:=hlT i o t ho g2 hpi hnsk p p2 hok;rw [hs2];exact Qmk p5.sr her.el hs1
        ·have hx:=hX x1.1 x2 x3;have b1:((clos ops).getD X.B 0).testBit i=false:=by
          cases hb:((clos ops).getD X.B 0).testBit i with
          | false=>rfl
          | true=>have:=hcl X.B (by have:=hx.inU;omega) x4 i hb;rw [hDi] at this;cases this
         have b2:((clos ops).getD i 0).testBit X.A=false:=by
          cases hb:((clos ops).getD i 0).testBit X.A with
          | false=>rfl
          | true=>have e9:listed.getD X.A false=false:=x5
                  have:=hbits X.A hb;rw [e9] at this;cases this
         obtain ⟨s,hs1,hs2⟩:=hx.loadT i o t ho g2 hpi hnsk b1 b2;rw [hs2];exact Qmk x7.sr her.el hs1
      refine .inl (Oper.wp_mono ?_ (Qip hdo));rintro a' w' ⟨v,rfl,rfl,hv⟩;exact fin _ w' m (put v hv)
  ·obtain ⟨q,rfl⟩:∃ q,i=T.length+q:=⟨i - T.length,by omega⟩;have hqU:q < U.length:=by omega
   obtain ⟨o',u,g1,g2,g3,g4,g5,g6,g7,g8⟩:=hU q hqU;rw [ho] at g1;cases g1;have her:=Zcr hT hU hI.defers hI.size hI.off he0 hI.m0m hI.vT hI.vU (q:=q) (s:=u.s) (by omega) (fun k _ hk=>hbits k (by rwa [g6] at hk)) hlate;cases hs:Qaq ops (T.length+q) with
   | false =>
    have hpi:Qc0 o.op=true:=by simpa [Qaq,ho] using hs
    have put:=fun (v:Value) (hv:VP m u.pv v)=>hI.put hT hU hn hs0 hds ho (.inl (by omega)) hs (v:=v) (fun t' ht'=>by have:=(List.getElem?_eq_some_iff.1 ht').1;omega) (fun u' _ hu'=>by
     rw [show T.length+q - T.length=q by omega,g2] at hu';cases hu';exact hv)
    rcases g8 with ⟨hw,hpv,hh⟩ | ⟨hw,hst⟩
    ·rw [Qa7 her hw];simp only [Bool.false_eq_true,if_false];exact fin _ w m (put undef (by rw [hpv];rfl))
    ·rw [Qa7 her hw];simp only [if_true];have hdo:DoesS P m w a o u.pv:=by
      simp only [Qc0,Bool.or_eq_true] at hpi;rcases hpi with hpi | hpi
      ·exact (Qiv hpi hst).2 m w a her.el
      ·have key:∀ p,p≤U.length→Qdp ops T.length (T.length+q) p=true→SR m (stAt ⟨hAt h0 T T.length,lo⟩ U p).h w→DoesS P m w a o u.pv:=fun p hp hok hsr=>by
        have hnsk:u.pv≠.skip:=fun hsk=>by rw [hsk] at hst;exact Qf8 hpi hst
        obtain ⟨s,hs1,hs2⟩:=hlU q o u ho g2 hpi hnsk p hp hok;rw [hs2];exact Qmk hsr her.el hs1
       rcases hI.phase with ⟨hI1,hns⟩ | ⟨p,p1,p2,p3,p4,p5⟩ | ⟨x1,x2,x3,x4,x5,x6,x7⟩
       ·refine key 0 (by omega) (List.all_eq_true.2 fun k hk=>?_) ?_
        ·cases hks:Qdu ops T.length k with
         | false=>rfl
         | true =>
          simp only [Bool.not_true,Bool.false_or];have hk':k < ops.size:=by simpa using hk
          split
          ·rename_i hkp;cases hb:((clos ops).getD k 0).testBit (T.length+q) with
           | false=>rfl
           | true=>have:=hclt (k+1) k (by omega) hk' _ hb;omega
          ·rename_i hkp;cases hb:((clos ops).getD (T.length+q) 0).testBit k with
           | false=>rfl
           | true=>have:=hns k (by omega) (hbits k hb);rw [Qc6 hks] at this;cases this
        ·have:=hI1.sr T.length (Nat.le_refl _);rw [hI1.full hT] at this;exact this
       ·refine key p p2 (List.all_eq_true.2 fun k hk=>?_) p5.sr;cases hks:Qdu ops T.length k with
        | false=>rfl
        | true =>
         simp only [Bool.not_true,Bool.false_or];have hk':k < ops.size:=by simpa using hk
         split
         ·rename_i hkp;cases hb:((clos ops).getD k 0).testBit (T.length+q) with
          | false=>rfl
          | true=>have:=hcl k hk' (p3 k hkp hks) _ hb;rw [hDi] at this;cases this
         ·rename_i hkp;cases hb:((clos ops).getD (T.length+q) 0).testBit k with
          | false=>rfl
          | true=>have:=p4 k (by omega) (hbits k hb);rw [Qc6 hks] at this;cases this
       ·have hx:=hX x1.1 x2 x3;have hnsk:u.pv≠.skip:=fun hsk=>by rw [hsk] at hst;exact Qf8 hpi hst
        have b1:((clos ops).getD X.B 0).testBit (T.length+q)=false:=by
         cases hb:((clos ops).getD X.B 0).testBit (T.length+q) with
         | false=>rfl
         | true=>have:=hcl X.B (by have:=hx.inU;omega) x4 _ hb;rw [hDi] at this;cases this
        have b2:((clos ops).getD (T.length+q) 0).testBit X.A=false:=by
         cases hb:((clos ops).getD (T.length+q) 0).testBit X.A with
         | false=>rfl
         | true=>have e9:listed.getD X.A false=false:=x5
                 have:=hbits X.A hb;rw [e9] at this;cases this
        obtain ⟨s,hs1,hs2⟩:=hx.loadU q o u ho g2 hpi hnsk b1 b2;rw [hs2];exact Qmk x7.sr her.el hs1
     refine .inl (Oper.wp_mono ?_ (Qip hdo));rintro a' w' ⟨v,rfl,rfl,hv⟩;exact fin _ w' m (put v hv)
   | true =>
    have hnp:Qc0 o.op=false:=by simpa [Qaq,ho] using hs
    have done:∀ (a':Act) w' m' v,a'=a.put o.dst v→VP m' u.pv v→(∀ k p,m k=some p→m' k=some p)→(∀ k,k < (hAt h0 T T.length).length→m' k=m k)→(Ph2 ops h0 T U m0 w0 lo (fun k=>listed.getD k false || k == T.length+q) w' m'∨Ph3 X ops T.length h0 m0 w0 lo (fun k=>listed.getD k false || k == T.length+q) w' m')→Inv2 X ops h0 T U m0 w0 a0 lo (fun k=>listed.getD k false || k == T.length+q) a' w' m':=fun a' w' m' v ha hv hsub hbk hph=>by
     have ev_ne:∀ (k:Nat) (x:Oper) (d:Tmp),ops[k]?=some x→x.dst=some d→k≠T.length+q→a'.eval (.tmp d)=a.eval (.tmp d):=fun k x d hx hd hne=>by
      rw [ha];cases hod:o.dst with
      | none=>rfl
      | some d'=>exact Flow.eval_put_ne fun e=>hne (Qm5 hT hU hn hx ho hd (by rw [hod,e]))
     refine ⟨by rw [ha,Flow.put_defers];exact hI.defers,by rw [ha,Flow.put_size];exact hI.size,fun t ht=>?_,fun k p hk=>hsub k p (hI.m0m k p hk),fun k t hk ht=>?_,fun p u' d hk hu' hd=>?_,fun j hj hjT k h1 h2=>by
      have hj:(listed.getD j false || j == T.length+q)=false:=hj;simp only [Bool.or_eq_false_iff] at hj;have hm:=hI.unm j hj.1 hjT k h1 h2;obtain ⟨L,hL⟩:=Qev hT (show j+1≤T.length by omega) (Nat.le_refl _);rw [hbk k (by rw [hL];simp;omega)];exact hm,.inr hph⟩
     ·rw [← hI.off t fun k o hk hD=>ht k o hk (by simp [hD]),ha];cases hod:o.dst with
      | none=>rfl
      | some d'=>exact Flow.eval_put_ne fun e=>ht _ o ho (by simp) (by rw [hod,e])
     ·obtain ⟨x,hx,hxd⟩:=Zbf hT ht;have hkT:=(List.getElem?_eq_some_iff.1 ht).1;rw [ev_ne k x t.d hx hxd (by omega)];exact (hI.vT k t (by simpa [show k≠T.length+q by omega] using hk) ht).ext hsub
     ·obtain ⟨x,hx,hxd⟩:=Qy1 hU hu';rw [hd] at hxd;by_cases e:p=q
      ·subst e;rw [g2] at hu';cases hu';rw [ho] at hx;cases hx;rw [ha,hxd,Flow.eval_put_same (by rw [hI.size];exact hds _ o d ho hxd)];exact hv
      ·rw [ev_ne _ x d hx hxd (by omega)];exact (hI.vU p u' d (by simpa [e] using hk) hu' hd).ext hsub
    have chain:(∀ k,k < T.length+q→Qdu ops T.length k=true→listed.getD k false=true)→(∀ k,T.length+q≤k→listed.getD k false=true→Qaq ops k=false) →
      Region.wanted o (yielded ops a.tmps)=true∧o.wp P a w (fun a' w'=>wpAny P .any ops Q fuel (listed.setIfInBounds (T.length+q) true) a' w') Q∨Region.wanted o (yielded ops a.tmps)=false∧wpAny P .any ops Q fuel (listed.setIfInBounds (T.length+q) true) (a.put o.dst undef) w:=fun hallS hnone=>by
     have hres:=hI.res hT hU hs0 (q:=q) (by omega) hallS hnone;have ph:∀ w' m',Res m (stAt ⟨hAt h0 T T.length,lo⟩ U q) w m' u.st w'→Ph2 ops h0 T U m0 w0 lo (fun k=>listed.getD k false || k == T.length+q) w' m':=fun w' m' hr=>by
      refine ⟨q+1,by omega,by omega,fun k hk hks=>?_,fun k hk hDk=>?_,?_⟩
      ·by_cases e:k=T.length+q
       ·simp [e]
       ·simp [hallS k (by omega) hks]
      ·exact hnone k (by omega) (by simpa [show k≠T.length+q by omega] using hDk)
      ·have e:stAt ⟨hAt h0 T T.length,lo⟩ U (q+1)=u.st:=by simp [stAt,g2]
       rw [e];exact hres.trans hr
     rcases g8 with ⟨hw,hpv,hh⟩ | ⟨hw,hst⟩
     ·refine .inr ⟨Qa7 her hw,fin _ w m (done _ w m undef rfl (by rw [hpv];rfl) (fun _ _ h=>h) (fun _ _=>rfl) (.inl (ph w m ?_)))⟩;rw [hh];exact Res.refl hres.sr
     ·refine .inl ⟨Qa7 her hw,Oper.wp_mono ?_ (Qiu hN hev hres.sr her.el hst)⟩;rintro a' w' ⟨v,m',rfl,hv,hr⟩;exact fin _ w' m' (done _ w' m' v rfl hv hr.fr.same (fun k hk=>hr.fr.back k (Nat.lt_of_lt_of_le hk (hlen q (by omega)))) (.inl (ph w' m' hr)))
    have goal:Region.wanted o (yielded ops a.tmps)=true∧o.wp P a w (fun a' w'=>wpAny P .any ops Q fuel (listed.setIfInBounds (T.length+q) true) a' w') Q∨Region.wanted o (yielded ops a.tmps)=false∧wpAny P .any ops Q fuel (listed.setIfInBounds (T.length+q) true) (a.put o.dst undef) w:=by
     have sensB:∀ k,Qaq ops k=true→k < ops.size:=fun k hk=>by
      unfold Qaq at hk;split at hk
      ·rename_i x hx;exact (Array.getElem?_eq_some_iff.1 hx).1
      ·cases hk
     by_cases cB:T.length+q=X.B∧X.A < X.B∧Qaq ops X.A=true∧listed.getD X.A false=false
     ·
      obtain ⟨cB,cAB,sA,dA⟩:=cB;have hx:=hX cAB sA (by rw [← cB];exact hs);have hin:=hx.inU;have hallA:∀ k,Qdu ops T.length k=true→k≠X.A→k≠X.B→listed.getD k false=true:=fun k hks k1 k2=>by
       have:=hx.last k (Qc6 hks) k1 k2;rcases g7 hnp k (by omega) hks with h | h
       ·exact absurd h.1 k1
       ·exact hbits k (by rw [← g6];exact h)
      have hres:=hI.res hT hU hs0 (q:=X.A - T.length) (by omega) (fun k hk hks=>hallA k hks (by omega) (by omega)) (fun k hk hDk=>by
       cases hks:Qaq ops k with
       | false=>rfl
       | true =>
        exfalso;by_cases k1:k=X.A
        ·rw [k1,dA] at hDk;cases hDk
        ·by_cases k2:k=X.B
         ·rw [k2,← cB,hDi] at hDk;cases hDk
         ·have:=hx.last k hks k1 k2;omega)
      have hq':X.B - T.length=q:=by omega
      obtain ⟨w1,w2⟩:=hx.stepB o u (by rw [← cB];exact ho) (by rw [hq'];exact g2);rw [hq',← cB] at w1 w2;refine .inl ⟨Qa7 her w1,Oper.wp_mono ?_ (Qiu hN hev hres.sr her.el w2)⟩;rintro a' w' ⟨v,m',rfl,hv,hr⟩;refine fin _ w' m' (done _ w' m' v rfl hv hr.fr.same (fun k hk=>hr.fr.back k (Nat.lt_of_lt_of_le hk (hlen (X.A - T.length) (by omega)))) (.inr ⟨⟨cAB,hin.1⟩,sA,by rw [← cB];exact hs,by rw [← cB];simp,?_,fun k hks k1=>?_,hres.trans hr⟩))
      ·have:X.A≠T.length+q:=by omega
       simp only [dA,Bool.false_or,beq_eq_false_iff_ne,ne_eq];exact this
      ·by_cases k2:k=X.B
       ·rw [k2,← cB];simp
       ·simp [hallA k hks k1 k2]
     ·by_cases cA:T.length+q=X.A∧X.A < X.B∧Qaq ops X.B=true∧listed.getD X.B false=true
      ·
       obtain ⟨cA,cAB,sB,dB⟩:=cA;have hx:=hX cAB (by rw [← cA];exact hs) sB;have hin:=hx.inU;have h3:Ph3 X ops T.length h0 m0 w0 lo (fun k=>listed.getD k false) w m:=by
        rcases hI.phase with ⟨_,h⟩ | ⟨p,p1,p2,p3,p4,p5⟩ | h
        ·have:=h X.B (by omega) dB;rw [sB] at this;cases this
        ·exfalso;by_cases c:X.B < T.length+p
         ·have:=p3 X.A (by omega) (by rw [Qf6 hin.1,← cA];exact hs);have e:listed.getD X.A false=true:=this;rw [← cA,hDi] at e;cases e
         ·have:=p4 X.B (by omega) dB;rw [sB] at this;cases this
        ·exact h
       obtain ⟨x1,x2,x3,x4,x5,x6,x7⟩:=h3;have hq':X.A - T.length=q:=by omega
       obtain ⟨w1,w2⟩:=hx.stepA o u (by rw [← cA];exact ho) (by rw [hq'];exact g2);rw [hq',← cA] at w1 w2;refine .inl ⟨Qa7 her w1,Oper.wp_mono ?_ (Qiu hN hev x7.sr her.el w2)⟩;rintro a' w' ⟨v,m',rfl,hv,hr⟩;refine fin _ w' m' (done _ w' m' v rfl hv hr.fr.same (fun k hk=>hr.fr.back k (Nat.lt_of_lt_of_le hk (hlenX cAB x2 x3))) (.inl ⟨U.length,by omega,Nat.le_refl _,fun k hk hks=>?_,fun k hk hDk=>?_,x7.trans hr⟩))
       ·by_cases k1:k=X.A
        ·rw [k1,← cA];simp
        ·have:=x6 k hks k1;simp only at this;simp [this]
       ·cases hks:Qaq ops k with
        | false=>rfl
        | true=>have:=sensB k hks;omega
      ·refine chain (fun k hk hks=>?_) fun k hk hDk=>?_
       ·rcases g7 hnp k hk hks with ⟨h1,h2⟩ | h
        ·cases hd:listed.getD k false with
         | true=>rfl
         | false=>exact absurd ⟨h2,by omega,by rw [← h1];exact Qc6 hks,by rw [← h1];exact hd⟩ cB
        ·exact hbits k (by rw [← g6];exact h)
       ·cases hks:Qaq ops k with
        | false=>rfl
        | true =>
         exfalso;by_cases e:k=T.length+q
         ·rw [e,hDi] at hDk;cases hDk
         ·obtain ⟨j,rfl⟩:∃ j,k=T.length+j:=⟨k - T.length,by omega⟩;have hjo:=sensB _ hks;obtain ⟨o2,u2,k1,k2,_,_,_,k6,k7,_⟩:=hU j (by omega);have hnp2:Qc0 o2.op=false:=by simpa [Qaq,k1] using hks
          rcases k7 hnp2 (T.length+q) (by omega) (by rw [Qf6 (by omega)];exact hs) with ⟨h1,h2⟩ | h
          ·exact cA ⟨h1,by omega,by rw [← h2];exact hks,by rw [← h2];exact hDk⟩
          ·have:=hcl (T.length+j) hjo hDk (T.length+q) (by rw [← k6];exact h);rw [hDi] at this;cases this
    rcases goal with ⟨h1,h2⟩ | ⟨h1,h2⟩
    ·rw [h1];simp only [if_true];exact .inl h2
    ·rw [h1];simp only [Bool.false_eq_true,if_false];exact h2
end
end Ev
end Go.Proofs.YtcpodmjcgfgmnaaGreat
namespace Go.Proofs.YtcpodmjcgfgmnaaGreat
open Go.RowKit
namespace Ev
variable {P:Program}
def Qdn (σ:List Nat) (j:Nat):Nat:=σ.idxOf j
def renE (σ:List Nat) (e:Edge):Edge:={ e with on:=Qdn σ e.on }
def renO (σ:List Nat) (o:Oper):Oper:={ o with after:=(o.after.toList.map (renE σ)).toArray,guard:=o.guard.map fun g=>(Qdn σ g.1,g.2) }
def Qbw (σ:List Nat) (ops:Array Oper):Array Oper:=(σ.map fun i=>renO σ (ops.getD i default)).toArray
def Qrx (σ:List Nat) (n:Nat):Bool:=Nat.beq σ.length n && (List.range n).all fun j=>σ.contains j && Nat.beq (Qdn σ (σ.getD j n)) j && Nat.blt (σ.getD j n) n
structure Perm (σ:List Nat) (n:Nat):Prop where
 len:σ.length=n
 all:∀ j,j < n→j∈σ
 at':∀ j i,σ[j]?=some i→Qdn σ i=j
 lt:∀ j∈σ,j < n
theorem Zao {σ:List Nat} {n:Nat} (h:Qrx σ n=true):Perm σ n:=by
 simp only [Qrx,Bool.and_eq_true,Nat.beq_eq,List.all_eq_true,List.mem_range,List.contains_iff_mem] at h;have g:∀ j i,σ[j]?=some i→j < n∧σ.getD j n=i:=fun j i hj=>by
  have:=(List.getElem?_eq_some_iff.1 hj).1;exact ⟨by omega,by rw [List.getD_eq_getElem?_getD,hj];rfl⟩
 refine ⟨h.1,fun j hj=>(h.2 j hj).1.1,fun j i hj=>?_,fun i hi=>?_⟩
 ·obtain ⟨h1,h2⟩:=g j i hj;have:=(h.2 j h1).1.2;rwa [h2] at this
 ·obtain ⟨j,hj⟩:=List.mem_iff_getElem?.1 hi;obtain ⟨h1,h2⟩:=g j i hj;have:=(h.2 j h1).2;rw [h2] at this;simpa using this
theorem Qvb {σ:List Nat} {n j:Nat} (h:Perm σ n) (hj:j < n):Qdn σ j < n:=by
 rw [← h.len];exact List.idxOf_lt_length_of_mem (h.all j hj)
theorem Qps {σ:List Nat} {n j:Nat} (h:Perm σ n) (hj:j < n):σ[Qdn σ j]?=some j:=by
 have h1:Qdn σ j < σ.length:=by rw [h.len];exact Qvb h hj
 rw [List.getElem?_eq_getElem h1];congr 1;exact List.getElem_idxOf h1
theorem Qva {σ:List Nat} {n j:Nat} (h:Perm σ n) (hj:¬ j < n):Qdn σ j=n:=by
 rw [← h.len];exact List.idxOf_eq_length fun hm=>hj (h.lt j hm)
theorem Qi5 {σ:List Nat} {ops:Array Oper} (h:Perm σ ops.size):(Qbw σ ops).size=ops.size:=by simp [Qbw,h.len]
theorem Qib {σ:List Nat} {ops:Array Oper} (h:Perm σ ops.size) {i:Nat} {o:Oper} (ho:ops[i]?=some o):(Qbw σ ops)[Qdn σ i]?=some (renO σ o):=by
 have hi:=(Array.getElem?_eq_some_iff.1 ho).1;have:=Qps h hi;simp only [Qbw,List.getElem?_toArray,List.getElem?_map,this,Option.map_some];congr 2;simp [ho]
theorem Qvd {σ:List Nat} {ops:Array Oper} (h:Perm σ ops.size) {j:Nat} (hj:ops[j]?=none):(Qbw σ ops)[Qdn σ j]?=none:=by
 have hj':¬ j < ops.size:=by simpa using hj
 rw [Qva h hj'];have:=Qi5 h;simp [this]
theorem Qtc {σ:List Nat} {ops:Array Oper} (h:Perm σ ops.size) (tmps:Array Value) (j:Nat):yielded (Qbw σ ops) tmps (Qdn σ j)=yielded ops tmps j:=by
 unfold yielded;have:((Qbw σ ops)[Qdn σ j]?).bind (·.dst)=(ops[j]?).bind (·.dst):=by
  cases ho:ops[j]? with
  | none=>rw [Qvd h ho]
  | some o=>rw [Qib h ho];rfl
 rw [this]
theorem Qpt {σ:List Nat} {ops:Array Oper} (h:Perm σ ops.size) (tmps:Array Value) (o:Oper):Region.wanted (renO σ o) (yielded (Qbw σ ops) tmps)=Region.wanted o (yielded ops tmps):=by
 unfold Region.wanted renO;cases hg:o.guard with
 | none=>rfl
 | some g =>
  obtain ⟨j,want⟩:=g;simp only [Option.map_some];rw [Qtc h]
theorem Qx4 {σ:List Nat} {ops:Array Oper} (h:Perm σ ops.size) {k:Nat} {o':Oper} (ho:(Qbw σ ops)[k]?=some o'):∃ i o,ops[i]?=some o∧Qdn σ i=k∧o'=renO σ o:=by
 have hk:k < σ.length:=by
  have:=(Array.getElem?_eq_some_iff.1 ho).1;rw [Qi5 h] at this;rw [h.len];exact this
 have hi:σ[k]?=some σ[k]:=List.getElem?_eq_getElem hk;have hlt:=h.lt _ (List.mem_of_getElem? hi);refine ⟨σ[k],ops[σ[k]]'hlt,by simp [hlt],h.at' _ _ hi,?_⟩;have:=Qib h (i:=σ[k]) (o:=ops[σ[k]]'hlt) (by simp [hlt]);rw [h.at' _ _ hi,ho] at this;exact Option.some.inj this
structure Same (σ:List Nat) (n:Nat) (l l':Array Bool):Prop where
 s1:l.size=n
 s2:l'.size=n
 eq:∀ j,j < n→l'[Qdn σ j]?=l[j]?
theorem Same.get {σ:List Nat} {n:Nat} {l l':Array Bool} (hp:Perm σ n) (h:Same σ n l l') (j:Nat) (b:Bool):l'.getD (Qdn σ j) b=l.getD j b:=by
 rw [Array.getD_eq_getD_getElem?,Array.getD_eq_getD_getElem?];by_cases hj:j < n
 ·rw [h.eq j hj]
 ·rw [Qva hp hj];have h1:l'[n]?=none:=by have:=h.s2;simp;omega
  have h2:l[j]?=none:=by have:=h.s1;simp;omega
  rw [h1,h2]
theorem Zam {σ:List Nat} {n i j:Nat} (hp:Perm σ n) (hi:i < n) (hj:j < n) (h:Qdn σ i=Qdn σ j):i=j:=by
 have h1:=Qps hp hi;rw [h,Qps hp hj] at h1;exact (Option.some.inj h1).symm
theorem Same.set {σ:List Nat} {n:Nat} {l l':Array Bool} (hp:Perm σ n) (h:Same σ n l l') {i:Nat} (hi:i < n):Same σ n (l.setIfInBounds i true) (l'.setIfInBounds (Qdn σ i) true):=by
 refine ⟨by simpa using h.s1,by simpa using h.s2,fun j hj=>?_⟩;by_cases e:j=i
 ·subst e;have h1:=Qvb hp hi;have h2:=h.s1;have h3:=h.s2;rw [Array.getElem?_setIfInBounds_self_of_lt (by omega),Array.getElem?_setIfInBounds_self_of_lt (by omega)]
 ·rw [Array.getElem?_setIfInBounds_ne (fun e'=>e (Zam hp hj hi e'.symm)),Array.getElem?_setIfInBounds_ne (Ne.symm e)];exact h.eq j hj
theorem Qkv {σ:List Nat} {ops:Array Oper} {l l':Array Bool} (hp:Perm σ ops.size) (hs:Same σ ops.size l l') (i:Nat):i∈Region.ready .any ops l→Qdn σ i∈Region.ready .any (Qbw σ ops) l':=fun hi=>by
 obtain ⟨h1,o,ho,h2⟩:=mem_ready.1 hi;refine mem_ready.2 ⟨by rw [hs.get hp];exact h1,_,Qib hp ho,fun e he hb=>?_⟩;obtain ⟨e0,he0,rfl⟩:∃ e0∈o.after,renE σ e0=e:=by simpa [renO] using he
 show l'.getD (Qdn σ e0.on) false=true;rw [hs.get hp];exact h2 e0 he0 hb
theorem Qny {σ:List Nat} {ops:Array Oper} {l l':Array Bool} (hp:Perm σ ops.size) (hs:Same σ ops.size l l') (h:Region.ready .any ops l=[]):Region.ready .any (Qbw σ ops) l'=[]:=by
 cases hr:Region.ready .any (Qbw σ ops) l' with
 | nil=>rfl
 | cons k r =>
  exfalso;have hk:k∈Region.ready .any (Qbw σ ops) l':=by rw [hr];simp
  obtain ⟨h1,o',ho',h2⟩:=mem_ready.1 hk;obtain ⟨i,o,ho,rfl,rfl⟩:=Qx4 hp ho';have:i∈Region.ready .any ops l:=mem_ready.2 ⟨by rw [← hs.get hp];exact h1,o,ho,fun e he hb=>by
   rw [← hs.get hp];refine h2 (renE σ e) ?_ hb;simp only [renO,List.mem_toArray,List.mem_map];exact ⟨e,by simpa using he,rfl⟩⟩
  rw [h] at this;cases this
theorem Qrw {σ:List Nat} {ops:Array Oper} {Q:Exit→Act→World→Prop} (hp:Perm σ ops.size):∀ (fuel:Nat) (l l':Array Bool) (a:Act) (w:World),Same σ ops.size l l'→wpAny P .any (Qbw σ ops) Q fuel l' a w→wpAny P .any ops Q fuel l a w
 | 0,l,l',a,w,hs,h=>by
  refine ⟨?_,h.2⟩;cases hr:Region.ready .any ops l with
  | nil=>rfl
  | cons i r =>
   have:=Qkv hp hs i (by rw [hr];simp);rw [h.1] at this;cases this
 | fuel+1,l,l',a,w,hs,h=>by
  refine ⟨fun hr=>h.1 (Qny hp hs hr),fun i hi=>?_⟩;obtain ⟨_,o,ho,_⟩:=mem_ready.1 hi;have hio:=(Array.getElem?_eq_some_iff.1 ho).1;have hg:=h.2 _ (Qkv hp hs i hi);unfold wpOp at hg ⊢;rw [Qib hp ho] at hg;rw [ho];simp only at hg ⊢;rw [Qpt hp] at hg;have ih:=fun a w=>Qrw (Q:=Q) hp fuel (l.setIfInBounds i true) (l'.setIfInBounds (Qdn σ i) true) a w (hs.set hp hio);cases hw:Region.wanted o (yielded ops a.tmps) with
  | true =>
   rw [hw] at hg;simp only [if_true] at hg ⊢;rcases hg with hg | hg
   ·exact .inl (Oper.wp_mono ih hg)
   ·exact .inr hg
  | false =>
   rw [hw] at hg;simp only [Bool.false_eq_true,if_false] at hg ⊢;exact ih _ _ hg
theorem Quz {σ:List Nat} {n:Nat} (hp:Perm σ n):Same σ n (Array.replicate n false) (Array.replicate n false) :=
 ⟨by simp,by simp,fun j hj=>by have:=Qvb hp hj;simp [hj,this]⟩
end Ev
end Go.Proofs.YtcpodmjcgfgmnaaGreat

/- Ev: a function's code, run on what is Qh5 of its values. Ninth part: a region that draws its order. No program. -/
import Derived.Test.YtcpodmjcgfgmnaaGreatEv8
namespace Go.Proofs.YtcpodmjcgfgmnaaGreat
open Go.RowKit
namespace Ev
variable {P:Program}
def res (m:M) (n:Nat):M:=fun i=>if i < n then m i else none
theorem res_some {m:M} {n i:Nat} {p:Pl}:res m n i=some p↔i < n∧m i=some p:=by
 unfold res;split
 ·simp [*]
 ·simp [*]
theorem SR.grow {m:M} {h:List O} {w w':World} (hs:SR m h w) (hk:∀ b,b < w.heap.size→w'.heap[b]?=w.heap[b]?):SR m h w' :=
 ⟨hs.dom,fun i p o hm ho hl=>by
  obtain ⟨cur,fr,h1,h2⟩:=hs.obj i p o hm ho hl;exact ⟨cur,fr,by rw [hk _ (Array.getElem?_eq_some_iff.1 h1).1];exact h1,h2⟩,hs.sep,hs.mr.grow (fun _ _ _ _ a b _=>⟨a,b⟩) hk⟩
structure Tr where
 d:Tmp
 pv:PV
 s:Nat
 h:List O
 deriving Inhabited
def Qmf (e:Env):List Tr→Nat→Nat→Env
 | [],_,_=>e
 | t :: r,s,k=>Qmf (e.set t.d (if s.testBit k then t.pv else .any)) r s (k+1)
def Qoh (e:Env):List Tmp→Env
 | []=>e
 | d :: r=>Qoh (e.set d .any) r
def Quh (S:List Nat) (es:List Edge) (s:Nat):Nat:=match es with
 | []=>s
 | e :: r=>Quh S r (if Region.binds .any e then s ||| 2 ^ e.on ||| S.getD e.on 0 else s)
def hAt (h0:List O) (T:List Tr):Nat→List O
 | 0=>h0
 | i+1=>(T.getD i default).h
def Qcw:List Oper→List Nat→List Nat
 | [],S=>S
 | o :: r,S=>Qcw r (S++[Quh S o.after.toList 0])
theorem Qfh:∀ {l:List Oper} {S:List Nat},(Qcw l S).length=S.length+l.length∧(Qcw l S).take S.length=S∧∀ i o,l[i]?=some o→(Qcw l S).getD (S.length+i) 0=Quh ((Qcw l S).take (S.length+i)) o.after.toList 0
 | [],S=>⟨by simp [Qcw],by simp [Qcw],fun i o h=>by simp at h⟩
 | o :: r,S=>by
  obtain ⟨h1,h2,h3⟩:=Qfh (l:=r) (S:=S++[Quh S o.after.toList 0]);simp only [List.length_append,List.length_cons,List.length_nil,Nat.zero_add] at h1 h2 h3;simp only [Qcw];have h4:(Qcw r (S++[Quh S o.after.toList 0])).take S.length=S:=by
   have:=congrArg (List.take S.length) h2;rw [List.take_take,Nat.min_eq_left (by omega),List.take_left'] at this
   ·exact this
   ·rfl
  refine ⟨by rw [h1];simp;omega,h4,fun i o' h=>?_⟩;cases i with
  | zero =>
   simp at h;subst h;rw [Nat.add_zero,h4];have:=congrArg (fun l=>l.getD S.length 0) h2;simp only [List.getD_eq_getElem?_getD,List.getElem?_take,if_pos (show S.length < S.length+1 by omega)] at this;rw [List.getD_eq_getElem?_getD,this];simp
  | succ i =>
   have:=h3 i o' (by simpa using h);rwa [show S.length+1+i=S.length+(i+1) by omega] at this
def Qay (C:List Nat) (i:Nat):List Oper→Nat→List Tmp
 | [],_=>[]
 | o :: r,k=>match o.dst with
  | none=>Qay C i r (k+1)
  | some d=>if (C.getD k 0).testBit i then Qay C i r (k+1) else d :: Qay C i r (k+1)
theorem Qfp {C:List Nat} {i:Nat}:∀ {l:List Oper} {k j:Nat} {o:Oper} {d:Tmp},l[j]?=some o→o.dst=some d→(C.getD (k+j) 0).testBit i=false→d∈Qay C i l k
 | [],k,j,o,d,h,_,_=>by simp at h
 | x :: r,k,0,o,d,h,hd,hb=>by
  simp at h;subst h;rw [Nat.add_zero] at hb;simp only [Qay,hd,hb,Bool.false_eq_true,if_false];exact List.mem_cons_self
 | x :: r,k,j+1,o,d,h,hd,hb=>by
  have:=Qfp (C:=C) (i:=i) (l:=r) (k:=k+1) (j:=j) (by simpa using h) hd (by rwa [show k+1+j=k+(j+1) by omega]);simp only [Qay];split
  ·exact this
  ·split
   ·exact this
   ·exact List.mem_cons_of_mem _ this
abbrev clos (ops:Array Oper):List Nat:=Qcw ops.toList []
def Qfw (e0:Env) (T:List Tr) (s:Nat) (ds:List Tmp):Env:=Qoh (Qmf e0 T s 0) ds
variable (P)
def StepP (ev:Qav) (ops:Array Oper) (e0:Env) (h0:List O) (T:List Tr) (i:Nat):Prop :=
 ∃ o t,ops[i]?=some o∧T[i]?=some t∧o.dst=some t.d∧(∀ k u,k < i→T[k]?=some u→u.d≠t.d)∧(∀ e∈o.after.toList,Region.binds .any e=true→e.on < i) ∧
  t.s=(clos ops).getD i 0 ∧
  ((Qaz ops (Qfw e0 (T.take i) t.s (Qay (clos ops) i (ops.toList.drop (i+1)) (i+1))) o=some false∧t.pv=.skip∧t.h=hAt h0 T i) ∨
   (Qaz ops (Qfw e0 (T.take i) t.s (Qay (clos ops) i (ops.toList.drop (i+1)) (i+1))) o=some true∧∃ st,Qbd P ev (Qfw e0 (T.take i) t.s (Qay (clos ops) i (ops.toList.drop (i+1)) (i+1))) ⟨hAt h0 T i,(hAt h0 T i).length⟩ o=some (t.pv,st)∧(hAt h0 T i).length≤st.lo∧t.h=hAt h0 T i++st.h.drop (hAt h0 T i).length))
variable {P}
theorem Qk6 {h0:List O} {T U:List Tr} {i:Nat} (hi:i≤T.length):hAt h0 (T++U) i=hAt h0 T i:=by
 cases i with
 | zero=>rfl
 | succ i=>simp [hAt,List.getD_eq_getElem?_getD,List.getElem?_append_left (show i < T.length by omega)]
theorem StepP.append {ev:Qav} {ops:Array Oper} {e0:Env} {h0:List O} {T U:List Tr} {i:Nat} (hi:i < T.length) (h:StepP P ev ops e0 h0 T i):StepP P ev ops e0 h0 (T++U) i:=by
 obtain ⟨o,t,h1,h2,h3,h4,h5,h6,h7⟩:=h;have ht:(T++U).take i=T.take i:=List.take_append_of_le_length (by omega);refine ⟨o,t,h1,by rw [List.getElem?_append_left hi];exact h2,h3,fun k u hk hu=>h4 k u hk (by rwa [List.getElem?_append_left (by omega)] at hu),h5,h6,?_⟩;rw [ht,Qk6 (by omega)];exact h7
theorem Qgo:∀ {R:List Tr} {e:Env} {s k t:Nat} {x:PV},(Qmf e R s k)[t]?=some x→(∃ j r,R[j]?=some r∧r.d=t∧x=if s.testBit (k+j) then r.pv else .any)∨((∀ r∈R,r.d≠t)∧e[t]?=some x)
 | [],e,s,k,t,x,h=>.inr ⟨by simp,h⟩
 | r :: R,e,s,k,t,x,h=>by
  rcases Qgo (R:=R) h with ⟨j,r',h1,h2,h3⟩ | ⟨h1,h2⟩
  ·exact .inl ⟨j+1,r',by simpa using h1,h2,by rw [h3,show k+1+j=k+(j+1) by omega]⟩
  ·by_cases e':r.d=t
   ·subst e';have hlt:r.d < e.length:=by have:=(List.getElem?_eq_some_iff.1 h2).1;simpa using this
    rw [List.getElem?_set_self hlt] at h2;exact .inl ⟨0,r,rfl,rfl,by simpa using h2.symm⟩
   ·rw [List.getElem?_set_ne e'] at h2;refine .inr ⟨fun r' hr'=>?_,h2⟩;rcases List.mem_cons.1 hr' with rfl | hr'
    ·exact e'
    ·exact h1 r' hr'
theorem Qgq:∀ {ds:List Tmp} {e:Env} {t:Nat} {x:PV},(Qoh e ds)[t]?=some x→x=.any∨(t∉ds∧e[t]?=some x)
 | [],e,t,x,h=>.inr ⟨by simp,h⟩
 | d :: ds,e,t,x,h=>by
  rcases Qgq (ds:=ds) h with h1 | ⟨h1,h2⟩
  ·exact .inl h1
  ·by_cases e':d=t
   ·subst e';have hlt:d < e.length:=by have:=(List.getElem?_eq_some_iff.1 h2).1;simpa using this
    rw [List.getElem?_set_self hlt] at h2;exact .inl (by simpa using h2.symm)
   ·rw [List.getElem?_set_ne e'] at h2;exact .inr ⟨by simp [h1,Ne.symm e'],h2⟩
theorem Qdz:∀ (R:List Tr) (e:Env) (s k:Nat),(Qmf e R s k).length=e.length
 | [],_,_,_=>rfl
 | r :: R,e,s,k=>by rw [Qmf,Qdz R];simp
theorem Qgp:∀ (ds:List Tmp) (e:Env),(Qoh e ds).length=e.length
 | [],_=>rfl
 | d :: ds,e=>by rw [Qoh,Qgp ds];simp
theorem Qm6 {S:List Nat}:∀ {es:List Edge} {s k:Nat},(Quh S es s).testBit k=true→s.testBit k=true∨∃ e∈es,Region.binds .any e=true∧(k=e.on∨(S.getD e.on 0).testBit k=true)
 | [],s,k,h=>.inl h
 | e :: es,s,k,h=>by
  rcases Qm6 (es:=es) h with h1 | ⟨e',h1,h2⟩
  ·split at h1
   ·rename_i hb;rw [Nat.testBit_or,Nat.testBit_or,Bool.or_eq_true,Bool.or_eq_true] at h1;rcases h1 with (h1 | h1) | h1
    ·exact .inl h1
    ·refine .inr ⟨e,by simp,hb,.inl ?_⟩;rw [Nat.testBit_two_pow] at h1;simpa using (of_decide_eq_true h1).symm
    ·exact .inr ⟨e,by simp,hb,.inr h1⟩
   ·exact .inl h1
  ·exact .inr ⟨e',by simp [h1],h2⟩
end Ev
end Go.Proofs.YtcpodmjcgfgmnaaGreat
namespace Go.Proofs.YtcpodmjcgfgmnaaGreat
open Go.RowKit
namespace Ev
variable {P:Program}
theorem SR.longer {m:M} {h h':List O} {w:World} (hs:SR m h w) (hp:∃ L,h'=h++L):SR m h' w:=by
 obtain ⟨L,rfl⟩:=hp;have get:∀ i p,m i=some p→(h++L)[i]?=h[i]?:=fun i p hm=>List.getElem?_append_left (hs.dom i p hm);exact ⟨fun i p hm=>by have:=hs.dom i p hm;simp;omega,fun i p o hm ho hl=>hs.obj i p o hm (by rw [← get i p hm];exact ho) hl,
  fun i j p q o o' hi hj ho ho'=>hs.sep i j p q o o' hi hj (by rw [← get i p hi];exact ho) (by rw [← get j q hj];exact ho'),
  hs.mr.keep (fun i p o rest hm ho _=>⟨hm,by rw [← get i p hm];exact ho⟩) fun _ _ _ h=>h⟩
theorem Qjp {a:Act} {t:Nat} {v:Value} (h:a.tmps.toList[t]?=some v):a.eval (.tmp t)=v:=by
 have h':a.tmps[t]?=some v:=by simpa using h
 simp [Act.eval,h']
section
variable {ev:Qav} {ops:Array Oper} {e0:Env} {h0:List O} {T:List Tr} {m0:M} {w0:World} {a0:Act}
theorem Zby {i:Nat} (h:StepP P ev ops e0 h0 T i):∃ L,hAt h0 T (i+1)=hAt h0 T i++L:=by
 obtain ⟨o,t,_,h2,_,_,_,_,h7⟩:=h;have e:hAt h0 T (i+1)=t.h:=by simp [hAt,h2]
 rcases h7 with ⟨_,_,h⟩ | ⟨_,st,_,_,h⟩
 ·exact ⟨[],by rw [e,h];simp⟩
 ·exact ⟨_,by rw [e,h]⟩
theorem Qev (hT:∀ i,i < T.length→StepP P ev ops e0 h0 T i):∀ {j i:Nat},i≤j→j≤T.length→∃ L,hAt h0 T j=hAt h0 T i++L
 | 0,i,hi,_=>⟨[],by rw [show i=0 by omega];simp⟩
 | j+1,i,hi,hj=>by
  by_cases e:i=j+1
  ·exact ⟨[],by rw [e];simp⟩
  ·obtain ⟨L,hL⟩:=Qev hT (j:=j) (i:=i) (by omega) (by omega);obtain ⟨L',hL'⟩:=Zby (hT j (by omega));exact ⟨L++L',by rw [hL',hL,List.append_assoc]⟩
structure Inv (ops:Array Oper) (h0:List O) (T:List Tr) (m0:M) (w0:World) (a0:Act) (D:Nat→Bool) (a:Act) (w:World) (m:M):Prop where
 base:∀ i,i < h0.length→m i=m0 i
 doms:∀ i p,m i=some p→i < h0.length∨∃ k,D k=true∧k < T.length∧(hAt h0 T k).length≤i∧i < (hAt h0 T (k+1)).length
 sr:∀ j,j≤T.length→SR (res m (hAt h0 T j).length) (hAt h0 T j) w
 vals:∀ (k:Nat) (t:Tr),D k=true→T[k]?=some t→VP (res m (hAt h0 T (k+1)).length) t.pv (a.eval (.tmp t.d))
 defers:a.defers=[]
 size:a.tmps.size=a0.tmps.size
 off:∀ t,(∀ (k:Nat) (o:Oper),ops[k]?=some o→D k=true→o.dst≠some t)→a.eval (.tmp t)=a0.eval (.tmp t)
 fr:Fr h0.length m0 h0.length w0 m w
theorem Inv.start (hT:∀ i,i < T.length→StepP P ev ops e0 h0 T i) (hs:SR m0 h0 w0) (he:ER m0 e0 a0):Inv ops h0 T m0 w0 a0 (fun _=>false) a0 w0.drew m0:=by
 have hr:∀ n,h0.length≤n→res m0 n=m0:=fun n hn=>by
  funext i;unfold res;split
  ·rfl
  ·cases hm:m0 i with
   | none=>rfl
   | some p=>have:=hs.dom i p hm;omega
 refine ⟨fun _ _=>rfl,fun i p hm=>.inl (hs.dom i p hm),fun j hj=>?_,(fun k t h=>by cases h),he.defers,rfl,fun _ _=>rfl,?_⟩
 ·obtain ⟨L,hL⟩:=Qev hT (Nat.zero_le j) hj;rw [hr _ (by rw [hL];simp [hAt])];exact (SR.longer hs ⟨L,hL⟩).drew
 ·exact ⟨fun _ _ h=>h,fun _ _=>rfl,fun j p hj h=>by have:=hs.dom j p h;omega,Nat.le_refl _,rfl,rfl,rfl,fun _ _ _=>rfl⟩
theorem Inv.er {D:Nat→Bool} {a:Act} {w:World} {m:M} (hT:∀ i,i < T.length→StepP P ev ops e0 h0 T i) (hI:Inv ops h0 T m0 w0 a0 D a w m) (hs0:SR m0 h0 w0) (he:ER m0 e0 a0) {i s:Nat} (hi:i≤T.length)
  (hD:∀ k,k < i→s.testBit k=true→D k=true) (hlate:∀ (k:Nat) (o:Oper),i≤k→ops[k]?=some o→D k=true→k≠i∧((clos ops).getD k 0).testBit i=false) :
  ER (res m (hAt h0 T i).length) (Qfw e0 (T.take i) s (Qay (clos ops) i (ops.toList.drop (i+1)) (i+1))) a:=by
 have h0i:h0.length≤(hAt h0 T i).length:=by
  obtain ⟨L,hL⟩:=Qev hT (Nat.zero_le i) hi;rw [hL];simp [hAt]
 refine ⟨hI.defers,⟨by rw [Qfw,Qgp,Qdz,he.slots.1];simp [hI.size],fun t x v hx hv=>?_⟩⟩;have hv':=Qjp hv;rcases Qgq hx with rfl | ⟨hnd,hx⟩
 ·exact trivial
 rcases Qgo hx with ⟨j,r,h1,h2,h3⟩ | ⟨h1,h2⟩
 ·rw [Nat.zero_add] at h3;split at h3
  ·rename_i hb;rw [List.getElem?_take] at h1;split at h1
   ·rename_i hj;have:=hI.vals j r (hD j hj hb) h1;rw [h2,hv'] at this;rw [h3];refine this.ext fun q p hq=>?_;obtain ⟨hq1,hq2⟩:=res_some.1 hq;obtain ⟨L,hL⟩:=Qev hT (show j+1≤i by omega) hi;exact res_some.2 ⟨by rw [hL];simp;omega,hq2⟩
   ·cases h1
  ·rw [h3];exact trivial
 ·have hoff:a.eval (.tmp t)=a0.eval (.tmp t):=hI.off t fun k o hk hDk e=>by
   by_cases hki:k < i
   ·obtain ⟨o',t',g1,g2,g3,_⟩:=hT k (by omega);rw [hk] at g1;cases g1;have hu:t'∈T.take i:=List.mem_of_getElem? (i:=k) (by rw [List.getElem?_take,if_pos hki];exact g2);rw [g3] at e;cases e;exact h1 t' hu rfl
   ·obtain ⟨l1,l2⟩:=hlate k o (by omega) hk hDk;apply hnd;have g1':ops.toList[k]?=some o:=by simpa using hk
    refine Qfp (j:=k - (i+1)) (o:=o) ?_ e (by rwa [show i+1+(k - (i+1))=k by omega]);rw [List.getElem?_drop,show i+1+(k - (i+1))=k by omega];exact g1'
  have:=Qe3 (x:=.tmp t) he h2;rw [← hoff,hv'] at this;refine this.ext fun q p hq=>res_some.2 ⟨Nat.lt_of_lt_of_le (hs0.dom q p hq) h0i,by rw [hI.base q (hs0.dom q p hq)];exact hq⟩
theorem Qea {a:Act} {d t:Tmp} {v:Value} (h:d≠t):(a.put (some d) v).eval (.tmp t)=a.eval (.tmp t):=Flow.eval_put_ne h
theorem Inv.skip {D:Nat→Bool} {a:Act} {w:World} {m:M} (hT:∀ i,i < T.length→StepP P ev ops e0 h0 T i) (hI:Inv ops h0 T m0 w0 a0 D a w m) {i:Nat} {t:Tr} (ht:T[i]?=some t) (hd:t.d < a.tmps.size) (hpv:t.pv=.skip) :
  Inv ops h0 T m0 w0 a0 (fun k=>D k || k == i) (a.put (some t.d) undef) w m:=by
 have hi:=(List.getElem?_eq_some_iff.1 ht).1;refine ⟨hI.base,fun q p hq=>(hI.doms q p hq).imp id fun ⟨k,h1,h2⟩=>⟨k,by simp [h1],h2⟩,hI.sr,fun k u hk hu=>?_,hI.defers,by rw [Flow.put_size];exact hI.size,fun s hs=>?_,hI.fr⟩
 ·by_cases e:k=i
  ·subst e;rw [ht] at hu;cases hu;rw [Flow.eval_put_same hd,hpv];rfl
  ·have hne:t.d≠u.d:=by
    have hk':=(List.getElem?_eq_some_iff.1 hu).1;rcases Nat.lt_or_gt_of_ne e with hlt | hlt
    ·obtain ⟨_,t',_,g2,_,g4,_⟩:=hT i hi;rw [ht] at g2;cases g2;exact (g4 k u hlt hu).symm
    ·obtain ⟨_,t',_,g2,_,g4,_⟩:=hT k hk';rw [hu] at g2;cases g2;exact g4 i t hlt ht
   rw [Qea hne];exact hI.vals k u (by simpa [e] using hk) hu
 ·obtain ⟨o,t',g1,g2,g3,_⟩:=hT i hi;rw [ht] at g2;cases g2;rw [Qea (fun e=>hs i o g1 (by simp) (by rw [g3,e]))];exact hI.off s fun k o hk hD=>hs k o hk (by simp [hD])
theorem Inv.step {D:Nat→Bool} {a:Act} {w w':World} {m m':M} (hT:∀ i,i < T.length→StepP P ev ops e0 h0 T i) (hI:Inv ops h0 T m0 w0 a0 D a w m) (_hs0:SR m0 h0 w0) {i:Nat} {t:Tr} {v:Value} {st:St} (hDi:D i=false) (ht:T[i]?=some t) (hd:t.d < a.tmps.size)
  (hres:Res (res m (hAt h0 T i).length) ⟨hAt h0 T i,(hAt h0 T i).length⟩ w m' st w') (hlo:(hAt h0 T i).length≤st.lo) (hth:t.h=hAt h0 T i++st.h.drop (hAt h0 T i).length) (hv:VP m' t.pv v) :
  ∃ m1,Inv ops h0 T m0 w0 a0 (fun k=>D k || k == i) (a.put (some t.d) v) w' m1∧∀ k p,m k=some p→m1 k=some p:=by
 have hi:=(List.getElem?_eq_some_iff.1 ht).1;have hsth:st.h=t.h:=by
  rw [hth];have hle:(hAt h0 T i).length≤st.h.length:=hres.len;refine List.ext_getElem? fun q=>?_;by_cases hq:q < (hAt h0 T i).length
  ·rw [List.getElem?_append_left hq];exact hres.old q hq (Nat.lt_of_lt_of_le hq hlo)
  ·rw [List.getElem?_append_right (by omega),List.getElem?_drop,show (hAt h0 T i).length+(q - (hAt h0 T i).length)=q by omega]
 have hnext:hAt h0 T (i+1)=t.h:=by simp [hAt,ht]
 obtain ⟨Li,hLi⟩:=Qev hT (show i≤i+1 by omega) (show i+1≤T.length by omega);have hle1:(hAt h0 T i).length≤(hAt h0 T (i+1)).length:=by rw [hLi];simp
 have mono:∀ {p q:Nat},p≤q→q≤T.length→(hAt h0 T p).length≤(hAt h0 T q).length:=fun {p q} h1 h2=>by
  obtain ⟨L,hL⟩:=Qev hT h1 h2;rw [hL];simp
 have getp:∀ {p q k:Nat},p≤q→q≤T.length→k < (hAt h0 T p).length→(hAt h0 T q)[k]?=(hAt h0 T p)[k]?:=fun {p q k} h1 h2 h3=>by
  obtain ⟨L,hL⟩:=Qev hT h1 h2;rw [hL,List.getElem?_append_left h3]
 have hdom':∀ k p,m' k=some p→k < (hAt h0 T (i+1)).length:=fun k p hk=>by have:=hres.sr.dom k p hk;rwa [hsth,← hnext] at this
 have hgap:∀ k,(hAt h0 T i).length≤k→k < (hAt h0 T (i+1)).length→m k=none:=fun k h1 h2=>by
  cases hm:m k with
  | none=>rfl
  | some p =>
   exfalso;rcases hI.doms k p hm with h | ⟨j,g1,g2,g3,g4⟩
   ·have:=mono (Nat.zero_le i) (by omega);rw [show hAt h0 T 0=h0 from rfl] at this;omega
   ·by_cases e:j=i
    ·subst e;rw [hDi] at g1;cases g1
    ·rcases Nat.lt_or_gt_of_ne e with hlt | hlt
     ·have:=mono (show j+1≤i by omega) (by omega);omega
     ·have:=mono (show i+1≤j by omega) (by omega);omega
 have hback:∀ k,k < (hAt h0 T i).length→m' k=m k:=fun k hk=>by
  rw [hres.fr.back k hk];simp [res,hk]
 have hnewb:∀ k p,(hAt h0 T i).length≤k→m' k=some p→w.heap.size≤p.b:=fun k p hk hm=>by
  rcases hres.fr.new k p hk hm with h | ⟨j,q,g1,g2,_⟩
  ·exact h
  ·have g2':j < (hAt h0 T i).length:=g2;omega
 have hkeep:∀ b,b < w.heap.size→w'.heap[b]?=w.heap[b]?:=fun b hb=>hres.fr.keep b hb fun j p g1 g2=>by
  have g2':j < (hAt h0 T i).length:=g2;omega
 let m1:M:=fun k=>if (hAt h0 T i).length≤k∧k < (hAt h0 T (i+1)).length then m' k else m k
 have m1_in:∀ k,(hAt h0 T i).length≤k→k < (hAt h0 T (i+1)).length→m1 k=m' k:=fun k h1 h2=>if_pos ⟨h1,h2⟩;have m1_out:∀ k,¬ ((hAt h0 T i).length≤k∧k < (hAt h0 T (i+1)).length)→m1 k=m k:=fun k h=>if_neg h;have m_sub:∀ k p,m k=some p→m1 k=some p:=fun k p hk=>by
  rw [m1_out k fun ⟨h1,h2⟩=>by rw [hgap k h1 h2] at hk;cases hk];exact hk
 have m'_sub:∀ k p,m' k=some p→m1 k=some p:=fun k p hk=>by
  have h2:=hdom' k p hk;by_cases h1:(hAt h0 T i).length≤k
  ·rw [m1_in k h1 h2];exact hk
  ·rw [m1_out k (by omega),← hback k (by omega)];exact hk
 have m1_lt:∀ k p,k < (hAt h0 T (i+1)).length→m1 k=some p→m' k=some p:=fun k p h2 hk=>by
  by_cases h1:(hAt h0 T i).length≤k
  ·rw [m1_in k h1 h2] at hk;exact hk
  ·rw [m1_out k (by omega)] at hk;rw [hback k (by omega)];exact hk
 refine ⟨m1,⟨?_,?_,?_,?_,hI.defers,by rw [Flow.put_size];exact hI.size,?_,?_⟩,m_sub⟩
 ·intro k hk;have:=mono (Nat.zero_le i) (by omega);rw [show hAt h0 T 0=h0 from rfl] at this;rw [m1_out k (by omega)];exact hI.base k hk
 ·intro k p hk;by_cases h:(hAt h0 T i).length≤k∧k < (hAt h0 T (i+1)).length
  ·exact .inr ⟨i,by simp,hi,h⟩
  ·rw [m1_out k h] at hk;exact (hI.doms k p hk).imp id fun ⟨j,g1,g2⟩=>⟨j,by simp [g1],g2⟩
 ·intro j hj;by_cases hji:j≤i
  ·have e:res m1 (hAt h0 T j).length=res m (hAt h0 T j).length:=by
    funext k;unfold res;split
    ·have:=mono hji (by omega);exact m1_out k (by omega)
    ·rfl
   rw [e];exact (hI.sr j hj).grow hkeep
  ·have hij:i+1≤j:=by omega
   have hlen:=mono hij hj;have hold:=hI.sr j hj;have up':∀ k p,m' k=some p→res m1 (hAt h0 T j).length k=some p:=fun k p hk=>res_some.2 ⟨by have:=hdom' k p hk;omega,m'_sub k p hk⟩;have upo:∀ k p,res m (hAt h0 T j).length k=some p→res m1 (hAt h0 T j).length k=some p:=fun k p hk=>res_some.2 ⟨(res_some.1 hk).1,m_sub k p (res_some.1 hk).2⟩;have down:∀ k p,res m1 (hAt h0 T j).length k=some p→(k < (hAt h0 T (i+1)).length∧m' k=some p∧st.h[k]?=(hAt h0 T j)[k]?)∨((hAt h0 T (i+1)).length≤k∧res m (hAt h0 T j).length k=some p):=fun k p hk=>by
    obtain ⟨g1,g2⟩:=res_some.1 hk;by_cases h2:k < (hAt h0 T (i+1)).length
    ·exact .inl ⟨h2,m1_lt k p h2 g2,by rw [hsth,← hnext,getp hij hj h2]⟩
    ·rw [m1_out k (by omega)] at g2;exact .inr ⟨by omega,res_some.2 ⟨g1,g2⟩⟩
   refine ⟨fun k p hk=>(res_some.1 hk).1,fun k p o hk ho hl=>?_,fun x y p q o o' hx hy hox hoy hrw hl hl' hne=>?_,⟨fun k p o rest hk ho hmp=>?_,fun x y p q o o' r r' hx hy hox hoy hmx hmy hne=>?_⟩⟩
   ·rcases down k p hk with ⟨_,g2,g3⟩ | ⟨_,g2⟩
    ·obtain ⟨cur,fr,c1,c2,c3,c4,c5⟩:=hres.sr.obj k p o g2 (by rw [g3];exact ho) hl;exact ⟨cur,fr,c1,c2,c3,fun q c hc=>by obtain ⟨u,b1,b2⟩:=c4 q c hc;exact ⟨u,b1,b2.ext up'⟩,c5⟩
    ·obtain ⟨cur,fr,c1,c2,c3,c4,c5⟩:=hold.obj k p o g2 ho hl;exact ⟨cur,fr,by rw [hkeep _ (Array.getElem?_eq_some_iff.1 c1).1];exact c1,c2,c3,fun q c hc=>by obtain ⟨u,b1,b2⟩:=c4 q c hc;exact ⟨u,b1,b2.ext upo⟩,c5⟩
   ·have oldlt:∀ k r ok,res m (hAt h0 T j).length k=some r→(hAt h0 T j)[k]?=some ok→ok.live=true→r.b < w.heap.size:=fun k r ok g1 g2 g3=>hold.lt g1 g2 g3;rcases down x p hx with ⟨x1,x2,x3⟩ | ⟨x1,x2⟩
    ·rcases down y q hy with ⟨y1,y2,y3⟩ | ⟨y1,y2⟩
     ·exact hres.sr.sep x y p q o o' x2 y2 (by rw [x3];exact hox) (by rw [y3];exact hoy) hrw hl hl' hne
     ·by_cases hxi:(hAt h0 T i).length≤x
      ·have:=hnewb x p hxi x2;have:=oldlt y q o' y2 hoy hl';omega
      ·have x2':res m (hAt h0 T j).length x=some p:=res_some.2 ⟨by omega,by rw [← hback x (by omega)];exact x2⟩;exact hold.sep x y p q o o' x2' y2 hox hoy hrw hl hl' hne
    ·rcases down y q hy with ⟨y1,y2,y3⟩ | ⟨y1,y2⟩
     ·by_cases hyi:(hAt h0 T i).length≤y
      ·have:=hnewb y q hyi y2;have:=oldlt x p o x2 hox hl;omega
      ·have y2':res m (hAt h0 T j).length y=some q:=res_some.2 ⟨by omega,by rw [← hback y (by omega)];exact y2⟩;exact hold.sep x y p q o o' x2 y2' hox hoy hrw hl hl' hne
     ·exact hold.sep x y p q o o' x2 y2 hox hoy hrw hl hl' hne
   ·rcases down k p hk with ⟨_,g2,g3⟩ | ⟨_,g2⟩
    ·exact hres.sr.mr.at_ k p o rest g2 (by rw [g3];exact ho) hmp
    ·obtain ⟨es,cl,c1,c2⟩:=hold.mr.at_ k p o rest g2 ho hmp;exact ⟨es,cl,by rw [hkeep _ (Array.getElem?_eq_some_iff.1 c1).1];exact c1,c2⟩
   ·have oldlt:∀ k r ok rest,res m (hAt h0 T j).length k=some r→(hAt h0 T j)[k]?=some ok→Qh7 ok rest→r.b < w.heap.size:=fun k r ok rest g1 g2 g3=>by
     obtain ⟨es,cl,c1,c2⟩:=hold.mr.at_ k r ok rest g1 g2 g3;exact (Array.getElem?_eq_some_iff.1 c1).1
    rcases down x p hx with ⟨x1,x2,x3⟩ | ⟨x1,x2⟩
    ·rcases down y q hy with ⟨y1,y2,y3⟩ | ⟨y1,y2⟩
     ·exact hres.sr.mr.sep x y p q o o' r r' x2 y2 (by rw [x3];exact hox) (by rw [y3];exact hoy) hmx hmy hne
     ·by_cases hxi:(hAt h0 T i).length≤x
      ·have:=hnewb x p hxi x2;have:=oldlt y q o' r' y2 hoy hmy;omega
      ·have x2':res m (hAt h0 T j).length x=some p:=res_some.2 ⟨by omega,by rw [← hback x (by omega)];exact x2⟩;exact hold.mr.sep x y p q o o' r r' x2' y2 hox hoy hmx hmy hne
    ·rcases down y q hy with ⟨y1,y2,y3⟩ | ⟨y1,y2⟩
     ·by_cases hyi:(hAt h0 T i).length≤y
      ·have:=hnewb y q hyi y2;have:=oldlt x p o r x2 hox hmx;omega
      ·have y2':res m (hAt h0 T j).length y=some q:=res_some.2 ⟨by omega,by rw [← hback y (by omega)];exact y2⟩;exact hold.mr.sep x y p q o o' r r' x2 y2' hox hoy hmx hmy hne
     ·exact hold.mr.sep x y p q o o' r r' x2 y2 hox hoy hmx hmy hne
 ·intro k u hk hu;by_cases e:k=i
  ·subst e;rw [ht] at hu;cases hu;rw [Flow.eval_put_same hd];exact hv.ext fun q p hq=>res_some.2 ⟨hdom' q p hq,m'_sub q p hq⟩
  ·have hne:t.d≠u.d:=by
    have hk':=(List.getElem?_eq_some_iff.1 hu).1;rcases Nat.lt_or_gt_of_ne e with hlt | hlt
    ·obtain ⟨_,t',_,g2,_,g4,_⟩:=hT i hi;rw [ht] at g2;cases g2;exact (g4 k u hlt hu).symm
    ·obtain ⟨_,t',_,g2,_,g4,_⟩:=hT k hk';rw [hu] at g2;cases g2;exact g4 i t hlt ht
   rw [Qea hne];exact (hI.vals k u (by simpa [e] using hk) hu).ext fun q p hq=>res_some.2 ⟨(res_some.1 hq).1,m_sub q p (res_some.1 hq).2⟩
 ·intro s hs;obtain ⟨o,t',g1,g2,g3,_⟩:=hT i hi;rw [ht] at g2;cases g2;rw [Qea (fun e=>hs i o g1 (by simp) (by rw [g3,e]))];exact hI.off s fun k o hk hD=>hs k o hk (by simp [hD])
 ·have hf:=hI.fr;refine ⟨fun k p hk=>m_sub k p (hf.same k p hk),fun k hk=>?_,fun k p hk hm=>?_,Nat.le_trans hf.size hres.fr.size,hres.fr.os.trans hf.os,hres.fr.tape.trans hf.tape,hres.fr.output.trans hf.output,fun b hb hne=>?_⟩
  ·have:=mono (Nat.zero_le i) (by omega);rw [show hAt h0 T 0=h0 from rfl] at this;rw [m1_out k (by omega)];exact hf.back k hk
  ·by_cases h:(hAt h0 T i).length≤k∧k < (hAt h0 T (i+1)).length
   ·rw [m1_in k h.1 h.2] at hm;exact .inl (Nat.le_trans hf.size (hnewb k p h.1 hm))
   ·rw [m1_out k h] at hm;exact hf.new k p hk hm
  ·rw [hkeep b (Nat.lt_of_lt_of_le hb hf.size)];exact hf.keep b hb hne
end
end Ev
end Go.Proofs.YtcpodmjcgfgmnaaGreat

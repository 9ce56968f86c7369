/- A region that draws its order, whatever order that is, whose operations may append and store: an operation must let be only what is still wanted behind it. No program. -/
import Derived.Test.YtcnmaplopbbmaaaGreatMBa
namespace Go.Proofs.YtcnmaplopbbmaaaGreat
open Go.RowKit
namespace Flow
def wants (D S:List (List Nat)) (E:List Nat) (k i:Nat):Bool:=E.contains k || (List.range D.length).any fun m=>m != i && !(S.getD i []).contains m && (D.getD m []).contains k
structure OffG (ops:Array Oper) (S:List (List Nat)) (a0:Act) (L:Nat→Bool) (a:Act):Prop extends Off ops a0 a where
 still:∀ t,(∀ k,dstOf ops k=some t→L k=false)→a.eval (.tmp t)=a0.eval (.tmp t)
 cl:∀ m,L m=true→∀ k∈S.getD m [],L k=true
def before (ops:Array Oper) (S:List (List Nat)) (t:Tmp) (i:Nat):Bool:=(List.range ops.size).all fun k=>dstOf ops k != some t || (S.getD k []).contains i
theorem OffG.at2 {ops:Array Oper} {S:List (List Nat)} {a0:Act} {L:Nat→Bool} {a:Act} (h:OffG ops S a0 L a) (t:Tmp) (i:Nat) (hi:L i=false) (hb:before ops S t i=true):a.eval (.tmp t)=a0.eval (.tmp t):=by
 refine h.still t fun k hk=>?_
 have hks:k < ops.size:=by
  rcases Nat.lt_or_ge k ops.size with h | h
  ·exact h
  ·simp [dstOf,h] at hk
 have h1:=(List.all_eq_true.1 hb) k (by simpa using hks)
 simp only [hk,bne_self_eq_false,Bool.false_or,List.contains_iff_mem] at h1
 cases hL:L k with
 | false=>rfl
 | true=>rw [h.cl k hL i h1] at hi;cases hi
theorem OffG.notyet {ops:Array Oper} {S:List (List Nat)} {a0:Act} {L:Nat→Bool} {a:Act} (h:OffG ops S a0 L a) {i:Nat} (hi:L i=false) (m:Nat) (hb:(m == i || (S.getD m []).contains i)=true):L m=false:=by
 cases hm:L m with
 | false=>rfl
 | true =>
  rw [Bool.or_eq_true] at hb
  rcases hb with hb | hb
  ·have:m=i:=by simpa using hb
   subst this
   rw [hi] at hm
   cases hm
  ·rw [h.cl m hm i (by simpa using hb)] at hi
   cases hi
def ad (L:Nat→Bool) (i:Nat):Nat→Bool:=fun k=>k == i || L k
def OneG (P:Program) (ops:Array Oper) (Q:Exit→Act→World→Prop) (a0:Act) (C:(Nat→Bool)→World→Prop) (Fs:List Fact) (D S:List (List Nat)) (E:List Nat) (i:Nat) (f:Fact) (o:Oper):Prop :=
 ∀ L a w,C L w→L i=false→OffG ops S a0 L a→factsS ops Fs a w (D.getD i []) →
  (Region.wanted o (yielded ops a.tmps)=true∧o.wp P a w (fun a' w'=>∃ v,a'=a.put o.dst v∧C (ad L i) w'∧(∀ k,k≠i→wants D S E k i=true→(S.getD k []).contains i=false→∀ u,holds (Fs.getD k (.inr fun _ _=>True)) u w→holds (Fs.getD k (.inr fun _ _=>True)) u w')∧told o f a v w') Q) ∨
  (Region.wanted o (yielded ops a.tmps)=false∧o.dst.isSome=true∧C (ad L i) w∧holds f undef w)
def OnesG (P:Program) (ops:Array Oper) (Q:Exit→Act→World→Prop) (a0:Act) (C:(Nat→Bool)→World→Prop) (Fs:List Fact) (D S:List (List Nat)) (E:List Nat):Nat→List Oper→List Fact→Prop
 | i,o :: l,f :: F=>OneG P ops Q a0 C Fs D S E i f o∧OnesG P ops Q a0 C Fs D S E (i+1) l F
 | _,[],_=>True
 | _,_,_=>False
theorem OnesG.cons {P:Program} {ops:Array Oper} {Q:Exit→Act→World→Prop} {a0:Act} {C:(Nat→Bool)→World→Prop} {Fs:List Fact} {D S:List (List Nat)} {E:List Nat} {i:Nat} {o:Oper} {l:List Oper} {f:Fact} {F:List Fact}
  (h:OneG P ops Q a0 C Fs D S E i f o) (k:OnesG P ops Q a0 C Fs D S E (i+1) l F):OnesG P ops Q a0 C Fs D S E i (o :: l) (f :: F):=⟨h,k⟩
theorem onesG_at {P:Program} {ops:Array Oper} {Q:Exit→Act→World→Prop} {a0:Act} {C:(Nat→Bool)→World→Prop} {Fs:List Fact} {D S:List (List Nat)} {E:List Nat} :
  ∀ {l:List Oper} {F:List Fact} {n:Nat},OnesG P ops Q a0 C Fs D S E n l F→∀ i o,l[i]? = some o→OneG P ops Q a0 C Fs D S E (n+i) (F.getD i (.inr fun _ _=>True)) o
 | [],_,_,_,i,o,h=>by simp at h
 | x :: l,[],_,h,_,_,_=>h.elim
 | x :: l,f :: F,n,h,0,o,ho=>by simp at ho;subst ho;exact h.1
 | x :: l,f :: F,n,h,i+1,o,ho=>by
  have:=onesG_at h.2 i o (by simpa using ho)
  rw [show n+(i+1)=n+1+i by omega]
  exact this
def endsG (Q:Exit→Act→World→Prop) (E:List Nat):Nat→List Oper→List Fact→Act→World→Prop
 | i,o :: l,f :: F,a,w=>match o.dst with
  | some d=>match f with
   | .inl c=>endsG Q E (i+1) l F (a.put (some d) c) w
   | .inr Φ=>∀ v,(E.contains i=true→Φ v w)→endsG Q E (i+1) l F (a.put (some d) v) w
  | none=>(∀ s,seat o=some s→E.contains i=true→holds f (a.eval (.tmp s)) w)→endsG Q E (i+1) l F a w
 | _,_,_,a,w=>Q .normal a w
def fitsG (n:Nat) (ops:Array Oper) (D S:List (List Nat)):Bool :=
 ((List.range ops.size).all fun i =>
   (match dstOf ops i with
     | some d=>decide (d < n) && (List.range i).all (fun j=>dstOf ops j != some d)
     | none=>match seatOf ops i with
      | some s=>(List.range ops.size).all fun j=>dstOf ops j != some s || (decide (j < i) && (S.getD i []).contains j)
      | none=>false) &&
   (match ops[i]? with | some o=>o.after.toList.all (fun e=>!Region.binds .any e || decide (e.on < i)) | none=>false)) &&
 (List.range ops.size).all (fun i=>(D.getD i []).all fun k=>(S.getD i []).contains k) && decide (D.length=ops.size)
theorem endsG_all {Q:Exit→Act→World→Prop} {a:Act} {w:World} {E:List Nat}:∀ (l:List Oper) (F:List Fact) (n:Nat) (b:Act),
  (∀ i o,l[i]? = some o→(∃ d,o.dst=some d∧d < a.tmps.size∧(∀ c,F.getD i (.inr fun _ _=>True)=.inl c→a.eval (.tmp d)=c)∧(E.contains (n+i)=true→holds (F.getD i (.inr fun _ _=>True)) (a.eval (.tmp d)) w))∨(o.dst=none∧∀ s,seat o=some s→E.contains (n+i)=true→holds (F.getD i (.inr fun _ _=>True)) (a.eval (.tmp s)) w)) →
  (∀ (i:Nat) (o:Oper) (s:Tmp),l[i]? = some o→o.dst=none→seat o=some s→∀ (j:Nat) (o':Oper),i≤j→l[j]? = some o'→o'.dst≠some s) →
  l.length≤F.length→b.defers=a.defers→b.tmps.size=a.tmps.size→(∀ t,(∀ o∈l,o.dst≠some t)→b.eval (.tmp t)=a.eval (.tmp t))→endsG Q E n l F b w→Q .normal a w
 | [],_,n,b,_,_,_,hd,hs,he,h=>by
  have:b=a:=act_ext hd hs fun t=>he t (by simp)
  subst this
  simpa [endsG] using h
 | o :: l,[],n,b,_,_,hl,_,_,_,_=>by simp at hl
 | o :: l,f :: F,n,b,hk,hq,hl,hd,hs,he,h=>by
  have hk':∀ i o',l[i]? = some o'→(∃ d,o'.dst=some d∧d < a.tmps.size∧(∀ c,F.getD i (.inr fun _ _=>True)=.inl c→a.eval (.tmp d)=c)∧(E.contains (n+1+i)=true→holds (F.getD i (.inr fun _ _=>True)) (a.eval (.tmp d)) w))∨(o'.dst=none∧∀ s,seat o'=some s→E.contains (n+1+i)=true→holds (F.getD i (.inr fun _ _=>True)) (a.eval (.tmp s)) w) :=
   fun i o' ho'=>by
    have:=hk (i+1) o' (by simpa using ho')
    rw [show n+(i+1)=n+1+i by omega] at this
    exact this
  have hq':∀ (i:Nat) (o':Oper) (s:Tmp),l[i]? = some o'→o'.dst=none→seat o'=some s→∀ (j:Nat) (o'':Oper),i≤j→l[j]? = some o''→o''.dst≠some s :=
   fun i o' s h1 h2 h3 j o'' hij h4=>hq (i+1) o' s (by simpa using h1) h2 h3 (j+1) o'' (by omega) (by simpa using h4)
  rcases hk 0 o rfl with ⟨d,hod,hdn,hv,hf⟩ | ⟨hod,hf⟩
  ·have go:endsG Q E (n+1) l F (b.put (some d) (a.eval (.tmp d))) w→Q .normal a w:=fun h=>by
    refine endsG_all l F (n+1) _ hk' hq' (by simpa using hl) ((put_defers _ _ _).trans hd) ((put_size _ _ _).trans hs) (fun t ht=>?_) h
    by_cases e:d=t
    ·subst e;rw [eval_put_same (by rw [hs];exact hdn)]
    ·rw [eval_put_ne e]
     refine he t fun o' ho'=>?_
     rcases List.mem_cons.1 ho' with rfl | ho'
     ·rw [hod];simpa using e
     ·exact ht o' ho'
   cases f with
   | inl c =>
    have e:a.eval (.tmp d)=c:=hv c rfl
    rw [e] at go
    simp only [endsG,hod] at h
    exact go h
   | inr Φ =>
    simp only [endsG,hod] at h
    exact go (h _ hf)
  ·simp only [endsG,hod] at h
   refine endsG_all l F (n+1) b hk' hq' (by simpa using hl) hd hs (fun t ht=>he t fun o' ho'=>?_) (h fun s hss=>?_)
   ·rcases List.mem_cons.1 ho' with rfl | ho'
    ·rw [hod];simp
    ·exact ht o' ho'
   ·rw [he s (fun o' ho'=>by
     obtain ⟨j,hj⟩:=List.mem_iff_getElem?.1 ho'
     exact hq 0 o s rfl hod hss j o' (by omega) hj)]
    exact hf s hss
section
variable {P:Program} {ops:Array Oper} {Q:Exit→Act→World→Prop} {a0:Act} {C:(Nat→Bool)→World→Prop} {Fs:List Fact} {D S:List (List Nat)} {E:List Nat}
def liveG (ops:Array Oper) (Fs:List Fact) (D:List (List Nat)) (E:List Nat) (listed:Array Bool) (a:Act) (w:World) (k:Nat):Prop :=
 (∀ d c,dstOf ops k=some d→Fs.getD k (.inr fun _ _=>True)=.inl c→a.eval (.tmp d)=c) ∧
 ((E.contains k=true∨∃ m,m < D.length∧listed.getD m false=false∧k∈D.getD m [])→knownS ops Fs a w k)
theorem getD_set_true' {listed:Array Bool} {i n:Nat} (h:i < n) (hs:listed.size=n):(listed.setIfInBounds i true).getD i false=true:=by
 simp [show i < listed.size by omega]
theorem any_ofG (hfit:fitsG a0.tmps.size ops D S=true) (hlean:leans ops S=true) (hF:Fs.length=ops.size)
  (hones:OnesG P ops Q a0 C Fs D S E 0 ops.toList Fs) (hend:∀ L w,(∀ k,k < ops.size→L k=true)→C L w→endsG Q E 0 ops.toList Fs a0 w) :
  ∀ (fuel:Nat) (listed:Array Bool) (a:Act) (w:World),listed.size=ops.size→left listed=fuel→C (fun k=>listed.getD k false) w→Off ops a0 a→(∀ t,(∀ k,dstOf ops k=some t→listed.getD k false=false)→a.eval (.tmp t)=a0.eval (.tmp t)) →
   (∀ k,listed.getD k false=true→liveG ops Fs D E listed a w k)→(∀ m,listed.getD m false=true→∀ k∈S.getD m [],listed.getD k false=true)→wpAny P .any ops Q fuel listed a w:=by
 have hfit1:=(Bool.and_eq_true_iff.1 (Bool.and_eq_true_iff.1 hfit).1).1
 have hDS:∀ i,i < ops.size→∀ k∈D.getD i [],k∈S.getD i []:=fun i hi k hk=>by
  have h:=(List.all_eq_true.1 (Bool.and_eq_true_iff.1 (Bool.and_eq_true_iff.1 hfit).1).2) i (by simpa using hi)
  have:=(List.all_eq_true.1 h) k hk
  simpa using this
 have hDl:D.length=ops.size:=of_decide_eq_true (Bool.and_eq_true_iff.1 hfit).2
 have hsh:∀ i o,ops[i]? = some o→((∃ d,o.dst=some d∧d < a0.tmps.size∧(∀ j,j < i→dstOf ops j≠some d))∨(o.dst=none∧∃ s,seat o=some s∧∀ j,dstOf ops j=some s→j < i∧j∈S.getD i []))∧∀ e∈o.after,Region.binds .any e=true→e.on < i:=by
  intro i o ho
  have hi:i < ops.size:=(Array.getElem?_eq_some_iff.1 ho).1
  have h:=(List.all_eq_true.1 hfit1) i (by simpa using hi)
  simp only [Bool.and_eq_true,ho] at h
  refine ⟨?_,fun e he hb=>by
   have:=(List.all_eq_true.1 h.2) e (by simpa using he)
   simpa [hb] using this⟩
  have h:=h.1
  simp only [dstOf,ho,Option.bind_some] at h
  cases hd:o.dst with
  | none =>
   simp only [hd,seatOf,ho,Option.bind_some] at h
   cases hs:seat o with
   | none=>simp [hs] at h
   | some s =>
    simp only [hs,List.all_eq_true,List.mem_range,Bool.or_eq_true,bne_iff_ne,Bool.and_eq_true,decide_eq_true_eq,List.contains_iff_mem] at h
    refine .inr ⟨rfl,s,rfl,fun j hj=>?_⟩
    have hjo:j < ops.size:=by
     rcases Nat.lt_or_ge j ops.size with h | h
     ·exact h
     ·simp [dstOf,h] at hj
    rcases h j hjo with h1 | h1
    ·exact absurd hj h1
    ·exact h1
  | some d =>
   simp only [hd,Bool.and_eq_true,decide_eq_true_eq,List.all_eq_true,List.mem_range,bne_iff_ne] at h
   exact .inl ⟨d,rfl,h.1,fun j hj=>h.2 j hj⟩
 have hdist:∀ i j d,dstOf ops i=some d→dstOf ops j=some d→i=j:=by
  intro i j d hi hj
  have g:∀ i j,dstOf ops i=some d→dstOf ops j=some d→¬ j < i:=by
   intro i j hi hj hlt
   cases ho:ops[i]? with
   | none=>simp [dstOf,ho] at hi
   | some o =>
    rcases (hsh i o ho).1 with ⟨d',hd',_,hne⟩ | ⟨hd',_⟩
    ·have:d'=d:=by simpa [dstOf,ho,hd'] using hi
     subst this
     exact hne j hlt hj
    ·simp [dstOf,ho,hd'] at hi
  have:=g i j hi hj
  have:=g j i hj hi
  omega
 have hdone:∀ (listed:Array Bool) (a:Act) (w:World),listed.size=ops.size→C (fun k=>listed.getD k false) w→Off ops a0 a→(∀ k,listed.getD k false=true→liveG ops Fs D E listed a w k) →
   Region.ready .any ops listed=[]→Q .normal a w:=by
  intro listed a w hsz hCw hoff hk hr
  have hall:∀ n i,i < n→i < ops.size→listed.getD i false=true:=by
   intro n
   induction n with
   | zero=>intro i h;omega
   | succ n ih =>
    intro i hi hio
    by_cases hin:i < n
    ·exact ih i hin hio
    ·have hin:i=n:=by omega
     cases hl:listed.getD i false with
     | true=>rfl
     | false =>
      exfalso
      have ho:ops[i]? = some ops[i]:=by simp [hio]
      have hb:=(hsh i _ ho).2
      have:i∈Region.ready .any ops listed:=mem_ready.2 ⟨by
       have:i < listed.size:=by omega
       simpa [this] using hl,_,ho,fun e he hbe=>ih e.on (by have:=hb e he hbe;omega) (by have:=hb e he hbe;omega)⟩
      rw [hr] at this
      cases this
  refine endsG_all ops.toList Fs 0 a0 (fun i o ho=>?_) (fun i o s ho hd hs j o' hij ho'=>?_) (by simp [hF]) hoff.defers.symm hoff.size.symm (fun t ht=>(hoff.same t fun k hk=>?_).symm) (hend _ w (fun k hk=>hall (k+1) k (by omega) hk) hCw)
  ·have ho':ops[i]? = some o:=by simpa using ho
   have hki:=hk i (hall (i+1) i (by omega) (Array.getElem?_eq_some_iff.1 ho').1)
   rw [Nat.zero_add]
   rcases (hsh i o ho').1 with ⟨d,hd,hdn,_⟩ | ⟨hd,_⟩
   ·exact .inl ⟨d,hd,by rw [hoff.size];exact hdn,fun c hc=>hki.1 d c (by simp [dstOf,ho',hd]) hc,fun hE=>hki.2 (.inl hE) d (by simp [seatOf,ho',seat,hd])⟩
   ·exact .inr ⟨hd,fun s hs hE=>hki.2 (.inl hE) s (by simp [seatOf,ho',hs])⟩
  ·have h1:ops[i]? = some o:=by simpa using ho
   have h2:ops[j]? = some o':=by simpa using ho'
   rcases (hsh i o h1).1 with ⟨d,hd',_⟩ | ⟨_,s',hs',hall'⟩
   ·rw [hd] at hd';cases hd'
   ·have:s'=s:=by rw [hs] at hs';injection hs' with e;exact e.symm
    subst this
    intro he
    have:=(hall' j (by simp [dstOf,h2,he])).1
    omega
  ·cases ho:ops[k]? with
   | none=>simp [dstOf,ho] at hk
   | some o=>exact ht o (by have:=Array.mem_of_getElem? ho;simpa using this) (by simpa [dstOf,ho] using hk)
 intro fuel
 induction fuel with
 | zero =>
  intro listed a w hsz hl hCw hoff _ hk _
  have hr:Region.ready .any ops listed=[]:=by
   cases hr:Region.ready .any ops listed with
   | nil=>rfl
   | cons i r =>
    have hi:i∈Region.ready .any ops listed:=by rw [hr];simp
    have:=left_set (mem_ready.1 hi).1
    omega
  exact ⟨hr,hdone listed a w hsz hCw hoff hk hr⟩
 | succ fuel ih =>
  intro listed a w hsz hl hCw hoff hstill hk hcl
  refine ⟨hdone listed a w hsz hCw hoff hk,fun i hi=>?_⟩
  obtain ⟨hun,o,ho,hall⟩:=mem_ready.1 hi
  have hcase:=(hsh i o ho).1
  have hio:i < ops.size:=(Array.getElem?_eq_some_iff.1 ho).1
  have hunf:listed.getD i false=false:=by
   cases h:listed.getD i false with
   | false=>rfl
   | true=>rw [getD_true_of_false h] at hun;cases hun
  have hne:∀ k,listed.getD k false=true→k≠i:=fun k hk e=>by subst e;rw [hk] at hunf;cases hunf
  have hSi:∀ k∈S.getD i [],listed.getD k false=true:=by
   intro k hkS
   have h:=(List.all_eq_true.1 hlean) i (by simpa using hio)
   have h:=(List.all_eq_true.1 h) k hkS
   simp only [ho,List.any_eq_true,Bool.and_eq_true,Bool.or_eq_true,beq_iff_eq,List.contains_iff_mem] at h
   obtain ⟨e,he,hb,hek⟩:=h
   have hle:=hall e (by simpa using he) hb
   rcases hek with rfl | hek
   ·exact hle
   ·exact hcl e.on hle k hek
  have hone:=onesG_at hones i o (by simpa using ho) (fun k=>listed.getD k false) a w hCw (by rw [Nat.zero_add];exact hunf) ⟨hoff,hstill,hcl⟩ (by
   rw [Nat.zero_add]
   exact factsS_mem fun k hkD=>(hk k (hSi k (hDS i hio k hkD))).2 (.inr ⟨i,by omega,hunf,hkD⟩))
  rw [Nat.zero_add] at hone
  have hadd:(fun k=>(listed.setIfInBounds i true).getD k false)=ad (fun k=>listed.getD k false) i:=by
   funext k
   unfold ad
   by_cases e:k=i
   ·subst e
    simp [show k < listed.size by omega]
   ·rw [getD_set_ne false (Ne.symm e)]
    simp [e]
  have next:∀ v w',C (ad (fun k=>listed.getD k false) i) w'→(∀ k,k≠i→wants D S E k i=true→(S.getD k []).contains i=false→∀ u,holds (Fs.getD k (.inr fun _ _=>True)) u w→holds (Fs.getD k (.inr fun _ _=>True)) u w')→told o (Fs.getD i (.inr fun _ _=>True)) a v w'→wpAny P .any ops Q fuel (listed.setIfInBounds i true) (a.put o.dst v) w':=by
   intro v w' hCn hkeep hv
   have hput:∀ d',o.dst≠some d'→(a.put o.dst v).eval (.tmp d')=a.eval (.tmp d'):=by
    intro d' h
    cases hd:o.dst with
    | none=>rfl
    | some d=>exact eval_put_ne (fun e=>h (by rw [hd,e]))
   refine ih _ _ _ (by simpa using hsz) (by have:=left_set hun;omega) (by rw [hadd];exact hCn) ⟨(put_defers _ _ _).trans hoff.defers,(put_size _ _ _).trans hoff.size,fun t ht=>?_⟩ (fun t ht=>?_) (fun k hkl=>?_) (fun m hm k hkS=>?_)
   ·rw [hput t (fun e=>ht i (by simp [dstOf,ho,e]))]
    exact hoff.same t ht
   ·have hti:o.dst≠some t:=fun e=>by
     have:=ht i (by simp [dstOf,ho,e])
     rw [getD_set_true' hio hsz] at this
     cases this
    rw [hput t hti]
    refine hstill t fun k hk=>?_
    have:=ht k hk
    by_cases e:k=i
    ·subst e;exact hunf
    ·rwa [getD_set_ne false (Ne.symm e)] at this
   ·by_cases e:k=i
    ·subst e
     rcases hcase with ⟨d,hd,hdn,_⟩ | ⟨hd,_⟩
     ·have hev:(a.put o.dst v).eval (.tmp d)=v:=by rw [hd,eval_put_same (by rw [hoff.size];exact hdn)]
      have hv':holds (Fs.getD k (.inr fun _ _=>True)) v w':=by simpa only [told,hd] using hv
      refine ⟨fun d' c hd' hc=>?_,fun _ d' hd'=>?_⟩
      ·have:d'=d:=by simpa [dstOf,ho,hd] using hd'.symm
       subst this
       rw [hev]
       rw [hc] at hv'
       exact hv'
      ·have:d'=d:=by simpa [seatOf,ho,seat,hd] using hd'.symm
       subst this
       rw [hev]
       exact hv'
     ·refine ⟨fun d' c hd' hc=>by simp [dstOf,ho,hd] at hd',fun _ d' hd'=>?_⟩
      rw [hput d' (by rw [hd];simp)]
      simp only [told,hd] at hv
      exact hv d' (by simpa [seatOf,ho] using hd')
    ·rw [getD_set_ne false (Ne.symm e)] at hkl
     obtain ⟨hk1,hk2⟩:=hk k hkl
     have hdk:∀ d',seatOf ops k=some d'→o.dst≠some d':=fun d' hd' hod=>by
      cases hok:ops[k]? with
      | none=>simp [seatOf,hok] at hd'
      | some ok =>
       rcases (hsh k ok hok).1 with ⟨dk,hdk,_⟩ | ⟨hdk,s,hs,hall'⟩
       ·have:d'=dk:=by simpa [seatOf,hok,seat,hdk] using hd'.symm
        subst this
        exact e (hdist k i d' (by simp [dstOf,hok,hdk]) (by simp [dstOf,ho,hod]))
       ·have:s=d':=by simpa [seatOf,hok,hs] using hd'
        subst this
        exact hne i (hcl k hkl i (hall' i (by simp [dstOf,ho,hod])).2) rfl
     refine ⟨fun d' c hd' hc=>?_,fun hlive d' hd'=>?_⟩
     ·rw [hput d' (hdk d' (by
       cases hok:ops[k]? with
       | none=>simp [dstOf,hok] at hd'
       | some ok =>
        have hdo:ok.dst=some d':=by simpa [dstOf,hok] using hd'
        simp [seatOf,hok,seat,hdo]))]
      exact hk1 d' c hd' hc
     ·have hlive':E.contains k=true∨∃ m,m < D.length∧m≠i∧listed.getD m false=false∧k∈D.getD m []:=by
       rcases hlive with h | ⟨m,hm,hml,hkm⟩
       ·exact .inl h
       ·refine .inr ⟨m,hm,fun em=>?_,?_,hkm⟩
        ·subst em
         simp [show m < listed.size by omega] at hml
        ·by_cases em:m=i
         ·subst em
          simp [show m < listed.size by omega] at hml
         ·rwa [getD_set_ne false (Ne.symm em)] at hml
      rw [hput d' (hdk d' hd')]
      refine hkeep k e ?_ ?_ _ (hk2 (hlive'.imp id fun ⟨m,hm,_,hml,hkm⟩=>⟨m,hm,hml,hkm⟩) d' hd')
      ·unfold wants
       rcases hlive' with h | ⟨m,hm,hmi,hmlf,hkm⟩
       ·rw [h];rfl
       ·rw [Bool.or_eq_true]
        refine .inr (List.any_eq_true.2 ⟨m,by simpa using hm,?_⟩)
        simp only [Bool.and_eq_true,bne_iff_ne,List.contains_iff_mem,Bool.not_eq_true']
        refine ⟨⟨hmi,?_⟩,hkm⟩
        cases hc:(S.getD i []).contains m with
        | false=>rfl
        | true =>
         have:=hSi m (by simpa using hc)
         rw [hmlf] at this
         cases this
      ·cases hc:(S.getD k []).contains i with
       | false=>rfl
       | true=>exact absurd rfl (hne i (hcl k hkl i (by simpa using hc)))
   ·by_cases e:m=i
    ·subst e;exact getD_set_true (hSi k hkS)
    ·rw [getD_set_ne false (Ne.symm e)] at hm
     exact getD_set_true (hcl m hm k hkS)
  unfold wpOp
  simp only [ho]
  rcases hone with ⟨hw,hone⟩ | ⟨hw,hsome,hCs,hone⟩
  ·simp only [hw,if_true]
   exact .inl (Oper.wp_mono (fun a' w' ⟨v,e,hCn,hkeep,hv⟩=>by subst e;exact next v w' hCn hkeep hv) hone)
  ·simp only [hw,Bool.false_eq_true,if_false]
   exact next undef w hCs (fun k _ _ _ u h=>h) (by
    unfold told
    cases hd:o.dst with
    | none=>simp [hd] at hsome
    | some d=>exact hone)
theorem regionG {id:Nat} {w:World} (D S:List (List Nat)) (E:List Nat) (hm:P.follows .mixedOrders=true) (hfit:fitsG a0.tmps.size ops D S=true) (hlean:leans ops S=true) (hF:Fs.length=ops.size)
  (h0:C (fun _=>false) w.drew) (hones:OnesG P ops Q a0 C Fs D S E 0 ops.toList Fs) (hend:∀ L w,(∀ k,k < ops.size→L k=true)→C L w→endsG Q E 0 ops.toList Fs a0 w):(Code.region id ops true).wp P Q a0 w :=
 wp_region_any hm (any_ofG hfit hlean hF hones hend ops.size (Array.replicate ops.size false) a0 w.drew (by simp)
  (by simp [left,List.countP_replicate]) (by
    have:(fun k=>(Array.replicate ops.size false).getD k false)=fun _=>false:=by
     funext k
     rcases Nat.lt_or_ge k ops.size with h | h <;> simp [h]
    rw [this]
    exact h0) ⟨rfl,rfl,fun _ _=>rfl⟩ (fun _ _=>rfl)
  (fun k hk=>by rcases Nat.lt_or_ge k ops.size with h | h <;> simp [h] at hk)
  (fun m hk=>by rcases Nat.lt_or_ge m ops.size with h | h <;> simp [h] at hk))
theorem OneG.q {i:Nat} {f:Fact} {o:Oper} {d:Tmp} (hd:o.dst=some d) (hst:Stable Grow Fs) (hC:∀ L w w' i,C L w→Grow w w'→C (ad L i) w')
  (h:∀ L a w,C L w→L i=false→OffG ops S a0 L a→factsS ops Fs a w (D.getD i [])→(Region.wanted o (yielded ops a.tmps)=true∧o.wp P a w (fun a' w'=>∃ v,a'=a.put o.dst v∧Grow w w'∧holds f v w') Q)∨(Region.wanted o (yielded ops a.tmps)=false∧holds f undef w)):OneG P ops Q a0 C Fs D S E i f o:=by
 intro L a w hCw hLi hoff hf
 rcases h L a w hCw hLi hoff hf with ⟨hw,hwp⟩ | ⟨hw,hu⟩
 ·refine .inl ⟨hw,Oper.wp_mono (fun a' w' ⟨v,e,hg,hv⟩=>?_) hwp⟩
  subst e
  exact ⟨v,rfl,hC _ _ _ _ hCw hg,fun k _ _ _ u hk=>holds_stable hst k _ _ _ hg hk,by unfold told;rw [hd];exact hv⟩
 ·exact .inr ⟨hw,by rw [hd];rfl,hC _ _ _ _ hCw (grow_refl w),hu⟩
def wantsV (Fs:List Fact) (D S:List (List Nat)) (E:List Nat) (i:Nat):Bool:=(List.range Fs.length).all fun k=>k == i || !wants D S E k i || (S.getD k []).contains i || (match Fs[k]? with | some (.inl _)=>true | _=>false)
theorem OneG.w {i:Nat} {f:Fact} {o:Oper} (hwv:wantsV Fs D S E i=true)
  (h:∀ L a w,C L w→L i=false→OffG ops S a0 L a→factsS ops Fs a w (D.getD i [])→Region.wanted o (yielded ops a.tmps)=true∧o.wp P a w (fun a' w'=>∃ v,a'=a.put o.dst v∧C (ad L i) w'∧told o f a v w') Q):OneG P ops Q a0 C Fs D S E i f o:=by
 intro L a w hCw hLi hoff hf
 obtain ⟨hw,hwp⟩:=h L a w hCw hLi hoff hf
 refine .inl ⟨hw,Oper.wp_mono (fun a' w' ⟨v,e,hg,hv⟩=>⟨v,e,hg,fun k hk hwt hS u hku=>?_,hv⟩) hwp⟩
 rcases Nat.lt_or_ge k Fs.length with hl | hl
 ·have h1:=(List.all_eq_true.1 hwv) k (by simpa using hl)
  have hki:(k == i)=false:=by simpa using hk
  rw [hki,hwt,hS] at h1
  have e:Fs.getD k (.inr fun _ _=>True)=Fs[k]:=by simp [hl]
  rw [e] at hku ⊢
  rw [List.getElem?_eq_getElem hl] at h1
  cases hfk:Fs[k] with
  | inl c=>rw [hfk] at hku;exact hku
  | inr Φ=>rw [hfk] at h1;simp at h1
 ·have e:Fs.getD k (.inr fun _ _=>True)=.inr fun _ _=>True:=by simp [hl]
  rw [e]
  exact trivial
end
def KeepK (K:World→World→Prop) (D S:List (List Nat)) (E:List Nat) (i:Nat):Nat→List Fact→Prop
 | n,.inl _ :: F=>KeepK K D S E i (n+1) F
 | n,.inr Φ :: F=>((n == i || !wants D S E n i || (S.getD n []).contains i)=true∨∀ w w',K w w'→∀ u,Φ u w→Φ u w')∧KeepK K D S E i (n+1) F
 | _,[]=>True
theorem keepK_at {K:World→World→Prop} {D S:List (List Nat)} {E:List Nat} {i:Nat}:∀ {F:List Fact} {n:Nat},KeepK K D S E i n F→∀ k,n+k≠i→wants D S E (n+k) i=true→(S.getD (n+k) []).contains i=false→∀ w w',K w w'→∀ u,holds (F.getD k (.inr fun _ _=>True)) u w→holds (F.getD k (.inr fun _ _=>True)) u w'
 | [],_,_,k,_,_,_,_,_,_,_,_=>by cases k <;> exact trivial
 | .inl c :: F,n,h,0,_,_,_,_,_,_,_,hu=>hu
 | .inr Φ :: F,n,h,0,h1,h2,h3,w,w',hK,u,hu=>by
  rcases h.1 with h | h
  ·simp only [Nat.add_zero] at h1 h2 h3
   rw [h2,h3] at h
   simp [h1] at h
  ·exact h w w' hK u hu
 | .inl c :: F,n,h,k+1,h1,h2,h3,w,w',hK,u,hu=>keepK_at (F:=F) (n:=n+1) h k (by omega) (by rw [show n+1+k=n+(k+1) by omega];exact h2) (by rw [show n+1+k=n+(k+1) by omega];exact h3) w w' hK u hu
 | .inr Φ :: F,n,h,k+1,h1,h2,h3,w,w',hK,u,hu=>keepK_at (F:=F) (n:=n+1) h.2 k (by omega) (by rw [show n+1+k=n+(k+1) by omega];exact h2) (by rw [show n+1+k=n+(k+1) by omega];exact h3) w w' hK u hu
theorem OneG.k {P:Program} {ops:Array Oper} {Q:Exit→Act→World→Prop} {a0:Act} {C:(Nat→Bool)→World→Prop} {Fs:List Fact} {D S:List (List Nat)} {E:List Nat} {i:Nat} {f:Fact} {o:Oper} (K:World→World→Prop) (hk:KeepK K D S E i 0 Fs)
  (h:∀ L a w,C L w→L i=false→OffG ops S a0 L a→factsS ops Fs a w (D.getD i [])→Region.wanted o (yielded ops a.tmps)=true∧o.wp P a w (fun a' w'=>∃ v,a'=a.put o.dst v∧C (ad L i) w'∧K w w'∧told o f a v w') Q):OneG P ops Q a0 C Fs D S E i f o:=by
 intro L a w hCw hLi hoff hf
 obtain ⟨hw,hwp⟩:=h L a w hCw hLi hoff hf
 refine .inl ⟨hw,Oper.wp_mono (fun a' w' ⟨v,e,hg,hK,hv⟩=>⟨v,e,hg,fun k h1 h2 h3 u hu=>?_,hv⟩) hwp⟩
 exact keepK_at hk k (by simpa using h1) (by simpa using h2) (by simpa using h3) w w' hK u hu
theorem endsG_v {Q:Exit→Act→World→Prop} {E:List Nat} {i:Nat} {o:Oper} {l:List Oper} {d:Tmp} {c:Value} {F:List Fact} {a:Act} {w:World} (hd:o.dst=some d) (h:endsG Q E (i+1) l F (a.put (some d) c) w):endsG Q E i (o :: l) (.inl c :: F) a w:=by
 simp only [endsG,hd];exact h
theorem endsG_r {Q:Exit→Act→World→Prop} {E:List Nat} {i:Nat} {o:Oper} {l:List Oper} {d:Tmp} {Φ:Value→World→Prop} {F:List Fact} {a:Act} {w:World} (hd:o.dst=some d) (h:∀ v,(E.contains i=true→Φ v w)→endsG Q E (i+1) l F (a.put (some d) v) w):endsG Q E i (o :: l) (.inr Φ :: F) a w:=by
 simp only [endsG,hd];exact h
theorem endsG_s {Q:Exit→Act→World→Prop} {E:List Nat} {i:Nat} {o:Oper} {l:List Oper} {Φ:Value→World→Prop} {s:Tmp} {F:List Fact} {a:Act} {w:World} (hd:o.dst=none) (hs:seat o=some s) (hE:E.contains i=true) (h:Φ (a.eval (.tmp s)) w→endsG Q E (i+1) l F a w):endsG Q E i (o :: l) (.inr Φ :: F) a w:=by
 simp only [endsG,hd];exact fun k=>h (k s hs hE)
theorem endsG_nil {Q:Exit→Act→World→Prop} {E:List Nat} {i:Nat} {F:List Fact} {a:Act} {w:World} (h:Q .normal a w):endsG Q E i [] F a w:=by
 cases F <;> exact h
theorem kv {ops:Array Oper} {Fs:List Fact} {a:Act} {w:World} {k:Nat} {s:Tmp} {c:Value} (h:knownS ops Fs a w k) (hs:seatOf ops k=some s) (hf:Fs.getD k (.inr fun _ _=>True)=.inl c):a.eval (.tmp s)=c:=by
 have:=h s hs
 rw [hf] at this
 exact this
theorem kr {ops:Array Oper} {Fs:List Fact} {a:Act} {w:World} {k:Nat} {s:Tmp} {Φ:Value→World→Prop} (h:knownS ops Fs a w k) (hs:seatOf ops k=some s) (hf:Fs.getD k (.inr fun _ _=>True)=.inr Φ):Φ (a.eval (.tmp s)) w:=by
 have:=h s hs
 rw [hf] at this
 exact this
theorem OnesG.start {P:Program} {ops:Array Oper} {Q:Exit→Act→World→Prop} {a0:Act} {C:(Nat→Bool)→World→Prop} {Fs:List Fact} {D S:List (List Nat)} {E:List Nat} {l:List Oper} (hst:Stable Grow Fs) (hcg:∀ L w w' i,C L w→Grow w w'→C (ad L i) w')
  (h:Stable Grow Fs→(∀ L w w' i,C L w→Grow w w'→C (ad L i) w')→OnesG P ops Q a0 C Fs D S E 0 l Fs):OnesG P ops Q a0 C Fs D S E 0 l Fs:=h hst hcg
theorem oq {P:Program} {ops:Array Oper} {Q:Exit→Act→World→Prop} {a0:Act} {C:(Nat→Bool)→World→Prop} {Fs:List Fact} {D S:List (List Nat)} {E:List Nat} {i:Nat} {o:Oper} {l:List Oper} {f:Fact} {F:List Fact} {d:Tmp} (hd:o.dst=some d) (hst:Stable Grow Fs) (hC:∀ L w w' i,C L w→Grow w w'→C (ad L i) w')
  (h:∀ L a w,C L w→L i=false→OffG ops S a0 L a→factsS ops Fs a w (D.getD i [])→(Region.wanted o (yielded ops a.tmps)=true∧o.wp P a w (fun a' w'=>∃ v,a'=a.put o.dst v∧Grow w w'∧holds f v w') Q)∨(Region.wanted o (yielded ops a.tmps)=false∧holds f undef w))
  (k:OnesG P ops Q a0 C Fs D S E (i+1) l F):OnesG P ops Q a0 C Fs D S E i (o :: l) (f :: F):=OnesG.cons (OneG.q hd hst hC h) k
theorem gs {P:Program} {Q:Exit→Act→World→Prop} {ops:Array Oper} {o:Oper} {a:Act} {w:World} {c:Value} (hg:o.guard=none) (hr:(execOp a.eval o).run P w=.ok (.value c) w) :
  (Region.wanted o (yielded ops a.tmps)=true∧o.wp P a w (fun a' w'=>∃ v,a'=a.put o.dst v∧Grow w w'∧holds (.inl c) v w') Q)∨(Region.wanted o (yielded ops a.tmps)=false∧holds (.inl c) undef w):=.inl ⟨want_none hg,run_same hr grow_refl⟩
end Flow
end Go.Proofs.YtcnmaplopbbmaaaGreat

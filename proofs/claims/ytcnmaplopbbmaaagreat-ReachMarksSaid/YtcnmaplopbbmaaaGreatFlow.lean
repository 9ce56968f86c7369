/- A region that draws its order, whatever order that is: each operation is shown by itself, of what its own operands are; what is known of a value stays known while the world grows. No program. -/
import Derived.WalkKit
namespace Go.Proofs.YtcnmaplopbbmaaaGreat
open Go.RowKit
namespace Flow
abbrev Fact:=Value ⊕ (Value→World→Prop)
def holds:Fact→Value→World→Prop
 | .inl c,v,_=>v=c
 | .inr Φ,v,w=>Φ v w
def dstOf (ops:Array Oper) (k:Nat):Option Tmp:=(ops[k]?).bind (·.dst)
def known (ops:Array Oper) (Fs:List Fact) (a:Act) (w:World) (k:Nat):Prop :=
 ∀ d,dstOf ops k=some d→holds (Fs.getD k (.inr fun _ _=>True)) (a.eval (.tmp d)) w
def facts (ops:Array Oper) (Fs:List Fact) (a:Act) (w:World):List Nat→Prop
 | []=>True
 | k :: r=>known ops Fs a w k∧facts ops Fs a w r
theorem facts_mem {ops:Array Oper} {Fs:List Fact} {a:Act} {w:World}:∀ {l:List Nat},(∀ k∈l,known ops Fs a w k)→facts ops Fs a w l
 | [],_=>trivial
 | k :: r,h=>⟨h k (by simp),facts_mem fun j hj=>h j (by simp [hj])⟩
structure Off (ops:Array Oper) (a0 a:Act):Prop where
 defers:a.defers=a0.defers
 size:a.tmps.size=a0.tmps.size
 same:∀ t,(∀ k,dstOf ops k≠some t)→a.eval (.tmp t)=a0.eval (.tmp t)
def One (P:Program) (ops:Array Oper) (Q:Exit→Act→World→Prop) (a0:Act) (C:World→Prop) (R:World→World→Prop) (Fs:List Fact) (ks:List Nat) (f:Fact) (o:Oper):Prop :=
 ∀ a w,C w→Off ops a0 a→facts ops Fs a w ks →
  (Region.wanted o (yielded ops a.tmps)=true∧o.wp P a w (fun a' w'=>∃ v,a'=a.put o.dst v∧R w w'∧holds f v w') Q) ∨
  (Region.wanted o (yielded ops a.tmps)=false∧holds f undef w)
def Ones (P:Program) (ops:Array Oper) (Q:Exit→Act→World→Prop) (a0:Act) (C:World→Prop) (R:World→World→Prop) (Fs:List Fact):List Oper→List (List Nat)→List Fact→Prop
 | o :: l,ks :: S,f :: F=>One P ops Q a0 C R Fs ks f o∧Ones P ops Q a0 C R Fs l S F
 | [],_,_=>True
 | _,_,_=>False
def Stable (R:World→World→Prop):List Fact→Prop
 | []=>True
 | .inl _ :: F=>Stable R F
 | .inr Φ :: F=>(∀ v w w',R w w'→Φ v w→Φ v w')∧Stable R F
def ends (Q:Exit→Act→World→Prop):List Oper→List Fact→Act→World→Prop
 | o :: l,.inl c :: F,a,w=>ends Q l F (a.put o.dst c) w
 | o :: l,.inr Φ :: F,a,w=>∀ v,Φ v w→ends Q l F (a.put o.dst v) w
 | _,_,a,w=>Q .normal a w
def fits (n:Nat) (ops:Array Oper):Bool :=
 (List.range ops.size).all fun i =>
   (match dstOf ops i with | some d=>decide (d < n) && (List.range i).all (fun j=>dstOf ops j != some d) | none=>false) &&
   (match ops[i]? with | some o=>o.after.toList.all (fun e=>!Region.binds .any e || decide (e.on < i)) | none=>false)
def leans (ops:Array Oper) (S:List (List Nat)):Bool :=
 (List.range ops.size).all fun i=>(S.getD i []).all fun k =>
   match ops[i]? with | some o=>o.after.toList.any (fun e=>Region.binds .any e && (e.on == k || (S.getD e.on []).contains k)) | none=>false
theorem holds_stable {R:World→World→Prop}:∀ {Fs:List Fact},Stable R Fs→∀ k v w w',R w w'→holds (Fs.getD k (.inr fun _ _=>True)) v w→holds (Fs.getD k (.inr fun _ _=>True)) v w'
 | [],_,k,v,w,w',_,_=>by cases k <;> exact trivial
 | .inl c :: F,h,0,v,w,w',_,hv=>hv
 | .inr Φ :: F,h,0,v,w,w',hR,hv=>h.1 v w w' hR hv
 | .inl c :: F,h,k+1,v,w,w',hR,hv=>holds_stable (Fs:=F) h k v w w' hR hv
 | .inr Φ :: F,h,k+1,v,w,w',hR,hv=>holds_stable (Fs:=F) h.2 k v w w' hR hv
theorem ones_at {P:Program} {ops:Array Oper} {Q:Exit→Act→World→Prop} {a0:Act} {C:World→Prop} {R:World→World→Prop} {Fs:List Fact} :
  ∀ {l:List Oper} {S:List (List Nat)} {F:List Fact},Ones P ops Q a0 C R Fs l S F→∀ i o,l[i]? = some o→One P ops Q a0 C R Fs (S.getD i []) (F.getD i (.inr fun _ _=>True)) o
 | [],_,_,_,i,o,h=>by simp at h
 | x :: l,[],_,h,_,_,_=>h.elim
 | x :: l,s :: S,[],h,_,_,_=>h.elim
 | x :: l,s :: S,f :: F,h,0,o,ho=>by simp at ho;subst ho;exact h.1
 | x :: l,s :: S,f :: F,h,i+1,o,ho=>ones_at h.2 i o (by simpa using ho)
theorem eval_put_same {a:Act} {d:Tmp} {v:Value} (h:d < a.tmps.size):(a.put (some d) v).eval (.tmp d)=v:=by
 simp [Act.put,Act.eval,h]
theorem eval_put_ne {a:Act} {d t:Tmp} {v:Value} (h:d≠t):(a.put (some d) v).eval (.tmp t)=a.eval (.tmp t):=by
 simp [Act.put,Act.eval,Array.getElem?_setIfInBounds_ne h]
theorem put_size (a:Act) (d:Option Tmp) (v:Value):(a.put d v).tmps.size=a.tmps.size:=by cases d <;> simp [Act.put]
theorem put_defers (a:Act) (d:Option Tmp) (v:Value):(a.put d v).defers=a.defers:=by cases d <;> rfl
theorem act_ext {a b:Act} (hd:a.defers=b.defers) (hs:a.tmps.size=b.tmps.size) (h:∀ t,a.eval (.tmp t)=b.eval (.tmp t)):a=b:=by
 cases a with | mk ta da=>cases b with | mk tb db =>
 simp only at hd hs
 subst hd
 congr 1
 refine Array.ext hs fun i h1 h2=>?_
 have:=h i
 simpa [Act.eval,h1,h2] using this
theorem ends_all {Q:Exit→Act→World→Prop} {a:Act} {w:World}:∀ (l:List Oper) (F:List Fact) (b:Act),(∀ i o,l[i]? = some o→∃ d,o.dst=some d∧d < a.tmps.size∧holds (F.getD i (.inr fun _ _=>True)) (a.eval (.tmp d)) w) →
  l.length≤F.length→b.defers=a.defers→b.tmps.size=a.tmps.size→(∀ t,(∀ o∈l,o.dst≠some t)→b.eval (.tmp t)=a.eval (.tmp t))→ends Q l F b w→Q .normal a w
 | [],_,b,_,_,hd,hs,he,h=>by
  have:b=a:=act_ext hd hs fun t=>he t (by simp)
  subst this
  simpa [ends] using h
 | o :: l,[],b,_,hl,_,_,_,_=>by simp at hl
 | o :: l,f :: F,b,hk,hl,hd,hs,he,h=>by
  obtain ⟨d,hod,hdn,hf⟩:=hk 0 o rfl
  have hk':∀ i o',l[i]? = some o'→∃ d,o'.dst=some d∧d < a.tmps.size∧holds (F.getD i (.inr fun _ _=>True)) (a.eval (.tmp d)) w:=fun i o' ho'=>hk (i+1) o' (by simpa using ho')
  have go:ends Q l F (b.put o.dst (a.eval (.tmp d))) w→Q .normal a w:=fun h=>by
   refine ends_all l F _ hk' (by simpa using hl) ((put_defers _ _ _).trans hd) ((put_size _ _ _).trans hs) (fun t ht=>?_) h
   rw [hod]
   by_cases e:d=t
   ·subst e;rw [eval_put_same (by rw [hs];exact hdn)]
   ·rw [eval_put_ne e]
    refine he t fun o' ho'=>?_
    rcases List.mem_cons.1 ho' with rfl | ho'
    ·rw [hod];simpa using e
    ·exact ht o' ho'
  cases f with
  | inl c =>
   have e:a.eval (.tmp d)=c:=hf
   rw [e] at go
   exact go h
  | inr Φ=>exact go (h _ hf)
def left (listed:Array Bool):Nat:=listed.toList.countP (· == false)
theorem left_set {listed:Array Bool} {i:Nat} (h:listed.getD i true=false):left listed=left (listed.setIfInBounds i true)+1:=by
 have hi:i < listed.size:=by
  rcases Nat.lt_or_ge i listed.size with h' | h'
  ·exact h'
  ·simp [Array.getElem?_eq_none h'] at h
 have hv:listed.toList[i]'(by simpa using hi)=false:=by simpa [hi] using h
 unfold left
 rw [Array.toList_setIfInBounds]
 rw [List.countP_set (by simpa using hi)]
 have hp:0 < listed.toList.countP (· == false):=by
  rw [List.countP_pos_iff]
  exact ⟨_,List.getElem_mem (by simpa using hi),by rw [hv];rfl⟩
 simp only [hv,beq_self_eq_true,if_true,show ((true == false)=true)=False by simp,if_false]
 omega
theorem getD_true_of_false {l:Array Bool} {i:Nat} (h:l.getD i false=true):l.getD i true=true:=by
 rcases Nat.lt_or_ge i l.size with h' | h'
 ·simpa [h'] using h
 ·simp [Array.getElem?_eq_none h'] at h
section
variable {P:Program} {ops:Array Oper} {Q:Exit→Act→World→Prop} {a0:Act} {C:World→Prop} {R:World→World→Prop} {Fs:List Fact} {S:List (List Nat)}
theorem any_of (hfit:fits a0.tmps.size ops=true) (hlean:leans ops S=true) (hst:Stable R Fs) (hR0:∀ w,R w w) (hC:∀ w w',C w→R w w'→C w') (hF:Fs.length=ops.size)
  (hones:Ones P ops Q a0 C R Fs ops.toList S Fs) (hend:∀ w,C w→ends Q ops.toList Fs a0 w) :
  ∀ (fuel:Nat) (listed:Array Bool) (a:Act) (w:World),listed.size=ops.size→left listed=fuel→C w→Off ops a0 a →
   (∀ k,listed.getD k false=true→known ops Fs a w k)→(∀ m,listed.getD m false=true→∀ k∈S.getD m [],listed.getD k false=true)→wpAny P .any ops Q fuel listed a w:=by
 have hsh:∀ i o,ops[i]? = some o→∃ d,o.dst=some d∧d < a0.tmps.size∧(∀ j,j < i→dstOf ops j≠some d)∧∀ e∈o.after,Region.binds .any e=true→e.on < i:=by
  intro i o ho
  have hi:i < ops.size:=(Array.getElem?_eq_some_iff.1 ho).1
  have h:=(List.all_eq_true.1 hfit) i (by simpa using hi)
  simp only [dstOf,ho,Option.bind_some] at h
  cases hd:o.dst with
  | none=>simp [hd] at h
  | some d =>
   simp only [hd,Bool.and_eq_true,decide_eq_true_eq,List.all_eq_true,List.mem_range,bne_iff_ne,Bool.or_eq_true,Bool.not_eq_true'] at h
   exact ⟨d,rfl,h.1.1,fun j hj=>h.1.2 j hj,fun e he hb=>(h.2 e (by simpa using he)).resolve_left (by simp [hb])⟩
 have hdist:∀ i j d,dstOf ops i=some d→dstOf ops j=some d→i=j:=by
  intro i j d hi hj
  have g:∀ i j,dstOf ops i=some d→dstOf ops j=some d→¬ j < i:=by
   intro i j hi hj hlt
   cases ho:ops[i]? with
   | none=>simp [dstOf,ho] at hi
   | some o =>
    obtain ⟨d',hd',_,hne,_⟩:=hsh i o ho
    have:d'=d:=by simpa [dstOf,ho,hd'] using hi
    subst this
    exact hne j hlt hj
  have:=g i j hi hj
  have:=g j i hj hi
  omega
 have hdone:∀ (listed:Array Bool) (a:Act) (w:World),listed.size=ops.size→C w→Off ops a0 a→(∀ k,listed.getD k false=true→known ops Fs a w k) →
   Region.ready .any ops listed=[]→Q .normal a w:=by
  intro listed a w hsz hCw hoff hk hr
  have hall:∀ n i,i < n→i < ops.size→listed.getD i false=true:=by
   intro n
   induction n with
   | zero=>intro i h;omega
   | succ n ih =>
    intro i hi hio
    by_cases hin:i < n
    ·exact ih i hin hio
    ·have hin:i=n:=by omega
     cases hl:listed.getD i false with
     | true=>rfl
     | false =>
      exfalso
      have ho:ops[i]? = some ops[i]:=by simp [hio]
      obtain ⟨_,_,_,_,hb⟩:=hsh i _ ho
      have:i∈Region.ready .any ops listed:=mem_ready.2 ⟨by
       have:i < listed.size:=by omega
       simpa [this] using hl,_,ho,fun e he hbe=>ih e.on (by have:=hb e he hbe;omega) (by have:=hb e he hbe;omega)⟩
      rw [hr] at this
      cases this
  refine ends_all ops.toList Fs a0 (fun i o ho=>?_) (by simp [hF]) hoff.defers.symm hoff.size.symm (fun t ht=>(hoff.same t fun k hk=>?_).symm) (hend w hCw)
  ·have ho':ops[i]? = some o:=by simpa using ho
   obtain ⟨d,hd,hdn,_⟩:=hsh i o ho'
   exact ⟨d,hd,by rw [hoff.size];exact hdn,hk i (hall (i+1) i (by omega) (Array.getElem?_eq_some_iff.1 ho').1) d (by simp [dstOf,ho',hd])⟩
  ·cases ho:ops[k]? with
   | none=>simp [dstOf,ho] at hk
   | some o=>exact ht o (by have:=Array.mem_of_getElem? ho;simpa using this) (by simpa [dstOf,ho] using hk)
 intro fuel
 induction fuel with
 | zero =>
  intro listed a w hsz hl hCw hoff hk _
  have hr:Region.ready .any ops listed=[]:=by
   cases hr:Region.ready .any ops listed with
   | nil=>rfl
   | cons i r =>
    have hi:i∈Region.ready .any ops listed:=by rw [hr];simp
    have:=left_set (mem_ready.1 hi).1
    omega
  exact ⟨hr,hdone listed a w hsz hCw hoff hk hr⟩
 | succ fuel ih =>
  intro listed a w hsz hl hCw hoff hk hcl
  refine ⟨hdone listed a w hsz hCw hoff hk,fun i hi=>?_⟩
  obtain ⟨hun,o,ho,hall⟩:=mem_ready.1 hi
  obtain ⟨d,hd,hdn,_,_⟩:=hsh i o ho
  have hio:i < ops.size:=(Array.getElem?_eq_some_iff.1 ho).1
  have hne:∀ k,listed.getD k false=true→k≠i:=fun k hk e=>by subst e;rw [getD_true_of_false hk] at hun;cases hun
  have hSi:∀ k∈S.getD i [],listed.getD k false=true:=by
   intro k hkS
   have h:=(List.all_eq_true.1 hlean) i (by simpa using hio)
   have h:=(List.all_eq_true.1 h) k hkS
   simp only [ho,List.any_eq_true,Bool.and_eq_true,Bool.or_eq_true,beq_iff_eq,List.contains_iff_mem] at h
   obtain ⟨e,he,hb,hek⟩:=h
   have hle:=hall e (by simpa using he) hb
   rcases hek with rfl | hek
   ·exact hle
   ·exact hcl e.on hle k hek
  have hone:=ones_at hones i o (by simpa using ho) a w hCw hoff (facts_mem fun k hkS=>hk k (hSi k hkS))
  have next:∀ v w',R w w'→holds (Fs.getD i (.inr fun _ _=>True)) v w'→wpAny P .any ops Q fuel (listed.setIfInBounds i true) (a.put o.dst v) w':=by
   intro v w' hR hv
   refine ih _ _ _ (by simpa using hsz) (by have:=left_set hun;omega) (hC _ _ hCw hR) ⟨(put_defers _ _ _).trans hoff.defers,(put_size _ _ _).trans hoff.size,fun t ht=>?_⟩ (fun k hkl d' hd'=>?_) (fun m hm k hkS=>?_)
   ·rw [hd,eval_put_ne (fun e=>ht i (by simp [dstOf,ho,hd,e]))]
    exact hoff.same t ht
   ·by_cases e:k=i
    ·subst e
     have:d'=d:=by simpa [dstOf,ho,hd] using hd'.symm
     subst this
     rw [hd,eval_put_same (by rw [hoff.size];exact hdn)]
     exact hv
    ·have hdd:d≠d':=fun e'=>e (hdist k i d' hd' (by simp [dstOf,ho,hd,e']))
     rw [hd,eval_put_ne hdd]
     rw [getD_set_ne false (Ne.symm e)] at hkl
     exact holds_stable hst k _ _ _ hR (hk k hkl d' hd')
   ·by_cases e:m=i
    ·subst e;exact getD_set_true (hSi k hkS)
    ·rw [getD_set_ne false (Ne.symm e)] at hm
     exact getD_set_true (hcl m hm k hkS)
  unfold wpOp
  simp only [ho]
  rcases hone with ⟨hw,hone⟩ | ⟨hw,hone⟩
  ·simp only [hw,if_true]
   exact .inl (Oper.wp_mono (fun a' w' ⟨v,e,hR,hv⟩=>by subst e;exact next v w' hR hv) hone)
  ·simp only [hw,Bool.false_eq_true,if_false]
   rw [show a.put o.dst undef=a.put o.dst undef from rfl]
   exact next undef w (hR0 w) hone
theorem region {id:Nat} {w:World} (hm:P.follows .mixedOrders=true) (hfit:fits a0.tmps.size ops=true) (hlean:leans ops S=true) (hF:Fs.length=ops.size)
  (hst:Stable R Fs) (hR0:∀ w,R w w) (hC:∀ w w',C w→R w w'→C w') (h0:C w.drew)
  (hones:Ones P ops Q a0 C R Fs ops.toList S Fs) (hend:∀ w,C w→ends Q ops.toList Fs a0 w):(Code.region id ops true).wp P Q a0 w :=
 wp_region_any hm (any_of hfit hlean hst hR0 hC hF hones hend ops.size (Array.replicate ops.size false) a0 w.drew (by simp)
  (by simp [left,List.countP_replicate]) h0 ⟨rfl,rfl,fun _ _=>rfl⟩
  (fun k hk=>by rcases Nat.lt_or_ge k ops.size with h | h <;> simp [h] at hk)
  (fun m hk=>by rcases Nat.lt_or_ge m ops.size with h | h <;> simp [h] at hk))
end
theorem Ones.cons {P:Program} {ops:Array Oper} {Q:Exit→Act→World→Prop} {a0:Act} {C:World→Prop} {R:World→World→Prop} {Fs:List Fact} {o:Oper} {l:List Oper} {ks:List Nat} {S:List (List Nat)} {f:Fact} {F:List Fact}
  (h:One P ops Q a0 C R Fs ks f o) (k:Ones P ops Q a0 C R Fs l S F):Ones P ops Q a0 C R Fs (o :: l) (ks :: S) (f :: F):=⟨h,k⟩
def Grow (w w':World):Prop:=w.grownBy w' none
theorem grow_refl (w:World):Grow w w:=World.grownBy.refl w none
theorem Grow.trans {a b c:World} (h:Grow a b) (k:Grow b c):Grow a c :=
 ⟨k.os.trans h.os,k.tape.trans h.tape,k.output.trans h.output,Nat.le_trans h.size k.size,fun i hi hne=>(k.block i (Nat.lt_of_lt_of_le hi h.size) hne).trans (h.block i hi hne)⟩
theorem grow_drew (w:World):Grow w w.drew:=⟨rfl,rfl,rfl,Nat.le_refl _,fun _ _ _=>rfl⟩
theorem grow_alloc (w:World) (o:Obj):Grow w (w.alloc o):=World.grownBy_alloc w o none
theorem Grow.below {w w':World} (h:Grow w w') {B:Nat} (hB:B≤w.heap.size):Below B w w':=⟨h.os,h.tape,h.output,h.size,fun i hi=>h.block i (by omega) (by simp)⟩
theorem region_grown {P:Program} {ops:Array Oper} {Q:Exit→Act→World→Prop} {a0:Act} {Fs:List Fact} {S:List (List Nat)} {id:Nat} {w:World}
  (hm:P.follows .mixedOrders=true) (hfit:fits a0.tmps.size ops=true) (hlean:leans ops S=true) (hF:Fs.length=ops.size)
  (hst:Stable Grow Fs) (hones:Ones P ops Q a0 (Grow w) Grow Fs ops.toList S Fs) (hend:∀ w',Grow w w'→ends Q ops.toList Fs a0 w'):(Code.region id ops true).wp P Q a0 w :=
 region hm hfit hlean hF hst grow_refl (fun _ _ h k=>h.trans k) (grow_drew w) hones hend
def notDst (ops:Array Oper) (t:Tmp):Bool:=ops.toList.all fun o=>o.dst != some t
theorem Off.at {ops:Array Oper} {a0 a:Act} (h:Off ops a0 a) (t:Tmp) (ht:notDst ops t=true):a.eval (.tmp t)=a0.eval (.tmp t):=by
 refine h.same t fun k hk=>?_
 cases ho:ops[k]? with
 | none=>simp [dstOf,ho] at hk
 | some o =>
  have hm:o∈ops.toList:=by simpa using Array.mem_of_getElem? ho
  have:=List.all_eq_true.1 ht o hm
  have hd:o.dst=some t:=by simpa [dstOf,ho] using hk
  simp [hd] at this
theorem yielded_of {ops:Array Oper} {a:Act} {j:Nat} {d:Tmp} {b:Bool} (hd:dstOf ops j=some d) (h:a.eval (.tmp d)=.bool b):yielded ops a.tmps j=some b:=by
 have h':a.tmps[d]? = some (.bool b):=by
  have h2:a.tmps[d]?.getD undef=.bool b:=by simpa [Act.eval] using h
  cases hx:a.tmps[d]? with
  | none=>rw [hx] at h2;simp [undef] at h2
  | some v=>rw [hx] at h2;simpa using h2
 unfold yielded
 have hd':(ops[j]?).bind (·.dst)=some d:=hd
 rw [hd']
 simp [h']
theorem want_none {ops:Array Oper} {a:Act} {o:Oper} (h:o.guard=none):Region.wanted o (yielded ops a.tmps)=true:=by simp [Region.wanted,h]
theorem want_yes {ops:Array Oper} {a:Act} {o:Oper} {j:Nat} {d:Tmp} {b:Bool} (h:o.guard=some (j,b)) (hd:dstOf ops j=some d) (hv:a.eval (.tmp d)=.bool b) :
  Region.wanted o (yielded ops a.tmps)=true:=by simp [Region.wanted,h,yielded_of hd hv]
theorem want_no {ops:Array Oper} {a:Act} {o:Oper} {j:Nat} {d:Tmp} {b:Bool} (h:o.guard=some (j,b)) (hd:dstOf ops j=some d) (hv:a.eval (.tmp d)=.bool (!b)) :
  Region.wanted o (yielded ops a.tmps)=false:=by simp [Region.wanted,h,yielded_of hd hv]
section
variable {P:Program} {Q:Exit→Act→World→Prop} {R:World→World→Prop} {o:Oper} {a:Act} {w:World} {f:Fact}
theorem run_val {v:Value} {w':World} (h:(execOp a.eval o).run P w=.ok (.value v) w') (hR:R w w') (hv:holds f v w') :
  o.wp P a w (fun a' w'=>∃ v,a'=a.put o.dst v∧R w w'∧holds f v w') Q:=by
 unfold Oper.wp
 rw [h]
 exact ⟨v,rfl,hR,hv⟩
theorem run_same {c:Value} (h:(execOp a.eval o).run P w=.ok (.value c) w) (hR:∀ w,R w w) :
  o.wp P a w (fun a' w'=>∃ v,a'=a.put o.dst v∧R w w'∧holds (.inl c) v w') Q:=run_val h (hR w) rfl
theorem run_call {fn:FuncId} {args:Array Value} (h:(execOp a.eval o).run P w=.ok (.enter fn args) w) (hc:Calls P fn args w fun e w'=>∃ v,e=.returned v∧R w w'∧holds f v w') :
  o.wp P a w (fun a' w'=>∃ v,a'=a.put o.dst v∧R w w'∧holds f v w') Q:=by
 unfold Oper.wp
 rw [h]
 refine hc.mono fun e w' ⟨v,he,hR,hv⟩=>?_
 subst he
 exact ⟨v,rfl,hR,hv⟩
theorem eval_const (a:Act):∀ v,a.eval (.const v)=v:=fun _=>rfl
theorem exec_move {x:Operand} {c:Value} (ho:o.op=.move x∨o.op=.assign x) (h:a.eval x=c):(execOp a.eval o).run P w=.ok (.value c) w:=by
 rcases ho with ho | ho <;> simp [execOp,ho,h,Sem.run_pure]
theorem exec_pick_no {x y z:Operand} {c:Value} (ho:o.op=.pick x y z) (hx:a.eval x=.bool false) (h:a.eval z=c):(execOp a.eval o).run P w=.ok (.value c) w:=by
 simp [execOp,ho,h,hx,asBool,Sem.run_pure]
theorem exec_call {x:Array Operand} {ts:Array TypeId} {fn:FuncId} {g:Func} {args:Array Value} (ho:o.op=.call { callee:=.value (.func fn),args:=x,argTypes:=ts })
  (hf : P.funcs[fn]? = some g) (hn : (g.name == "runtime.NumGoroutine") = false) (hb : g.body.isNone = false) (h : x.map a.eval = args) :
  (execOp a.eval o).run P w=.ok (.enter fn args) w:=by
 subst h
 have hn' : ¬ g.name = "runtime.NumGoroutine" := by simpa using hn
 have hb':¬ g.body=none:=by cases hg:g.body <;> simp_all
 have hc:∀ args,(callFunc fn args).run P w=.ok (.enter fn args) w:=fun args=>by
  simp [callFunc,hf,hn',hb']
 simp [execOp,ho,Act.eval,resolve,invoke,Deferred.ofValue,hc]
end
end Flow
end Go.Proofs.YtcnmaplopbbmaaaGreat

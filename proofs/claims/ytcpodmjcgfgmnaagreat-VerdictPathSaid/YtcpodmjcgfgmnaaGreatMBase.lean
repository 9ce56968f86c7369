/- A slice that the call itself made: append, where it comes to lie, and what stays as it was. No program. -/
import Derived.WalkKit
import Derived.Lib.Hide
namespace Go.Proofs.YtcpodmjcgfgmnaaGreat
open Go.RowKit
def Moved (w:World) (v v':Value):Prop:=v'.ownBlock=v.ownBlock∨∃ g,v'.ownBlock=some g∧w.heap.size≤g
def Full (v:Value) (n:Nat):Prop:=v=.slice none 0 0∨∃ a,v=.slice (some a) n n
def Qzf (w:World) (v:Value):Prop:=∃ g,v.ownBlock=some g∧w.heap.size≤g
theorem Moved.refl (w:World) (v:Value):Moved w v v:=.inl rfl
theorem Moved.trans {w w1:World} {a b c:Value} (h:Moved w a b) (k:Moved w1 b c) (hs:w.heap.size≤w1.heap.size):Moved w a c:=by
 rcases k with k | ⟨g,hg,hk⟩
 ·rcases h with h | ⟨g,hg,hk⟩
  ·exact .inl (k.trans h)
  ·exact .inr ⟨g,k.trans hg,hk⟩
 ·exact .inr ⟨g,hg,Nat.le_trans hs hk⟩
theorem Qjl {w w1 w2:World} {a b:Value} (h:w.grownBy w1 a.ownBlock) (m:Moved w a b) (k:w1.grownBy w2 b.ownBlock):w.grownBy w2 a.ownBlock:=by
 refine ⟨k.os.trans h.os,k.tape.trans h.tape,k.output.trans h.output,Nat.le_trans h.size k.size,fun i hi hne=>?_⟩;rw [k.block i (Nat.lt_of_lt_of_le hi h.size) ?_,h.block i hi hne];intro e;rcases m with m | ⟨g,hg,hs⟩
 ·exact hne (e.trans m)
 ·rw [hg] at e;cases e;omega
theorem Qqr {w wr:World} {row:Option Nat} (h:w.grownBy wr row) (o:Obj):w.grownBy (wr.alloc o) row:=by
 refine ⟨h.os,h.tape,h.output,Nat.le_trans h.size (by simp),fun i hi hne=>?_⟩;rw [Below.heap_alloc wr o i (by have:=h.size;omega)];exact h.block i hi hne
theorem Qx3 {w wr w1:World} {v b v':Value} {o:Obj} (h:w.grownBy wr v.ownBlock) (m:Moved w v b) (k:(wr.alloc o).grownBy w1 b.ownBlock) (m':Moved (wr.alloc o) b v') :
  w.grownBy w1 v.ownBlock∧Moved w v v' :=
 ⟨Qjl (Qqr h o) m k,m.trans m' (by have:=h.size;simp;omega)⟩
section
variable {P:Program} (w:World)
theorem Qjc (base:Nat) (t ty e:TypeId) (i:TypeInfo) (z:Value) (size bytes:Nat) (ht:P.underlying t=some (.slice e)) (hi:P.info? e=some i) (hz:i.zero=some z)
  (hsize:i.size=size) (hby:i.bytes=bytes)
  (v:Value) (n:Nat) (xs:List Value) (hown:w.ownsRow base e size v n xs)
  (a:Addr) (m c:Nat) (news:List Value) (hl:news.length=m * size) (hnews:∀ j u,news[j]?=some u→w.cell? (a.add j)=some u) (h1:∀ u∈news,u.oneCell'=true)
  (h63:n+m≤maxLen) (hbytes:(n+m) * bytes≤140737488355328) {v':Value} {w':World}
  (hr:(Builtin.append_ #[t,t] ty #[v,.slice (some a) m c]).run P w=.ok v' w'):Moved w v v'∧(Full v n→0 < m→w.grownBy w' none∧Qzf w v'):=by
 subst hsize hby;have hsmall:n+m≤9223372036854775807:=by simp only [maxLen] at h63;omega
 rcases hown.2 with ⟨rfl,rfl⟩ | ⟨g,cap,cur,rfl,hbg,hg,hnc,hcm,hcs,htake⟩
 ·by_cases hm:m=0
  ·subst hm;have hr':(Builtin.append_ #[t,t] ty #[.slice none 0 0,.slice (some a) 0 c]).run P w=.ok (.slice none 0 0) w:=by
    simp [Builtin.append_,run_underlying ht,sizeOf,typeInfo,hi,Builtin.lenOf,Builtin.firstCells,loadCells,loadCellsFrom]
   rw [hr'] at hr;cases hr;exact ⟨.inl rfl,fun _ h=>absurd h (by omega)⟩
  ·have hr':=run_append_nil (P:=P) w t ty e i z ht hi hz a m c news hl hnews (by omega) (by omega) (by have hb:=hbytes;simp only [Nat.zero_add] at hb;omega);rw [hr'] at hr;cases hr;exact ⟨.inr ⟨_,rfl,Nat.le_refl _⟩,fun _ _=>⟨⟨rfl,rfl,rfl,by simp,fun k hk _=>Below.heap_alloc w.drew _ k hk⟩,_,rfl,Nat.le_refl _⟩⟩
 ·by_cases hroom:n+m≤cap
  ·have hfit:n * i.size+news.length≤cur.size:=by rw [hl,hcs,← Nat.add_mul];exact Nat.mul_le_mul_right _ hroom
   have hr':=run_append_room (P:=P) w t ty e i ht hi g n cap cur hg a m c news hl hnews h1 hroom hfit;rw [hr'] at hr;cases hr;refine ⟨.inl rfl,fun hf h=>?_⟩;rcases hf with hf | ⟨ad,hf⟩
   ·simp at hf
   ·simp only [Value.slice.injEq] at hf;omega
  ·have holds:∀ j u,xs[j]?=some u→w.cell? ((⟨g,0,none⟩:Addr).add j)=some u:=hown.cells (g:=g) rfl;have hr':=run_append_grow (P:=P) w t ty e i z ht hi hz ⟨g,0,none⟩ n cap xs hown.1 holds a m c news hl hnews (by omega) (by omega) (growslice_fits (by omega) hbytes);rw [hr'] at hr;cases hr;exact ⟨.inr ⟨_,rfl,Nat.le_refl _⟩,fun _ _=>⟨⟨rfl,rfl,rfl,by simp,fun k hk _=>Below.heap_alloc w.drew _ k hk⟩,_,rfl,Nat.le_refl _⟩⟩
def Base (w:World) (e size:Nat) (v:Value) (n:Nat) (xs:List Value):Prop :=
 w.ownsRow 0 e size v n xs∨∃ a,v=.slice (some a) n n∧a.block < w.heap.size∧xs.length=n * size∧∀ j u,xs[j]?=some u→w.cell? (a.add j)=some u
theorem Base.alloc {w:World} {e size:Nat} {v:Value} {n:Nat} {xs:List Value} (h:Base w e size v n xs) (o:Obj):Base (w.alloc o) e size v n xs:=by
 rcases h with h | ⟨a,rfl,hb,hl,hc⟩
 ·exact .inl (h.alloc o)
 ·refine .inr ⟨a,rfl,by simp;omega,hl,fun j u hj=>?_⟩;have h:=hc j u hj;have hlt:=World.block_lt_of_cell? w _ h;exact (World.cell?_of_block (Below.heap_alloc w o _ hlt)).trans h
theorem Base.lt {w:World} {e size:Nat} {v:Value} {n:Nat} {xs:List Value} (h:Base w e size v n xs):∀ g,v.ownBlock=some g→g < w.heap.size:=by
 intro g hg;rcases h with h | ⟨a,rfl,hb,_⟩
 ·exact (h.lt g hg).2
 ·simp [Value.ownBlock] at hg;omega
theorem Base.len {w:World} {e size:Nat} {v:Value} {n:Nat} {xs:List Value} (h:Base w e size v n xs):xs.length=n * size:=by
 rcases h with h | ⟨a,rfl,hb,hl,hc⟩
 ·exact h.1
 ·exact hl
end
structure Kept (w wr:World) (v b:Value):Prop where
 grown:w.grownBy wr v.ownBlock
 moved:Moved w v b
theorem Kept.refl (w:World) (v:Value):Kept w w v v:=⟨World.grownBy.refl _ _,Moved.refl _ _⟩
theorem Kept.step {w wr w1:World} {v b v':Value} {o:Obj} (h:Kept w wr v b) (k:(wr.alloc o).grownBy w1 b.ownBlock) (m':Moved (wr.alloc o) b v'):Kept w w1 v v' :=
 have r:=Qx3 h.grown h.moved k m'
 ⟨r.1,r.2⟩
theorem Kept.more {w wr w1:World} {v b v':Value} (h:Kept w wr v b) (k:wr.grownBy w1 b.ownBlock) (m':Moved wr b v'):Kept w w1 v v' :=
 ⟨Qjl h.grown h.moved k,h.moved.trans m' h.grown.size⟩
def Apart (w wr:World) (v b:Value):Prop:=w.grownBy wr none∧(b=v∨Qzf w b)
theorem Apart.refl (w:World) (v:Value):Apart w w v v:=⟨World.grownBy.refl _ _,.inl rfl⟩
theorem Qk7 {a b c:World} (h:a.grownBy b none) (k:b.grownBy c none):a.grownBy c none :=
 ⟨k.os.trans h.os,k.tape.trans h.tape,k.output.trans h.output,Nat.le_trans h.size k.size,fun i hi hne=>(k.block i (Nat.lt_of_lt_of_le hi h.size) hne).trans (h.block i hi hne)⟩
theorem Qt3 {w w1 w2:World} {b:Value} (h:w.grownBy w1 none) (hb:Qzf w b) (k:w1.grownBy w2 b.ownBlock):w.grownBy w2 none:=by
 obtain ⟨g,hg,hs⟩:=hb;refine ⟨k.os.trans h.os,k.tape.trans h.tape,k.output.trans h.output,Nat.le_trans h.size k.size,fun i hi hne=>?_⟩;rw [k.block i (Nat.lt_of_lt_of_le hi h.size) (by rw [hg];intro e;cases e;omega)];exact h.block i hi hne
theorem Apart.step {w wr w1:World} {v b v':Value} {o:Obj} {n m:Nat} (h:Apart w wr v b) (hf:b=v→Full v n) (k:(wr.alloc o).grownBy w1 b.ownBlock) (mv:Moved (wr.alloc o) b v')
  (hF:b=v→Full b n→0 < m→(wr.alloc o).grownBy w1 none∧Qzf (wr.alloc o) v') (hm:0 < m):Apart w w1 v v':=by
 obtain ⟨hg,hb⟩:=h;have ha:w.grownBy (wr.alloc o) none:=Qk7 hg (World.grownBy_alloc _ _ _);by_cases hbv:b=v
 ·obtain ⟨h1,g,h2,h3⟩:=hF hbv (by rw [hbv];exact hf hbv) hm;exact ⟨Qk7 ha h1,.inr ⟨g,h2,Nat.le_trans ha.size h3⟩⟩
 ·have hb:=hb.resolve_left hbv;refine ⟨Qt3 ha hb k,.inr ?_⟩;rcases mv with e | ⟨g,h2,h3⟩
  ·obtain ⟨g,hg',hs⟩:=hb;exact ⟨g,e.trans hg',hs⟩
  ·exact ⟨g,h2,Nat.le_trans ha.size h3⟩
end Go.Proofs.YtcpodmjcgfgmnaaGreat
namespace Go.Proofs.YtcpodmjcgfgmnaaGreat
open Go.RowKit
namespace Flow
abbrev Fact:=Value ⊕ (Value→World→Prop)
def holds:Fact→Value→World→Prop
 | .inl c,v,_=>v=c
 | .inr Φ,v,w=>Φ v w
def dstOf (ops:Array Oper) (k:Nat):Option Tmp:=(ops[k]?).bind (·.dst)
def Qh5 (ops:Array Oper) (Fs:List Fact) (a:Act) (w:World) (k:Nat):Prop :=
 ∀ d,dstOf ops k=some d→holds (Fs.getD k (.inr fun _ _=>True)) (a.eval (.tmp d)) w
def Zba (ops:Array Oper) (Fs:List Fact) (a:Act) (w:World):List Nat→Prop
 | []=>True
 | k :: r=>Qh5 ops Fs a w k∧Zba ops Fs a w r
theorem Qjn {ops:Array Oper} {Fs:List Fact} {a:Act} {w:World}:∀ {l:List Nat},(∀ k∈l,Qh5 ops Fs a w k)→Zba ops Fs a w l
 | [],_=>trivial
 | k :: r,h=>⟨h k (by simp),Qjn fun j hj=>h j (by simp [hj])⟩
structure Off (ops:Array Oper) (a0 a:Act):Prop where
 defers:a.defers=a0.defers
 size:a.tmps.size=a0.tmps.size
 same:∀ t,(∀ k,dstOf ops k≠some t)→a.eval (.tmp t)=a0.eval (.tmp t)
def One (P:Program) (ops:Array Oper) (Q:Exit→Act→World→Prop) (a0:Act) (C:World→Prop) (R:World→World→Prop) (Fs:List Fact) (ks:List Nat) (f:Fact) (o:Oper):Prop :=
 ∀ a w,C w→Off ops a0 a→Zba ops Fs a w ks →
  (Region.wanted o (yielded ops a.tmps)=true∧o.wp P a w (fun a' w'=>∃ v,a'=a.put o.dst v∧R w w'∧holds f v w') Q) ∨
  (Region.wanted o (yielded ops a.tmps)=false∧holds f undef w)
def Ones (P:Program) (ops:Array Oper) (Q:Exit→Act→World→Prop) (a0:Act) (C:World→Prop) (R:World→World→Prop) (Fs:List Fact):List Oper→List (List Nat)→List Fact→Prop
 | o :: l,ks :: S,f :: F=>One P ops Q a0 C R Fs ks f o∧Ones P ops Q a0 C R Fs l S F
 | [],_,_=>True
 | _,_,_=>False
def Qes (R:World→World→Prop):List Fact→Prop
 | []=>True
 | .inl _ :: F=>Qes R F
 | .inr Φ :: F=>(∀ v w w',R w w'→Φ v w→Φ v w')∧Qes R F
def ends (Q:Exit→Act→World→Prop):List Oper→List Fact→Act→World→Prop
 | o :: l,.inl c :: F,a,w=>ends Q l F (a.put o.dst c) w
 | o :: l,.inr Φ :: F,a,w=>∀ v,Φ v w→ends Q l F (a.put o.dst v) w
 | _,_,a,w=>Q .normal a w
def fits (n:Nat) (ops:Array Oper):Bool :=
 (List.range ops.size).all fun i =>
   (match dstOf ops i with | some d=>decide (d < n) && (List.range i).all (fun j=>dstOf ops j != some d) | none=>false) &&
   (match ops[i]? with | some o=>o.after.toList.all (fun e=>!Region.binds .any e || decide (e.on < i)) | none=>false)
def Qtv (ops:Array Oper) (S:List (List Nat)):Bool :=
 (List.range ops.size).all fun i=>(S.getD i []).all fun k =>
   match ops[i]? with | some o=>o.after.toList.any (fun e=>Region.binds .any e && (e.on == k || (S.getD e.on []).contains k)) | none=>false
theorem Qb7 {R:World→World→Prop}:∀ {Fs:List Fact},Qes R Fs→∀ k v w w',R w w'→holds (Fs.getD k (.inr fun _ _=>True)) v w→holds (Fs.getD k (.inr fun _ _=>True)) v w'
 | [],_,k,v,w,w',_,_=>by cases k <;> exact trivial
 | .inl c :: F,h,0,v,w,w',_,hv=>hv
 | .inr Φ :: F,h,0,v,w,w',hR,hv=>h.1 v w w' hR hv
 | .inl c :: F,h,k+1,v,w,w',hR,hv=>Qb7 (Fs:=F) h k v w w' hR hv
 | .inr Φ :: F,h,k+1,v,w,w',hR,hv=>Qb7 (Fs:=F) h.2 k v w w' hR hv
theorem Qp4 {P:Program} {ops:Array Oper} {Q:Exit→Act→World→Prop} {a0:Act} {C:World→Prop} {R:World→World→Prop} {Fs:List Fact} :
  ∀ {l:List Oper} {S:List (List Nat)} {F:List Fact},Ones P ops Q a0 C R Fs l S F→∀ i o,l[i]?=some o→One P ops Q a0 C R Fs (S.getD i []) (F.getD i (.inr fun _ _=>True)) o
 | [],_,_,_,i,o,h=>by simp at h
 | x :: l,[],_,h,_,_,_=>h.elim
 | x :: l,s :: S,[],h,_,_,_=>h.elim
 | x :: l,s :: S,f :: F,h,0,o,ho=>by simp at ho;subst ho;exact h.1
 | x :: l,s :: S,f :: F,h,i+1,o,ho=>Qp4 h.2 i o (by simpa using ho)
theorem eval_put_same {a:Act} {d:Tmp} {v:Value} (h:d < a.tmps.size):(a.put (some d) v).eval (.tmp d)=v:=by
 simp [Act.put,Act.eval,h]
theorem eval_put_ne {a:Act} {d t:Tmp} {v:Value} (h:d≠t):(a.put (some d) v).eval (.tmp t)=a.eval (.tmp t):=by
 simp [Act.put,Act.eval,Array.getElem?_setIfInBounds_ne h]
theorem put_size (a:Act) (d:Option Tmp) (v:Value):(a.put d v).tmps.size=a.tmps.size:=by cases d <;> simp [Act.put]
theorem put_defers (a:Act) (d:Option Tmp) (v:Value):(a.put d v).defers=a.defers:=by cases d <;> rfl
theorem Qxn {a b:Act} (hd:a.defers=b.defers) (hs:a.tmps.size=b.tmps.size) (h:∀ t,a.eval (.tmp t)=b.eval (.tmp t)):a=b:=by
 cases a with | mk ta da=>cases b with | mk tb db =>
 simp only at hd hs;subst hd;congr 1;refine Array.ext hs fun i h1 h2=>?_;have:=h i;simpa [Act.eval,h1,h2] using this
theorem Qm1 {Q:Exit→Act→World→Prop} {a:Act} {w:World}:∀ (l:List Oper) (F:List Fact) (b:Act),(∀ i o,l[i]?=some o→∃ d,o.dst=some d∧d < a.tmps.size∧holds (F.getD i (.inr fun _ _=>True)) (a.eval (.tmp d)) w) →
  l.length≤F.length→b.defers=a.defers→b.tmps.size=a.tmps.size→(∀ t,(∀ o∈l,o.dst≠some t)→b.eval (.tmp t)=a.eval (.tmp t))→ends Q l F b w→Q .normal a w
 | [],_,b,_,_,hd,hs,he,h=>by
  have:b=a:=Qxn hd hs fun t=>he t (by simp);subst this;simpa [ends] using h
 | o :: l,[],b,_,hl,_,_,_,_=>by simp at hl
 | o :: l,f :: F,b,hk,hl,hd,hs,he,h=>by
  obtain ⟨d,hod,hdn,hf⟩:=hk 0 o rfl;have hk':∀ i o',l[i]?=some o'→∃ d,o'.dst=some d∧d < a.tmps.size∧holds (F.getD i (.inr fun _ _=>True)) (a.eval (.tmp d)) w:=fun i o' ho'=>hk (i+1) o' (by simpa using ho');have go:ends Q l F (b.put o.dst (a.eval (.tmp d))) w→Q .normal a w:=fun h=>by
   refine Qm1 l F _ hk' (by simpa using hl) ((put_defers _ _ _).trans hd) ((put_size _ _ _).trans hs) (fun t ht=>?_) h;rw [hod];by_cases e:d=t
   ·subst e;rw [eval_put_same (by rw [hs];exact hdn)]
   ·rw [eval_put_ne e];refine he t fun o' ho'=>?_;rcases List.mem_cons.1 ho' with rfl | ho'
    ·rw [hod];simpa using e
    ·exact ht o' ho'
  cases f with
  | inl c =>
   have e:a.eval (.tmp d)=c:=hf;rw [e] at go;exact go h
  | inr Φ=>exact go (h _ hf)
def left (listed:Array Bool):Nat:=listed.toList.countP (· == false)
theorem left_set {listed:Array Bool} {i:Nat} (h:listed.getD i true=false):left listed=left (listed.setIfInBounds i true)+1:=by
 have hi:i < listed.size:=by
  rcases Nat.lt_or_ge i listed.size with h' | h'
  ·exact h'
  ·simp [Array.getElem?_eq_none h'] at h
 have hv:listed.toList[i]'(by simpa using hi)=false:=by simpa [hi] using h
 unfold left;rw [Array.toList_setIfInBounds];rw [List.countP_set (by simpa using hi)];have hp:0 < listed.toList.countP (· == false):=by
  rw [List.countP_pos_iff];exact ⟨_,List.getElem_mem (by simpa using hi),by rw [hv];rfl⟩
 simp only [hv,beq_self_eq_true,if_true,show ((true == false)=true)=False by simp,if_false];omega
theorem getD_true_of_false {l:Array Bool} {i:Nat} (h:l.getD i false=true):l.getD i true=true:=by
 rcases Nat.lt_or_ge i l.size with h' | h'
 ·simpa [h'] using h
 ·simp [Array.getElem?_eq_none h'] at h
section
variable {P:Program} {ops:Array Oper} {Q:Exit→Act→World→Prop} {a0:Act} {C:World→Prop} {R:World→World→Prop} {Fs:List Fact} {S:List (List Nat)}
theorem Zc3 (hfit:fits a0.tmps.size ops=true) (hlean:Qtv ops S=true) (hst:Qes R Fs) (hR0:∀ w,R w w) (hC:∀ w w',C w→R w w'→C w') (hF:Fs.length=ops.size)
  (hones:Ones P ops Q a0 C R Fs ops.toList S Fs) (hend:∀ w,C w→ends Q ops.toList Fs a0 w) :
  ∀ (fuel:Nat) (listed:Array Bool) (a:Act) (w:World),listed.size=ops.size→left listed=fuel→C w→Off ops a0 a →
   (∀ k,listed.getD k false=true→Qh5 ops Fs a w k)→(∀ m,listed.getD m false=true→∀ k∈S.getD m [],listed.getD k false=true)→wpAny P .any ops Q fuel listed a w:=by
 have hsh:∀ i o,ops[i]?=some o→∃ d,o.dst=some d∧d < a0.tmps.size∧(∀ j,j < i→dstOf ops j≠some d)∧∀ e∈o.after,Region.binds .any e=true→e.on < i:=by
  intro i o ho;have hi:i < ops.size:=(Array.getElem?_eq_some_iff.1 ho).1;have h:=(List.all_eq_true.1 hfit) i (by simpa using hi);simp only [dstOf,ho,Option.bind_some] at h;cases hd:o.dst with
  | none=>simp [hd] at h
  | some d =>
   simp only [hd,Bool.and_eq_true,decide_eq_true_eq,List.all_eq_true,List.mem_range,bne_iff_ne,Bool.or_eq_true,Bool.not_eq_true'] at h;exact ⟨d,rfl,h.1.1,fun j hj=>h.1.2 j hj,fun e he hb=>(h.2 e (by simpa using he)).resolve_left (by simp [hb])⟩
 have hdist:∀ i j d,dstOf ops i=some d→dstOf ops j=some d→i=j:=by
  intro i j d hi hj;have g:∀ i j,dstOf ops i=some d→dstOf ops j=some d→¬ j < i:=by
   intro i j hi hj hlt;cases ho:ops[i]? with
   | none=>simp [dstOf,ho] at hi
   | some o =>
    obtain ⟨d',hd',_,hne,_⟩:=hsh i o ho;have:d'=d:=by simpa [dstOf,ho,hd'] using hi
    subst this;exact hne j hlt hj
  have:=g i j hi hj;have:=g j i hj hi;omega
 have hdone:∀ (listed:Array Bool) (a:Act) (w:World),listed.size=ops.size→C w→Off ops a0 a→(∀ k,listed.getD k false=true→Qh5 ops Fs a w k) →
   Region.ready .any ops listed=[]→Q .normal a w:=by
  intro listed a w hsz hCw hoff hk hr;have hall:∀ n i,i < n→i < ops.size→listed.getD i false=true:=by
   intro n;induction n with
   | zero=>intro i h;omega
   | succ n ih =>
    intro i hi hio;by_cases hin:i < n
    ·exact ih i hin hio
    ·have hin:i=n:=by omega
     cases hl:listed.getD i false with
     | true=>rfl
     | false =>
      exfalso;have ho:ops[i]?=some ops[i]:=by simp [hio]
      obtain ⟨_,_,_,_,hb⟩:=hsh i _ ho;have:i∈Region.ready .any ops listed:=mem_ready.2 ⟨by
       have:i < listed.size:=by omega
       simpa [this] using hl,_,ho,fun e he hbe=>ih e.on (by have:=hb e he hbe;omega) (by have:=hb e he hbe;omega)⟩
      rw [hr] at this;cases this
  refine Qm1 ops.toList Fs a0 (fun i o ho=>?_) (by simp [hF]) hoff.defers.symm hoff.size.symm (fun t ht=>(hoff.same t fun k hk=>?_).symm) (hend w hCw)
  ·have ho':ops[i]?=some o:=by simpa using ho
   obtain ⟨d,hd,hdn,_⟩:=hsh i o ho';exact ⟨d,hd,by rw [hoff.size];exact hdn,hk i (hall (i+1) i (by omega) (Array.getElem?_eq_some_iff.1 ho').1) d (by simp [dstOf,ho',hd])⟩
  ·cases ho:ops[k]? with
   | none=>simp [dstOf,ho] at hk
   | some o=>exact ht o (by have:=Array.mem_of_getElem? ho;simpa using this) (by simpa [dstOf,ho] using hk)
 intro fuel;induction fuel with
 | zero =>
  intro listed a w hsz hl hCw hoff hk _;have hr:Region.ready .any ops listed=[]:=by
   cases hr:Region.ready .any ops listed with
   | nil=>rfl
   | cons i r =>
    have hi:i∈Region.ready .any ops listed:=by rw [hr];simp
    have:=left_set (mem_ready.1 hi).1;omega
  exact ⟨hr,hdone listed a w hsz hCw hoff hk hr⟩
 | succ fuel ih =>
  intro listed a w hsz hl hCw hoff hk hcl;refine ⟨hdone listed a w hsz hCw hoff hk,fun i hi=>?_⟩;obtain ⟨hun,o,ho,hall⟩:=mem_ready.1 hi;obtain ⟨d,hd,hdn,_,_⟩:=hsh i o ho;have hio:i < ops.size:=(Array.getElem?_eq_some_iff.1 ho).1;have hne:∀ k,listed.getD k false=true→k≠i:=fun k hk e=>by subst e;rw [getD_true_of_false hk] at hun;cases hun
  have hSi:∀ k∈S.getD i [],listed.getD k false=true:=by
   intro k hkS;have h:=(List.all_eq_true.1 hlean) i (by simpa using hio);have h:=(List.all_eq_true.1 h) k hkS;simp only [ho,List.any_eq_true,Bool.and_eq_true,Bool.or_eq_true,beq_iff_eq,List.contains_iff_mem] at h;obtain ⟨e,he,hb,hek⟩:=h;have hle:=hall e (by simpa using he) hb;rcases hek with rfl | hek
   ·exact hle
   ·exact hcl e.on hle k hek
  have hone:=Qp4 hones i o (by simpa using ho) a w hCw hoff (Qjn fun k hkS=>hk k (hSi k hkS));have next:∀ v w',R w w'→holds (Fs.getD i (.inr fun _ _=>True)) v w'→wpAny P .any ops Q fuel (listed.setIfInBounds i true) (a.put o.dst v) w':=by
   intro v w' hR hv;refine ih _ _ _ (by simpa using hsz) (by have:=left_set hun;omega) (hC _ _ hCw hR) ⟨(put_defers _ _ _).trans hoff.defers,(put_size _ _ _).trans hoff.size,fun t ht=>?_⟩ (fun k hkl d' hd'=>?_) (fun m hm k hkS=>?_)
   ·rw [hd,eval_put_ne (fun e=>ht i (by simp [dstOf,ho,hd,e]))];exact hoff.same t ht
   ·by_cases e:k=i
    ·subst e;have:d'=d:=by simpa [dstOf,ho,hd] using hd'.symm
     subst this;rw [hd,eval_put_same (by rw [hoff.size];exact hdn)];exact hv
    ·have hdd:d≠d':=fun e'=>e (hdist k i d' hd' (by simp [dstOf,ho,hd,e']));rw [hd,eval_put_ne hdd];rw [getD_set_ne false (Ne.symm e)] at hkl;exact Qb7 hst k _ _ _ hR (hk k hkl d' hd')
   ·by_cases e:m=i
    ·subst e;exact getD_set_true (hSi k hkS)
    ·rw [getD_set_ne false (Ne.symm e)] at hm;exact getD_set_true (hcl m hm k hkS)
  unfold wpOp;simp only [ho];rcases hone with ⟨hw,hone⟩ | ⟨hw,hone⟩
  ·simp only [hw,if_true];exact .inl (Oper.wp_mono (fun a' w' ⟨v,e,hR,hv⟩=>by subst e;exact next v w' hR hv) hone)
  ·simp only [hw,Bool.false_eq_true,if_false];rw [show a.put o.dst undef=a.put o.dst undef from rfl];exact next undef w (hR0 w) hone
theorem region {id:Nat} {w:World} (hm:P.follows .mixedOrders=true) (hfit:fits a0.tmps.size ops=true) (hlean:Qtv ops S=true) (hF:Fs.length=ops.size)
  (hst:Qes R Fs) (hR0:∀ w,R w w) (hC:∀ w w',C w→R w w'→C w') (h0:C w.drew)
  (hones:Ones P ops Q a0 C R Fs ops.toList S Fs) (hend:∀ w,C w→ends Q ops.toList Fs a0 w):(Code.region id ops true).wp P Q a0 w :=
 wp_region_any hm (Zc3 hfit hlean hst hR0 hC hF hones hend ops.size (Array.replicate ops.size false) a0 w.drew (by simp)
  (by simp [left,List.countP_replicate]) h0 ⟨rfl,rfl,fun _ _=>rfl⟩
  (fun k hk=>by rcases Nat.lt_or_ge k ops.size with h | h <;> simp [h] at hk)
  (fun m hk=>by rcases Nat.lt_or_ge m ops.size with h | h <;> simp [h] at hk))
end
theorem Ones.cons {P:Program} {ops:Array Oper} {Q:Exit→Act→World→Prop} {a0:Act} {C:World→Prop} {R:World→World→Prop} {Fs:List Fact} {o:Oper} {l:List Oper} {ks:List Nat} {S:List (List Nat)} {f:Fact} {F:List Fact}
  (h:One P ops Q a0 C R Fs ks f o) (k:Ones P ops Q a0 C R Fs l S F):Ones P ops Q a0 C R Fs (o :: l) (ks :: S) (f :: F):=⟨h,k⟩
def Grow (w w':World):Prop:=w.grownBy w' none
theorem grow_refl (w:World):Grow w w:=World.grownBy.refl w none
theorem Grow.trans {a b c:World} (h:Grow a b) (k:Grow b c):Grow a c :=
 ⟨k.os.trans h.os,k.tape.trans h.tape,k.output.trans h.output,Nat.le_trans h.size k.size,fun i hi hne=>(k.block i (Nat.lt_of_lt_of_le hi h.size) hne).trans (h.block i hi hne)⟩
theorem grow_drew (w:World):Grow w w.drew:=⟨rfl,rfl,rfl,Nat.le_refl _,fun _ _ _=>rfl⟩
theorem grow_alloc (w:World) (o:Obj):Grow w (w.alloc o):=World.grownBy_alloc w o none
theorem grow_below {w w':World} (h:Below w.heap.size w w'):Grow w w':=⟨h.os,h.tape,h.output,h.size,fun i hi _=>h.block i hi⟩
theorem Grow.below {w w':World} (h:Grow w w') {B:Nat} (hB:B≤w.heap.size):Below B w w':=⟨h.os,h.tape,h.output,h.size,fun i hi=>h.block i (by omega) (by simp)⟩
def Zb7 (ops:Array Oper) (t:Tmp):Bool:=ops.toList.all fun o=>o.dst != some t
theorem Off.at {ops:Array Oper} {a0 a:Act} (h:Off ops a0 a) (t:Tmp) (ht:Zb7 ops t=true):a.eval (.tmp t)=a0.eval (.tmp t):=by
 refine h.same t fun k hk=>?_;cases ho:ops[k]? with
 | none=>simp [dstOf,ho] at hk
 | some o =>
  have hm:o∈ops.toList:=by simpa using Array.mem_of_getElem? ho
  have:=List.all_eq_true.1 ht o hm;have hd:o.dst=some t:=by simpa [dstOf,ho] using hk
  simp [hd] at this
theorem yielded_of {ops:Array Oper} {a:Act} {j:Nat} {d:Tmp} {b:Bool} (hd:dstOf ops j=some d) (h:a.eval (.tmp d)=.bool b):yielded ops a.tmps j=some b:=by
 have h':a.tmps[d]?=some (.bool b):=by
  have h2:a.tmps[d]?.getD undef=.bool b:=by simpa [Act.eval] using h
  cases hx:a.tmps[d]? with
  | none=>rw [hx] at h2;simp [undef] at h2
  | some v=>rw [hx] at h2;simpa using h2
 unfold yielded;have hd':(ops[j]?).bind (·.dst)=some d:=hd;rw [hd'];simp [h']
theorem yielded_none {ops:Array Oper} {a:Act} {j:Nat} {d:Tmp} (hd:dstOf ops j=some d) (h:a.eval (.tmp d)=undef):yielded ops a.tmps j=none:=by
 have h2:a.tmps[d]?.getD undef=undef:=by simpa [Act.eval] using h
 unfold yielded;have hd':(ops[j]?).bind (·.dst)=some d:=hd;rw [hd'];cases hx:a.tmps[d]? with
 | none=>simp [hx]
 | some v=>rw [hx] at h2;simp only [Option.getD_some] at h2;subst h2;simp [hx,undef]
theorem want_none {ops:Array Oper} {a:Act} {o:Oper} (h:o.guard=none):Region.wanted o (yielded ops a.tmps)=true:=by simp [Region.wanted,h]
theorem want_yes {ops:Array Oper} {a:Act} {o:Oper} {j:Nat} {d:Tmp} {b:Bool} (h:o.guard=some (j,b)) (hd:dstOf ops j=some d) (hv:a.eval (.tmp d)=.bool b) :
  Region.wanted o (yielded ops a.tmps)=true:=by simp [Region.wanted,h,yielded_of hd hv]
section
variable {P:Program} {Q:Exit→Act→World→Prop} {R:World→World→Prop} {o:Oper} {a:Act} {w:World} {f:Fact}
theorem run_val {v:Value} {w':World} (h:(execOp a.eval o).run P w=.ok (.value v) w') (hR:R w w') (hv:holds f v w') :
  o.wp P a w (fun a' w'=>∃ v,a'=a.put o.dst v∧R w w'∧holds f v w') Q:=by
 unfold Oper.wp;rw [h];exact ⟨v,rfl,hR,hv⟩
theorem run_same {c:Value} (h:(execOp a.eval o).run P w=.ok (.value c) w) (hR:∀ w,R w w) :
  o.wp P a w (fun a' w'=>∃ v,a'=a.put o.dst v∧R w w'∧holds (.inl c) v w') Q:=run_val h (hR w) rfl
theorem run_call {fn:FuncId} {args:Array Value} (h:(execOp a.eval o).run P w=.ok (.enter fn args) w) (hc:Calls P fn args w fun e w'=>∃ v,e=.returned v∧R w w'∧holds f v w') :
  o.wp P a w (fun a' w'=>∃ v,a'=a.put o.dst v∧R w w'∧holds f v w') Q:=by
 unfold Oper.wp;rw [h];refine hc.mono fun e w' ⟨v,he,hR,hv⟩=>?_;subst he;exact ⟨v,rfl,hR,hv⟩
theorem eval_const (a:Act):∀ v,a.eval (.const v)=v:=fun _=>rfl
theorem exec_move {x:Operand} {c:Value} (ho:o.op=.move x∨o.op=.assign x) (h:a.eval x=c):(execOp a.eval o).run P w=.ok (.value c) w:=by
 rcases ho with ho | ho <;> simp [execOp,ho,h,Sem.run_pure]
theorem exec_pick_yes {x y z:Operand} {c:Value} (ho:o.op=.pick x y z) (hx:a.eval x=.bool true) (h:a.eval y=c):(execOp a.eval o).run P w=.ok (.value c) w:=by
 simp [execOp,ho,h,hx,asBool,Sem.run_pure]
theorem exec_call {x:Array Operand} {ts:Array TypeId} {fn:FuncId} {g:Func} {args:Array Value} (ho:o.op=.call { callee:=.value (.func fn),args:=x,argTypes:=ts })
  (hf : P.funcs[fn]? = some g) (hn : (g.name == "runtime.NumGoroutine") = false) (hb : g.body.isNone = false) (h : x.map a.eval = args) :
  (execOp a.eval o).run P w=.ok (.enter fn args) w:=by
 subst h;have hn' : ¬ g.name = "runtime.NumGoroutine" := by simpa using hn
 have hb':¬ g.body=none:=by cases hg:g.body <;> simp_all
 have hc:∀ args,(callFunc fn args).run P w=.ok (.enter fn args) w:=fun args=>by
  simp [callFunc,hf,hn',hb']
 simp [execOp,ho,Act.eval,resolve,invoke,Deferred.ofValue,hc]
end
end Flow
end Go.Proofs.YtcpodmjcgfgmnaaGreat
namespace Go.Proofs.YtcpodmjcgfgmnaaGreat
open Go.RowKit
def Seg (sz:Nat) (w:World) (v:Value) (n:Nat) (xs:List Value):Prop :=
 ∃ a cap,v=.slice a n cap∧xs.length=n * sz∧(a=none→n=0∧cap=0)∧∀ j,j < xs.length→∃ b off,a=some ⟨b,off,none⟩∧b < w.heap.size∧w.cell? ⟨b,off+j,none⟩=xs[j]?
theorem Seg.shape {sz:Nat} {w:World} {v:Value} {n:Nat} {xs:List Value} (h:Seg sz w v n xs) (hl:xs≠[]) :
  ∃ b off cap,v=.slice (some ⟨b,off,none⟩) n cap∧b < w.heap.size∧∀ j,j < xs.length→w.cell? ⟨b,off+j,none⟩=xs[j]?:=by
 obtain ⟨a,cap,rfl,hm,_,hc⟩:=h;have h0:0 < xs.length:=List.length_pos_iff.2 hl;obtain ⟨b,off,rfl,hb,_⟩:=hc 0 h0;refine ⟨b,off,cap,rfl,hb,fun j hj=>?_⟩;obtain ⟨b',off',e,_,h'⟩:=hc j hj;cases e;exact h'
theorem Seg.grow {sz:Nat} {w w':World} {v:Value} {n:Nat} {xs:List Value} (h:Seg sz w v n xs) (g:Flow.Grow w w'):Seg sz w' v n xs:=by
 obtain ⟨a,cap,rfl,hm,hn,hc⟩:=h;refine ⟨a,cap,rfl,hm,hn,fun j hj=>?_⟩;obtain ⟨b,off,ha,hb,hcell⟩:=hc j hj;exact ⟨b,off,ha,Nat.lt_of_lt_of_le hb g.size,(World.cell?_of_block (g.block b hb (by simp))).trans hcell⟩
theorem Seg.of_own {sz:Nat} {w:World} {base e:Nat} {v:Value} {n:Nat} {xs:List Value} (h:w.ownsRow base e sz v n xs):Seg sz w v n xs:=by
 have hlen:=h.1;rcases h.2 with ⟨rfl,h0⟩ | ⟨g,cap,cur,rfl,_,hg,_⟩
 ·subst h0;exact ⟨none,0,rfl,hlen,fun _=>⟨rfl,rfl⟩,fun j hj=>by omega⟩
 ·refine ⟨some ⟨g,0,none⟩,cap,rfl,hlen,by simp,fun j hj=>⟨g,0,rfl,(Array.getElem?_eq_some_iff.1 hg).1,?_⟩⟩;rw [Nat.zero_add,h.cellAt j (by omega)]
theorem Seg.nil (sz:Nat) (w:World):Seg sz w (.slice none 0 0) 0 []:=⟨none,0,rfl,by simp,fun _=>⟨rfl,rfl⟩,fun j hj=>by simp at hj⟩
theorem Seg.len {sz:Nat} {w:World} {a:Option Addr} {n cap:Nat} {m:Nat} {xs:List Value} (h:Seg sz w (.slice a n cap) m xs):n=m∧xs.length=n * sz:=by
 obtain ⟨a',cap',e,hm,_⟩:=h;cases e;exact ⟨rfl,hm⟩
theorem Seg.cells {sz:Nat} {w:World} {a:Option Addr} {n cap m:Nat} {xs:List Value} (h:Seg sz w (.slice a n cap) m xs):∀ ad,a=some ad→∀ j u,xs[j]?=some u→w.cell? (ad.add j)=some u:=by
 obtain ⟨a',cap',e,_,_,hc⟩:=h;cases e;intro ad had j u hu;obtain ⟨b,off,ha,_,hcell⟩:=hc j (List.getElem?_eq_some_iff.1 hu).1;rw [ha] at had;cases had;rw [Addr.add_lit,hcell,hu]
def Ints (w:World) (v:Value) (zs:List Int):Prop:=Seg 1 w v zs.length (zs.map (Value.int .i64))
theorem Ints.grow {w w':World} {v:Value} {zs:List Int} (h:Ints w v zs) (g:Flow.Grow w w'):Ints w' v zs:=Seg.grow h g
theorem Ints.shape {w:World} {v:Value} {zs:List Int} (h:Ints w v zs) (hl:zs≠[]) :
  ∃ b off cap,v=.slice (some ⟨b,off,none⟩) zs.length cap∧b < w.heap.size∧∀ j,j < zs.length→w.cell? ⟨b,off+j,none⟩=some (.int .i64 (zs.getD j 0)):=by
 obtain ⟨b,off,cap,hv,hb,hc⟩:=Seg.shape h (by simpa using hl);refine ⟨b,off,cap,hv,hb,fun j hj=>?_⟩;rw [hc j (by simpa using hj)];simp [hj]
def Bools (w:World) (v:Value) (bs:List Bool):Prop:=Seg 1 w v bs.length (bs.map Value.bool)
theorem Bools.grow {w w':World} {v:Value} {bs:List Bool} (h:Bools w v bs) (g:Flow.Grow w w'):Bools w' v bs:=Seg.grow h g
theorem Bools.shape {w:World} {v:Value} {bs:List Bool} (h:Bools w v bs) (hl:bs≠[]) :
  ∃ b off cap,v=.slice (some ⟨b,off,none⟩) bs.length cap∧b < w.heap.size∧∀ j,j < bs.length→w.cell? ⟨b,off+j,none⟩=some (.bool (bs.getD j false)):=by
 obtain ⟨b,off,cap,hv,hb,hc⟩:=Seg.shape h (by simpa using hl);refine ⟨b,off,cap,hv,hb,fun j hj=>?_⟩;rw [hc j (by simpa using hj)];simp [hj]
def Rows2 (w:World) (v:Value) (zss:List (List Int)):Prop :=
 ∃ vs:List Value,Seg 1 w v zss.length vs∧∀ i,i < zss.length→Ints w (vs.getD i undef) (zss.getD i [])
theorem Rows2.grow {w w':World} {v:Value} {zss:List (List Int)} (h:Rows2 w v zss) (g:Flow.Grow w w'):Rows2 w' v zss:=by
 obtain ⟨vs,h1,h2⟩:=h;exact ⟨vs,h1.grow g,fun i hi=>(h2 i hi).grow g⟩
theorem Rows2.val {w:World} {v:Value} {zss:List (List Int)} (h:Rows2 w v zss):∃ a cap,v=.slice a zss.length cap:=by
 obtain ⟨vs,⟨a,cap,hv,_⟩,_⟩:=h;exact ⟨a,cap,hv⟩
theorem Rows2.shape {w:World} {v:Value} {zss:List (List Int)} (h:Rows2 w v zss) (hl:zss≠[]) :
  ∃ b off cap,v=.slice (some ⟨b,off,none⟩) zss.length cap∧b < w.heap.size∧∀ j,j < zss.length→∃ u,w.cell? ⟨b,off+j,none⟩=some u∧Ints w u (zss.getD j []):=by
 obtain ⟨vs,h1,h2⟩:=h;have hlen:vs.length=zss.length:=by
  obtain ⟨a,cap,_,hm,_⟩:=h1;simpa using hm
 obtain ⟨b,off,cap,hv,hb,hc⟩:=h1.shape (by intro e;rw [e] at hlen;exact hl (List.eq_nil_of_length_eq_zero hlen.symm));refine ⟨b,off,cap,hv,hb,fun j hj=>⟨vs.getD j undef,?_,h2 j hj⟩⟩;rw [hc j (by omega)];simp [show j < vs.length by omega]
end Go.Proofs.YtcpodmjcgfgmnaaGreat
namespace Go.Proofs.YtcpodmjcgfgmnaaGreat
open Go.RowKit
namespace Bits
theorem Qp5 (a:Nat) (ha:a < 2 ^ 63):(BitVec.ofInt 64 (a:Int)).toNat=a:=by
 rw [BitVec.toNat_ofInt];omega
theorem i64_mask (n:Int) (k:Nat) (hk:k≤62) (m:Int) (hm:m=2 ^ k - 1):bits .and .i64 n m=n % 2 ^ k:=by
 subst hm;have hp:(2:Nat) ^ k≤2 ^ 62:=Nat.pow_le_pow_right (by omega) hk;have h1:1≤(2:Nat) ^ k:=Nat.one_le_two_pow;have e:((2:Int) ^ k - 1)=((2 ^ k - 1:Nat):Int):=by
  rw [Int.ofNat_sub h1];simp
 have hpi:((2:Int) ^ k)=((2 ^ k:Nat):Int):=by simp
 rw [e,hpi];show IntKind.i64.wrap ((BitVec.ofInt 64 n &&& BitVec.ofInt 64 ((2 ^ k - 1:Nat):Int)).toNat:Nat)=_;rw [BitVec.toNat_and,Qp5 (2 ^ k - 1) (by omega),Nat.and_two_pow_sub_one_eq_mod,BitVec.toNat_ofInt,IntKind.wrap_i64];have hd:((2:Int) ^ 64)=(2 ^ k:Nat) * (2 ^ (64 - k):Nat):=by
  rw [← Int.natCast_mul,← Nat.pow_add,show k+(64 - k)=64 from by omega];rfl
 have h3:((n % ((2 ^ 64:Nat):Int)).toNat:Int)=n % 2 ^ 64:=by omega
 have h4:(((n % ((2 ^ 64:Nat):Int)).toNat % 2 ^ k:Nat):Int)=n % ((2 ^ k:Nat):Int):=by
  rw [Int.natCast_emod,h3,hd,Int.emod_emod_of_dvd _ (Int.dvd_mul_right _ _)]
 have h5:n % ((2 ^ k:Nat):Int) < ((2 ^ k:Nat):Int):=Int.emod_lt_of_pos _ (by omega);have h6:0≤n % ((2 ^ k:Nat):Int):=Int.emod_nonneg _ (by omega);rw [h4];omega
end Bits
end Go.Proofs.YtcpodmjcgfgmnaaGreat
namespace Go.Proofs.YtcpodmjcgfgmnaaGreat
open Go.RowKit
def u8v (c:UInt8):Value:=.int .u8 (c.toNat:Int)
def str (l:List UInt8):ByteArray:=⟨l.toArray⟩
theorem Qkn (l:List UInt8):(str l).data.toList=l:=rfl
theorem Qs4 (l m:List UInt8):str l++str m=str (l++m):=by
 apply ByteArray.ext;simp [str,ByteArray.data_append]
theorem Qup {l m:List UInt8} (h:str l=str m):l=m:=by rw [← Qkn l,h,Qkn]
theorem Qlo (l:List UInt8):(str l).size=l.length:=by simp [str,ByteArray.size]
def Bytes (w:World) (v:Value) (l:List UInt8):Prop :=
 ∃ a cap,v=.slice a l.length cap∧l.length≤140737488351232∧(a=none→l.length=0∧cap=0)∧∀ j,j < l.length→∃ b off,a=some ⟨b,off,none⟩∧b < w.heap.size∧w.cell? ⟨b,off+j,none⟩=some (u8v (l.getD j 0))
theorem Bytes.shape {w:World} {v:Value} {l:List UInt8} (h:Bytes w v l) (hl:l≠[]) :
  ∃ b off cap,v=.slice (some ⟨b,off,none⟩) l.length cap∧b < w.heap.size∧∀ j,j < l.length→w.cell? ⟨b,off+j,none⟩=some (u8v (l.getD j 0)):=by
 obtain ⟨a,cap,rfl,hm,_,hc⟩:=h;have h0:0 < l.length:=by cases l <;> simp_all
 obtain ⟨b,off,rfl,hb,_⟩:=hc 0 h0;refine ⟨b,off,cap,rfl,hb,fun j hj=>?_⟩;obtain ⟨b',off',e,_,h'⟩:=hc j hj;cases e;exact h'
theorem Bytes.grow {w w':World} {v:Value} {l:List UInt8} (h:Bytes w v l) (g:Flow.Grow w w'):Bytes w' v l:=by
 obtain ⟨a,cap,rfl,hm,hn,hc⟩:=h;refine ⟨a,cap,rfl,hm,hn,fun j hj=>?_⟩;obtain ⟨b,off,ha,hb,hcell⟩:=hc j hj;exact ⟨b,off,ha,Nat.lt_of_lt_of_le hb g.size,(World.cell?_of_block (g.block b hb (by simp))).trans hcell⟩
theorem Bytes.of_own {w:World} {base e:Nat} {v:Value} {n:Nat} {l:List UInt8} (h:w.ownsRow base e 1 v n (l.map u8v)) (hm:l.length≤140737488351232):Bytes w v l:=by
 have hlen:l.length=n:=by simpa using h.1
 subst hlen;rcases h.2 with ⟨rfl,h0⟩ | ⟨g,cap,cur,rfl,_,hg,_⟩
 ·exact ⟨none,0,by rw [h0],hm,fun _=>⟨h0,rfl⟩,fun j hj=>by omega⟩
 ·refine ⟨some ⟨g,0,none⟩,cap,rfl,hm,by simp,fun j hj=>⟨g,0,rfl,(Array.getElem?_eq_some_iff.1 hg).1,?_⟩⟩;rw [Nat.zero_add,h.cellAt j (by omega)];simp [hj]
theorem Bytes.len {w:World} {a:Option Addr} {n cap:Nat} {l:List UInt8} (h:Bytes w (.slice a n cap) l):n=l.length∧l.length≤140737488351232:=by
 obtain ⟨a',cap',e,hm,_⟩:=h;cases e;exact ⟨rfl,hm⟩
theorem Bytes.cells {w:World} {a:Option Addr} {n cap:Nat} {l:List UInt8} (h:Bytes w (.slice a n cap) l):∀ ad,a=some ad→∀ j u,(l.map u8v)[j]?=some u→w.cell? (ad.add j)=some u:=by
 obtain ⟨a',cap',e,_,_,hc⟩:=h;cases e;intro ad had j u hu;have hj:j < l.length:=by
  have:=(List.getElem?_eq_some_iff.1 hu).1;simpa using this
 obtain ⟨b,off,ha,_,hcell⟩:=hc j hj;rw [ha] at had;cases had;rw [Addr.add_lit,hcell,← hu];simp [hj]
theorem Bytes.nil (w:World):Bytes w (.slice none 0 0) []:=⟨none,0,rfl,by simp,fun _=>⟨rfl,rfl⟩,fun j hj=>by simp at hj⟩
section
variable {P:Program}
theorem Qly {w:World} {v:Value} {l:List UInt8} (h:Bytes w v l) (src dst e:TypeId) (hs:P.underlying src=some (.slice e)) (he:P.underlying e=some (.int .u8)) (hd:P.underlying dst=some .string) :
  (convert src dst v).run P w=.ok (.string (str l)) w:=by
 obtain ⟨a,cap,rfl,hm,hn,hc⟩:=h;cases a with
 | none =>
  have h0:l.length=0:=(hn rfl).1;have:l=[]:=List.eq_nil_of_length_eq_zero h0;subst this;rw [run_convert_bytes_string w src dst e none _ cap hs he hd];simp [Conv.bytesToString];rfl
 | some ad =>
  refine run_convert_bytes_back w src dst e ad cap l hs he hd fun j hj=>?_;obtain ⟨b,off,ha,hb,hcell⟩:=hc j hj;cases ha;rw [Addr.add_lit,hcell];simp [u8v,hj]
end
end Go.Proofs.YtcpodmjcgfgmnaaGreat

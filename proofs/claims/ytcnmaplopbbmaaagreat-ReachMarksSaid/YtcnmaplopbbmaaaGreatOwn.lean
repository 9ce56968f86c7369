/- A slice that the call itself made: append, where it comes to lie, and what stays as it was. No program. -/
import Derived.WalkKit
import Derived.Lib.Hide
namespace Go.Proofs.YtcnmaplopbbmaaaGreat
open Go.RowKit
def Moved (w:World) (v v':Value):Prop:=v'.ownBlock=v.ownBlock∨∃ g,v'.ownBlock=some g∧w.heap.size≤g
def Full (v:Value) (n:Nat):Prop:=v=.slice none 0 0∨∃ a,v=.slice (some a) n n
def Fresh (w:World) (v:Value):Prop:=∃ g,v.ownBlock=some g∧w.heap.size≤g
theorem Moved.refl (w:World) (v:Value):Moved w v v:=.inl rfl
theorem Moved.trans {w w1:World} {a b c:Value} (h:Moved w a b) (k:Moved w1 b c) (hs:w.heap.size≤w1.heap.size):Moved w a c:=by
 rcases k with k | ⟨g,hg,hk⟩
 ·rcases h with h | ⟨g,hg,hk⟩
  ·exact .inl (k.trans h)
  ·exact .inr ⟨g,k.trans hg,hk⟩
 ·exact .inr ⟨g,hg,Nat.le_trans hs hk⟩
theorem grown_trans {w w1 w2:World} {a b:Value} (h:w.grownBy w1 a.ownBlock) (m:Moved w a b) (k:w1.grownBy w2 b.ownBlock):w.grownBy w2 a.ownBlock:=by
 refine ⟨k.os.trans h.os,k.tape.trans h.tape,k.output.trans h.output,Nat.le_trans h.size k.size,fun i hi hne=>?_⟩
 rw [k.block i (Nat.lt_of_lt_of_le hi h.size) ?_,h.block i hi hne]
 intro e
 rcases m with m | ⟨g,hg,hs⟩
 ·exact hne (e.trans m)
 ·rw [hg] at e;cases e;omega
theorem grown_alloc {w wr:World} {row:Option Nat} (h:w.grownBy wr row) (o:Obj):w.grownBy (wr.alloc o) row:=by
 refine ⟨h.os,h.tape,h.output,Nat.le_trans h.size (by simp),fun i hi hne=>?_⟩
 rw [Below.heap_alloc wr o i (by have:=h.size;omega)]
 exact h.block i hi hne
theorem put_step {w wr w1:World} {v b v':Value} {o:Obj} (h:w.grownBy wr v.ownBlock) (m:Moved w v b) (k:(wr.alloc o).grownBy w1 b.ownBlock) (m':Moved (wr.alloc o) b v') :
  w.grownBy w1 v.ownBlock∧Moved w v v' :=
 ⟨grown_trans (grown_alloc h o) m k,m.trans m' (by have:=h.size;simp;omega)⟩
section
variable {P:Program} (w:World)
def Base (w:World) (e size:Nat) (v:Value) (n:Nat) (xs:List Value):Prop :=
 w.ownsRow 0 e size v n xs∨∃ a,v=.slice (some a) n n∧a.block < w.heap.size∧xs.length=n * size∧∀ j u,xs[j]? = some u→w.cell? (a.add j)=some u
theorem Base.alloc {w:World} {e size:Nat} {v:Value} {n:Nat} {xs:List Value} (h:Base w e size v n xs) (o:Obj):Base (w.alloc o) e size v n xs:=by
 rcases h with h | ⟨a,rfl,hb,hl,hc⟩
 ·exact .inl (h.alloc o)
 ·refine .inr ⟨a,rfl,by simp;omega,hl,fun j u hj=>?_⟩
  have h:=hc j u hj
  have hlt:=World.block_lt_of_cell? w _ h
  exact (World.cell?_of_block (Below.heap_alloc w o _ hlt)).trans h
theorem Base.lt {w:World} {e size:Nat} {v:Value} {n:Nat} {xs:List Value} (h:Base w e size v n xs):∀ g,v.ownBlock=some g→g < w.heap.size:=by
 intro g hg
 rcases h with h | ⟨a,rfl,hb,_⟩
 ·exact (h.lt g hg).2
 ·simp [Value.ownBlock] at hg;omega
theorem Base.len {w:World} {e size:Nat} {v:Value} {n:Nat} {xs:List Value} (h:Base w e size v n xs):xs.length=n * size:=by
 rcases h with h | ⟨a,rfl,hb,hl,hc⟩
 ·exact h.1
 ·exact hl
end
structure Kept (w wr:World) (v b:Value):Prop where
 grown:w.grownBy wr v.ownBlock
 moved:Moved w v b
theorem Kept.refl (w:World) (v:Value):Kept w w v v:=⟨World.grownBy.refl _ _,Moved.refl _ _⟩
theorem Kept.step {w wr w1:World} {v b v':Value} {o:Obj} (h:Kept w wr v b) (k:(wr.alloc o).grownBy w1 b.ownBlock) (m':Moved (wr.alloc o) b v'):Kept w w1 v v' :=
 have r:=put_step h.grown h.moved k m'
 ⟨r.1,r.2⟩
theorem Kept.more {w wr w1:World} {v b v':Value} (h:Kept w wr v b) (k:wr.grownBy w1 b.ownBlock) (m':Moved wr b v'):Kept w w1 v v' :=
 ⟨grown_trans h.grown h.moved k,h.moved.trans m' h.grown.size⟩
def Apart (w wr:World) (v b:Value):Prop:=w.grownBy wr none∧(b=v∨Fresh w b)
theorem Apart.refl (w:World) (v:Value):Apart w w v v:=⟨World.grownBy.refl _ _,.inl rfl⟩
theorem grow_trans {a b c:World} (h:a.grownBy b none) (k:b.grownBy c none):a.grownBy c none :=
 ⟨k.os.trans h.os,k.tape.trans h.tape,k.output.trans h.output,Nat.le_trans h.size k.size,fun i hi hne=>(k.block i (Nat.lt_of_lt_of_le hi h.size) hne).trans (h.block i hi hne)⟩
theorem grow_fresh {w w1 w2:World} {b:Value} (h:w.grownBy w1 none) (hb:Fresh w b) (k:w1.grownBy w2 b.ownBlock):w.grownBy w2 none:=by
 obtain ⟨g,hg,hs⟩:=hb
 refine ⟨k.os.trans h.os,k.tape.trans h.tape,k.output.trans h.output,Nat.le_trans h.size k.size,fun i hi hne=>?_⟩
 rw [k.block i (Nat.lt_of_lt_of_le hi h.size) (by rw [hg];intro e;cases e;omega)]
 exact h.block i hi hne
theorem Apart.step {w wr w1:World} {v b v':Value} {o:Obj} {n m:Nat} (h:Apart w wr v b) (hf:b=v→Full v n) (k:(wr.alloc o).grownBy w1 b.ownBlock) (mv:Moved (wr.alloc o) b v')
  (hF:b=v→Full b n→0 < m→(wr.alloc o).grownBy w1 none∧Fresh (wr.alloc o) v') (hm:0 < m):Apart w w1 v v':=by
 obtain ⟨hg,hb⟩:=h
 have ha:w.grownBy (wr.alloc o) none:=grow_trans hg (World.grownBy_alloc _ _ _)
 by_cases hbv:b=v
 ·obtain ⟨h1,g,h2,h3⟩:=hF hbv (by rw [hbv];exact hf hbv) hm
  exact ⟨grow_trans ha h1,.inr ⟨g,h2,Nat.le_trans ha.size h3⟩⟩
 ·have hb:=hb.resolve_left hbv
  refine ⟨grow_fresh ha hb k,.inr ?_⟩
  rcases mv with e | ⟨g,h2,h3⟩
  ·obtain ⟨g,hg',hs⟩:=hb
   exact ⟨g,e.trans hg',hs⟩
  ·exact ⟨g,h2,Nat.le_trans ha.size h3⟩
end Go.Proofs.YtcnmaplopbbmaaaGreat

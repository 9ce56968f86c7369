/- A slice that reads as a list of cells. No program. -/
/- What can be read in one world is read alike in another one; a world in which some blocks are made empty. (XSub and XMask, without what async wants.) No program. -/
/- Objects that are laid one behind the other: where they lie, their cells (XLay, without what nfa wants). No program. -/
/- A cell stays. No program. -/
import Derived.Test.YtcnmaplopbbmaaaOwn
import Derived.Test.YtcnmaplopbbmaaaFlow
namespace Go.Proofs.Ytcnmaplopbbmaaa
open Go.RowKit

/-- a slice of n elements, of sz cells each, whose cells are xs -/
def Seg (sz : Nat) (w : World) (v : Value) (n : Nat) (xs : List Value) : Prop :=
  ∃ a cap, v = .slice a n cap ∧ xs.length = n * sz ∧ (a = none → n = 0 ∧ cap = 0) ∧ ∀ j, j < xs.length → ∃ b off, a = some ⟨b, off, none⟩ ∧ b < w.heap.size ∧ w.cell? ⟨b, off + j, none⟩ = xs[j]?

theorem Seg.shape {sz : Nat} {w : World} {v : Value} {n : Nat} {xs : List Value} (h : Seg sz w v n xs) (hl : xs ≠ []) :
    ∃ b off cap, v = .slice (some ⟨b, off, none⟩) n cap ∧ b < w.heap.size ∧ ∀ j, j < xs.length → w.cell? ⟨b, off + j, none⟩ = xs[j]? := by
  obtain ⟨a, cap, rfl, hm, _, hc⟩ := h
  have h0 : 0 < xs.length := List.length_pos_iff.2 hl
  obtain ⟨b, off, rfl, hb, _⟩ := hc 0 h0
  refine ⟨b, off, cap, rfl, hb, fun j hj => ?_⟩
  obtain ⟨b', off', e, _, h'⟩ := hc j hj
  cases e
  exact h'
theorem Seg.grow {sz : Nat} {w w' : World} {v : Value} {n : Nat} {xs : List Value} (h : Seg sz w v n xs) (g : Flow.Grow w w') : Seg sz w' v n xs := by
  obtain ⟨a, cap, rfl, hm, hn, hc⟩ := h
  refine ⟨a, cap, rfl, hm, hn, fun j hj => ?_⟩
  obtain ⟨b, off, ha, hb, hcell⟩ := hc j hj
  exact ⟨b, off, ha, Nat.lt_of_lt_of_le hb g.size, (World.cell?_of_block (g.block b hb (by simp))).trans hcell⟩
theorem Seg.of_own {sz : Nat} {w : World} {base e : Nat} {v : Value} {n : Nat} {xs : List Value} (h : w.ownsRow base e sz v n xs) : Seg sz w v n xs := by
  have hlen := h.1
  rcases h.2 with ⟨rfl, h0⟩ | ⟨g, cap, cur, rfl, _, hg, _⟩
  · subst h0
    exact ⟨none, 0, rfl, hlen, fun _ => ⟨rfl, rfl⟩, fun j hj => by omega⟩
  · refine ⟨some ⟨g, 0, none⟩, cap, rfl, hlen, by simp, fun j hj => ⟨g, 0, rfl, (Array.getElem?_eq_some_iff.1 hg).1, ?_⟩⟩
    rw [Nat.zero_add, h.cellAt j (by omega)]
theorem Seg.nil (sz : Nat) (w : World) : Seg sz w (.slice none 0 0) 0 [] := ⟨none, 0, rfl, by simp, fun _ => ⟨rfl, rfl⟩, fun j hj => by simp at hj⟩
theorem Seg.len {sz : Nat} {w : World} {a : Option Addr} {n cap : Nat} {m : Nat} {xs : List Value} (h : Seg sz w (.slice a n cap) m xs) : n = m ∧ xs.length = n * sz := by
  obtain ⟨a', cap', e, hm, _⟩ := h
  cases e
  exact ⟨rfl, hm⟩
theorem Seg.ifNone {sz : Nat} {w : World} {a : Option Addr} {n cap m : Nat} {xs : List Value} (h : Seg sz w (.slice a n cap) m xs) : a = none → n = 0 ∧ cap = 0 := by
  obtain ⟨a', cap', e, _, hn, _⟩ := h
  cases e
  exact hn
theorem Seg.cells {sz : Nat} {w : World} {a : Option Addr} {n cap m : Nat} {xs : List Value} (h : Seg sz w (.slice a n cap) m xs) : ∀ ad, a = some ad → ∀ j u, xs[j]? = some u → w.cell? (ad.add j) = some u := by
  obtain ⟨a', cap', e, _, _, hc⟩ := h
  cases e
  intro ad had j u hu
  obtain ⟨b, off, ha, _, hcell⟩ := hc j (List.getElem?_eq_some_iff.1 hu).1
  rw [ha] at had
  cases had
  rw [Addr.add_lit, hcell, hu]
theorem Seg.cut {sz : Nat} {w : World} {a : Option Addr} {n cap m : Nat} {xs : List Value} (h : Seg sz w (.slice a n cap) m xs) {k : Nat} (hk : k ≤ n) : Seg sz w (.slice a k cap) k (xs.take (k * sz)) := by
  obtain ⟨a', cap', e, h1, h2, h3⟩ := h
  cases e
  have hle : k * sz ≤ n * sz := Nat.mul_le_mul_right _ hk
  have hlen : (xs.take (k * sz)).length = k * sz := by rw [List.length_take, h1, Nat.min_eq_left hle]
  refine ⟨a, cap, rfl, hlen, fun ha => ⟨by have := (h2 ha).1; omega, (h2 ha).2⟩, fun j hj => ?_⟩
  rw [hlen] at hj
  obtain ⟨b, off, ha, hb, hcell⟩ := h3 j (by omega)
  exact ⟨b, off, ha, hb, by rw [hcell, List.getElem?_take, if_pos hj]⟩

/-- a slice of ints that reads as a list -/
def Ints (w : World) (v : Value) (zs : List Int) : Prop := Seg 1 w v zs.length (zs.map (Value.int .i64))
theorem Ints.grow {w w' : World} {v : Value} {zs : List Int} (h : Ints w v zs) (g : Flow.Grow w w') : Ints w' v zs := Seg.grow h g
theorem Ints.shape {w : World} {v : Value} {zs : List Int} (h : Ints w v zs) (hl : zs ≠ []) :
    ∃ b off cap, v = .slice (some ⟨b, off, none⟩) zs.length cap ∧ b < w.heap.size ∧ ∀ j, j < zs.length → w.cell? ⟨b, off + j, none⟩ = some (.int .i64 (zs.getD j 0)) := by
  obtain ⟨b, off, cap, hv, hb, hc⟩ := Seg.shape h (by simpa using hl)
  refine ⟨b, off, cap, hv, hb, fun j hj => ?_⟩
  rw [hc j (by simpa using hj)]
  simp [hj]

/-- a slice of truths that reads as a list -/
def Bools (w : World) (v : Value) (bs : List Bool) : Prop := Seg 1 w v bs.length (bs.map Value.bool)
theorem Bools.grow {w w' : World} {v : Value} {bs : List Bool} (h : Bools w v bs) (g : Flow.Grow w w') : Bools w' v bs := Seg.grow h g
theorem Bools.shape {w : World} {v : Value} {bs : List Bool} (h : Bools w v bs) (hl : bs ≠ []) :
    ∃ b off cap, v = .slice (some ⟨b, off, none⟩) bs.length cap ∧ b < w.heap.size ∧ ∀ j, j < bs.length → w.cell? ⟨b, off + j, none⟩ = some (.bool (bs.getD j false)) := by
  obtain ⟨b, off, cap, hv, hb, hc⟩ := Seg.shape h (by simpa using hl)
  refine ⟨b, off, cap, hv, hb, fun j hj => ?_⟩
  rw [hc j (by simpa using hj)]
  simp [hj]

/-- a slice of slices of ints that reads as lists -/
def Rows2 (w : World) (v : Value) (zss : List (List Int)) : Prop :=
  ∃ vs : List Value, Seg 1 w v zss.length vs ∧ ∀ i, i < zss.length → Ints w (vs.getD i undef) (zss.getD i [])
theorem Rows2.grow {w w' : World} {v : Value} {zss : List (List Int)} (h : Rows2 w v zss) (g : Flow.Grow w w') : Rows2 w' v zss := by
  obtain ⟨vs, h1, h2⟩ := h
  exact ⟨vs, h1.grow g, fun i hi => (h2 i hi).grow g⟩
theorem Rows2.val {w : World} {v : Value} {zss : List (List Int)} (h : Rows2 w v zss) : ∃ a cap, v = .slice a zss.length cap := by
  obtain ⟨vs, ⟨a, cap, hv, _⟩, _⟩ := h
  exact ⟨a, cap, hv⟩
theorem Rows2.shape {w : World} {v : Value} {zss : List (List Int)} (h : Rows2 w v zss) (hl : zss ≠ []) :
    ∃ b off cap, v = .slice (some ⟨b, off, none⟩) zss.length cap ∧ b < w.heap.size ∧ ∀ j, j < zss.length → ∃ u, w.cell? ⟨b, off + j, none⟩ = some u ∧ Ints w u (zss.getD j []) := by
  obtain ⟨vs, h1, h2⟩ := h
  have hlen : vs.length = zss.length := by
    obtain ⟨a, cap, _, hm, _⟩ := h1
    simpa using hm
  obtain ⟨b, off, cap, hv, hb, hc⟩ := h1.shape (by intro e; rw [e] at hlen; exact hl (List.eq_nil_of_length_eq_zero hlen.symm))
  refine ⟨b, off, cap, hv, hb, fun j hj => ⟨vs.getD j undef, ?_, h2 j hj⟩⟩
  rw [hc j (by omega)]
  simp [show j < vs.length by omega]
end Go.Proofs.Ytcnmaplopbbmaaa
namespace Go.Proofs.Ytcnmaplopbbmaaa
open Go.RowKit
/-- what can be read in w is read alike in w' -/
structure Sub (w w' : World) : Prop where
  size : w.heap.size ≤ w'.heap.size
  cell : ∀ a v, w.cell? a = some v → w'.cell? a = some v
theorem cell_lt {w : World} {a : Addr} {v : Value} (h : w.cell? a = some v) : a.block < w.heap.size := by
  by_cases ha : a.block < w.heap.size
  · exact ha
  · exfalso
    unfold World.cell? at h
    rw [Array.getElem?_eq_none (by omega)] at h
    cases h
theorem Sub.of_grow {w w' : World} (g : Flow.Grow w w') : Sub w w' := ⟨g.size, fun a v h => (World.cell?_of_block (g.block a.block (cell_lt h) (by simp))).trans h⟩
theorem Sub.refl (w : World) : Sub w w := ⟨Nat.le_refl _, fun _ _ h => h⟩
theorem Sub.trans {w w' w'' : World} (h : Sub w w') (k : Sub w' w'') : Sub w w'' := ⟨Nat.le_trans h.size k.size, fun a v e => k.cell a v (h.cell a v e)⟩
theorem Seg.sub {sz : Nat} {w w' : World} {v : Value} {n : Nat} {xs : List Value} (h : Seg sz w v n xs) (g : Sub w w') : Seg sz w' v n xs := by
  obtain ⟨a, cap, rfl, hm, hn, hc⟩ := h
  refine ⟨a, cap, rfl, hm, hn, fun j hj => ?_⟩
  obtain ⟨b, off, ha, hb, hcell⟩ := hc j hj
  refine ⟨b, off, ha, Nat.lt_of_lt_of_le hb g.size, ?_⟩
  rw [List.getElem?_eq_getElem hj] at hcell ⊢
  exact g.cell _ _ hcell
/-- some blocks made empty -/
def mask (w : World) (L : List Nat) : World := { w with heap := w.heap.mapIdx fun b o => if L.contains b then .cells #[] 0 else o }
theorem mask_size (w : World) (L : List Nat) : (mask w L).heap.size = w.heap.size := by simp [mask]
theorem mask_out (w : World) {L : List Nat} {b : Nat} (h : b ∉ L) : (mask w L).heap[b]? = w.heap[b]? := by
  show (w.heap.mapIdx _)[b]? = _
  rw [Array.getElem?_mapIdx]
  cases w.heap[b]? with
  | none => rfl
  | some o => simp [h]
theorem mask_cell {w : World} {L : List Nat} {a : Addr} {v : Value} (h : (mask w L).cell? a = some v) : a.block ∉ L := by
  intro hb
  have hlt := cell_lt h
  rw [mask_size] at hlt
  unfold World.cell? at h
  have : (mask w L).heap[a.block]? = some (.cells #[] 0) := by
    show (w.heap.mapIdx _)[a.block]? = _
    rw [Array.getElem?_mapIdx, Array.getElem?_eq_getElem hlt]
    simp [hb]
  rw [this] at h
  simp at h
theorem mask_sub {w w' : World} {L L' : List Nat} (hs : w.heap.size ≤ w'.heap.size) (h : ∀ b, b < w.heap.size → b ∉ L → b ∉ L' ∧ w'.heap[b]? = w.heap[b]?) : Sub (mask w L) (mask w' L') := by
  refine ⟨by rw [mask_size, mask_size]; exact hs, fun a v hc => ?_⟩
  have hl := cell_lt hc
  rw [mask_size] at hl
  have hb := mask_cell hc
  obtain ⟨h1, h2⟩ := h a.block hl hb
  exact (World.cell?_of_block (((mask_out w' h1).trans h2).trans (mask_out w hb).symm)).trans hc
theorem mask_self (w : World) (L : List Nat) : Sub (mask w L) w := by
  refine ⟨by rw [mask_size]; exact Nat.le_refl _, fun a v hc => ?_⟩
  exact (World.cell?_of_block (mask_out w (mask_cell hc)).symm).trans hc
theorem mask_grow {w w' : World} {L : List Nat} (g : Flow.Grow w w') : Sub (mask w L) (mask w' L) := mask_sub g.size fun b hb hn => ⟨hn, g.block b hb (by simp)⟩
/-- a block that is masked turns -/
theorem mask_by {w w' : World} {L : List Nat} {r : Option Nat} (k : w.grownBy w' r) (h : ∀ g, r = some g → g ∈ L) : Sub (mask w L) (mask w' L) :=
  mask_sub k.size fun b hb hn => ⟨hn, k.block b hb fun e => hn (h b e.symm)⟩
/-- blocks that are not there yet may be masked -/
theorem mask_more {w : World} {L L' : List Nat} (h : ∀ b ∈ L', b ∈ L ∨ w.heap.size ≤ b) : Sub (mask w L) (mask w L') :=
  mask_sub (Nat.le_refl _) fun b hb hn => ⟨fun hm => (h b hm).elim hn (by omega), rfl⟩
/-- the world, where what is masked is not there yet -/
theorem mask_of {w w' : World} {L : List Nat} (g : Sub w w') (h : ∀ b ∈ L, w.heap.size ≤ b) : Sub w (mask w' L) := by
  refine ⟨by rw [mask_size]; exact g.size, fun a v hc => ?_⟩
  have hl := cell_lt hc
  have hb : a.block ∉ L := fun hm => by have := h _ hm; omega
  exact (World.cell?_of_block (mask_out w' hb)).trans (g.cell a v hc)
theorem mask_own {w : World} {B e sz n : Nat} {L : List Nat} {v : Value} {xs : List Value} (h : w.ownsRow B e sz v n xs) (hL : ∀ b, v.ownBlock = some b → b ∉ L) : (mask w L).ownsRow B e sz v n xs := by
  refine ⟨h.1, ?_⟩
  rcases h.2 with hn | ⟨g, cap, cur, hv, hB, hg, hr⟩
  · exact .inl hn
  · exact .inr ⟨g, cap, cur, hv, hB, (mask_out w (hL g (by rw [hv]; rfl))).trans hg, hr⟩
theorem Flow.by_none {w w' : World} (h : w.grownBy w' none) : Flow.Grow w w' := h
/-- by growth, but for one block -/
theorem by_trans {w w1 w2 : World} {r : Option Nat} (h : w.grownBy w1 r) (k : w1.grownBy w2 r) : w.grownBy w2 r :=
  ⟨k.os.trans h.os, k.tape.trans h.tape, k.output.trans h.output, Nat.le_trans h.size k.size, fun b hb hr => (k.block b (Nat.lt_of_lt_of_le hb h.size) hr).trans (h.block b hb hr)⟩
theorem by_grow {w w1 : World} {r : Option Nat} (h : Flow.Grow w w1) : w.grownBy w1 r := ⟨h.os, h.tape, h.output, h.size, fun b hb _ => h.block b hb (by simp)⟩
theorem by_set (w : World) (g q : Nat) (u : Value) : w.grownBy (w.setCell ⟨g, q, none⟩ u) (some g) :=
  ⟨rfl, rfl, rfl, by simp [World.setCell], fun i hi hne => Below.heap_setCell _ _ _ _ (by intro e; exact hne (by rw [e]))⟩
end Go.Proofs.Ytcnmaplopbbmaaa
namespace Go.Proofs.Ytcnmaplopbbmaaa
open Go.RowKit
theorem lay_cell {w w' : World} (g : Flow.Grow w w') {X : Nat} {cs : Array Value} {T : TypeId} {k : Nat} {v : Value} (h : w.heap[X]? = some (.cells cs T (0, 0))) (hk : cs[k]? = some v) : w'.cell? ⟨X, k, none⟩ = some v := by
  have hb : w'.heap[X]? = _ := (g.block X (Array.getElem?_eq_some_iff.1 h).1 (by simp)).trans h
  exact (cell_of_row w' X k _ _ _ hb).trans hk
theorem lay_frozen {w w' : World} (g : Flow.Grow w w') {X : Nat} {cs : Array Value} {T : TypeId} (h : w.heap[X]? = some (.cells cs T (0, 0))) (k : Nat) : w'.frozen? ⟨X, k, none⟩ = false :=
  frozen_of_row w' X k _ _ ((g.block X (Array.getElem?_eq_some_iff.1 h).1 (by simp)).trans h)
theorem heap_keep {w w' : World} (g : Flow.Grow w w') {A : Nat} {o : Obj} (h : w.heap[A]? = some o) : w'.heap[A]? = some o :=
  (g.block A (Array.getElem?_eq_some_iff.1 h).1 (by simp)).trans h
/-- a write into one block lets the others be -/
theorem set_other {w : World} {g q : Nat} {u : Value} {k : Nat} {o : Obj} (h : w.heap[k]? = some o) (hk : k ≠ g) : (w.setCell ⟨g, q, none⟩ u).heap[k]? = some o := by
  have hl := (Array.getElem?_eq_some_iff.1 h).1
  rw [(by_set w g q u).block k hl (by simpa using hk)]
  exact h
theorem set_cells {w : World} {g : Nat} {T : TypeId} {cs : Array Value} (h : w.heap[g]? = some (.cells cs T (0, 0))) (q : Nat) (u : Value) : (w.setCell ⟨g, q, none⟩ u).heap[g]? = some (.cells (cs.setIfInBounds q u) T (0, 0)) := heap_setCell_same w g q cs T u h
theorem set_grow {w0 w : World} {g : Nat} (h : Flow.Grow w0 w) (hg : w0.heap.size ≤ g) (q : Nat) (u : Value) : Flow.Grow w0 (w.setCell ⟨g, q, none⟩ u) := by
  have k := by_trans (by_grow (r := some g) h) (by_set w g q u)
  exact ⟨k.os, k.tape, k.output, k.size, fun b hb _ => k.block b hb (fun e => by cases e; omega)⟩
theorem lay_old (w : World) (o : Obj) {k : Nat} {p : Obj} (h : w.heap[k]? = some p) : (w.alloc o).heap[k]? = some p := by
  rw [Below.heap_alloc _ _ _ (Array.getElem?_eq_some_iff.1 h).1]; exact h
theorem lay_new (w : World) (o : Obj) {k : Nat} (h : w.heap.size = k) : (w.alloc o).heap[k]? = some o := by subst h; exact heap_alloc_new _ _
theorem lay1_0 (w : World) (o0 : Obj) : (w.alloc o0).heap[w.heap.size]? = some o0 := lay_new _ _ (by simp)
theorem lay1_g (w : World) (o0 : Obj) : Flow.Grow w (w.alloc o0) := Flow.grow_alloc _ _
theorem lay2_0 (w : World) (o0 o1 : Obj) : ((w.alloc o0).alloc o1).heap[w.heap.size]? = some o0 := lay_old _ _ (lay_new _ _ (by simp))
theorem lay2_1 (w : World) (o0 o1 : Obj) : ((w.alloc o0).alloc o1).heap[w.heap.size + 1]? = some o1 := lay_new _ _ (by simp)
theorem lay2_g (w : World) (o0 o1 : Obj) : Flow.Grow w ((w.alloc o0).alloc o1) := (Flow.grow_alloc _ _).trans (Flow.grow_alloc _ _)
theorem lay3_0 (w : World) (o0 o1 o2 : Obj) : (((w.alloc o0).alloc o1).alloc o2).heap[w.heap.size]? = some o0 := lay_old _ _ (lay_old _ _ (lay_new _ _ (by simp)))
theorem lay3_1 (w : World) (o0 o1 o2 : Obj) : (((w.alloc o0).alloc o1).alloc o2).heap[w.heap.size + 1]? = some o1 := lay_old _ _ (lay_new _ _ (by simp))
theorem lay3_2 (w : World) (o0 o1 o2 : Obj) : (((w.alloc o0).alloc o1).alloc o2).heap[w.heap.size + 1 + 1]? = some o2 := lay_new _ _ (by simp)
theorem lay3_g (w : World) (o0 o1 o2 : Obj) : Flow.Grow w (((w.alloc o0).alloc o1).alloc o2) := ((Flow.grow_alloc _ _).trans (Flow.grow_alloc _ _)).trans (Flow.grow_alloc _ _)
theorem lay4_0 (w : World) (o0 o1 o2 o3 : Obj) : ((((w.alloc o0).alloc o1).alloc o2).alloc o3).heap[w.heap.size]? = some o0 := lay_old _ _ (lay_old _ _ (lay_old _ _ (lay_new _ _ (by simp))))
theorem lay4_1 (w : World) (o0 o1 o2 o3 : Obj) : ((((w.alloc o0).alloc o1).alloc o2).alloc o3).heap[w.heap.size + 1]? = some o1 := lay_old _ _ (lay_old _ _ (lay_new _ _ (by simp)))
theorem lay4_2 (w : World) (o0 o1 o2 o3 : Obj) : ((((w.alloc o0).alloc o1).alloc o2).alloc o3).heap[w.heap.size + 1 + 1]? = some o2 := lay_old _ _ (lay_new _ _ (by simp))
theorem lay4_3 (w : World) (o0 o1 o2 o3 : Obj) : ((((w.alloc o0).alloc o1).alloc o2).alloc o3).heap[w.heap.size + 1 + 1 + 1]? = some o3 := lay_new _ _ (by simp)
theorem lay4_g (w : World) (o0 o1 o2 o3 : Obj) : Flow.Grow w ((((w.alloc o0).alloc o1).alloc o2).alloc o3) := (((Flow.grow_alloc _ _).trans (Flow.grow_alloc _ _)).trans (Flow.grow_alloc _ _)).trans (Flow.grow_alloc _ _)
theorem lay5_0 (w : World) (o0 o1 o2 o3 o4 : Obj) : (((((w.alloc o0).alloc o1).alloc o2).alloc o3).alloc o4).heap[w.heap.size]? = some o0 := lay_old _ _ (lay_old _ _ (lay_old _ _ (lay_old _ _ (lay_new _ _ (by simp)))))
theorem lay5_1 (w : World) (o0 o1 o2 o3 o4 : Obj) : (((((w.alloc o0).alloc o1).alloc o2).alloc o3).alloc o4).heap[w.heap.size + 1]? = some o1 := lay_old _ _ (lay_old _ _ (lay_old _ _ (lay_new _ _ (by simp))))
theorem lay5_2 (w : World) (o0 o1 o2 o3 o4 : Obj) : (((((w.alloc o0).alloc o1).alloc o2).alloc o3).alloc o4).heap[w.heap.size + 1 + 1]? = some o2 := lay_old _ _ (lay_old _ _ (lay_new _ _ (by simp)))
theorem lay5_3 (w : World) (o0 o1 o2 o3 o4 : Obj) : (((((w.alloc o0).alloc o1).alloc o2).alloc o3).alloc o4).heap[w.heap.size + 1 + 1 + 1]? = some o3 := lay_old _ _ (lay_new _ _ (by simp))
theorem lay5_4 (w : World) (o0 o1 o2 o3 o4 : Obj) : (((((w.alloc o0).alloc o1).alloc o2).alloc o3).alloc o4).heap[w.heap.size + 1 + 1 + 1 + 1]? = some o4 := lay_new _ _ (by simp)
theorem lay5_g (w : World) (o0 o1 o2 o3 o4 : Obj) : Flow.Grow w (((((w.alloc o0).alloc o1).alloc o2).alloc o3).alloc o4) := ((((Flow.grow_alloc _ _).trans (Flow.grow_alloc _ _)).trans (Flow.grow_alloc _ _)).trans (Flow.grow_alloc _ _)).trans (Flow.grow_alloc _ _)
theorem lay6_0 (w : World) (o0 o1 o2 o3 o4 o5 : Obj) : ((((((w.alloc o0).alloc o1).alloc o2).alloc o3).alloc o4).alloc o5).heap[w.heap.size]? = some o0 := lay_old _ _ (lay_old _ _ (lay_old _ _ (lay_old _ _ (lay_old _ _ (lay_new _ _ (by simp))))))
theorem lay6_1 (w : World) (o0 o1 o2 o3 o4 o5 : Obj) : ((((((w.alloc o0).alloc o1).alloc o2).alloc o3).alloc o4).alloc o5).heap[w.heap.size + 1]? = some o1 := lay_old _ _ (lay_old _ _ (lay_old _ _ (lay_old _ _ (lay_new _ _ (by simp)))))
theorem lay6_2 (w : World) (o0 o1 o2 o3 o4 o5 : Obj) : ((((((w.alloc o0).alloc o1).alloc o2).alloc o3).alloc o4).alloc o5).heap[w.heap.size + 1 + 1]? = some o2 := lay_old _ _ (lay_old _ _ (lay_old _ _ (lay_new _ _ (by simp))))
theorem lay6_3 (w : World) (o0 o1 o2 o3 o4 o5 : Obj) : ((((((w.alloc o0).alloc o1).alloc o2).alloc o3).alloc o4).alloc o5).heap[w.heap.size + 1 + 1 + 1]? = some o3 := lay_old _ _ (lay_old _ _ (lay_new _ _ (by simp)))
theorem lay6_4 (w : World) (o0 o1 o2 o3 o4 o5 : Obj) : ((((((w.alloc o0).alloc o1).alloc o2).alloc o3).alloc o4).alloc o5).heap[w.heap.size + 1 + 1 + 1 + 1]? = some o4 := lay_old _ _ (lay_new _ _ (by simp))
theorem lay6_5 (w : World) (o0 o1 o2 o3 o4 o5 : Obj) : ((((((w.alloc o0).alloc o1).alloc o2).alloc o3).alloc o4).alloc o5).heap[w.heap.size + 1 + 1 + 1 + 1 + 1]? = some o5 := lay_new _ _ (by simp)
theorem lay6_g (w : World) (o0 o1 o2 o3 o4 o5 : Obj) : Flow.Grow w ((((((w.alloc o0).alloc o1).alloc o2).alloc o3).alloc o4).alloc o5) := (((((Flow.grow_alloc _ _).trans (Flow.grow_alloc _ _)).trans (Flow.grow_alloc _ _)).trans (Flow.grow_alloc _ _)).trans (Flow.grow_alloc _ _)).trans (Flow.grow_alloc _ _)
end Go.Proofs.Ytcnmaplopbbmaaa
namespace Go.Proofs.Ytcnmaplopbbmaaa
open Go.RowKit
theorem Xm2.cell_grow {w w' : World} {a : Addr} {v : Value} (g : Flow.Grow w w') (h : w.cell? a = some v) : w'.cell? a = some v := by
  have hlt := World.block_lt_of_cell? w a h
  unfold World.cell? at h ⊢
  rw [g.block a.block hlt (by simp)]
  exact h
end Go.Proofs.Ytcnmaplopbbmaaa

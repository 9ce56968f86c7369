/- A slice that reads as a list of cells. No program. -/
import Derived.Test.YtjapakmpnkbemaaDoorOwn
import Derived.Test.YtjapakmpnkbemaaDoorFlow
namespace Go.Proofs.YtjapakmpnkbemaaDoor
open Go.RowKit

/-- a slice of n elements, of sz cells each, whose cells are xs -/
def Seg (sz : Nat) (w : World) (v : Value) (n : Nat) (xs : List Value) : Prop :=
  ∃ a cap, v = .slice a n cap ∧ xs.length = n * sz ∧ (a = none → n = 0 ∧ cap = 0) ∧ ∀ j, j < xs.length → ∃ b off, a = some ⟨b, off, none⟩ ∧ b < w.heap.size ∧ w.cell? ⟨b, off + j, none⟩ = xs[j]?

theorem Seg.shape {sz : Nat} {w : World} {v : Value} {n : Nat} {xs : List Value} (h : Seg sz w v n xs) (hl : xs ≠ []) :
    ∃ b off cap, v = .slice (some ⟨b, off, none⟩) n cap ∧ b < w.heap.size ∧ ∀ j, j < xs.length → w.cell? ⟨b, off + j, none⟩ = xs[j]? := by
  obtain ⟨a, cap, rfl, hm, _, hc⟩ := h
  have h0 : 0 < xs.length := List.length_pos_iff.2 hl
  obtain ⟨b, off, rfl, hb, _⟩ := hc 0 h0
  refine ⟨b, off, cap, rfl, hb, fun j hj => ?_⟩
  obtain ⟨b', off', e, _, h'⟩ := hc j hj
  cases e
  exact h'
theorem Seg.grow {sz : Nat} {w w' : World} {v : Value} {n : Nat} {xs : List Value} (h : Seg sz w v n xs) (g : Flow.Grow w w') : Seg sz w' v n xs := by
  obtain ⟨a, cap, rfl, hm, hn, hc⟩ := h
  refine ⟨a, cap, rfl, hm, hn, fun j hj => ?_⟩
  obtain ⟨b, off, ha, hb, hcell⟩ := hc j hj
  exact ⟨b, off, ha, Nat.lt_of_lt_of_le hb g.size, (World.cell?_of_block (g.block b hb (by simp))).trans hcell⟩
theorem Seg.of_own {sz : Nat} {w : World} {base e : Nat} {v : Value} {n : Nat} {xs : List Value} (h : w.ownsRow base e sz v n xs) : Seg sz w v n xs := by
  have hlen := h.1
  rcases h.2 with ⟨rfl, h0⟩ | ⟨g, cap, cur, rfl, _, hg, _⟩
  · subst h0
    exact ⟨none, 0, rfl, hlen, fun _ => ⟨rfl, rfl⟩, fun j hj => by omega⟩
  · refine ⟨some ⟨g, 0, none⟩, cap, rfl, hlen, by simp, fun j hj => ⟨g, 0, rfl, (Array.getElem?_eq_some_iff.1 hg).1, ?_⟩⟩
    rw [Nat.zero_add, h.cellAt j (by omega)]
theorem Seg.nil (sz : Nat) (w : World) : Seg sz w (.slice none 0 0) 0 [] := ⟨none, 0, rfl, by simp, fun _ => ⟨rfl, rfl⟩, fun j hj => by simp at hj⟩
theorem Seg.len {sz : Nat} {w : World} {a : Option Addr} {n cap : Nat} {m : Nat} {xs : List Value} (h : Seg sz w (.slice a n cap) m xs) : n = m ∧ xs.length = n * sz := by
  obtain ⟨a', cap', e, hm, _⟩ := h
  cases e
  exact ⟨rfl, hm⟩
theorem Seg.ifNone {sz : Nat} {w : World} {a : Option Addr} {n cap m : Nat} {xs : List Value} (h : Seg sz w (.slice a n cap) m xs) : a = none → n = 0 ∧ cap = 0 := by
  obtain ⟨a', cap', e, _, hn, _⟩ := h
  cases e
  exact hn
theorem Seg.cells {sz : Nat} {w : World} {a : Option Addr} {n cap m : Nat} {xs : List Value} (h : Seg sz w (.slice a n cap) m xs) : ∀ ad, a = some ad → ∀ j u, xs[j]? = some u → w.cell? (ad.add j) = some u := by
  obtain ⟨a', cap', e, _, _, hc⟩ := h
  cases e
  intro ad had j u hu
  obtain ⟨b, off, ha, _, hcell⟩ := hc j (List.getElem?_eq_some_iff.1 hu).1
  rw [ha] at had
  cases had
  rw [Addr.add_lit, hcell, hu]
theorem Seg.cut {sz : Nat} {w : World} {a : Option Addr} {n cap m : Nat} {xs : List Value} (h : Seg sz w (.slice a n cap) m xs) {k : Nat} (hk : k ≤ n) : Seg sz w (.slice a k cap) k (xs.take (k * sz)) := by
  obtain ⟨a', cap', e, h1, h2, h3⟩ := h
  cases e
  have hle : k * sz ≤ n * sz := Nat.mul_le_mul_right _ hk
  have hlen : (xs.take (k * sz)).length = k * sz := by rw [List.length_take, h1, Nat.min_eq_left hle]
  refine ⟨a, cap, rfl, hlen, fun ha => ⟨by have := (h2 ha).1; omega, (h2 ha).2⟩, fun j hj => ?_⟩
  rw [hlen] at hj
  obtain ⟨b, off, ha, hb, hcell⟩ := h3 j (by omega)
  exact ⟨b, off, ha, hb, by rw [hcell, List.getElem?_take, if_pos hj]⟩

/-- a slice of ints that reads as a list -/
def Ints (w : World) (v : Value) (zs : List Int) : Prop := Seg 1 w v zs.length (zs.map (Value.int .i64))
theorem Ints.grow {w w' : World} {v : Value} {zs : List Int} (h : Ints w v zs) (g : Flow.Grow w w') : Ints w' v zs := Seg.grow h g
theorem Ints.shape {w : World} {v : Value} {zs : List Int} (h : Ints w v zs) (hl : zs ≠ []) :
    ∃ b off cap, v = .slice (some ⟨b, off, none⟩) zs.length cap ∧ b < w.heap.size ∧ ∀ j, j < zs.length → w.cell? ⟨b, off + j, none⟩ = some (.int .i64 (zs.getD j 0)) := by
  obtain ⟨b, off, cap, hv, hb, hc⟩ := Seg.shape h (by simpa using hl)
  refine ⟨b, off, cap, hv, hb, fun j hj => ?_⟩
  rw [hc j (by simpa using hj)]
  simp [hj]

/-- a slice of truths that reads as a list -/
def Bools (w : World) (v : Value) (bs : List Bool) : Prop := Seg 1 w v bs.length (bs.map Value.bool)
theorem Bools.grow {w w' : World} {v : Value} {bs : List Bool} (h : Bools w v bs) (g : Flow.Grow w w') : Bools w' v bs := Seg.grow h g
theorem Bools.shape {w : World} {v : Value} {bs : List Bool} (h : Bools w v bs) (hl : bs ≠ []) :
    ∃ b off cap, v = .slice (some ⟨b, off, none⟩) bs.length cap ∧ b < w.heap.size ∧ ∀ j, j < bs.length → w.cell? ⟨b, off + j, none⟩ = some (.bool (bs.getD j false)) := by
  obtain ⟨b, off, cap, hv, hb, hc⟩ := Seg.shape h (by simpa using hl)
  refine ⟨b, off, cap, hv, hb, fun j hj => ?_⟩
  rw [hc j (by simpa using hj)]
  simp [hj]

/-- a slice of slices of ints that reads as lists -/
def Rows2 (w : World) (v : Value) (zss : List (List Int)) : Prop :=
  ∃ vs : List Value, Seg 1 w v zss.length vs ∧ ∀ i, i < zss.length → Ints w (vs.getD i undef) (zss.getD i [])
theorem Rows2.grow {w w' : World} {v : Value} {zss : List (List Int)} (h : Rows2 w v zss) (g : Flow.Grow w w') : Rows2 w' v zss := by
  obtain ⟨vs, h1, h2⟩ := h
  exact ⟨vs, h1.grow g, fun i hi => (h2 i hi).grow g⟩
theorem Rows2.val {w : World} {v : Value} {zss : List (List Int)} (h : Rows2 w v zss) : ∃ a cap, v = .slice a zss.length cap := by
  obtain ⟨vs, ⟨a, cap, hv, _⟩, _⟩ := h
  exact ⟨a, cap, hv⟩
theorem Rows2.shape {w : World} {v : Value} {zss : List (List Int)} (h : Rows2 w v zss) (hl : zss ≠ []) :
    ∃ b off cap, v = .slice (some ⟨b, off, none⟩) zss.length cap ∧ b < w.heap.size ∧ ∀ j, j < zss.length → ∃ u, w.cell? ⟨b, off + j, none⟩ = some u ∧ Ints w u (zss.getD j []) := by
  obtain ⟨vs, h1, h2⟩ := h
  have hlen : vs.length = zss.length := by
    obtain ⟨a, cap, _, hm, _⟩ := h1
    simpa using hm
  obtain ⟨b, off, cap, hv, hb, hc⟩ := h1.shape (by intro e; rw [e] at hlen; exact hl (List.eq_nil_of_length_eq_zero hlen.symm))
  refine ⟨b, off, cap, hv, hb, fun j hj => ⟨vs.getD j undef, ?_, h2 j hj⟩⟩
  rw [hc j (by omega)]
  simp [show j < vs.length by omega]
end Go.Proofs.YtjapakmpnkbemaaDoor

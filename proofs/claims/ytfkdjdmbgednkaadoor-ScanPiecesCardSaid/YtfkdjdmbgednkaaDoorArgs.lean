/- What is known of arguments that read: slices of numbers and of texts. -/
import Derived.Test.YtfkdjdmbgednkaaDoorSPieces
import Derived.Deep.Strs
import Derived.ChangeSlices
namespace Go.Proofs.YtfkdjdmbgednkaaDoor
open Go.ChangeShapes Go.RowKit Go.Deep
namespace Xm
theorem cell_addr {W : World} {x : Addr} {v : Value} (h : W.cell? (x.add 0) = some v) : ∃ g off, x = ⟨g, off, none⟩ ∧ g < W.heap.size := by
  obtain ⟨g, off, sp⟩ := x
  cases sp with
  | none =>
    rw [Addr.add_lit] at h
    exact ⟨g, off, rfl, World.block_lt_of_cell? W _ h⟩
  | some s =>
    exfalso
    unfold World.cell? Addr.add at h
    simp at h
    split at h
    · simp at h
    · cases h
theorem inStr_of {P : Program} {W : World} {H : Type} {enc : TypeId × Value → H} {t e : TypeId} {a : Option Addr} {n c : Nat} {d : DataW H} {ps : List MemPlace} (ht : P.underlying t = some (.slice e)) (he : P.underlying e = some .string) (hc : P.cellsOf e = 1)
    (h : DataW.Trod enc P W 0 (fun _ => true) true t (.slice a n c) d ps) : InStr W a n := by
  obtain ⟨fuel, hf⟩ := h
  rcases open_strs ht he hc hf with ⟨hcs, _⟩ | ⟨x, l, c', m, Sx, hcs, _, hl, hm, hmm, _, hcell⟩
  · simp [Value.cells] at hcs
    obtain ⟨rfl, rfl, rfl⟩ := hcs
    intro i hi
    omega
  · simp [Value.cells] at hcs
    obtain ⟨rfl, rfl, rfl⟩ := hcs
    simp at hmm
    intro i hi
    obtain ⟨g, off, rfl, h3⟩ := cell_addr (hcell 0 (by omega)).1
    obtain ⟨h1, h2⟩ := hcell i (by omega)
    rw [Addr.add_lit] at h1
    exact ⟨g, off, _, rfl, h3, h1, h2⟩
theorem inInt_of {P : Program} {W : World} {H : Type} {enc : TypeId × Value → H} {t e : TypeId} {a : Option Addr} {n c : Nat} {d : DataW H} {ps : List MemPlace} (ht : P.underlying t = some (.slice e)) (he : P.underlying e = some (.int .i64)) (hc : P.cellsOf e = 1)
    (h : DataW.Trod enc P W 0 (fun _ => true) true t (.slice a n c) d ps) : InInt W a n := by
  obtain ⟨fuel, hf⟩ := h
  rcases open_ints ht he hc hf with ⟨hcs, _⟩ | ⟨x, l, c', zs, hcs, _, hl, hm, hz, _, hcell, hwz⟩
  · simp [Value.cells] at hcs
    obtain ⟨rfl, rfl, rfl⟩ := hcs
    intro i hi
    omega
  · simp [Value.cells] at hcs
    obtain ⟨rfl, rfl, rfl⟩ := hcs
    simp at hz
    intro i hi
    obtain ⟨g, off, rfl, h3⟩ := cell_addr (hcell 0 (by omega))
    have h1 := hcell i (by omega)
    rw [Addr.add_lit] at h1
    exact ⟨g, off, _, rfl, h3, h1⟩
end Xm
end Go.Proofs.YtfkdjdmbgednkaaDoor

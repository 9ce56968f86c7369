/- What came in: slices of arrays of integers, arrays of integers. No program. -/
/- What is known of an argument that is a slice of numbers. -/
import Derived.Test.YtcnmaplopbbmaaaMAd
import Derived.Deep.Slices
import Derived.OpenShut
import Derived.Deep.Strs
import Derived.ChangeSlices
namespace Go.Proofs.Ytcnmaplopbbmaaa
open Go.RowKit Go.Deep

section
variable {H : Type} {enc : TypeId × Value → H} {P : Program} {w : World} {base : Nat} {spare : Nat → Bool} {held : Bool} {k : IntKind} {n : Nat} {t e i : TypeId}

theorem open_array_ints (he : P.underlying e = some (.array n i)) (hi : P.underlying i = some (.int k)) (hci : P.cellsOf i = 1) (hce : P.cellsOf e = n) {fuel : Nat} {cs : List Value} {x : DataW H × List MemPlace}
    (h : DataW.trod enc P w base spare held fuel e cs = some x) : ∃ zs : List Int, cs = zs.map (Value.int k) ∧ zs.length = n ∧ ∀ z ∈ zs, (Lit.int k z).wf = true := by
  obtain ⟨xs, m, _, _, hl, hxl, hel⟩ := DataW.trod_array he h
  rw [hce] at hl
  rw [hci] at hel
  have key : ∀ j, j < n → ∃ z, cs[j]? = some (.int k z) ∧ (Lit.int k z).wf = true := fun j hj => by
    have h1 := hel j hj
    rw [List.getElem?_eq_getElem (show j < xs.length by omega)] at h1
    obtain ⟨z, hc, _, hw⟩ := DataW.trod_int hi h1
    refine ⟨z, ?_, hw⟩
    have := congrArg (·[0]?) hc
    simpa [List.getElem?_take, List.getElem?_drop] using this
  refine ⟨cs.map intOf, ?_, by simpa using hl, ?_⟩
  · refine List.ext_getElem? fun j => ?_
    by_cases hj : j < n
    · obtain ⟨z, hz, _⟩ := key j hj
      simp [hz, intOf]
    · rw [List.getElem?_eq_none (by omega), List.getElem?_eq_none (by simp; omega)]
  · intro z hz
    obtain ⟨c, hc, rfl⟩ := List.mem_map.1 hz
    obtain ⟨j, hj, rfl⟩ := List.mem_iff_getElem.1 hc
    obtain ⟨z, hz, hw⟩ := key j (by omega)
    rw [List.getElem?_eq_getElem hj] at hz
    cases hz' : cs[j] with
    | _ => rw [hz'] at hz; first | (cases hz; exact hw) | (simp at hz)

theorem open_rows (ht : P.underlying t = some (.slice e)) (he : P.underlying e = some (.array n i)) (hi : P.underlying i = some (.int k)) (hci : P.cellsOf i = 1) (hce : P.cellsOf e = n) {fuel : Nat} {cs : List Value} {x : DataW H × List MemPlace}
    (h : DataW.trod enc P w base spare held fuel t cs = some x) :
    ∃ (a : Option Addr) (len cap : Nat) (zs : List Int), cs = [.slice a len cap] ∧ len ≤ cap ∧ cap ≤ maxLen ∧ Seg n w (.slice a len cap) len (zs.map (Value.int k)) ∧ ∀ z ∈ zs, (Lit.int k z).wf = true := by
  rcases open_slice ht h with ⟨rfl, _⟩ | ⟨a, len, cap, m, fu, D, Pl, rfl, _, hl, hm, hmm, _, hel⟩
  · exact ⟨none, 0, 0, [], rfl, Nat.le_refl _, Nat.zero_le _, Seg.nil n w, by simp⟩
  · have hle : len ≤ m := by rw [hmm]; split <;> omega
    have key : ∀ j, j < len → ∃ zs : List Int, zs.length = n ∧ (∀ z ∈ zs, (Lit.int k z).wf = true) ∧ ∀ q, q < n → w.cell? (a.add (j * n + q)) = some (.int k (zs.getD q 0)) := fun j hj => by
      obtain ⟨cs', h1, h2⟩ := hel j (by omega)
      rw [hce] at h1
      obtain ⟨zs, rfl, hzl, hw⟩ := open_array_ints he hi hci hce h2
      obtain ⟨_, _, hc⟩ := World.cells?_some h1
      refine ⟨zs, hzl, hw, fun q hq => ?_⟩
      have := hc q hq
      rw [add_add] at this
      rw [this]
      simp [show q < zs.length by omega]
    have all : ∀ L, L ≤ len → ∃ zs : List Int, zs.length = L * n ∧ (∀ z ∈ zs, (Lit.int k z).wf = true) ∧ ∀ q, q < L * n → w.cell? (a.add q) = some (.int k (zs.getD q 0)) := by
      intro L
      induction L with
      | zero => exact fun _ => ⟨[], by simp, by simp, fun q hq => by omega⟩
      | succ L ih =>
        intro hL
        obtain ⟨zs, h1, h2, h3⟩ := ih (by omega)
        obtain ⟨ys, k1, k2, k3⟩ := key L (by omega)
        refine ⟨zs ++ ys, by rw [List.length_append, h1, k1, Nat.succ_mul], ?_, fun q hq => ?_⟩
        · intro z hz
          rcases List.mem_append.1 hz with hz | hz
          · exact h2 z hz
          · exact k2 z hz
        · rw [Nat.succ_mul] at hq
          by_cases hlt : q < L * n
          · rw [h3 q hlt, List.getD_eq_getElem?_getD, List.getD_eq_getElem?_getD, List.getElem?_append_left (show q < zs.length by omega)]
          · have := k3 (q - L * n) (by omega)
            rw [show L * n + (q - L * n) = q by omega] at this
            rw [this, List.getD_eq_getElem?_getD, List.getD_eq_getElem?_getD, List.getElem?_append_right (show zs.length ≤ q by omega), h1]
    obtain ⟨zs, h1, h2, h3⟩ := all len (Nat.le_refl _)
    refine ⟨some a, len, cap, zs, rfl, hl, hm, ⟨some a, cap, rfl, by simpa using h1, by simp, fun j hj => ?_⟩, h2⟩
    have hj' : j < zs.length := by simpa using hj
    have hx := h3 j (by omega)
    obtain ⟨b, off, spot⟩ := a
    have hs : spot = none := by
      cases spot with
      | none => rfl
      | some s =>
        have h0 := h3 0 (by omega)
        have e0 : (⟨b, off, some s⟩ : Addr).add 0 = ⟨b, off, some s⟩ := rfl
        rw [e0] at h0
        unfold World.cell? at h0
        split at h0 <;> simp at h0
    subst hs
    rw [Addr.add_lit] at hx
    exact ⟨b, off, rfl, World.block_lt_of_cell? w _ hx, by rw [hx]; simp [hj']⟩
end
end Go.Proofs.Ytcnmaplopbbmaaa
namespace Go.Proofs.Ytcnmaplopbbmaaa
open Go.ChangeShapes Go.RowKit Go.Deep
theorem cell_addr1 {W : World} {x : Addr} {v : Value} (h : W.cell? (x.add 0) = some v) : ∃ g off, x = ⟨g, off, none⟩ ∧ g < W.heap.size := by
  obtain ⟨g, off, sp⟩ := x
  cases sp with
  | none =>
    rw [Addr.add_lit] at h
    exact ⟨g, off, rfl, World.block_lt_of_cell? W _ h⟩
  | some s =>
    exfalso
    unfold World.cell? Addr.add at h
    simp at h
    split at h
    · simp at h
    · cases h
theorem ints_arg {P : Program} {W : World} {H : Type} {enc : TypeId × Value → H} {t e : TypeId} {a : Option Addr} {n c : Nat} {d : DataW H} {ps : List MemPlace} (ht : P.underlying t = some (.slice e)) (he : P.underlying e = some (.int .i64)) (hc : P.cellsOf e = 1)
    (h : DataW.Trod enc P W 0 (fun _ => true) true t (.slice a n c) d ps) : ∃ zs : List Int, zs.length ≤ 9223372036854775807 ∧ Ints W (.slice a n c) zs := by
  obtain ⟨fuel, hf⟩ := h
  rcases open_ints ht he hc hf with ⟨hcs, _⟩ | ⟨x, l, c', zs, hcs, _, hl, hm, hz, _, hcell, hwz⟩
  · simp [Value.cells] at hcs
    obtain ⟨rfl, rfl, rfl⟩ := hcs
    exact ⟨[], by simp, ⟨none, 0, rfl, rfl, fun _ => ⟨rfl, rfl⟩, fun j hj => by simp at hj⟩⟩
  · simp [Value.cells] at hcs
    obtain ⟨rfl, rfl, rfl⟩ := hcs
    simp at hz
    have hle : n ≤ zs.length := by omega
    have hlen : (zs.take n).length = n := by simp; omega
    refine ⟨zs.take n, by rw [hlen]; unfold maxLen at hm; omega, ⟨some x, c, by rw [hlen], by simp, fun h => (by cases h), fun j hj => ?_⟩⟩
    have hj' : j < n := by
      have h9 := hj
      rw [List.length_map, hlen] at h9
      exact h9
    obtain ⟨g, off, rfl, h3⟩ := cell_addr1 (hcell 0 (by omega))
    have h1 := hcell j (by omega)
    rw [Addr.add_lit] at h1
    refine ⟨g, off, rfl, h3, ?_⟩
    rw [h1]
    have : j < zs.length := by omega
    simp [hj', this]
end Go.Proofs.Ytcnmaplopbbmaaa

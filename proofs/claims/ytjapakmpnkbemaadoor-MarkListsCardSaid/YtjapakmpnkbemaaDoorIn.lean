/- What came in: rows of integers as lists of bytes. No program. -/
import Derived.Test.YtjapakmpnkbemaaDoorBytes
import Derived.Test.YtjapakmpnkbemaaDoorSeg
namespace Go.Proofs.YtjapakmpnkbemaaDoor
open Go.RowKit

/-- a slice of integers that came in (the frame of the proof says it so) -/
def Row (k : IntKind) (w : World) (a : Option Addr) (len cap : Nat) (zs : List Int) : Prop :=
  (a = none ∧ len = 0 ∧ cap = 0 ∧ zs = []) ∨
  ∃ x, a = some x ∧ len ≤ cap ∧ cap ≤ maxLen ∧ zs.length = cap ∧ (∀ i, i < zs.length → w.cell? (x.add i) = some (.int k (zs.getD i 0))) ∧ ∀ n ∈ zs, (Lit.int k n).wf = true

theorem Row.le {k : IntKind} {w : World} {a : Option Addr} {len cap : Nat} {zs : List Int} (h : Row k w a len cap zs) : len ≤ cap ∧ cap ≤ maxLen ∧ zs.length = cap := by
  rcases h with ⟨_, rfl, rfl, rfl⟩ | ⟨x, _, h1, h2, h3, _⟩
  · exact ⟨Nat.le_refl _, Nat.zero_le _, rfl⟩
  · exact ⟨h1, h2, h3⟩

/-- its cells, where there is one -/
theorem Row.at {k : IntKind} {w : World} {a : Option Addr} {len cap : Nat} {zs : List Int} (h : Row k w a len cap zs) (h0 : 0 < cap) :
    ∃ b off, a = some ⟨b, off, none⟩ ∧ b < w.heap.size ∧ ∀ j, j < cap → w.cell? ⟨b, off + j, none⟩ = some (.int k (zs.getD j 0)) := by
  rcases h with ⟨_, _, rfl, _⟩ | ⟨x, rfl, h1, h2, h3, h4, _⟩
  · omega
  · have hx := h4 0 (by omega)
    obtain ⟨b, off, spot⟩ := x
    have e0 : (⟨b, off, spot⟩ : Addr).add 0 = ⟨b, off, spot⟩ := rfl
    rw [e0] at hx
    have hs : spot = none := by
      cases spot with
      | none => rfl
      | some s =>
        unfold World.cell? at hx
        split at hx <;> simp at hx
    subst hs
    refine ⟨b, off, rfl, World.block_lt_of_cell? w _ hx, fun j hj => ?_⟩
    rw [← Addr.add_lit]
    exact h4 j (by omega)

theorem byte_of_wf {n : Int} (h : (Lit.int .u8 n).wf = true) : Value.int .u8 n = u8v (UInt8.ofNat n.toNat) := by
  have : 0 ≤ n ∧ n ≤ 255 := by simpa [Lit.wf, IntKind.min, IntKind.max, IntKind.signed, IntKind.bits] using h
  rw [u8v, UInt8.toNat_ofNat']
  congr 1
  omega

theorem Row.bytes {w : World} {a : Option Addr} {len cap : Nat} {zs : List Int} (h : Row .u8 w a len cap zs) {T : Nat} (hT : T ≤ len) (hm : T ≤ 140737488351232) :
    Bytes w (.slice a T cap) ((zs.take T).map fun n => UInt8.ofNat n.toNat) := by
  obtain ⟨h1, h2, h3⟩ := h.le
  have hlen : ((zs.take T).map fun n => UInt8.ofNat n.toNat).length = T := by simp; omega
  refine ⟨a, cap, by rw [hlen], by rw [hlen]; exact hm, fun ha => ?_, fun j hj => ?_⟩
  · rcases h with ⟨_, e1, e2, _⟩ | ⟨x, rfl, _⟩
    · exact ⟨by omega, e2⟩
    · cases ha
  · rw [hlen] at hj
    obtain ⟨b, off, ha, hb, hc⟩ := h.at (by omega)
    refine ⟨b, off, ha, hb, ?_⟩
    rw [hc j (by omega)]
    have hz : j < zs.length := by omega
    have hw : (Lit.int .u8 zs[j]).wf = true := by
      rcases h with ⟨_, _, e, _⟩ | ⟨x, _, _, _, _, _, hw⟩
      · omega
      · exact hw _ (List.getElem_mem hz)
    rw [List.getD_eq_getElem?_getD, List.getElem?_eq_getElem hz, Option.getD_some, byte_of_wf hw]
    simp [hz, hj]

theorem Row.ints {w : World} {a : Option Addr} {len cap : Nat} {zs : List Int} (h : Row .i64 w a len cap zs) : Ints w (.slice a len cap) (zs.take len) ∧ (zs.take len).length = len ∧ len ≤ 9223372036854775807 := by
  obtain ⟨h1, h2, h3⟩ := h.le
  have hlen : (zs.take len).length = len := by simp; omega
  refine ⟨⟨a, cap, by rw [hlen], by simp, fun ha => ?_, fun j hj => ?_⟩, hlen, by simp only [maxLen] at h2; omega⟩
  · rcases h with ⟨_, e1, e2, _⟩ | ⟨x, rfl, _⟩
    · exact ⟨by rw [hlen]; omega, e2⟩
    · cases ha
  · rw [List.length_map, hlen] at hj
    obtain ⟨b, off, ha, hb, hc⟩ := h.at (by omega)
    refine ⟨b, off, ha, hb, ?_⟩
    rw [hc j (by omega)]
    have hz : j < zs.length := by omega
    simp [hz, hj]
theorem wf_i64 {n : Int} (h : (Lit.int .i64 n).wf = true) : -9223372036854775808 ≤ n ∧ n ≤ 9223372036854775807 := by
  simpa [Lit.wf, IntKind.min, IntKind.max, IntKind.signed, IntKind.bits] using h
theorem Row.wf {k : IntKind} {w : World} {a : Option Addr} {len cap : Nat} {zs : List Int} (h : Row k w a len cap zs) : ∀ n ∈ zs, (Lit.int k n).wf = true := by
  rcases h with ⟨_, _, _, rfl⟩ | ⟨x, _, _, _, _, _, hw⟩
  · intro n hn; cases hn
  · exact hw
end Go.Proofs.YtjapakmpnkbemaaDoor

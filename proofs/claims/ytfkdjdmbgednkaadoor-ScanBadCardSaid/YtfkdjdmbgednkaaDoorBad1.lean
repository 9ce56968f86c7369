/- galliardlaw04.ScanBad: the documents that are no pieces, and what is told of them; a text that is too long. -/
import Derived.Test.YtfkdjdmbgednkaaDoorScan13
import Derived.Test.YtfkdjdmbgednkaaDoorPlain
import Derived.Laws.OwnMore
namespace Go.Proofs.YtfkdjdmbgednkaaDoor
open Go.RowKit
namespace Xm
def badDocs : List ByteArray := [⟨#[60, 49, 62]⟩, ⟨#[60, 97, 32, 98, 62]⟩, ⟨#[60, 97, 32, 98, 61, 99, 62]⟩, ⟨#[60, 97, 32, 98, 61, 39, 60, 39, 62]⟩, ⟨#[60, 97, 32, 98, 61, 39, 120, 39, 99, 61, 39, 121, 39, 62]⟩, ⟨#[60, 97, 32, 98, 61, 39, 39, 32, 98, 61, 39, 39, 62]⟩, ⟨#[38, 120, 59]⟩, ⟨#[60, 97]⟩, ⟨#[60, 47, 97]⟩, ⟨#[60, 33, 45, 45, 32, 45, 45, 32, 45, 45, 62]⟩, ⟨#[60, 33, 91, 67, 68, 65, 84, 65, 91]⟩, ⟨#[60, 97, 58, 98, 58, 99, 62]⟩, ⟨#[60, 32, 97, 62]⟩, ⟨#[60, 63, 120]⟩, ⟨#[1]⟩, ⟨#[60, 97, 32, 98, 61, 39, 38, 39, 47, 62]⟩]
def badAts : List Int := [1, 4, 5, 6, 8, 8, 0, 2, 3, 0, 9, 1, 1, 0, 0, 6]
def badErrs : List Int := [3, 3, 3, 3, 3, 7, 3, 3, 3, 3, 3, 3, 3, 3, 3, 3]
def badQ : ByteArray := ⟨#[60, 113, 47, 62]⟩
def badDoc (j : Nat) : ByteArray := badDocs.getD j ByteArray.empty
def badAt (j : Nat) : Int := badAts.getD j 0
def badErr (j : Nat) : Int := badErrs.getD j 0
theorem bad_cases {j : Nat} (h : j < 16) : j = 0 ∨ j = 1 ∨ j = 2 ∨ j = 3 ∨ j = 4 ∨ j = 5 ∨ j = 6 ∨ j = 7 ∨ j = 8 ∨ j = 9 ∨ j = 10 ∨ j = 11 ∨ j = 12 ∨ j = 13 ∨ j = 14 ∨ j = 15 := by omega
theorem bad_new {j : Nat} (h : j < 16) : newT (badQ ++ badDoc j) = ⟨0, 0, 0⟩ := by
  rcases bad_cases h with rfl | rfl | rfl | rfl | rfl | rfl | rfl | rfl | rfl | rfl | rfl | rfl | rfl | rfl | rfl | rfl <;> kernel_rfl
theorem bad_size {j : Nat} (h : j < 16) : 4 ≤ (badQ ++ badDoc j).size ∧ (badQ ++ badDoc j).size ≤ 100 := by
  rcases bad_cases h with rfl | rfl | rfl | rfl | rfl | rfl | rfl | rfl | rfl | rfl | rfl | rfl | rfl | rfl | rfl | rfl <;> exact ⟨by decide, by decide⟩
theorem bad_first {j : Nat} (h : j < 16) : nextR (badQ ++ badDoc j) ⟨0, 0, 0⟩ = (⟨3, ⟨#[113]⟩, [], ⟨#[]⟩, 0⟩, ⟨4, 0, 0⟩) := by
  rcases bad_cases h with rfl | rfl | rfl | rfl | rfl | rfl | rfl | rfl | rfl | rfl | rfl | rfl | rfl | rfl | rfl | rfl <;> kernel_rfl
theorem bad_second {j : Nat} (h : j < 16) : (nextR (badQ ++ badDoc j) ⟨4, 0, 0⟩).1 = ⟨0, ⟨#[]⟩, [], ⟨#[]⟩, 0⟩ ∧ (nextR (badQ ++ badDoc j) ⟨4, 0, 0⟩).2.e = badErr j ∧ (nextR (badQ ++ badDoc j) ⟨4, 0, 0⟩).2.bad = 4 + badAt j := by
  rcases bad_cases h with rfl | rfl | rfl | rfl | rfl | rfl | rfl | rfl | rfl | rfl | rfl | rfl | rfl | rfl | rfl | rfl <;> exact ⟨by kernel_rfl, by kernel_rfl, by kernel_rfl⟩
theorem badErr_ne {j : Nat} (h : j < 16) : badErr j ≠ 0 := by
  rcases bad_cases h with rfl | rfl | rfl | rfl | rfl | rfl | rfl | rfl | rfl | rfl | rfl | rfl | rfl | rfl | rfl | rfl <;> decide
theorem rplain_size (s : ByteArray) : ∀ (d k : Nat) (acc : ByteArray), s.size - k = d → k ≤ s.size → (rplain s k acc).size ≤ acc.size + (s.size - k) := by
  intro d
  induction d using Nat.strongRecOn with
  | _ d ih =>
    intro k acc hd hk
    rw [rplain]
    split
    · rename_i hlt
      split
      · have h := ih (s.size - (k + 1)) (by omega) (k + 1) (acc ++ ⟨#[120]⟩) rfl (by omega)
        rw [ByteArray.size_append] at h
        have h1 : (⟨#[120]⟩ : ByteArray).size = 1 := rfl
        omega
      · rename_i h0
        rw [not_or] at h0
        have hbd := rg_bd hk
        have h00 := h0.1
        have h := ih (s.size - (k + (rg s k).2.toNat)) (by omega) (k + (rg s k).2.toNat) (acc ++ s.extract k (k + (rg s k).2.toNat)) rfl (by omega)
        rw [ByteArray.size_append] at h
        have h1 : (s.extract k (k + (rg s k).2.toNat)).size = (rg s k).2.toNat := by simp; omega
        omega
    · omega
/-- a text, and a byte that is none behind it -/
theorem bad_text {b : ByteArray} (h : ∃ L, Ok L ∧ b = str (cat L)) (hb : b.size ≤ 1000) : newT (b ++ ⟨#[255]⟩) = ⟨0, 2, b.size⟩ := by
  obtain ⟨L, hL, rfl⟩ := h
  have h1 := bad_255 L (fun r hr => (hL r hr).1)
  have h2 : (str (cat L) ++ (⟨#[255]⟩ : ByteArray)) = str (cat L ++ [255]) := by rw [← str_append]; rfl
  have h3 : (str (cat L ++ [255])).size ≤ 200000 := by rw [str_size, List.length_append]; rw [str_size] at hb; simp; omega
  rw [h2, newT, if_neg (by omega), h1, if_pos (by omega), str_size]
  rfl
theorem big_new {z : ByteArray} (h : 200000 < z.size) : newT z = ⟨0, 5, 200000⟩ := by rw [newT, if_pos h]; rfl
theorem next_done {s : ByteArray} {p : P3} (h : p.e ≠ 0) : nextR s p = (⟨0, ByteArray.empty, [], ByteArray.empty, 0⟩, p) := by
  have h1 : asides s (s.size + 1) p = p := by
    unfold asides
    rw [if_neg (by simp [h])]
  unfold nextR
  rw [h1, if_pos (.inl h)]
  rfl
end Xm
theorem make_big : ∃ (M : Array Value) (Z : ByteArray), 200000 < Z.size ∧ Z.size ≤ 900000000 ∧
    (∀ w : World, (Instr.makeSlice 41 (.int .i64 200001) (.int .i64 200001)).run Tryd.prog w = .ok (.slice (some ⟨w.heap.size, 0, none⟩) 200001 200001) (w.alloc (.cells M 5))) ∧
    ∀ w : World, (convert 41 9 (.slice (some ⟨w.heap.size, 0, none⟩) 200001 200001)).run Tryd.prog (w.alloc (.cells M 5)) = .ok (.string Z) (w.alloc (.cells M 5)) := by
  obtain ⟨i, hi, hz, hs, hb⟩ : ∃ i, Tryd.prog.info? 5 = some i ∧ i.zero = some (.int .u8 0) ∧ i.size = 1 ∧ i.bytes = 1 := by
    have h := info_byte
    cases hi : Tryd.prog.info? 5 with
    | none => rw [hi] at h; cases h
    | some i => rw [hi] at h; simp at h; exact ⟨i, rfl, h.1, h.2.1, h.2.2⟩
  obtain ⟨n, hn⟩ : ∃ n : Nat, n = 200001 := ⟨_, rfl⟩
  have hn' : (200001 : Int) = (n : Int) := by omega
  rw [hn', ← hn]
  refine ⟨madeCells #[.int .u8 0] n, str (List.replicate n 0), by rw [str_size, List.length_replicate]; omega, by rw [str_size, List.length_replicate]; omega, fun w => ?_, fun w => ?_⟩
  · have := run_make (P := Tryd.prog) w 41 5 i (.int .u8 0) Tryd.underlying41 hi hz .i64 .i64 n n (by omega) (by omega) (by rw [hb]; omega) (by omega)
    rw [this, hs, Nat.mul_one, Int.toNat_natCast]
    rfl
  · have hB : Bytes (w.alloc (.cells (madeCells #[.int .u8 0] n) 5)) (.slice (some ⟨w.heap.size, 0, none⟩) n n) (List.replicate n 0) := by
      refine Bytes.of_own (base := 0) (e := 5) (n := n) ?_ (by rw [List.length_replicate]; omega)
      have := World.ownsRow_lit (base := 0) w (madeCells #[.int .u8 0] n) n (e := 5) (size := 1) (Nat.zero_le _) (by unfold maxLen; omega) (by rw [size_madeCells]; omega)
      rw [toList_madeCells_one] at this
      rw [List.map_replicate]
      exact this
    exact run_str hB 41 9 5 Tryd.underlying41 Tryd.underlying5 Tryd.underlying9
end Go.Proofs.YtfkdjdmbgednkaaDoor

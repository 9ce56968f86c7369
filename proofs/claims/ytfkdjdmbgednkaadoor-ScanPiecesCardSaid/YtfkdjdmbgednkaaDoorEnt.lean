/- entity.digit, number, named, One by their contracts. -/
import Derived.Test.YtfkdjdmbgednkaaDoorSplit
import Derived.Test.YtfkdjdmbgednkaaDoorFlow
namespace Go.Proofs.YtfkdjdmbgednkaaDoor
open Go.RowKit
namespace Xm
theorem ne_f {a b : ByteArray} (h : ¬ a = b) : (a.toList == b.toList) = false := by
  rw [beq_eq_false_iff_ne]
  intro e
  rw [ByteArray.toList_eq, ByteArray.toList_eq] at e
  exact h (ByteArray.ext (Array.ext' e))
def tabN : List (ByteArray × Int) := [(⟨#[97, 109, 112]⟩, 38), (⟨#[108, 116]⟩, 60), (⟨#[103, 116]⟩, 62), (⟨#[113, 117, 111, 116]⟩, 34), (⟨#[97, 112, 111, 115]⟩, 39)]
def tabV : List Value := tabN.flatMap fun p => [.string p.1, .int .i64 p.2]
def tabA : Value := .agg #[.string ⟨#[97, 109, 112]⟩, .int .i64 38, .string ⟨#[108, 116]⟩, .int .i64 60, .string ⟨#[103, 116]⟩, .int .i64 62, .string ⟨#[113, 117, 111, 116]⟩, .int .i64 34, .string ⟨#[97, 112, 111, 115]⟩, .int .i64 39]
/-- the table of names is there -/
def Tab (w : World) : Prop := 1 < w.heap.size ∧ ∀ j v, tabV[j]? = some v → w.cell? ⟨1, j, none⟩ = some v
def find (s : ByteArray) : List (ByteArray × Int) → Int
  | [] => 0
  | p :: l => if p.1 = s then p.2 else find s l
def named (s : ByteArray) : Int := find s tabN
theorem Tab.grow {w w' : World} (h : Tab w) (g : Flow.Grow w w') : Tab w' := ⟨Nat.lt_of_lt_of_le h.1 g.size, fun j v hv => by
  have := h.2 j v hv
  unfold World.cell? at this ⊢
  rw [g.block 1 h.1 (by simp)]
  exact this⟩
end Xm
set_option maxRecDepth 100000 in
set_option maxHeartbeats 1000000 in
theorem named_any (s : ByteArray) (w : World) (h : Xm.Tab w) : Calls Tryd.prog 94 #[.string s] w fun e w' => e = .returned (.int .i64 (Xm.named s)) ∧ Flow.Grow w w' := by
  have HT := Lib.hid h
  have c0 : w.cell? ⟨1, 0, none⟩ = some (.string ⟨#[97, 109, 112]⟩) := h.2 0 _ rfl
  have c1 : w.cell? ⟨1, 1, none⟩ = some (.int .i64 38) := h.2 1 _ rfl
  have c2 : w.cell? ⟨1, 2, none⟩ = some (.string ⟨#[108, 116]⟩) := h.2 2 _ rfl
  have c3 : w.cell? ⟨1, 3, none⟩ = some (.int .i64 60) := h.2 3 _ rfl
  have c4 : w.cell? ⟨1, 4, none⟩ = some (.string ⟨#[103, 116]⟩) := h.2 4 _ rfl
  have c5 : w.cell? ⟨1, 5, none⟩ = some (.int .i64 62) := h.2 5 _ rfl
  have c6 : w.cell? ⟨1, 6, none⟩ = some (.string ⟨#[113, 117, 111, 116]⟩) := h.2 6 _ rfl
  have c7 : w.cell? ⟨1, 7, none⟩ = some (.int .i64 34) := h.2 7 _ rfl
  have c8 : w.cell? ⟨1, 8, none⟩ = some (.string ⟨#[97, 112, 111, 115]⟩) := h.2 8 _ rfl
  have c9 : w.cell? ⟨1, 9, none⟩ = some (.int .i64 39) := h.2 9 _ rfl
  clear h
  go_enter Tryd.func94, Tryd.ntmps94
  go_wp2
  go_loopw [6] (fun i wr => ∃ j : Nat, j ≤ 5 ∧ i = .int .i64 j ∧ Hid (Flow.Grow w wr) ∧ Hid (Xm.named s = Xm.find s (Xm.tabN.drop j))) (fun i _ => 5 - (intOf i).toNat)
  case atStart => exact ⟨0, by omega, rfl, Lib.hid (Flow.grow_refl _), Lib.hid rfl⟩
  case round =>
    obtain ⟨j, hj, rfl, HG, HN⟩ := hrel
    clear c0 c1 c2 c3 c4 c5 c6 c7 c8 c9
    by_cases hlt : j < 5
    · obtain ⟨nj, lj, hix, hd⟩ : ∃ nj lj, (∀ w, (Instr.index 128 Xm.tabA (.int .i64 (j : Int))).run Tryd.prog w = .ok (.agg #[.string nj, .int .i64 lj]) w) ∧ Xm.tabN.drop j = (nj, lj) :: Xm.tabN.drop (j + 1) := by
        rcases (show j = 0 ∨ j = 1 ∨ j = 2 ∨ j = 3 ∨ j = 4 by omega) with rfl | rfl | rfl | rfl | rfl
        all_goals exact ⟨_, _, fun _ => by kernel_rfl, rfl⟩
      have hix2 := hix
      unfold Xm.tabA at hix2
      have HD := Lib.hid hd
      clear hix hd
      by_cases he : nj = s
      · have HE : Hid (Xm.named s = lj) := Lib.hid (by rw [HN.out, HD.out, Xm.find, if_pos he])
        go_wp2_with fail
        go_ret
        exact ⟨ret_int HE.out.symm, HG.out.trans (Flow.grow_alloc _ _)⟩
      · have HE : Hid (Xm.named s = Xm.find s (Xm.tabN.drop (j + 1))) := Lib.hid (by rw [HN.out, HD.out, Xm.find, if_neg he])
        have hne := Xm.ne_f he
        clear he
        go_wp2_with fail
        go_roundw
        case rel => exact ⟨j + 1, by omega, by go_num, Lib.hid (HG.out.trans (Flow.grow_alloc _ _)), HE⟩
        case measure => simp [intOf]; omega
    · have HE : Hid (Xm.named s = 0) := Lib.hid (by
        obtain rfl : j = 5 := by omega
        rw [HN.out]; rfl)
      go_wp2
      go_ret
      exact ⟨ret_int HE.out.symm, HG.out⟩

namespace Xm
def digit (c base : Int) : Int := if 48 ≤ c ∧ c ≤ 57 then c - 48 else if base = 16 ∧ 97 ≤ c ∧ c ≤ 102 then c - 87 else if base = 16 ∧ 65 ≤ c ∧ c ≤ 70 then c - 55 else -1
theorem digit_bd (c base : Int) (h : base = 10 ∨ base = 16) : -1 ≤ digit c base ∧ digit c base < base := by
  unfold digit
  rcases h with rfl | rfl
  all_goals (repeat' split) <;> omega
/-- the number of digits, from a place on; -1: one is none -/
def digits (s : ByteArray) (base : Int) (k : Nat) (n : Int) : Int := if k < s.size then (if digit (bt s k) base < 0 then -1 else digits s base (k + 1) (n * base + digit (bt s k) base)) else n
  termination_by s.size - k
def num1 (s : ByteArray) (base : Int) : Int := if s.size = 0 ∨ 8 < s.size then 0 else if digits s base 0 0 < 0 then 0 else if letter (digits s base 0 0) = true then digits s base 0 0 else 0
def number (s : ByteArray) : Int := if 0 < s.size ∧ bt s 0 = 120 then num1 (cut s 1 s.size) 16 else num1 s 10
def one (s : ByteArray) : Int := if 0 < s.size ∧ bt s 0 = 35 then number (cut s 1 s.size) else named s
end Xm

set_option maxRecDepth 100000 in
set_option maxHeartbeats 400000 in
theorem digit_any (c base : Int) (hc : 0 ≤ c ∧ c ≤ 255) (hb : base = 10 ∨ base = 16) (w : World) : Calls Tryd.prog 100 #[.int .u8 c, .int .i64 base] w fun e w' => e = .returned (.int .i64 (Xm.digit c base)) ∧ w = w' := by
  rcases hb with rfl | rfl
  all_goals
    go_enter Tryd.func100, Tryd.ntmps100
    go_wp2
    all_goals (go_ret; exact ⟨ret_int (by simp [Xm.digit]; omega), rfl⟩)
end Go.Proofs.YtfkdjdmbgednkaaDoor

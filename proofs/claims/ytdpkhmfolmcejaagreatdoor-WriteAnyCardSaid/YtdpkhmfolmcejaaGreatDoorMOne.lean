/- chars.Split by its contract. -/
/- entity.digit, number, named, One by their contracts. -/
/- entity.number, One by their contracts. -/
/- entity.One by its contract. -/
import Derived.Test.YtdpkhmfolmcejaaGreatDoorName
import Derived.Test.YtdpkhmfolmcejaaGreatDoorMFlow
namespace Go.Proofs.YtdpkhmfolmcejaaGreatDoor
open Go.RowKit
namespace Xm
/-- where the first colon stands, from a place on -/
def col (s : ByteArray) (k : Nat) : Nat := if k < s.size then (if bt s k = 58 then k else col s (k + 1)) else s.size
  termination_by s.size - k
def split (s : ByteArray) : ByteArray × ByteArray × Bool :=
  if col s 0 < s.size then (cut s 0 (col s 0), cut s (col s 0 + 1) s.size, name (cut s 0 (col s 0)) && name (cut s (col s 0 + 1) s.size)) else (ByteArray.empty, s, name s)
end Xm
theorem ret_split {p : ByteArray × ByteArray × Bool} {a b : ByteArray} {c : Bool} (h : p = (a, b, c)) : Ending.returned (.tuple #[.string a, .string b, .bool c]) = .returned (.tuple #[.string p.1, .string p.2.1, .bool p.2.2]) := by rw [h]
theorem name_quiet (s : ByteArray) (b : Bool) (hb : Xm.name s = b) (hs : s.size ≤ 9223372036854775807) (w : World) : Calls Tryz.prog 53 #[.string s] w fun e w' => e = .returned (.bool b) ∧ w' = w :=
  (name_any s w hs).mono fun _ _ ⟨h1, h2⟩ => ⟨by rw [h1, hb], h2.symm⟩

set_option maxRecDepth 100000 in
set_option maxHeartbeats 1000000 in
theorem split_any (s : ByteArray) (w : World) (hs : s.size ≤ 9223372036854775807) : Calls Tryz.prog 85 #[.string s] w fun e w' => e = .returned (.tuple #[.string (Xm.split s).1, .string (Xm.split s).2.1, .bool (Xm.split s).2.2]) ∧ ∃ n, w' = w.drewN n := by
  go_enter Tryz.func85, Tryz.ntmps85
  go_wp2
  go_loop [8] (fun i => ∃ k : Nat, k ≤ s.size ∧ i = .int .i64 k ∧ Hid (Xm.col s 0 = Xm.col s k)) (fun i => s.size - (intOf i).toNat)
  case atStart => exact ⟨0, by omega, rfl, Lib.hid rfl⟩
  case round =>
    obtain ⟨k, hk, rfl, HC⟩ := hrel
    by_cases hlt : k < s.size
    · have Hb := Lib.hid (Xm.bt_eq hlt)
      by_cases h58 : Xm.bt s k = 58
      · have g : (Xm.bt s k == 58) = true := by simpa using h58
        have HK : Hid (Xm.col s 0 = k) := Lib.hid (by rw [HC.out, Xm.col, if_pos hlt, if_pos h58])
        clear h58
        have HS : Hid (Xm.split s = (s.extract 0 k, s.extract (k + 1) s.size, Xm.name (s.extract 0 k) && Xm.name (s.extract (k + 1) s.size))) := Lib.hid (by simp only [Xm.split, HK.out, if_pos hlt, Xm.cut])
        have z1 : (s.extract 0 k).size ≤ 9223372036854775807 := by simp; omega
        have z2 : (s.extract (k + 1) s.size).size ≤ 9223372036854775807 := by simp; omega
        have e1 : IntKind.i64.wrap ((k : Int) + 1) = (k : Int) + 1 := IntWalk.i64_in _ (by omega)
        cases hb1 : Xm.name (s.extract 0 k)
        · have H1 := Lib.hid hb1
          have HR : Hid (Xm.split s = (s.extract 0 k, s.extract (k + 1) s.size, false)) := Lib.hid (by rw [HS.out, hb1]; rfl)
          clear hb1
          go_wp2_with (rw [Hb.out])
          go_quiet ((go_at_call 53; exact Calls.quiet_of_same (name_quiet _ false H1.out z1 _)))
          go_wp2
          go_ret3
          exact ⟨ret_split HR.out, _, rfl⟩
        · have H1 := Lib.hid hb1
          have HR : Hid (Xm.split s = (s.extract 0 k, s.extract (k + 1) s.size, Xm.name (s.extract (k + 1) s.size))) := Lib.hid (by rw [HS.out, hb1]; rfl)
          clear hb1
          obtain ⟨b2, hb2⟩ : ∃ b2, Xm.name (s.extract (k + 1) s.size) = b2 := ⟨_, rfl⟩
          have H2 := Lib.hid hb2
          clear hb2
          go_wp2_with (rw [Hb.out])
          go_quiet ((go_at_call 53; exact Calls.quiet_of_same (name_quiet _ _ (by first | with_reducible exact H1.out | with_reducible exact H2.out) (by first | with_reducible exact z1 | with_reducible exact z2) _)))
          go_wp2
          go_ret3
          exact ⟨ret_split (by rw [HR.out, H2.out]), _, rfl⟩
      · have g : (Xm.bt s k == 58) = false := by simpa using h58
        have HK : Hid (Xm.col s 0 = Xm.col s (k + 1)) := Lib.hid (by rw [HC.out, Xm.col, if_pos hlt, if_neg h58])
        clear h58
        go_wp2_with (rw [Hb.out])
        go_round
        case rel => exact ⟨k + 1, by omega, by go_num, HK⟩
        case measure => simp [intOf]; omega
    · have HR : Hid (Xm.split s = (ByteArray.empty, s, Xm.name s)) := Lib.hid (by
        have : ¬ Xm.col s 0 < s.size := by rw [HC.out, Xm.col, if_neg hlt]; omega
        simp only [Xm.split, if_neg this])
      go_wp2_with (go_at_call 53; refine (name_any _ _ hs).mono ?_; rintro e w' ⟨rfl, rfl⟩)
      go_ret3
      exact ⟨ret_split HR.out, 0, rfl⟩
end Go.Proofs.YtdpkhmfolmcejaaGreatDoor
namespace Go.Proofs.YtdpkhmfolmcejaaGreatDoor
open Go.RowKit
namespace Xm
theorem ne_f {a b : ByteArray} (h : ¬ a = b) : (a.toList == b.toList) = false := by
  rw [beq_eq_false_iff_ne]
  intro e
  rw [ByteArray.toList_eq, ByteArray.toList_eq] at e
  exact h (ByteArray.ext (Array.ext' e))
def tabN : List (ByteArray × Int) := [(⟨#[97, 109, 112]⟩, 38), (⟨#[108, 116]⟩, 60), (⟨#[103, 116]⟩, 62), (⟨#[113, 117, 111, 116]⟩, 34), (⟨#[97, 112, 111, 115]⟩, 39)]
def tabV : List Value := tabN.flatMap fun p => [.string p.1, .int .i64 p.2]
def tabA : Value := .agg #[.string ⟨#[97, 109, 112]⟩, .int .i64 38, .string ⟨#[108, 116]⟩, .int .i64 60, .string ⟨#[103, 116]⟩, .int .i64 62, .string ⟨#[113, 117, 111, 116]⟩, .int .i64 34, .string ⟨#[97, 112, 111, 115]⟩, .int .i64 39]
/-- the table of names is there -/
def Tab (w : World) : Prop := 1 < w.heap.size ∧ ∀ j v, tabV[j]? = some v → w.cell? ⟨1, j, none⟩ = some v
def find (s : ByteArray) : List (ByteArray × Int) → Int
  | [] => 0
  | p :: l => if p.1 = s then p.2 else find s l
def named (s : ByteArray) : Int := find s tabN
theorem Tab.grow {w w' : World} (h : Tab w) (g : Flow.Grow w w') : Tab w' := ⟨Nat.lt_of_lt_of_le h.1 g.size, fun j v hv => by
  have := h.2 j v hv
  unfold World.cell? at this ⊢
  rw [g.block 1 h.1 (by simp)]
  exact this⟩
end Xm
set_option maxRecDepth 100000 in
set_option maxHeartbeats 1000000 in
theorem named_any (s : ByteArray) (w : World) (h : Xm.Tab w) : Calls Tryz.prog 102 #[.string s] w fun e w' => e = .returned (.int .i64 (Xm.named s)) ∧ Flow.Grow w w' := by
  have HT := Lib.hid h
  have c0 : w.cell? ⟨1, 0, none⟩ = some (.string ⟨#[97, 109, 112]⟩) := h.2 0 _ rfl
  have c1 : w.cell? ⟨1, 1, none⟩ = some (.int .i64 38) := h.2 1 _ rfl
  have c2 : w.cell? ⟨1, 2, none⟩ = some (.string ⟨#[108, 116]⟩) := h.2 2 _ rfl
  have c3 : w.cell? ⟨1, 3, none⟩ = some (.int .i64 60) := h.2 3 _ rfl
  have c4 : w.cell? ⟨1, 4, none⟩ = some (.string ⟨#[103, 116]⟩) := h.2 4 _ rfl
  have c5 : w.cell? ⟨1, 5, none⟩ = some (.int .i64 62) := h.2 5 _ rfl
  have c6 : w.cell? ⟨1, 6, none⟩ = some (.string ⟨#[113, 117, 111, 116]⟩) := h.2 6 _ rfl
  have c7 : w.cell? ⟨1, 7, none⟩ = some (.int .i64 34) := h.2 7 _ rfl
  have c8 : w.cell? ⟨1, 8, none⟩ = some (.string ⟨#[97, 112, 111, 115]⟩) := h.2 8 _ rfl
  have c9 : w.cell? ⟨1, 9, none⟩ = some (.int .i64 39) := h.2 9 _ rfl
  clear h
  go_enter Tryz.func102, Tryz.ntmps102
  go_wp2
  go_loopw [6] (fun i wr => ∃ j : Nat, j ≤ 5 ∧ i = .int .i64 j ∧ Hid (Flow.Grow w wr) ∧ Hid (Xm.named s = Xm.find s (Xm.tabN.drop j))) (fun i _ => 5 - (intOf i).toNat)
  case atStart => exact ⟨0, by omega, rfl, Lib.hid (Flow.grow_refl _), Lib.hid rfl⟩
  case round =>
    obtain ⟨j, hj, rfl, HG, HN⟩ := hrel
    clear c0 c1 c2 c3 c4 c5 c6 c7 c8 c9
    by_cases hlt : j < 5
    · obtain ⟨nj, lj, hix, hd⟩ : ∃ nj lj, (∀ w, (Instr.index 131 Xm.tabA (.int .i64 (j : Int))).run Tryz.prog w = .ok (.agg #[.string nj, .int .i64 lj]) w) ∧ Xm.tabN.drop j = (nj, lj) :: Xm.tabN.drop (j + 1) := by
        rcases (show j = 0 ∨ j = 1 ∨ j = 2 ∨ j = 3 ∨ j = 4 by omega) with rfl | rfl | rfl | rfl | rfl
        all_goals exact ⟨_, _, fun _ => by kernel_rfl, rfl⟩
      have hix2 := hix
      unfold Xm.tabA at hix2
      have HD := Lib.hid hd
      clear hix hd
      by_cases he : nj = s
      · have HE : Hid (Xm.named s = lj) := Lib.hid (by rw [HN.out, HD.out, Xm.find, if_pos he])
        go_wp2_with fail
        go_ret
        exact ⟨ret_int HE.out.symm, HG.out.trans (Flow.grow_alloc _ _)⟩
      · have HE : Hid (Xm.named s = Xm.find s (Xm.tabN.drop (j + 1))) := Lib.hid (by rw [HN.out, HD.out, Xm.find, if_neg he])
        have hne := Xm.ne_f he
        clear he
        go_wp2_with fail
        go_roundw
        case rel => exact ⟨j + 1, by omega, by go_num, Lib.hid (HG.out.trans (Flow.grow_alloc _ _)), HE⟩
        case measure => simp [intOf]; omega
    · have HE : Hid (Xm.named s = 0) := Lib.hid (by
        obtain rfl : j = 5 := by omega
        rw [HN.out]; rfl)
      go_wp2
      go_ret
      exact ⟨ret_int HE.out.symm, HG.out⟩

namespace Xm
def digit (c base : Int) : Int := if 48 ≤ c ∧ c ≤ 57 then c - 48 else if base = 16 ∧ 97 ≤ c ∧ c ≤ 102 then c - 87 else if base = 16 ∧ 65 ≤ c ∧ c ≤ 70 then c - 55 else -1
theorem digit_bd (c base : Int) (h : base = 10 ∨ base = 16) : -1 ≤ digit c base ∧ digit c base < base := by
  unfold digit
  rcases h with rfl | rfl
  all_goals (repeat' split) <;> omega
/-- the number of digits, from a place on; -1: one is none -/
def digits (s : ByteArray) (base : Int) (k : Nat) (n : Int) : Int := if k < s.size then (if digit (bt s k) base < 0 then -1 else digits s base (k + 1) (n * base + digit (bt s k) base)) else n
  termination_by s.size - k
def num1 (s : ByteArray) (base : Int) : Int := if s.size = 0 ∨ 8 < s.size then 0 else if digits s base 0 0 < 0 then 0 else if letter (digits s base 0 0) = true then digits s base 0 0 else 0
def number (s : ByteArray) : Int := if 0 < s.size ∧ bt s 0 = 120 then num1 (cut s 1 s.size) 16 else num1 s 10
def one (s : ByteArray) : Int := if 0 < s.size ∧ bt s 0 = 35 then number (cut s 1 s.size) else named s
end Xm

set_option maxRecDepth 100000 in
set_option maxHeartbeats 400000 in
theorem digit_any (c base : Int) (hc : 0 ≤ c ∧ c ≤ 255) (hb : base = 10 ∨ base = 16) (w : World) : Calls Tryz.prog 105 #[.int .u8 c, .int .i64 base] w fun e w' => e = .returned (.int .i64 (Xm.digit c base)) ∧ w = w' := by
  rcases hb with rfl | rfl
  all_goals
    go_enter Tryz.func105, Tryz.ntmps105
    go_wp2
    all_goals (go_ret; exact ⟨ret_int (by simp [Xm.digit]; omega), rfl⟩)
end Go.Proofs.YtdpkhmfolmcejaaGreatDoor
namespace Go.Proofs.YtdpkhmfolmcejaaGreatDoor
open Go.RowKit
theorem Flow.grow_drewN (w : World) (n : Nat) : Flow.Grow w (w.drewN n) := ⟨rfl, rfl, rfl, Nat.le_refl _, fun _ _ _ => rfl⟩
namespace Xm
theorem pow_le {k : Nat} (h : k ≤ 8) : (16 : Int) ^ k ≤ 16 ^ 8 := by
  rcases (show k = 0 ∨ k = 1 ∨ k = 2 ∨ k = 3 ∨ k = 4 ∨ k = 5 ∨ k = 6 ∨ k = 7 ∨ k = 8 by omega) with rfl | rfl | rfl | rfl | rfl | rfl | rfl | rfl | rfl <;> decide
end Xm
set_option maxRecDepth 100000 in
set_option maxHeartbeats 2000000 in
theorem number_any (s : ByteArray) (w : World) (hs : s.size ≤ 9223372036854775807) : Calls Tryz.prog 101 #[.string s] w fun e w' => e = .returned (.int .i64 (Xm.number s)) ∧ Flow.Grow w w' := by
  by_cases hx : 0 < s.size ∧ Xm.bt s 0 = 120
  · obtain ⟨hlt, h120⟩ := hx
    have HX : Hid (Xm.number s = Xm.num1 (s.extract 1 s.size) 16) := Lib.hid (by rw [Xm.number, if_pos ⟨hlt, h120⟩]; rfl)
    have Hb := Lib.hid (Xm.bt_eq hlt)
    have g : (Xm.bt s 0 == 120) = true := by simpa using h120
    have hE := Xm.emp_f (s := s) (by omega)
    clear h120
    go_enter Tryz.func101, Tryz.ntmps101
    go_wp2_with (rw [Hb.out])
    go_quiet (fail)
    rename_i nq
    have HG : Hid (Flow.Grow w (w.drewN nq)) := Lib.hid (Flow.grow_drewN _ _)
    have hxs : (s.extract 1 s.size).size = s.size - 1 := by simp
    have hxm : (s.extract 1 s.size).size ≤ 9223372036854775807 := by omega
    clear hE g hxs
    generalize s.extract 1 s.size = x at *

    by_cases h0 : x.size = 0
    · have HE : Hid (Xm.number s = 0) := Lib.hid (by rw [HX.out, Xm.num1, if_pos (.inl h0)])
      have hE := Xm.emp_t h0
      clear h0
      go_wp2
      go_ret
      exact ⟨ret_int HE.out.symm, HG.out⟩
    have hE := Xm.emp_f h0
    by_cases h8 : 8 < x.size
    · have HE : Hid (Xm.number s = 0) := Lib.hid (by rw [HX.out, Xm.num1, if_pos (.inr h8)])
      clear h0
      go_wp2
      go_ret
      exact ⟨ret_int HE.out.symm, HG.out⟩
    have HN : Hid (Xm.num1 x 16 = if Xm.digits x 16 0 0 < 0 then 0 else if Xm.letter (Xm.digits x 16 0 0) = true then Xm.digits x 16 0 0 else 0) := Lib.hid (by rw [Xm.num1, if_neg (by omega)])
    have h8' : x.size ≤ 8 := by omega
    clear h0 h8
    go_wp2
    clear hE
    go_loop [4, 25] (fun n i => ∃ (k : Nat) (z : Int), k ≤ x.size ∧ i = .int .i64 k ∧ n = .int .i64 z ∧ 0 ≤ z ∧ z < 16 ^ k ∧ Hid (Xm.digits x 16 0 0 = Xm.digits x 16 k z)) (fun _ i => x.size - (intOf i).toNat)
    case atStart => exact ⟨0, 0, by omega, rfl, rfl, by omega, by simp, Lib.hid rfl⟩
    case round =>
      obtain ⟨k, z, hk, rfl, rfl, hz0, hz1, HD⟩ := hrel
      have hz2 : z < 16 ^ 8 := by have : (16 : Int) ^ k ≤ 16 ^ 8 := Xm.pow_le (by omega); omega
      by_cases hlt : k < x.size
      · have Hb := Lib.hid (Xm.bt_eq hlt)
        have hbd := Xm.bt_bd x k
        have hdb := Xm.digit_bd (Xm.bt x k) 16 (by decide)
        obtain ⟨d, hd⟩ : ∃ d, d = Xm.digit (Xm.bt x k) 16 := ⟨_, rfl⟩
        have Hd := Lib.hid hd
        rw [← hd] at hdb
        clear hd
        by_cases hd0 : d < 0
        · have HE : Hid (Xm.number s = 0) := Lib.hid (by
            have e : Xm.digits x 16 0 0 = -1 := by rw [HD.out, Xm.digits, if_pos hlt, if_pos (by rw [← Hd.out]; exact hd0)]
            rw [HX.out, HN.out, e]; rfl)
          go_wp2_with (go_at_call 105; rw [Hb.out]; refine (digit_any _ _ hbd (by decide) _).mono ?_; rintro e w' ⟨rfl, rfl⟩; rw [← Hd.out])
          go_ret
          exact ⟨ret_int HE.out.symm, HG.out⟩
        · have HE : Hid (Xm.digits x 16 0 0 = Xm.digits x 16 (k + 1) (z * 16 + d)) := Lib.hid (by rw [HD.out, Xm.digits, if_pos hlt, if_neg (by rw [← Hd.out]; exact hd0), ← Hd.out])
          have hp : z * 16 + d < 16 ^ (k + 1) := by rw [Int.pow_succ]; omega
          have Hp := Lib.hid hp
          clear hz1 hp
          go_wp2_with (go_at_call 105; rw [Hb.out]; refine (digit_any _ _ hbd (by decide) _).mono ?_; rintro e w' ⟨rfl, rfl⟩; rw [← Hd.out])
          go_round
          case rel => exact ⟨k + 1, z * 16 + d, by omega, by go_num, rfl, by omega, Hp.out, HE⟩
          case measure => simp [intOf]; omega
      · have HE : Hid (Xm.number s = if Xm.letter z = true then z else 0) := Lib.hid (by
          have e : Xm.digits x 16 0 0 = z := by rw [HD.out, Xm.digits, if_neg hlt]
          rw [HX.out, HN.out, e, if_neg (by omega)])
        clear hz1
        cases hl : Xm.letter z
        all_goals
          have Hl := Lib.hid hl
          clear hl
          go_wp2_with (go_at_call 79; refine (letter_any _ _).mono ?_; rintro e w' ⟨rfl, rfl⟩; rw [Hl.out])
          go_ret
          exact ⟨ret_int (by rw [HE.out, Hl.out]; rfl), HG.out⟩
  · have HX : Hid (Xm.number s = Xm.num1 s 10) := Lib.hid (by rw [Xm.number, if_neg hx])
    have HG : Hid (Flow.Grow w w) := Lib.hid (Flow.grow_refl _)
    by_cases hz : s.size = 0
    · have HE : Hid (Xm.number s = 0) := Lib.hid (by rw [HX.out, Xm.num1, if_pos (.inl hz)])
      have hE := Xm.emp_t hz
      clear hz hx
      go_enter Tryz.func101, Tryz.ntmps101
      go_wp2
      go_ret
      exact ⟨ret_int HE.out.symm, HG.out⟩
    have hlt : 0 < s.size := by omega
    have hE := Xm.emp_f hz
    have Hb := Lib.hid (Xm.bt_eq hlt)
    have g : (Xm.bt s 0 == 120) = false := by simp; intro h; exact hx ⟨hlt, h⟩
    have h0 : ¬ s.size = 0 := hz
    clear hx hz hE
    go_enter Tryz.func101, Tryz.ntmps101

    have hE := Xm.emp_f h0
    by_cases h8 : 8 < s.size
    · have HE : Hid (Xm.number s = 0) := Lib.hid (by rw [HX.out, Xm.num1, if_pos (.inr h8)])
      clear h0
      go_wp2_with (rw [Hb.out])
      go_ret
      exact ⟨ret_int HE.out.symm, HG.out⟩
    have HN : Hid (Xm.num1 s 10 = if Xm.digits s 10 0 0 < 0 then 0 else if Xm.letter (Xm.digits s 10 0 0) = true then Xm.digits s 10 0 0 else 0) := Lib.hid (by rw [Xm.num1, if_neg (by omega)])
    have h8' : s.size ≤ 8 := by omega
    clear h0 h8
    go_wp2_with (rw [Hb.out])
    clear hE
    go_loop [4, 25] (fun n i => ∃ (k : Nat) (z : Int), k ≤ s.size ∧ i = .int .i64 k ∧ n = .int .i64 z ∧ 0 ≤ z ∧ z < 16 ^ k ∧ Hid (Xm.digits s 10 0 0 = Xm.digits s 10 k z)) (fun _ i => s.size - (intOf i).toNat)
    case atStart => exact ⟨0, 0, by omega, rfl, rfl, by omega, by simp, Lib.hid rfl⟩
    case round =>
      obtain ⟨k, z, hk, rfl, rfl, hz0, hz1, HD⟩ := hrel
      have hz2 : z < 16 ^ 8 := by have : (16 : Int) ^ k ≤ 16 ^ 8 := Xm.pow_le (by omega); omega
      by_cases hlt : k < s.size
      · have Hb := Lib.hid (Xm.bt_eq hlt)
        have hbd := Xm.bt_bd s k
        have hdb := Xm.digit_bd (Xm.bt s k) 10 (by decide)
        obtain ⟨d, hd⟩ : ∃ d, d = Xm.digit (Xm.bt s k) 10 := ⟨_, rfl⟩
        have Hd := Lib.hid hd
        rw [← hd] at hdb
        clear hd
        by_cases hd0 : d < 0
        · have HE : Hid (Xm.number s = 0) := Lib.hid (by
            have e : Xm.digits s 10 0 0 = -1 := by rw [HD.out, Xm.digits, if_pos hlt, if_pos (by rw [← Hd.out]; exact hd0)]
            rw [HX.out, HN.out, e]; rfl)
          go_wp2_with (go_at_call 105; rw [Hb.out]; refine (digit_any _ _ hbd (by decide) _).mono ?_; rintro e w' ⟨rfl, rfl⟩; rw [← Hd.out])
          go_ret
          exact ⟨ret_int HE.out.symm, HG.out⟩
        · have HE : Hid (Xm.digits s 10 0 0 = Xm.digits s 10 (k + 1) (z * 10 + d)) := Lib.hid (by rw [HD.out, Xm.digits, if_pos hlt, if_neg (by rw [← Hd.out]; exact hd0), ← Hd.out])
          have hp : z * 10 + d < 16 ^ (k + 1) := by rw [Int.pow_succ]; omega
          have Hp := Lib.hid hp
          clear hz1 hp
          go_wp2_with (go_at_call 105; rw [Hb.out]; refine (digit_any _ _ hbd (by decide) _).mono ?_; rintro e w' ⟨rfl, rfl⟩; rw [← Hd.out])
          go_round
          case rel => exact ⟨k + 1, z * 10 + d, by omega, by go_num, rfl, by omega, Hp.out, HE⟩
          case measure => simp [intOf]; omega
      · have HE : Hid (Xm.number s = if Xm.letter z = true then z else 0) := Lib.hid (by
          have e : Xm.digits s 10 0 0 = z := by rw [HD.out, Xm.digits, if_neg hlt]
          rw [HX.out, HN.out, e, if_neg (by omega)])
        clear hz1
        cases hl : Xm.letter z
        all_goals
          have Hl := Lib.hid hl
          clear hl
          go_wp2_with (go_at_call 79; refine (letter_any _ _).mono ?_; rintro e w' ⟨rfl, rfl⟩; rw [Hl.out])
          go_ret
          exact ⟨ret_int (by rw [HE.out, Hl.out]; rfl), HG.out⟩
end Go.Proofs.YtdpkhmfolmcejaaGreatDoor
namespace Go.Proofs.YtdpkhmfolmcejaaGreatDoor
open Go.RowKit
set_option maxRecDepth 100000 in
set_option maxHeartbeats 1000000 in
theorem one_any (s : ByteArray) (w : World) (hT : Xm.Tab w) (hs : s.size ≤ 9223372036854775807) : Calls Tryz.prog 95 #[.string s] w fun e w' => e = .returned (.int .i64 (Xm.one s)) ∧ Flow.Grow w w' := by
  have HT := Lib.hid hT
  clear hT
  by_cases hz : s.size = 0
  · have HE : Hid (Xm.one s = Xm.named s) := Lib.hid (by rw [Xm.one, if_neg (by omega)])
    have hE := Xm.emp_t hz
    clear hz
    go_enter Tryz.func95, Tryz.ntmps95
    go_wp2_with (go_at_call 102; refine (named_any _ _ HT.out).mono ?_; rintro e w' ⟨rfl, hg⟩)
    go_ret
    exact ⟨ret_int HE.out.symm, hg⟩
  · have hlt : 0 < s.size := by omega
    have hE := Xm.emp_f hz
    have Hb := Lib.hid (Xm.bt_eq hlt)
    by_cases h35 : Xm.bt s 0 = 35
    · have g : (Xm.bt s 0 == 35) = true := by simpa using h35
      have HE : Hid (Xm.one s = Xm.number (s.extract 1 s.size)) := Lib.hid (by rw [Xm.one, if_pos ⟨hlt, h35⟩]; rfl)
      have hxm : (s.extract 1 s.size).size ≤ 9223372036854775807 := by simp; omega
      have Hxm := Lib.hid hxm
      clear hz h35 hxm
      go_enter Tryz.func95, Tryz.ntmps95
      go_wp2_with (first | (go_at_call 101; refine (number_any _ _ Hxm.out).mono ?_; rintro e w' ⟨rfl, hg⟩) | rw [Hb.out])
      go_ret
      exact ⟨ret_int HE.out.symm, hg⟩
    · have g : (Xm.bt s 0 == 35) = false := by simpa using h35
      have HE : Hid (Xm.one s = Xm.named s) := Lib.hid (by rw [Xm.one, if_neg (by omega)])
      clear hz h35
      go_enter Tryz.func95, Tryz.ntmps95
      go_wp2_with (first | (go_at_call 102; refine (named_any _ _ HT.out).mono ?_; rintro e w' ⟨rfl, hg⟩) | rw [Hb.out])
      go_ret
      exact ⟨ret_int HE.out.symm, hg⟩
end Go.Proofs.YtdpkhmfolmcejaaGreatDoor

/- utf.form, May, Size, Get, Bad; chars.Blank, Start, Part, Letter by their contracts. -/
import Derived.Test.YtdpkhmfolmcejaaGreatDoorProg
import Derived.Test.YtdpkhmfolmcejaaGreatDoorMFlow
import Derived.Outline
import Derived.WalkKit
import Derived.Lib.Hide
namespace Go.Proofs.YtdpkhmfolmcejaaGreatDoor
open Go.RowKit
theorem ret_bool {a b : Bool} (h : a = b) : Ending.returned (.bool a) = .returned (.bool b) := by rw [h]
theorem ret_int {k : IntKind} {a b : Int} (h : a = b) : Ending.returned (.int k a) = .returned (.int k b) := by rw [h]
theorem ret_int2 {k : IntKind} {a b c d : Int} (h : a = b) (h2 : c = d) : Ending.returned (.tuple #[.int k a, .int k c]) = .returned (.tuple #[.int k b, .int k d]) := by rw [h, h2]
theorem ret_str {a b : ByteArray} (h : a = b) : Ending.returned (.string a) = .returned (.string b) := by rw [h]
namespace Xm
def blank (c : Int) : Bool := c == 32 || c == 9 || c == 10 || c == 13
def start (c : Int) : Bool := decide (97 ≤ c) && decide (c ≤ 122) || decide (65 ≤ c) && decide (c ≤ 90) || c == 95 || decide (128 ≤ c)
def part (c : Int) : Bool := start c || decide (48 ≤ c) && decide (c ≤ 57) || c == 45 || c == 46
def may (r : Int) : Bool := decide (0 ≤ r) && decide (r ≤ 1114111) && (decide (r < 55296) || decide (57343 < r))
def letter (r : Int) : Bool := if r < 32 then r == 9 || r == 10 || r == 13 else may r && r != 65534 && r != 65535
def size (r : Int) : Int := if may r = false then 0 else if r < 128 then 1 else if r < 2048 then 2 else if r < 65536 then 3 else 4
def formN (c : Int) : Int := if c < 128 then 1 else if 194 ≤ c ∧ c < 224 then 2 else if 224 ≤ c ∧ c < 240 then 3 else if 240 ≤ c ∧ c < 245 then 4 else 0
def formB (c : Int) : Int := if c < 128 then c else if 194 ≤ c ∧ c < 224 then c % 32 else if 224 ≤ c ∧ c < 240 then c % 16 else if 240 ≤ c ∧ c < 245 then c % 8 else 0
/-- a text's byte -/
def bt (s : ByteArray) (k : Nat) : Int := if h : k < s.size then (s[k].toNat : Int) else 0
theorem bt_eq {s : ByteArray} {k : Nat} (h : k < s.size) : (s[k].toNat : Int) = bt s k := by simp [bt, h]
theorem bt_bd (s : ByteArray) (k : Nat) : 0 ≤ bt s k ∧ bt s k ≤ 255 := by
  unfold bt
  split
  · have := UInt8.toNat_lt (s[k]'(by assumption)); omega
  · omega
/-- the letter that begins at a place, as far as i bytes behind the first one; and whether these may be -/
def val (s : ByteArray) (k : Nat) : Nat → Int
  | 0 => formB (bt s k)
  | i + 1 => val s k i * 64 + bt s (k + 1 + i) % 64
def tail (s : ByteArray) (k : Nat) : Nat → Bool
  | 0 => true
  | i + 1 => tail s k i && decide (128 ≤ bt s (k + 1 + i)) && decide (bt s (k + 1 + i) < 192)
def whole (s : ByteArray) (k : Nat) : Bool := decide (k < s.size) && decide (formN (bt s k) ≠ 0) && decide ((k : Int) + formN (bt s k) ≤ s.size) && tail s k ((formN (bt s k)).toNat - 1) && decide (size (val s k ((formN (bt s k)).toNat - 1)) = formN (bt s k))
def getR (s : ByteArray) (k : Nat) : Int := if whole s k = true then val s k ((formN (bt s k)).toNat - 1) else 0
def getN (s : ByteArray) (k : Nat) : Int := if whole s k = true then formN (bt s k) else 0
theorem formN_bd (c : Int) : 0 ≤ formN c ∧ formN c ≤ 4 := by
  unfold formN
  repeat' split
  all_goals omega
theorem formB_bd (c : Int) (h : 0 ≤ c) : 0 ≤ formB c ∧ formB c < 128 := by
  unfold formB
  repeat' split
  all_goals omega
theorem val_bd (s : ByteArray) (k : Nat) : ∀ i, 0 ≤ val s k i ∧ val s k i < 128 * 64 ^ i
  | 0 => by simpa [val] using formB_bd _ (bt_bd s k).1
  | i + 1 => by
    have := val_bd s k i
    have hb := bt_bd s (k + 1 + i)
    simp only [val]
    rw [Int.pow_succ]
    omega
end Xm

theorem u8_31 : ∀ c : Nat, c < 256 → bits .and .u8 (c : Int) 31 = (c : Int) % 32 := by decide +kernel
theorem u8_15 : ∀ c : Nat, c < 256 → bits .and .u8 (c : Int) 15 = (c : Int) % 16 := by decide +kernel
theorem u8_7 : ∀ c : Nat, c < 256 → bits .and .u8 (c : Int) 7 = (c : Int) % 8 := by decide +kernel
theorem u8_63 : ∀ c : Nat, c < 256 → bits .and .u8 (c : Int) 63 = (c : Int) % 64 := by decide +kernel
theorem u8_192 : ∀ c : Nat, c < 256 → bits .and .u8 (c : Int) 192 = (c : Int) / 64 * 64 := by decide +kernel
theorem i64_join (r x : Int) (h0 : 0 ≤ r) (h1 : r < 2 ^ 50) (h2 : 0 ≤ x) (h3 : x < 64) : bits .or .i64 (r * 64) x = r * 64 + x := by
  obtain ⟨a, rfl⟩ := Int.eq_ofNat_of_zero_le h0
  obtain ⟨b, rfl⟩ := Int.eq_ofNat_of_zero_le h2
  have e := Bits.i64_or (a * 64) b (by omega) (by omega)
  rw [show ((a * 64 : Nat) : Int) = (a : Int) * 64 by simp] at e
  rw [e]
  have hb : b < 64 := by omega
  have := Nat.two_pow_add_eq_or_of_lt (i := 6) (b := b) (by omega) a
  rw [show a * 64 = 2 ^ 6 * a by omega, ← this]
  push_cast
  omega

set_option maxRecDepth 100000 in
set_option maxHeartbeats 400000 in
theorem blank_any (c : Int) (w : World) : Calls Tryz.prog 73 #[.int .u8 c] w fun e w' => e = .returned (.bool (Xm.blank c)) ∧ w = w' := by
  go_enter Tryz.func73, Tryz.ntmps73
  go_wp2
  all_goals (go_ret; exact ⟨ret_bool (by simp [Xm.blank, *]), rfl⟩)
set_option maxRecDepth 100000 in
set_option maxHeartbeats 400000 in
theorem start_any (c : Int) (w : World) : Calls Tryz.prog 77 #[.int .u8 c] w fun e w' => e = .returned (.bool (Xm.start c)) ∧ w = w' := by
  go_enter Tryz.func77, Tryz.ntmps77
  go_wp2
  all_goals (go_ret; exact ⟨ret_bool (by first | (simp [Xm.start, *]; done) | (rw [Bool.eq_iff_iff]; simp [Xm.start]; omega)), rfl⟩)
set_option maxRecDepth 100000 in
set_option maxHeartbeats 400000 in
theorem part_any (c : Int) (w : World) : Calls Tryz.prog 78 #[.int .u8 c] w fun e w' => e = .returned (.bool (Xm.part c)) ∧ w = w' := by
  cases hs : Xm.start c
  all_goals
    have H := Lib.hid hs
    clear hs
    go_enter Tryz.func78, Tryz.ntmps78
    go_wp2_with (go_at_call 77; refine (start_any _ _).mono ?_; rintro e w' ⟨rfl, rfl⟩; rw [H.out])
    all_goals (go_ret; exact ⟨ret_bool (by first | (simp [Xm.part, H.out, *]; done) | (rw [Bool.eq_iff_iff]; simp [Xm.part, H.out]; omega)), rfl⟩)
set_option maxRecDepth 100000 in
set_option maxHeartbeats 400000 in
theorem mayR_any (r : Int) (w : World) : Calls Tryz.prog 82 #[.int .i64 r] w fun e w' => e = .returned (.bool (Xm.may r)) ∧ w = w' := by
  go_enter Tryz.func82, Tryz.ntmps82
  go_wp2
  all_goals (go_ret; exact ⟨ret_bool (by first | (simp [Xm.may, *]; done) | (rw [Bool.eq_iff_iff]; simp [Xm.may]; omega)), rfl⟩)
set_option maxRecDepth 100000 in
set_option maxHeartbeats 400000 in
theorem sizeR_any (r : Int) (w : World) : Calls Tryz.prog 64 #[.int .i64 r] w fun e w' => e = .returned (.int .i64 (Xm.size r)) ∧ w = w' := by
  cases hs : Xm.may r
  all_goals
    have H := Lib.hid hs
    clear hs
    go_enter Tryz.func64, Tryz.ntmps64
    go_wp2_with (go_at_call 82; refine (mayR_any _ _).mono ?_; rintro e w' ⟨rfl, rfl⟩; rw [H.out])
    all_goals (go_ret; exact ⟨ret_int (by first | (simp [Xm.size, H.out, *]; done) | (simp [Xm.size, H.out]; omega)), rfl⟩)
set_option maxRecDepth 100000 in
set_option maxHeartbeats 400000 in
theorem letter_any (r : Int) (w : World) : Calls Tryz.prog 79 #[.int .i64 r] w fun e w' => e = .returned (.bool (Xm.letter r)) ∧ w = w' := by
  cases hs : Xm.may r
  all_goals
    have H := Lib.hid hs
    clear hs
    go_enter Tryz.func79, Tryz.ntmps79
    go_wp2_with (go_at_call 82; refine (mayR_any _ _).mono ?_; rintro e w' ⟨rfl, rfl⟩; rw [H.out])
    all_goals (go_ret; exact ⟨ret_bool (by first | (simp [Xm.letter, H.out, *]; done) | (rw [Bool.eq_iff_iff]; simp [Xm.letter, H.out]; omega)), rfl⟩)
set_option maxRecDepth 100000 in
set_option maxHeartbeats 400000 in
theorem form_any (n : Nat) (hn : n < 256) (w : World) : Calls Tryz.prog 63 #[.int .u8 (n : Int)] w fun e w' => e = .returned (.tuple #[.int .i64 (Xm.formN n), .int .i64 (Xm.formB n)]) ∧ w = w' := by
  have e1 := u8_31 n hn
  have e2 := u8_15 n hn
  have e3 := u8_7 n hn
  go_enter Tryz.func63, Tryz.ntmps63
  go_wp2
  all_goals (go_ret2; exact ⟨ret_int2 (by simp [Xm.formN]; omega) (by simp [Xm.formB]; omega), rfl⟩)
end Go.Proofs.YtdpkhmfolmcejaaGreatDoor

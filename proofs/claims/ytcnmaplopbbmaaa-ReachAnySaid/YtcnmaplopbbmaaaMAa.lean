/- Bits of naturals in an int: and, or, shifts; no program. -/
/- Tokens as the bits of a number: plain facts, no program. -/
/- package mark: bit, Has, Put, Take by their contracts. -/
import Derived.Test.YtcnmaplopbbmaaaProg
import Derived.WalkKit
import Derived.Outline
import Derived.Lib.Hide
namespace Go.Proofs.Ytcnmaplopbbmaaa
open Go.RowKit
namespace Bits

theorem ofInt64 (a : Nat) (ha : a < 2 ^ 63) : (BitVec.ofInt 64 (a : Int)).toNat = a := by
  rw [BitVec.toNat_ofInt]; omega

/-- the low bits of whatever int -/
theorem i64_mask (n : Int) (k : Nat) (hk : k ≤ 62) (m : Int) (hm : m = 2 ^ k - 1) : bits .and .i64 n m = n % 2 ^ k := by
  subst hm
  have hp : (2 : Nat) ^ k ≤ 2 ^ 62 := Nat.pow_le_pow_right (by omega) hk
  have h1 : 1 ≤ (2 : Nat) ^ k := Nat.one_le_two_pow
  have e : ((2 : Int) ^ k - 1) = ((2 ^ k - 1 : Nat) : Int) := by
    rw [Int.ofNat_sub h1]; simp
  have hpi : ((2 : Int) ^ k) = ((2 ^ k : Nat) : Int) := by simp
  rw [e, hpi]
  show IntKind.i64.wrap ((BitVec.ofInt 64 n &&& BitVec.ofInt 64 ((2 ^ k - 1 : Nat) : Int)).toNat : Nat) = _
  rw [BitVec.toNat_and, ofInt64 (2 ^ k - 1) (by omega), Nat.and_two_pow_sub_one_eq_mod, BitVec.toNat_ofInt, IntKind.wrap_i64]
  have hd : ((2 : Int) ^ 64) = (2 ^ k : Nat) * (2 ^ (64 - k) : Nat) := by
    rw [← Int.natCast_mul, ← Nat.pow_add, show k + (64 - k) = 64 from by omega]; rfl
  have h3 : ((n % ((2 ^ 64 : Nat) : Int)).toNat : Int) = n % 2 ^ 64 := by omega
  have h4 : (((n % ((2 ^ 64 : Nat) : Int)).toNat % 2 ^ k : Nat) : Int) = n % ((2 ^ k : Nat) : Int) := by
    rw [Int.natCast_emod, h3, hd, Int.emod_emod_of_dvd _ (Int.dvd_mul_right _ _)]
  have h5 : n % ((2 ^ k : Nat) : Int) < ((2 ^ k : Nat) : Int) := Int.emod_lt_of_pos _ (by omega)
  have h6 : 0 ≤ n % ((2 ^ k : Nat) : Int) := Int.emod_nonneg _ (by omega)
  rw [h4]
  omega
end Bits
end Go.Proofs.Ytcnmaplopbbmaaa
namespace Go.Proofs.Ytcnmaplopbbmaaa
open Go.RowKit
namespace Mark

/-- a place's bit -/
def bit (p : Int) : Nat := if 0 ≤ p ∧ p < 64 then 2 ^ p.toNat else 0
/-- is there a token at a place -/
def has (m : Nat) (p : Int) : Bool := decide (0 ≤ p ∧ p < 64) && m.testBit p.toNat
/-- the number whose bits are the truths, the first the lowest -/
def ofBools : List Bool → Nat
  | [] => 0
  | b :: l => (if b then 1 else 0) + 2 * ofBools l

theorem bit_in {p : Int} (h : 0 ≤ p) (h' : p < 64) : bit p = 2 ^ p.toNat := if_pos ⟨h, h'⟩
theorem bit_out {p : Int} (h : ¬ (0 ≤ p ∧ p < 64)) : bit p = 0 := if_neg h
theorem bit_lt (p : Int) : bit p < 2 ^ 64 := by
  unfold bit
  split
  · exact Nat.pow_lt_pow_right (by omega) (by omega)
  · exact Nat.two_pow_pos _
theorem has_in {m : Nat} {p : Int} (h : 0 ≤ p) (h' : p < 64) : has m p = m.testBit p.toNat := by simp [has, h, h']
theorem has_out {m : Nat} {p : Int} (h : ¬ (0 ≤ p ∧ p < 64)) : has m p = false := by simp [has]; intro a b; exact absurd ⟨a, b⟩ h

theorem and_pow (m i : Nat) : m &&& 2 ^ i = if m.testBit i then 2 ^ i else 0 := by
  apply Nat.eq_of_testBit_eq
  intro j
  rw [Nat.testBit_and, Nat.testBit_two_pow]
  by_cases hj : i = j
  · subst hj
    cases h : m.testBit i <;> simp
  · cases h : m.testBit i <;> simp [hj]
theorem and_bit (m : Nat) (p : Int) : m &&& bit p = if has m p then bit p else 0 := by
  by_cases h : 0 ≤ p ∧ p < 64
  · rw [bit_in h.1 h.2, has_in h.1 h.2, and_pow]
  · rw [bit_out h, has_out h]; simp
theorem bit_pos {p : Int} (h : 0 ≤ p) (h' : p < 64) : 0 < bit p := by rw [bit_in h h']; exact Nat.two_pow_pos _
theorem has_bit {m : Nat} {p : Int} (h : has m p = true) : 0 < bit p := by
  by_cases hp : 0 ≤ p ∧ p < 64
  · exact bit_pos hp.1 hp.2
  · rw [has_out hp] at h; cases h
theorem and_bit_ne (m : Nat) (p : Int) : (m &&& bit p ≠ 0) ↔ has m p = true := by
  rw [and_bit]
  cases h : has m p
  · simp
  · have := has_bit h
    simp
    omega

theorem ofBools_lt : ∀ l : List Bool, ofBools l < 2 ^ l.length
  | [] => by simp [ofBools]
  | b :: l => by
    have := ofBools_lt l
    rw [ofBools, List.length_cons, Nat.pow_succ]
    split <;> omega
theorem testBit_ofBools : ∀ (l : List Bool) (i : Nat), (ofBools l).testBit i = l.getD i false
  | [], i => by simp [ofBools]
  | b :: l, 0 => by
    rw [ofBools, Nat.testBit_zero]
    cases b <;> simp <;> omega
  | b :: l, i + 1 => by
    rw [ofBools, Nat.testBit_succ]
    have : ((if b then 1 else 0) + 2 * ofBools l) / 2 = ofBools l := by split <;> omega
    rw [this, testBit_ofBools l i]
    simp
theorem ofBools_ext {l : List Bool} {m n : Nat} (hl : l.length = n) (hm : m < 2 ^ n) (h : ∀ i, i < n → m.testBit i = l.getD i false) : m = ofBools l := by
  apply Nat.eq_of_testBit_eq
  intro i
  rw [testBit_ofBools]
  by_cases hi : i < n
  · exact h i hi
  · rw [Nat.testBit_lt_two_pow (Nat.lt_of_lt_of_le hm (Nat.pow_le_pow_right (by omega) (by omega)))]
    simp [List.getD_eq_getElem?_getD, List.getElem?_eq_none (show l.length ≤ i by omega)]

theorem set_true {l : List Bool} {i : Nat} (hl : l.length = 64) (hi : i < 64) : ofBools l ||| 2 ^ i = ofBools (l.set i true) := by
  have hm := ofBools_lt l
  rw [hl] at hm
  refine ofBools_ext (n := 64) (by simpa using hl) (Nat.or_lt_two_pow hm (Nat.pow_lt_pow_right (by omega) hi)) fun j hj => ?_
  rw [Nat.testBit_or, testBit_ofBools, Nat.testBit_two_pow]
  by_cases h : i = j
  · subst h
    simp [show i < l.length by omega]
  · simp [h, List.getElem?_set_ne h]
theorem set_false {l : List Bool} {i : Nat} (hl : l.length = 64) (hi : i < 64) : ofBools l &&& (18446744073709551615 - 2 ^ i) = ofBools (l.set i false) := by
  have hm := ofBools_lt l
  rw [hl] at hm
  have hp : 2 ^ i < 2 ^ 64 := Nat.pow_lt_pow_right (by omega) hi
  refine ofBools_ext (n := 64) (by simpa using hl) (Nat.lt_of_le_of_lt Nat.and_le_left hm) fun j hj => ?_
  rw [Nat.testBit_and, testBit_ofBools]
  have e : (18446744073709551615 - 2 ^ i).testBit j = !(2 ^ i).testBit j := by
    have := Nat.testBit_two_pow_sub_succ hp j
    rw [show (2 : Nat) ^ 64 - (2 ^ i + 1) = 18446744073709551615 - 2 ^ i by omega] at this
    rw [this]
    simp [hj]
  rw [e, Nat.testBit_two_pow]
  by_cases h : i = j
  · subst h
    simp [show i < l.length by omega]
  · simp [h, List.getElem?_set_ne h]
theorem ofBools_false (n : Nat) : ofBools (List.replicate n false) = 0 := by
  induction n with
  | zero => rfl
  | succ n ih => rw [List.replicate_succ, ofBools, ih]; rfl
theorem ofBools_snoc : ∀ (l : List Bool) (b : Bool), ofBools (l ++ [b]) = ofBools l + (if b then 2 ^ l.length else 0)
  | [], b => by cases b <;> rfl
  | x :: l, b => by
    rw [List.cons_append, ofBools, ofBools_snoc l b, ofBools, List.length_cons, Nat.pow_succ]
    split <;> split <;> omega
end Mark
end Go.Proofs.Ytcnmaplopbbmaaa
namespace Go.Proofs.Ytcnmaplopbbmaaa
open Go.RowKit

/-- a number of tokens as a value -/
def mk (m : Nat) : Value := .int .u64 (m : Int)

theorem ret_mark {a b : Int} {c : Bool} (h : a = b) : Ending.returned (.tuple #[.int .u64 a, .bool c]) = .returned (.tuple #[.int .u64 b, .bool c]) := by rw [h]
theorem pow_u64 {k : Nat} (h : 2 ^ k ≤ 2 ^ 63) : IntKind.u64.wrap (2 ^ k) = ((2 ^ k : Nat) : Int) := by
  have e : ((2 : Int) ^ k) = ((2 ^ k : Nat) : Int) := by simp
  rw [e]
  generalize 2 ^ k = q at h
  exact IntWalk.u64_in _ (by omega)
theorem ret_u64 {a b : Int} (h : a = b) : Ending.returned (.int .u64 a) = .returned (.int .u64 b) := by rw [h]

set_option maxRecDepth 100000 in
set_option maxHeartbeats 400000 in
theorem bit_any (p : Int) (w : World) : Calls Try.prog 49 #[.int .i64 p] w fun e w' => e = .returned (.int .u64 (Mark.bit p : Int)) ∧ w = w' := by
  by_cases h0 : 0 ≤ p
  · by_cases h1 : p < 64
    · have hp : (2 : Nat) ^ p.toNat ≤ 2 ^ 63 := Nat.pow_le_pow_right (by omega) (by omega)
      have Hb : Hid (_ = _) := Lib.hid (Mark.bit_in h0 h1)
      go_enter Try.func49, Try.ntmps49
      go_wp2
      go_ret
      exact ⟨ret_u64 (by rw [Hb.out]; exact pow_u64 hp), rfl⟩
    · have Hb : Hid (_ = _) := Lib.hid (Mark.bit_out (p := p) (by omega))
      go_enter Try.func49, Try.ntmps49
      go_wp2
      go_ret
      exact ⟨ret_u64 (by rw [Hb.out]; rfl), rfl⟩
  · have Hb : Hid (_ = _) := Lib.hid (Mark.bit_out (p := p) (by omega))
    go_enter Try.func49, Try.ntmps49
    go_wp2
    go_ret
    exact ⟨ret_u64 (by rw [Hb.out]; rfl), rfl⟩

set_option maxRecDepth 100000 in
set_option maxHeartbeats 400000 in
theorem has_any (m : Nat) (p : Int) (w : World) (hm : m < 2 ^ 64) : Calls Try.prog 48 #[.int .u64 (m : Int), .int .i64 p] w fun e w' => e = .returned (.bool (Mark.has m p)) ∧ w = w' := by
  have hlt := Mark.bit_lt p
  have hand := bits_and_u64_nat m (Mark.bit p) (by omega) (by omega)
  go_enter Try.func48, Try.ntmps48
  go_wp2_with (go_at_call 49; refine (bit_any p _).mono ?_; rintro e w' ⟨rfl, rfl⟩)
  go_ret
  refine ⟨congrArg (fun b => Ending.returned (.bool b)) ?_, rfl⟩
  have := Mark.and_bit_ne m p
  cases h : Mark.has m p <;> simp [h] at this ⊢ <;> omega

set_option maxRecDepth 100000 in
set_option maxHeartbeats 400000 in
theorem put_no (m : Nat) (p : Int) (w : World) (hm : m < 2 ^ 64) (h : ¬ (0 ≤ p ∧ p < 64) ∨ Mark.has m p = true) :
    Calls Try.prog 75 #[.int .u64 (m : Int), .int .i64 p] w fun e w' => e = .returned (.tuple #[.int .u64 (m : Int), .bool false]) ∧ w = w' := by
  have hlt := Mark.bit_lt p
  have hand := bits_and_u64_nat m (Mark.bit p) (by omega) (by omega)
  by_cases hz : Mark.bit p = 0
  · have hb : (((Mark.bit p : Nat) : Int) == 0) = true := by simp [hz]
    go_enter Try.func75, Try.ntmps75
    clear hz
    go_wp2_with (go_at_call 49; refine (bit_any p _).mono ?_; rintro e w' ⟨rfl, rfl⟩)
    go_ret2
    exact ⟨rfl, rfl⟩
  · have hb : (((Mark.bit p : Nat) : Int) == 0) = false := by simp [hz]
    have hh : Mark.has m p = true := by
      rcases h with h | h
      · exact absurd (Mark.bit_out h) hz
      · exact h
    have hn : (((m &&& Mark.bit p : Nat) : Int) != 0) = true := by
      have := (Mark.and_bit_ne m p).2 hh
      simp; omega
    go_enter Try.func75, Try.ntmps75
    clear hz hh h
    go_wp2_with (go_at_call 49; refine (bit_any p _).mono ?_; rintro e w' ⟨rfl, rfl⟩)
    go_ret2
    exact ⟨rfl, rfl⟩

set_option maxRecDepth 100000 in
set_option maxHeartbeats 400000 in
theorem put_yes (m : Nat) (p : Int) (w : World) (hm : m < 2 ^ 64) (h0 : 0 ≤ p) (h1 : p < 64) (h : Mark.has m p = false) :
    Calls Try.prog 75 #[.int .u64 (m : Int), .int .i64 p] w fun e w' => e = .returned (.tuple #[.int .u64 ((m ||| 2 ^ p.toNat : Nat) : Int), .bool true]) ∧ w = w' := by
  have hlt := Mark.bit_lt p
  have hand := bits_and_u64_nat m (Mark.bit p) (by omega) (by omega)
  have hor := bits_or_u64_nat m (Mark.bit p) (by omega) (by omega)
  have hb : (((Mark.bit p : Nat) : Int) == 0) = false := by have := Mark.bit_pos h0 h1; simp; omega
  have hn : (((m &&& Mark.bit p : Nat) : Int) != 0) = false := by
    have := mt (Mark.and_bit_ne m p).1 (by simp [h])
    simp; omega
  have Hb : Hid (_ = _) := Lib.hid (Mark.bit_in h0 h1)
  go_enter Try.func75, Try.ntmps75
  clear h
  go_wp2_with (go_at_call 49; refine (bit_any p _).mono ?_; rintro e w' ⟨rfl, rfl⟩)
  go_ret2
  exact ⟨ret_mark (by rw [← Hb.out]), rfl⟩

/-- the reference's tokens as cells: a truth for each place, and one more -/
def tokCells (l : List Bool) : Array Value := (l.map Value.bool ++ [Value.bool false]).toArray
theorem tokCells_size (l : List Bool) : (tokCells l).size = l.length + 1 := by simp [tokCells]
theorem tokCells_get {l : List Bool} {i : Nat} (h : i < l.length) : (tokCells l)[i]? = some (.bool (l.getD i false)) := by
  simp [tokCells, List.getElem?_append, h]

theorem wrap_u64_nat (X : Nat) : IntKind.u64.wrap ((X : Int) * 2) = ((2 * X % 2 ^ 64 : Nat) : Int) := by
  rw [IntKind.wrap_u64]
  omega

set_option maxRecDepth 100000 in
set_option maxHeartbeats 400000 in
theorem tokens_mark (l : List Bool) (w : World) (hl : l.length = 64) :
    Calls Try.prog 31 #[.agg (tokCells l)] w fun e w' => e = .returned (.int .u64 (Mark.ofBools l : Int)) ∧ w' = w.alloc (.cells (tokCells l) 80) := by
  have Hcell : Hid (∀ k, k < 64 → (w.alloc (.cells (tokCells l) 80)).cell? ⟨w.heap.size, k, none⟩ = some (.bool (l.getD k false))) := Lib.hid fun k hk => by
    rw [World.cell?_alloc_new]
    exact tokCells_get (by omega)
  have Hlt : Hid (∀ k, k ≤ 64 → Mark.ofBools (l.take k) < 2 ^ k) := Lib.hid fun k hk => by
    have := Mark.ofBools_lt (l.take k)
    rwa [List.length_take, Nat.min_eq_left (by omega)] at this
  have Hsn : Hid (∀ k, k < 64 → Mark.ofBools (l.take (k + 1)) = Mark.ofBools (l.take k) + if l.getD k false then 2 ^ k else 0) := Lib.hid fun k hk => by
    rw [List.take_succ_eq_append_getElem (by omega), Mark.ofBools_snoc, List.length_take, Nat.min_eq_left (by omega)]
    simp [show k < l.length by omega]
  have Hl := Lib.hid hl
  generalize tokCells l = c at *
  clear hl
  go_enter Try.func31, Try.ntmps31
  go_wp2_with fail
  go_loop [3, 4, 5] (fun m x i => ∃ k : Nat, k ≤ 64 ∧ i = .int .i64 k ∧ m = .int .u64 (Mark.ofBools (l.take k) : Int) ∧ x = .int .u64 ((2 ^ k % 2 ^ 64 : Nat) : Int)) (fun _ _ i => 64 - (intOf i).toNat)
  case atStart => exact ⟨0, by omega, rfl, rfl, rfl⟩
  case round =>
    obtain ⟨k, hk, rfl, rfl, rfl⟩ := hrel
    by_cases hk64 : k < 64
    · have hcell := Hcell.out k hk64
      have hp : (2 : Nat) ^ k ≤ 2 ^ 63 := Nat.pow_le_pow_right (by omega) (by omega)
      have hlt := Hlt.out k hk
      have hmod : Hid (2 ^ k % 2 ^ 64 = 2 ^ k) := Lib.hid (Nat.mod_eq_of_lt (by omega))
      have hx : Hid (2 ^ (k + 1) % 2 ^ 64 = 2 * 2 ^ k % 2 ^ 64) := Lib.hid (by rw [Nat.pow_succ, Nat.mul_comm])
      have hs := Hsn.out k hk64
      have Hs := Lib.hid hs
      rw [hmod.out]
      clear hs hmod
      have hlt' : Mark.ofBools (l.take k) < 2 ^ 63 := by
        rcases Nat.lt_or_ge k 63 with h | h
        · have : (2 : Nat) ^ k ≤ 2 ^ 63 := Nat.pow_le_pow_right (by omega) (by omega)
          omega
        · have : k = 63 := by omega
          subst this
          exact hlt
      generalize Mark.ofBools (l.take k) = M at *
      generalize hX : 2 ^ k = X at *
      clear hX
      cases hb : l.getD k false with
      | true =>
        rw [hb] at hcell Hs
        go_wp2
        go_round
        case rel =>
          refine ⟨k + 1, by omega, by go_num, ?_, ?_⟩
          · rw [Hs.out]; go_num
          · rw [hx.out]; exact congrArg (Value.int .u64) (wrap_u64_nat X)
        case measure => simp [intOf]; omega
      | false =>
        rw [hb] at hcell Hs
        go_wp2
        go_round
        case rel =>
          refine ⟨k + 1, by omega, by go_num, ?_, ?_⟩
          · rw [Hs.out]; go_num
          · rw [hx.out]; exact congrArg (Value.int .u64) (wrap_u64_nat X)
        case measure => simp [intOf]; omega
    · have : k = 64 := by omega
      subst this
      go_wp2
      go_ret
      exact ⟨ret_u64 (by rw [List.take_of_length_le (by rw [Hl.out]; omega)]), rfl⟩
end Go.Proofs.Ytcnmaplopbbmaaa

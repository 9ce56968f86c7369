/- Tokens as the bits of a number: plain facts, no program. -/
import Derived.Test.YtjapakmpnkbemaaDoorBits
namespace Go.Proofs.YtjapakmpnkbemaaDoor
open Go.RowKit
namespace Mark

/-- a place's bit -/
def bit (p : Int) : Nat := if 0 ≤ p ∧ p < 64 then 2 ^ p.toNat else 0
/-- is there a token at a place -/
def has (m : Nat) (p : Int) : Bool := decide (0 ≤ p ∧ p < 64) && m.testBit p.toNat
/-- the number whose bits are the truths, the first the lowest -/
def ofBools : List Bool → Nat
  | [] => 0
  | b :: l => (if b then 1 else 0) + 2 * ofBools l

theorem bit_in {p : Int} (h : 0 ≤ p) (h' : p < 64) : bit p = 2 ^ p.toNat := if_pos ⟨h, h'⟩
theorem bit_out {p : Int} (h : ¬ (0 ≤ p ∧ p < 64)) : bit p = 0 := if_neg h
theorem bit_lt (p : Int) : bit p < 2 ^ 64 := by
  unfold bit
  split
  · exact Nat.pow_lt_pow_right (by omega) (by omega)
  · exact Nat.two_pow_pos _
theorem has_in {m : Nat} {p : Int} (h : 0 ≤ p) (h' : p < 64) : has m p = m.testBit p.toNat := by simp [has, h, h']
theorem has_out {m : Nat} {p : Int} (h : ¬ (0 ≤ p ∧ p < 64)) : has m p = false := by simp [has]; intro a b; exact absurd ⟨a, b⟩ h

theorem and_pow (m i : Nat) : m &&& 2 ^ i = if m.testBit i then 2 ^ i else 0 := by
  apply Nat.eq_of_testBit_eq
  intro j
  rw [Nat.testBit_and, Nat.testBit_two_pow]
  by_cases hj : i = j
  · subst hj
    cases h : m.testBit i <;> simp
  · cases h : m.testBit i <;> simp [hj]
theorem and_bit (m : Nat) (p : Int) : m &&& bit p = if has m p then bit p else 0 := by
  by_cases h : 0 ≤ p ∧ p < 64
  · rw [bit_in h.1 h.2, has_in h.1 h.2, and_pow]
  · rw [bit_out h, has_out h]; simp
theorem bit_pos {p : Int} (h : 0 ≤ p) (h' : p < 64) : 0 < bit p := by rw [bit_in h h']; exact Nat.two_pow_pos _
theorem has_bit {m : Nat} {p : Int} (h : has m p = true) : 0 < bit p := by
  by_cases hp : 0 ≤ p ∧ p < 64
  · exact bit_pos hp.1 hp.2
  · rw [has_out hp] at h; cases h
theorem and_bit_ne (m : Nat) (p : Int) : (m &&& bit p ≠ 0) ↔ has m p = true := by
  rw [and_bit]
  cases h : has m p
  · simp
  · have := has_bit h
    simp
    omega

theorem ofBools_lt : ∀ l : List Bool, ofBools l < 2 ^ l.length
  | [] => by simp [ofBools]
  | b :: l => by
    have := ofBools_lt l
    rw [ofBools, List.length_cons, Nat.pow_succ]
    split <;> omega
theorem testBit_ofBools : ∀ (l : List Bool) (i : Nat), (ofBools l).testBit i = l.getD i false
  | [], i => by simp [ofBools]
  | b :: l, 0 => by
    rw [ofBools, Nat.testBit_zero]
    cases b <;> simp <;> omega
  | b :: l, i + 1 => by
    rw [ofBools, Nat.testBit_succ]
    have : ((if b then 1 else 0) + 2 * ofBools l) / 2 = ofBools l := by split <;> omega
    rw [this, testBit_ofBools l i]
    simp
theorem ofBools_ext {l : List Bool} {m n : Nat} (hl : l.length = n) (hm : m < 2 ^ n) (h : ∀ i, i < n → m.testBit i = l.getD i false) : m = ofBools l := by
  apply Nat.eq_of_testBit_eq
  intro i
  rw [testBit_ofBools]
  by_cases hi : i < n
  · exact h i hi
  · rw [Nat.testBit_lt_two_pow (Nat.lt_of_lt_of_le hm (Nat.pow_le_pow_right (by omega) (by omega)))]
    simp [List.getD_eq_getElem?_getD, List.getElem?_eq_none (show l.length ≤ i by omega)]

theorem set_true {l : List Bool} {i : Nat} (hl : l.length = 64) (hi : i < 64) : ofBools l ||| 2 ^ i = ofBools (l.set i true) := by
  have hm := ofBools_lt l
  rw [hl] at hm
  refine ofBools_ext (n := 64) (by simpa using hl) (Nat.or_lt_two_pow hm (Nat.pow_lt_pow_right (by omega) hi)) fun j hj => ?_
  rw [Nat.testBit_or, testBit_ofBools, Nat.testBit_two_pow]
  by_cases h : i = j
  · subst h
    simp [show i < l.length by omega]
  · simp [h, List.getElem?_set_ne h]
theorem set_false {l : List Bool} {i : Nat} (hl : l.length = 64) (hi : i < 64) : ofBools l &&& (18446744073709551615 - 2 ^ i) = ofBools (l.set i false) := by
  have hm := ofBools_lt l
  rw [hl] at hm
  have hp : 2 ^ i < 2 ^ 64 := Nat.pow_lt_pow_right (by omega) hi
  refine ofBools_ext (n := 64) (by simpa using hl) (Nat.lt_of_le_of_lt Nat.and_le_left hm) fun j hj => ?_
  rw [Nat.testBit_and, testBit_ofBools]
  have e : (18446744073709551615 - 2 ^ i).testBit j = !(2 ^ i).testBit j := by
    have := Nat.testBit_two_pow_sub_succ hp j
    rw [show (2 : Nat) ^ 64 - (2 ^ i + 1) = 18446744073709551615 - 2 ^ i by omega] at this
    rw [this]
    simp [hj]
  rw [e, Nat.testBit_two_pow]
  by_cases h : i = j
  · subst h
    simp [show i < l.length by omega]
  · simp [h, List.getElem?_set_ne h]
theorem ofBools_false (n : Nat) : ofBools (List.replicate n false) = 0 := by
  induction n with
  | zero => rfl
  | succ n ih => rw [List.replicate_succ, ofBools, ih]; rfl
theorem ofBools_snoc : ∀ (l : List Bool) (b : Bool), ofBools (l ++ [b]) = ofBools l + (if b then 2 ^ l.length else 0)
  | [], b => by cases b <;> rfl
  | x :: l, b => by
    rw [List.cons_append, ofBools, ofBools_snoc l b, ofBools, List.length_cons, Nat.pow_succ]
    split <;> split <;> omega
end Mark
end Go.Proofs.YtjapakmpnkbemaaDoor

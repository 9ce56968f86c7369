/- The set bits of a number, rising; how many there are; the library's way to count them. Plain facts, no program. -/
/- math/bits.OnesCount64, TrailingZeros64; mark.Count, mark.List by their contracts. -/
import Derived.Test.YtcnmaplopbbmaaaMBd
import Derived.Lib.TrailingZeros
import Derived.Lib.LaidTab
namespace Go.Proofs.Ytcnmaplopbbmaaa
open Go.RowKit
namespace Mark

/-- the places of the n lowest bits that are set, the lowest named k -/
def posL : Nat → Nat → Nat → List Int
  | 0, _, _ => []
  | n + 1, k, x => if x % 2 = 1 then (k : Int) :: posL n (k + 1) (x / 2) else posL n (k + 1) (x / 2)
/-- how many of the n lowest bits are set -/
def pop : Nat → Nat → Nat
  | 0, _ => 0
  | n + 1, x => x % 2 + pop n (x / 2)

theorem posL_len : ∀ (n k x : Nat), (posL n k x).length = pop n x
  | 0, _, _ => rfl
  | n + 1, k, x => by
    unfold posL pop
    split
    · rw [List.length_cons, posL_len n (k + 1) (x / 2)]; omega
    · rw [posL_len n (k + 1) (x / 2)]; omega
theorem pop_le : ∀ (n x : Nat), pop n x ≤ n
  | 0, _ => Nat.le_refl _
  | n + 1, x => by unfold pop; have := pop_le n (x / 2); omega
theorem posL_zero : ∀ (n k : Nat), posL n k 0 = []
  | 0, _ => rfl
  | n + 1, k => by unfold posL; simp [posL_zero n (k + 1)]

/-- the lowest set bit ahead, the others behind -/
theorem posL_low : ∀ (n k m : Nat), 0 < m → m < 2 ^ n → posL n k m = ((k + Lib.ctzFrom n m : Nat) : Int) :: posL n k (m &&& (m - 1))
  | 0, _, m, h0, h => by simp at h; omega
  | n + 1, k, m, h0, h => by
    have hm : (m &&& (m - 1)) % 2 = (m % 2) &&& ((m - 1) % 2) := by simpa using Nat.and_mod_two_pow (a := m) (b := m - 1) (n := 1)
    have hd : (m &&& (m - 1)) / 2 = (m / 2) &&& ((m - 1) / 2) := by simpa using Nat.and_div_two_pow (a := m) (b := m - 1) (n := 1)
    by_cases h1 : m % 2 = 1
    · have e : (m - 1) / 2 = m / 2 := by omega
      have e0 : (m &&& (m - 1)) % 2 = 0 := by rw [hm, show (m - 1) % 2 = 0 by omega]; simp
      rw [e, Nat.and_self] at hd
      rw [posL, if_pos h1, posL, if_neg (by omega), hd, Lib.ctzFrom, if_pos h1]
      simp
    · have e : (m - 1) / 2 = m / 2 - 1 := by omega
      have e0 : (m &&& (m - 1)) % 2 = 0 := by rw [hm, show m % 2 = 0 by omega]; simp
      rw [e] at hd
      have := posL_low n (k + 1) (m / 2) (by omega) (by rw [Nat.pow_succ] at h; omega)
      rw [posL, if_neg h1, posL, if_neg (by omega), hd, Lib.ctzFrom, if_neg h1, this]
      congr 2
      omega
theorem posL_next {m : Nat} (h0 : m ≠ 0) (h : m < 2 ^ 64) : posL 64 0 m = (Lib.ctz 64 m : Int) :: posL 64 0 (m &&& (m - 1)) := by
  rw [posL_low 64 0 m (by omega) h, Lib.ctz, if_neg h0, Nat.zero_add]

/-- the highest bit behind -/
theorem posL_snoc : ∀ (n k x : Nat), posL (n + 1) k x = posL n k x ++ (if x.testBit n then [((k + n : Nat) : Int)] else [])
  | 0, k, x => by
    rw [posL, posL, posL, Nat.testBit_zero]
    by_cases h : x % 2 = 1 <;> simp [h]
  | n + 1, k, x => by
    rw [posL, posL_snoc n (k + 1) (x / 2), ← Nat.testBit_succ, show k + 1 + n = k + (n + 1) by omega, posL]
    split <;> simp
theorem posL_app (n k x : Nat) : ∀ m : Nat, ∃ l, posL (n + m) k x = posL n k x ++ l
  | 0 => ⟨[], by simp⟩
  | m + 1 => by
    obtain ⟨l, h⟩ := posL_app n k x m
    exact ⟨_, by rw [← Nat.add_assoc, posL_snoc, h, List.append_assoc]⟩
/-- the place of a set bit, where it stands -/
theorem posL_at {x i : Nat} (hi : i < 64) (hb : x.testBit i = true) : pop i x < pop 64 x ∧ (posL 64 0 x).getD (pop i x) 0 = (i : Int) := by
  obtain ⟨l, h⟩ := posL_app (i + 1) 0 x (63 - i)
  rw [show i + 1 + (63 - i) = 64 by omega, posL_snoc i 0 x, if_pos hb, Nat.zero_add] at h
  have hl : (posL i 0 x).length = pop i x := posL_len i 0 x
  refine ⟨?_, ?_⟩
  · rw [← posL_len 64 0 x, h, ← hl]; simp
  · rw [h, ← hl]; simp
theorem pop_snoc (n x : Nat) : pop (n + 1) x = pop n x + if x.testBit n then 1 else 0 := by
  rw [← posL_len (n + 1) 0 x, posL_snoc, List.length_append, posL_len]
  split <;> rfl

/-- the tokens of those places are the number -/
theorem ofL_posL (x : Nat) : ∀ n, n ≤ 64 → ofL 0 (posL n 0 x) = x % 2 ^ n
  | 0, _ => by simp [posL, ofL, Nat.mod_one]
  | n + 1, h => by
    have ih := ofL_posL x n (by omega)
    rw [posL_snoc]
    apply Nat.eq_of_testBit_eq
    intro j
    rw [Nat.testBit_mod_two_pow]
    cases hb : x.testBit n with
    | false =>
      rw [if_neg (by simp), List.append_nil, ih, Nat.testBit_mod_two_pow]
      by_cases hj : j = n
      · subst hj; simp [hb]
      · have : (j < n) = (j < n + 1) := by apply propext; omega
        simp [this]
    | true =>
      rw [if_pos rfl, Nat.zero_add, ofL_snoc, ih, bit_in (by omega) (by omega), Int.toNat_natCast, Nat.testBit_or, Nat.testBit_mod_two_pow, Nat.testBit_two_pow]
      by_cases hj : j = n
      · subst hj; simp [hb]
      · have : (j < n) = (j < n + 1) := by apply propext; omega
        have h' : ¬ n = j := fun e => hj e.symm
        simp [this, h']
theorem ofL_posL_all {x : Nat} (h : x < 2 ^ 64) : ofL 0 (posL 64 0 x) = x := by rw [ofL_posL x 64 (by omega), Nat.mod_eq_of_lt h]

/- the library's count: pairs, fours, bytes -/
def s1 (b : Nat) : Nat := (b / 2 &&& 85) + (b &&& 85)
def s2 (b : Nat) : Nat := (b / 4 &&& 51) + (b &&& 51)
def mask (m : Nat) : Nat → Nat
  | 0 => 0
  | n + 1 => m + 256 * mask m n
theorem mask_succ (m n : Nat) : mask m (n + 1) = m + 256 * mask m n := rfl
def X1 (n x : Nat) : Nat := (x / 2 &&& mask 85 n) + (x &&& mask 85 n)
def X2 (n x : Nat) : Nat := (x / 4 &&& mask 51 n) + (x &&& mask 51 n)
def X3 (n x : Nat) : Nat := (x / 16 + x) &&& mask 15 n

theorem and_split (x m M : Nat) (hm : m < 256) : x &&& (m + 256 * M) = (x % 256 &&& m) + 256 * (x / 256 &&& M) := by
  have h1 : (x &&& (m + 256 * M)) % 256 = x % 256 &&& (m + 256 * M) % 256 := Nat.and_mod_two_pow (n := 8)
  have h2 : (x &&& (m + 256 * M)) / 256 = x / 256 &&& (m + 256 * M) / 256 := Nat.and_div_two_pow (n := 8)
  rw [show (m + 256 * M) % 256 = m by omega] at h1
  rw [show (m + 256 * M) / 256 = M by omega] at h2
  omega
theorem half85 : ∀ a, a < 128 → ∀ b, b < 2 → (a + 128 * b) &&& 85 = a &&& 85 := by decide +kernel
theorem quarter51 : ∀ a, a < 64 → ∀ b, b < 4 → (a + 64 * b) &&& 51 = a &&& 51 := by decide +kernel
theorem s1_lt : ∀ b, b < 256 → s1 b < 256 := by decide +kernel
theorem s2_lt : ∀ b, b < 256 → s2 b < 256 := by decide +kernel

theorem X1_succ (n x : Nat) : X1 (n + 1) x = s1 (x % 256) + 256 * X1 n (x / 256) := by
  unfold X1 s1
  rw [mask_succ, and_split _ _ _ (by omega), and_split x _ _ (by omega)]
  have h : x / 2 % 256 &&& 85 = x % 256 / 2 &&& 85 := by
    rw [show x / 2 % 256 = x % 256 / 2 + 128 * (x / 256 % 2) by omega]
    exact half85 _ (by omega) _ (by omega)
  rw [h, show x / 2 / 256 = x / 256 / 2 by omega]
  omega
theorem X2_succ (n x : Nat) : X2 (n + 1) x = s2 (x % 256) + 256 * X2 n (x / 256) := by
  unfold X2 s2
  rw [mask_succ, and_split _ _ _ (by omega), and_split x _ _ (by omega)]
  have h : x / 4 % 256 &&& 51 = x % 256 / 4 &&& 51 := by
    rw [show x / 4 % 256 = x % 256 / 4 + 64 * (x / 256 % 4) by omega]
    exact quarter51 _ (by omega) _ (by omega)
  rw [h, show x / 4 / 256 = x / 256 / 4 by omega]
  omega
def Z (n x : Nat) : Nat := X2 n (X1 n x)
theorem Z_succ (n x : Nat) : Z (n + 1) x = s2 (s1 (x % 256)) + 256 * Z n (x / 256) := by
  have h := s1_lt (x % 256) (by omega)
  unfold Z
  rw [X1_succ, X2_succ, show (s1 (x % 256) + 256 * X1 n (x / 256)) % 256 = s1 (x % 256) by omega, show (s1 (x % 256) + 256 * X1 n (x / 256)) / 256 = X1 n (x / 256) by omega]
theorem nib : ∀ b, b < 256 → s2 (s1 b) % 16 ≤ 4 ∧ s2 (s1 b) / 16 ≤ 4 ∧ s2 (s1 b) % 16 + s2 (s1 b) / 16 = pop 8 b := by decide +kernel
theorem Z_low (n x : Nat) : Z n x % 16 ≤ 4 := by
  cases n with
  | zero => unfold Z X2 X1 mask; simp
  | succ n =>
    rw [Z_succ]
    have := (nib (x % 256) (by omega)).1
    omega
theorem and15 (x : Nat) : x &&& 15 = x % 16 := Nat.and_two_pow_sub_one_eq_mod x 4
theorem X3_succ (n x : Nat) : X3 (n + 1) (Z (n + 1) x) = pop 8 (x % 256) + 256 * X3 n (Z n (x / 256)) := by
  obtain ⟨h1, h2, h3⟩ := nib (x % 256) (by omega)
  have h4 := Z_low n (x / 256)
  rw [Z_succ]
  generalize Z n (x / 256) = h at *
  generalize s2 (s1 (x % 256)) = d at *
  unfold X3
  rw [mask_succ, and_split _ _ _ (by omega), and15]
  rw [show ((d + 256 * h) / 16 + (d + 256 * h)) % 256 % 16 = pop 8 (x % 256) by omega, show ((d + 256 * h) / 16 + (d + 256 * h)) / 256 = h / 16 + h by omega]
/-- the bits of bytes, one behind the other -/
def bytesPop : Nat → Nat → Nat
  | 0, _ => 0
  | n + 1, x => pop 8 (x % 256) + 256 * bytesPop n (x / 256)
theorem X3_all : ∀ n x, X3 n (Z n x) = bytesPop n x
  | 0, x => by unfold X3 mask bytesPop; simp
  | n + 1, x => by rw [X3_succ, X3_all n, bytesPop]
theorem pop_byte (n x : Nat) : pop (8 + n) x = pop 8 (x % 256) + pop n (x / 256) := by
  rw [show 8 + n = n + 1 + 1 + 1 + 1 + 1 + 1 + 1 + 1 by omega]
  simp only [pop]
  rw [show x / 2 / 2 / 2 / 2 / 2 / 2 / 2 / 2 = x / 256 by omega]
  omega
theorem pop_lt (x : Nat) : pop 8 x ≤ 8 := pop_le 8 x
/-- the last three sums, and the lowest seven bits -/
def fold (y : Nat) : Nat :=
  let a := y + y / 256
  let b := a + a / 65536
  (b + b / 4294967296) % 128
theorem fold_sum {p0 p1 p2 p3 p4 p5 p6 p7 r0 r1 r2 r3 r4 r5 r6 r7 : Nat} (h0 : p0 ≤ 8) (h1 : p1 ≤ 8) (h2 : p2 ≤ 8) (h3 : p3 ≤ 8) (h4 : p4 ≤ 8) (h5 : p5 ≤ 8) (h6 : p6 ≤ 8) (h7 : p7 ≤ 8)
    (e0 : r0 = p0 + 256 * r1) (e1 : r1 = p1 + 256 * r2) (e2 : r2 = p2 + 256 * r3) (e3 : r3 = p3 + 256 * r4) (e4 : r4 = p4 + 256 * r5) (e5 : r5 = p5 + 256 * r6) (e6 : r6 = p6 + 256 * r7) (e7 : r7 = p7) :
    fold r0 = p0 + (p1 + (p2 + (p3 + (p4 + (p5 + (p6 + p7)))))) := by
  have a1 : r0 / 256 = r1 := by omega
  have a2 : (r0 + r1) / 65536 = r2 + r3 := by clear e4 e5 e6 e7; omega
  have b0 : r0 = p0 + 256 * p1 + 65536 * p2 + 16777216 * p3 + 4294967296 * r4 := by omega
  have b1 : r1 = p1 + 256 * p2 + 65536 * p3 + 16777216 * p4 + 4294967296 * r5 := by omega
  have b2 : r2 = p2 + 256 * p3 + 65536 * p4 + 16777216 * p5 + 4294967296 * r6 := by omega
  have b3 : r3 = p3 + 256 * p4 + 65536 * p5 + 16777216 * p6 + 4294967296 * r7 := by omega
  have a3 : (r0 + r1 + (r2 + r3)) / 4294967296 = r4 + r5 + r6 + r7 := by clear e0 e1 e2 e3 e4 e5 e6 e7 a1 a2; omega
  have f : fold r0 = (r0 + r1 + (r2 + r3) + (r4 + r5 + r6 + r7)) % 128 := by
    unfold fold
    simp only [a1, a2, a3]
  rw [f]
  clear a1 a2 a3 b0 b1 b2 b3 f
  omega
theorem fold_bytes (x : Nat) : fold (bytesPop 8 x) = pop 64 x := by
  have e : pop 64 x = pop 8 (x % 256) + (pop 8 (x / 256 % 256) + (pop 8 (x / 256 / 256 % 256) + (pop 8 (x / 256 / 256 / 256 % 256) + (pop 8 (x / 256 / 256 / 256 / 256 % 256) + (pop 8 (x / 256 / 256 / 256 / 256 / 256 % 256) + (pop 8 (x / 256 / 256 / 256 / 256 / 256 / 256 % 256) + pop 8 (x / 256 / 256 / 256 / 256 / 256 / 256 / 256 % 256))))))) := by
    have h := fun n y => pop_byte n y
    rw [show (64 : Nat) = 8 + (8 + (8 + (8 + (8 + (8 + (8 + (8 + 0))))))) by rfl]
    iterate 8 rw [h]
    simp [pop]
  rw [e]
  unfold bytesPop bytesPop bytesPop bytesPop bytesPop bytesPop bytesPop bytesPop bytesPop
  have h0 := pop_lt (x % 256)
  have h1 := pop_lt (x / 256 % 256)
  have h2 := pop_lt (x / 256 / 256 % 256)
  have h3 := pop_lt (x / 256 / 256 / 256 % 256)
  have h4 := pop_lt (x / 256 / 256 / 256 / 256 % 256)
  have h5 := pop_lt (x / 256 / 256 / 256 / 256 / 256 % 256)
  have h6 := pop_lt (x / 256 / 256 / 256 / 256 / 256 / 256 % 256)
  have h7 := pop_lt (x / 256 / 256 / 256 / 256 / 256 / 256 / 256 % 256)
  generalize pop 8 (x % 256) = p0 at *
  generalize pop 8 (x / 256 % 256) = p1 at *
  generalize pop 8 (x / 256 / 256 % 256) = p2 at *
  generalize pop 8 (x / 256 / 256 / 256 % 256) = p3 at *
  generalize pop 8 (x / 256 / 256 / 256 / 256 % 256) = p4 at *
  generalize pop 8 (x / 256 / 256 / 256 / 256 / 256 % 256) = p5 at *
  generalize pop 8 (x / 256 / 256 / 256 / 256 / 256 / 256 % 256) = p6 at *
  generalize pop 8 (x / 256 / 256 / 256 / 256 / 256 / 256 / 256 % 256) = p7 at *
  clear e
  obtain ⟨r7, e7⟩ : ∃ r, r = p7 + 256 * 0 := ⟨_, rfl⟩
  rw [← e7]
  obtain ⟨r6, e6⟩ : ∃ r, r = p6 + 256 * r7 := ⟨_, rfl⟩
  rw [← e6]
  obtain ⟨r5, e5⟩ : ∃ r, r = p5 + 256 * r6 := ⟨_, rfl⟩
  rw [← e5]
  obtain ⟨r4, e4⟩ : ∃ r, r = p4 + 256 * r5 := ⟨_, rfl⟩
  rw [← e4]
  obtain ⟨r3, e3⟩ : ∃ r, r = p3 + 256 * r4 := ⟨_, rfl⟩
  rw [← e3]
  obtain ⟨r2, e2⟩ : ∃ r, r = p2 + 256 * r3 := ⟨_, rfl⟩
  rw [← e2]
  obtain ⟨r1, e1⟩ : ∃ r, r = p1 + 256 * r2 := ⟨_, rfl⟩
  rw [← e1]
  obtain ⟨r0, e0⟩ : ∃ r, r = p0 + 256 * r1 := ⟨_, rfl⟩
  rw [← e0]
  exact fold_sum h0 h1 h2 h3 h4 h5 h6 h7 e0 e1 e2 e3 e4 e5 e6 (by omega)
end Mark
end Go.Proofs.Ytcnmaplopbbmaaa
namespace Go.Proofs.Ytcnmaplopbbmaaa
open Go.RowKit

namespace Mark
theorem u64_sum (a b : Nat) (h : a + b < 18446744073709551616) : IntKind.u64.wrap ((a : Int) + (b : Int)) = ((a + b : Nat) : Int) := by
  rw [IntKind.wrap_u64]; omega
theorem and_le_mask (x m : Nat) : x &&& m ≤ m := Nat.and_le_right
theorem mask85 : mask 85 8 = 6148914691236517205 := by decide
theorem mask51 : mask 51 8 = 3689348814741910323 := by decide
theorem mask15 : mask 15 8 = 1085102592571150095 := by decide
theorem X1_lt (x : Nat) : X1 8 x < 18446744073709551616 := by
  have h1 := and_le_mask (x / 2) (mask 85 8)
  have h2 := and_le_mask x (mask 85 8)
  unfold X1
  rw [mask85] at *
  omega
theorem X2_lt (x : Nat) : X2 8 x ≤ 7378697629483820646 := by
  have h1 := and_le_mask (x / 4) (mask 51 8)
  have h2 := and_le_mask x (mask 51 8)
  unfold X2
  rw [mask51] at *
  omega
theorem X3_lt (x : Nat) : X3 8 x ≤ 1085102592571150095 := by
  have h1 := and_le_mask (x / 16 + x) (mask 15 8)
  unfold X3
  rw [mask15] at *
  omega
theorem step1 (x : Nat) (hx : x < 18446744073709551616) : IntKind.u64.wrap (bits .and .u64 ((x : Int) / 2) 6148914691236517205 + bits .and .u64 (x : Int) 6148914691236517205) = ((X1 8 x : Nat) : Int) := by
  have h := X1_lt x
  have e1 := bits_and_u64_nat (x / 2) 6148914691236517205 (by omega) (by omega)
  have e2 := bits_and_u64_nat x 6148914691236517205 (by omega) (by omega)
  rw [show ((x : Int) / 2) = ((x / 2 : Nat) : Int) by omega, show (6148914691236517205 : Int) = ((6148914691236517205 : Nat) : Int) by rfl, e1, e2]
  unfold X1 at *
  rw [mask85] at *
  exact u64_sum _ _ h
theorem step2 (x : Nat) (hx : x < 18446744073709551616) : IntKind.u64.wrap (bits .and .u64 ((x : Int) / 4) 3689348814741910323 + bits .and .u64 (x : Int) 3689348814741910323) = ((X2 8 x : Nat) : Int) := by
  have h := X2_lt x
  have e1 := bits_and_u64_nat (x / 4) 3689348814741910323 (by omega) (by omega)
  have e2 := bits_and_u64_nat x 3689348814741910323 (by omega) (by omega)
  rw [show ((x : Int) / 4) = ((x / 4 : Nat) : Int) by omega, show (3689348814741910323 : Int) = ((3689348814741910323 : Nat) : Int) by rfl, e1, e2]
  unfold X2 at *
  rw [mask51] at *
  exact u64_sum _ _ (by omega)
theorem step3 (x : Nat) (hx : x ≤ 7378697629483820646) : bits .and .u64 (IntKind.u64.wrap ((x : Int) / 16 + (x : Int))) 1085102592571150095 = ((X3 8 x : Nat) : Int) := by
  have e1 := bits_and_u64_nat (x / 16 + x) 1085102592571150095 (by omega) (by omega)
  rw [show ((x : Int) / 16) = ((x / 16 : Nat) : Int) by omega, u64_sum _ _ (by omega), show (1085102592571150095 : Int) = ((1085102592571150095 : Nat) : Int) by rfl, e1]
  unfold X3
  rw [mask15]
theorem step4 (x : Nat) (hx : x ≤ 1085102592571150095) : IntKind.u64.wrap ((x : Int) + (x : Int) / 256) = ((x + x / 256 : Nat) : Int) := by
  rw [show ((x : Int) / 256) = ((x / 256 : Nat) : Int) by omega, u64_sum _ _ (by omega)]
theorem step5 (x : Nat) (hx : x ≤ 1300000000000000000) : IntKind.u64.wrap ((x : Int) + (x : Int) / 65536) = ((x + x / 65536 : Nat) : Int) := by
  rw [show ((x : Int) / 65536) = ((x / 65536 : Nat) : Int) by omega, u64_sum _ _ (by omega)]
theorem step6 (x : Nat) (hx : x ≤ 1400000000000000000) : IntKind.u64.wrap ((x : Int) + (x : Int) / 4294967296) = ((x + x / 4294967296 : Nat) : Int) := by
  rw [show ((x : Int) / 4294967296) = ((x / 4294967296 : Nat) : Int) by omega, u64_sum _ _ (by omega)]
end Mark

set_option maxRecDepth 100000 in
set_option maxHeartbeats 400000 in
theorem ones_any (x : Nat) (hx : x < 18446744073709551616) (w : World) : Calls Try.prog 68 #[.int .u64 (x : Int)] w fun e w' => e = .returned (.int .i64 (Mark.pop 64 x : Int)) ∧ w = w' := by
  have h1 := Mark.step1 x hx
  have h2 := Mark.step2 (Mark.X1 8 x) (Mark.X1_lt x)
  have h3 := Mark.step3 _ (Mark.X2_lt (Mark.X1 8 x))
  have h4 := Mark.step4 _ (Mark.X3_lt (Mark.X2 8 (Mark.X1 8 x)))
  have hb := Mark.X3_lt (Mark.X2 8 (Mark.X1 8 x))
  have E : Hid (Mark.fold (Mark.X3 8 (Mark.X2 8 (Mark.X1 8 x))) = Mark.pop 64 x) := Lib.hid (by
    have h := Mark.fold_bytes x
    rwa [← Mark.X3_all] at h)
  generalize Mark.X1 8 x = x1 at *
  generalize Mark.X2 8 x1 = x2 at *
  generalize Mark.X3 8 x2 = x3 at *
  have h5 := Mark.step5 (x3 + x3 / 256) (by omega)
  have hb4 : x3 + x3 / 256 ≤ 1300000000000000000 := by omega
  have E1 : Hid (_ = _) := Lib.hid (show Mark.fold x3 = ((x3 + x3 / 256) + (x3 + x3 / 256) / 65536 + ((x3 + x3 / 256) + (x3 + x3 / 256) / 65536) / 4294967296) % 128 by rfl)
  generalize x3 + x3 / 256 = x4 at *
  have h6 := Mark.step6 (x4 + x4 / 65536) (by omega)
  have hb5 : x4 + x4 / 65536 ≤ 1400000000000000000 := by omega
  generalize x4 + x4 / 65536 = x5 at *
  have hb6 : x5 + x5 / 4294967296 < 9223372036854775808 := by omega
  generalize x5 + x5 / 4294967296 = x6 at *
  have h7 : bits .and .i64 (x6 : Int) 127 = ((x6 % 128 : Nat) : Int) := by
    rw [Bits.i64_mask _ 7 (by omega) _ (by decide)]; omega
  clear hx hb hb4 hb5
  go_enter Try.func68, Try.ntmps68
  go_wp2_with (simp only [h1, h2, h3, h4, h5, h6, h7])
  go_ret
  refine ⟨?_, rfl⟩
  rw [← E.out, E1.out, Int.natCast_emod]
  rfl

set_option maxRecDepth 100000 in
set_option maxHeartbeats 400000 in
theorem count_any (x : Nat) (hx : x < 18446744073709551616) (w : World) : Calls Try.prog 44 #[.int .u64 (x : Int)] w fun e w' => e = .returned (.int .i64 (Mark.pop 64 x : Int)) ∧ w = w' := by
  go_enter Try.func44, Try.ntmps44
  go_wp2_with (go_at_call 68; refine (ones_any x hx _).mono ?_; rintro e w' ⟨rfl, rfl⟩)
  go_ret
  exact ⟨rfl, rfl⟩

/-- the library's table lies where the program has it -/
def Tab64 (w : World) : Prop := ∀ j, j < Lib.deBruijn64tab.length → w.cell? ⟨0, j, none⟩ = some (.int .u8 (Lib.deBruijn64tab.getD j 0))
theorem Tab64.grow {w w' : World} (h : Tab64 w) (h0 : 0 < w.heap.size) (g : Flow.Grow w w') : Tab64 w' := fun j hj => (World.cell?_of_block (g.block 0 h0 (by simp))).trans (h j hj)

theorem tz64_key (x a : Nat) (hx : x < 18446744073709551616) (hx0 : x ≠ 0) (hlow : x &&& (18446744073709551616 - x) = a) :
    IntKind.u64.wrap (bits BinOp.and IntKind.u64 (x : Int) (IntKind.u64.wrap (-(x : Int))) * 285870213051353865) / 288230376151711744 = ((a * 285870213051353865 % 18446744073709551616 / 288230376151711744 : Nat) : Int) := by
  have e1 : IntKind.u64.wrap (-(x : Int)) = ((18446744073709551616 - x : Nat) : Int) := by rw [IntKind.wrap_u64]; omega
  rw [e1, bits_and_u64_nat x _ hx (by omega), hlow, IntKind.wrap_u64]
  omega
theorem info_int : (Try.prog.info? 3).map (fun i => (i.zero, i.size, i.bytes)) = some (some (.int .i64 0), 1, 8) := by kernel_rfl

/-- one element behind a slice of the call's own -/
theorem own_step {w wr w1 : World} {b v' : Value} {o : Obj} {n : Nat} (h : Flow.Grow w wr) (hb : b = .slice none 0 0 ∨ Fresh w b) (k : (wr.alloc o).grownBy w1 b.ownBlock) (mv : Moved (wr.alloc o) b v')
    (hF : Full b n → (wr.alloc o).grownBy w1 none ∧ Fresh (wr.alloc o) v') : Flow.Grow w w1 ∧ (v' = .slice none 0 0 ∨ Fresh w v') := by
  have ha : Flow.Grow w (wr.alloc o) := h.trans (Flow.grow_alloc _ _)
  rcases hb with hb | hb
  · obtain ⟨h1, g, h2, h3⟩ := hF (.inl hb)
    exact ⟨ha.trans h1, .inr ⟨g, h2, Nat.le_trans ha.size h3⟩⟩
  · refine ⟨grow_fresh ha hb k, .inr ?_⟩
    rcases mv with e | ⟨g, h2, h3⟩
    · obtain ⟨g, hg', hs⟩ := hb
      exact ⟨g, e.trans hg', hs⟩
    · exact ⟨g, h2, Nat.le_trans ha.size h3⟩

end Go.Proofs.Ytcnmaplopbbmaaa

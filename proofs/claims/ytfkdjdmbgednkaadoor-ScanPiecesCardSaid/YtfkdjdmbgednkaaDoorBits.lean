/- Bits of naturals in an int: and, or, shifts; no program. -/
import Derived.WalkKit
namespace Go.Proofs.YtfkdjdmbgednkaaDoor
open Go.RowKit
namespace Bits

theorem ofInt64 (a : Nat) (ha : a < 2 ^ 63) : (BitVec.ofInt 64 (a : Int)).toNat = a := by
  rw [BitVec.toNat_ofInt]; omega

theorem i64_or (a b : Nat) (ha : a < 2 ^ 63) (hb : b < 2 ^ 63) : bits .or .i64 (a : Int) (b : Int) = ((a ||| b : Nat) : Int) := by
  have h := Nat.or_lt_two_pow ha hb
  show IntKind.i64.wrap ((BitVec.ofInt 64 (a : Int) ||| BitVec.ofInt 64 (b : Int)).toNat : Nat) = _
  rw [BitVec.toNat_or, ofInt64 a ha, ofInt64 b hb, IntKind.wrap_i64]
  omega

theorem i64_and (a b : Nat) (ha : a < 2 ^ 63) (hb : b < 2 ^ 63) : bits .and .i64 (a : Int) (b : Int) = ((a &&& b : Nat) : Int) := by
  have h : a &&& b < 2 ^ 63 := Nat.lt_of_le_of_lt Nat.and_le_left ha
  show IntKind.i64.wrap ((BitVec.ofInt 64 (a : Int) &&& BitVec.ofInt 64 (b : Int)).toNat : Nat) = _
  rw [BitVec.toNat_and, ofInt64 a ha, ofInt64 b hb, IntKind.wrap_i64]
  omega

/-- the low bits of whatever int -/
theorem i64_mask (n : Int) (k : Nat) (hk : k ≤ 62) (m : Int) (hm : m = 2 ^ k - 1) : bits .and .i64 n m = n % 2 ^ k := by
  subst hm
  have hp : (2 : Nat) ^ k ≤ 2 ^ 62 := Nat.pow_le_pow_right (by omega) hk
  have h1 : 1 ≤ (2 : Nat) ^ k := Nat.one_le_two_pow
  have e : ((2 : Int) ^ k - 1) = ((2 ^ k - 1 : Nat) : Int) := by
    rw [Int.ofNat_sub h1]; simp
  have hpi : ((2 : Int) ^ k) = ((2 ^ k : Nat) : Int) := by simp
  rw [e, hpi]
  show IntKind.i64.wrap ((BitVec.ofInt 64 n &&& BitVec.ofInt 64 ((2 ^ k - 1 : Nat) : Int)).toNat : Nat) = _
  rw [BitVec.toNat_and, ofInt64 (2 ^ k - 1) (by omega), Nat.and_two_pow_sub_one_eq_mod, BitVec.toNat_ofInt, IntKind.wrap_i64]
  have hd : ((2 : Int) ^ 64) = (2 ^ k : Nat) * (2 ^ (64 - k) : Nat) := by
    rw [← Int.natCast_mul, ← Nat.pow_add, show k + (64 - k) = 64 from by omega]; rfl
  have h3 : ((n % ((2 ^ 64 : Nat) : Int)).toNat : Int) = n % 2 ^ 64 := by omega
  have h4 : (((n % ((2 ^ 64 : Nat) : Int)).toNat % 2 ^ k : Nat) : Int) = n % ((2 ^ k : Nat) : Int) := by
    rw [Int.natCast_emod, h3, hd, Int.emod_emod_of_dvd _ (Int.dvd_mul_right _ _)]
  have h5 : n % ((2 ^ k : Nat) : Int) < ((2 ^ k : Nat) : Int) := Int.emod_lt_of_pos _ (by omega)
  have h6 : 0 ≤ n % ((2 ^ k : Nat) : Int) := Int.emod_nonneg _ (by omega)
  rw [h4]
  omega
end Bits
end Go.Proofs.YtfkdjdmbgednkaaDoor

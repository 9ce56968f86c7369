/- The bytes of a number: plain facts on lists of bytes, no program. -/
import Derived.Test.YtjapakmpnkbemaaBits
namespace Go.Proofs.Ytjapakmpnkbemaa
open Go.RowKit
namespace Num

/-- the bytes of a number, the lowest seven bits first -/
def vint (n : Nat) : List UInt8 := if h : n < 128 then [UInt8.ofNat n] else UInt8.ofNat (n % 128 + 128) :: vint (n / 128)
  termination_by n
  decreasing_by omega

theorem vint_lo {n : Nat} (h : n < 128) : vint n = [UInt8.ofNat n] := by rw [vint]; simp [h]
theorem vint_hi {n : Nat} (h : 128 ≤ n) : vint n = UInt8.ofNat (n % 128 + 128) :: vint (n / 128) := by
  rw [vint]; simp [show ¬ n < 128 by omega]

theorem vint_len_le : ∀ (b n : Nat), n < 128 ^ (b + 1) → (vint n).length ≤ b + 1
  | 0, n, h => by rw [vint_lo (by simpa using h)]; simp
  | b + 1, n, h => by
    by_cases hn : n < 128
    · rw [vint_lo hn]; simp
    · rw [vint_hi (by omega)]
      have := vint_len_le b (n / 128) (Nat.div_lt_of_lt_mul (by rw [Nat.pow_succ, Nat.mul_comm] at h; exact h))
      simp; omega

theorem vint_ne (n : Nat) : vint n ≠ [] := by
  by_cases h : n < 128
  · rw [vint_lo h]; simp
  · rw [vint_hi (by omega)]; simp

/-- what is read: place, number so far, bytes that are left, how many more may be looked at -/
def scan : Nat → Nat → List UInt8 → Nat → Nat × Nat
  | _, _, _, 0 => (0, 0)
  | _, _, [], _ => (0, 0)
  | k, n, c :: r, f + 1 =>
    if 128 ≤ c.toNat then scan (k + 1) (n + (c.toNat - 128) * 2 ^ (7 * k)) r f
    else if (0 < k ∧ c.toNat = 0) ∨ 2147483647 < n + c.toNat * 2 ^ (7 * k) then (0, 0)
    else (n + c.toNat * 2 ^ (7 * k), k + 1)
def get (l : List UInt8) : Nat × Nat := scan 0 0 l 5

/-- bits that do not meet are added -/
theorem or_up {m k c : Nat} (hm : m < 2 ^ (7 * k)) (hk : k ≤ 4) :
    bits .or .i64 (m : Int) (wrap64 (bits .and .i64 (c : Int) 127 * 2 ^ (7 * k))) = ((m + c % 128 * 2 ^ (7 * k) : Nat) : Int) := by
  have hp : 2 ^ (7 * k) ≤ 2 ^ 28 := Nat.pow_le_pow_right (by omega) (by omega)
  have hq : c % 128 * 2 ^ (7 * k) ≤ 127 * 2 ^ 28 := Nat.mul_le_mul (by omega) hp
  have e : (bits .and .i64 (c : Int) 127 * 2 ^ (7 * k)) = ((c % 128 * 2 ^ (7 * k) : Nat) : Int) := by rw [i64_and127]; simp
  rw [e, IntWalk.wrap64_in _ (by omega), Bits.i64_or _ _ (by omega) (by omega), Nat.or_comm, nat_join (7 * k) _ _ (Nat.mul_mod_left _ _) hm, Nat.add_comm]
/-- .. and stay small -/
theorem up_lt {m k c : Nat} (hm : m < 2 ^ (7 * k)) : m + c % 128 * 2 ^ (7 * k) < 2 ^ (7 * (k + 1)) := by
  have e : 2 ^ (7 * (k + 1)) = 128 * 2 ^ (7 * k) := by rw [Nat.mul_add, Nat.pow_add, Nat.mul_comm]
  have : c % 128 * 2 ^ (7 * k) ≤ 127 * 2 ^ (7 * k) := Nat.mul_le_mul_right _ (by omega)
  omega

theorem scan_end (k n : Nat) (l : List UInt8) (h : l = [] ∨ 5 ≤ k) : scan k n l (5 - k) = (0, 0) := by
  rcases h with rfl | h
  · cases 5 - k <;> simp [scan]
  · rw [show 5 - k = 0 by omega]; cases l <;> simp [scan]
theorem scan_more {k n : Nat} {c : UInt8} {r : List UInt8} (hk : k < 5) (h : 128 ≤ c.toNat) :
    scan k n (c :: r) (5 - k) = scan (k + 1) (n + c.toNat % 128 * 2 ^ (7 * k)) r (5 - (k + 1)) := by
  have hc := c.toNat_lt
  rw [show 5 - k = (5 - (k + 1)) + 1 by omega, scan, if_pos h, show c.toNat - 128 = c.toNat % 128 by omega]
theorem scan_none {k n : Nat} {c : UInt8} {r : List UInt8} (hk : k < 5) (h : c.toNat < 128) (hb : (0 < k ∧ c.toNat = 0) ∨ 2147483647 < n + c.toNat % 128 * 2 ^ (7 * k)) :
    scan k n (c :: r) (5 - k) = (0, 0) := by
  rw [Nat.mod_eq_of_lt h] at hb
  rw [show 5 - k = (5 - (k + 1)) + 1 by omega, scan, if_neg (by omega), if_pos hb]
theorem scan_one {k n : Nat} {c : UInt8} {r : List UInt8} (hk : k < 5) (h : c.toNat < 128) (hb : ¬ ((0 < k ∧ c.toNat = 0) ∨ 2147483647 < n + c.toNat % 128 * 2 ^ (7 * k))) :
    scan k n (c :: r) (5 - k) = (n + c.toNat % 128 * 2 ^ (7 * k), k + 1) := by
  rw [Nat.mod_eq_of_lt h] at hb ⊢
  rw [show 5 - k = (5 - (k + 1)) + 1 by omega, scan, if_neg (by omega), if_neg hb]
theorem byte_hi (m : Nat) : bits .or .u8 (bits .and .i64 (m : Int) 127 % 256) 128 = ((UInt8.ofNat (m % 128 + 128)).toNat : Int) := by
  rw [i64_and127, u8_or128_right _ (by omega) (by omega), UInt8.toNat_ofNat']
  omega
theorem byte_lo {m : Nat} (h : m < 128) : (m : Int) = ((UInt8.ofNat m).toNat : Int) := by
  rw [UInt8.toNat_ofNat']
  omega
end Num
end Go.Proofs.Ytjapakmpnkbemaa

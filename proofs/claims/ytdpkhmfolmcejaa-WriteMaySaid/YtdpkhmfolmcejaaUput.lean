/- utf.Put by its contract. -/
import Derived.Test.YtdpkhmfolmcejaaMOne
import Derived.Test.YtdpkhmfolmcejaaMFlow
namespace Go.Proofs.Ytdpkhmfolmcejaa
open Go.RowKit
namespace Xm
/-- a letter's bytes -/
def put (r : Int) : List UInt8 :=
  if size r = 0 then [] else if size r = 1 then [UInt8.ofNat r.toNat]
  else if size r = 2 then [UInt8.ofNat (192 + (r / 64).toNat), UInt8.ofNat (128 + (r % 64).toNat)]
  else if size r = 3 then [UInt8.ofNat (224 + (r / 4096).toNat), UInt8.ofNat (128 + (r / 64 % 64).toNat), UInt8.ofNat (128 + (r % 64).toNat)]
  else [UInt8.ofNat (240 + (r / 262144).toNat), UInt8.ofNat (128 + (r / 4096 % 64).toNat), UInt8.ofNat (128 + (r / 64 % 64).toNat), UInt8.ofNat (128 + (r % 64).toNat)]
theorem size_cases (r : Int) : size r = 0 ∨ size r = 1 ∨ size r = 2 ∨ size r = 3 ∨ size r = 4 := by
  unfold size
  repeat' split
  all_goals simp
theorem size1 {r : Int} (h : size r = 1) : 0 ≤ r ∧ r < 128 := by
  unfold size at h
  split at h
  · omega
  · rename_i hm
    split at h
    · rename_i h1
      simp [may] at hm
      omega
    · split at h <;> (try split at h) <;> omega
theorem size2 {r : Int} (h : size r = 2) : 128 ≤ r ∧ r < 2048 := by
  unfold size at h
  split at h
  · omega
  · repeat' split at h
    all_goals omega
theorem size3 {r : Int} (h : size r = 3) : 2048 ≤ r ∧ r < 65536 := by
  unfold size at h
  split at h
  · omega
  · repeat' split at h
    all_goals omega
theorem size4 {r : Int} (h : size r = 4) : 65536 ≤ r ∧ r ≤ 1114111 := by
  unfold size at h
  split at h
  · omega
  · rename_i hm
    repeat' split at h
    all_goals first | omega | (simp [may] at hm; omega)
end Xm
theorem u8v_of {n : Nat} (h : n < 256) : u8v (UInt8.ofNat n) = .int .u8 (n : Int) := by
  simp [u8v, UInt8.toNat_ofNat', Nat.mod_eq_of_lt h]

end Go.Proofs.Ytdpkhmfolmcejaa

/- galliardref01.Put by its contract: what utf.Put answers. -/
import Derived.Test.YtdpkhmfolmcejaaGreatDoorUput
namespace Go.Proofs.YtdpkhmfolmcejaaGreatDoor
open Go.RowKit
set_option maxRecDepth 100000 in
set_option maxHeartbeats 1000000 in
theorem rput1 (r : Int) (w : World) (h : Xm.size r = 1) : Calls Tryz.prog 40 #[.int .i64 r] w fun e w' => e = .returned (.string (str (Xm.put r))) ∧ Flow.Grow w w' := by
  have hb := Xm.size1 h
  have HE : Hid (Xm.put r = [UInt8.ofNat r.toNat]) := Lib.hid (by simp [Xm.put, h])
  have Hu0 : Hid (u8v (UInt8.ofNat r.toNat) = .int .u8 (r)) := Lib.hid (by rw [u8v_of (by omega)]; congr 1; omega)
  have hB := Bytes.of_own (World.ownsRow_lit (base := 0) (e := 5) w #[u8v (UInt8.ofNat r.toNat)] 1 (Nat.zero_le _) (by decide) rfl) (by simp : ([UInt8.ofNat r.toNat]).length ≤ 140737488351232)
  have Hs := Lib.hid (run_str (P := Tryz.prog) hB 42 9 5 Tryz.underlying42 Tryz.underlying5 Tryz.underlying9)
  have Hw := Hs.out
  rw [Hu0.out] at Hw
  obtain ⟨X, hX⟩ : ∃ X, X = str ([UInt8.ofNat r.toNat]) := ⟨_, rfl⟩
  rw [← hX] at Hw
  have HX := Lib.hid hX
  have n0 : ¬ r < 0 := by omega
  have n1 : ¬ 1114111 < r := by omega
  have n2 : ¬ 55296 ≤ r := by omega
  clear h Hs hB hX
  go_enter Tryz.func40, Tryz.ntmps40
  go_wp2
  go_ret
  exact ⟨ret_str (by rw [HE.out, ← HX.out]), Flow.grow_alloc _ _⟩
set_option maxRecDepth 100000 in
set_option maxHeartbeats 1000000 in
theorem rput2 (r : Int) (w : World) (h : Xm.size r = 2) : Calls Tryz.prog 40 #[.int .i64 r] w fun e w' => e = .returned (.string (str (Xm.put r))) ∧ Flow.Grow w w' := by
  have hb := Xm.size2 h
  have HE : Hid (Xm.put r = [UInt8.ofNat (192 + (r / 64).toNat), UInt8.ofNat (128 + (r % 64).toNat)]) := Lib.hid (by simp [Xm.put, h])
  have Hu0 : Hid (u8v (UInt8.ofNat (192 + (r / 64).toNat)) = .int .u8 (192 + r / 64)) := Lib.hid (by rw [u8v_of (by omega)]; congr 1; omega)
  have Hu1 : Hid (u8v (UInt8.ofNat (128 + (r % 64).toNat)) = .int .u8 (128 + r % 64)) := Lib.hid (by rw [u8v_of (by omega)]; congr 1; omega)
  have hB := Bytes.of_own (World.ownsRow_lit (base := 0) (e := 5) w #[u8v (UInt8.ofNat (192 + (r / 64).toNat)), u8v (UInt8.ofNat (128 + (r % 64).toNat))] 2 (Nat.zero_le _) (by decide) rfl) (by simp : ([UInt8.ofNat (192 + (r / 64).toNat), UInt8.ofNat (128 + (r % 64).toNat)]).length ≤ 140737488351232)
  have Hs := Lib.hid (run_str (P := Tryz.prog) hB 42 9 5 Tryz.underlying42 Tryz.underlying5 Tryz.underlying9)
  have Hw := Hs.out
  rw [Hu0.out, Hu1.out] at Hw
  obtain ⟨X, hX⟩ : ∃ X, X = str ([UInt8.ofNat (192 + (r / 64).toNat), UInt8.ofNat (128 + (r % 64).toNat)]) := ⟨_, rfl⟩
  rw [← hX] at Hw
  have HX := Lib.hid hX
  have n0 : ¬ r < 0 := by omega
  have n1 : ¬ 1114111 < r := by omega
  have n2 : ¬ 55296 ≤ r := by omega
  have n128 : ¬ r < 128 := by omega
  clear h Hs hB hX
  go_enter Tryz.func40, Tryz.ntmps40
  go_wp2
  go_ret
  exact ⟨ret_str (by rw [HE.out, ← HX.out]), Flow.grow_alloc _ _⟩
set_option maxRecDepth 100000 in
set_option maxHeartbeats 1000000 in
theorem rput3a (r : Int) (w : World) (h : Xm.size r = 3) (hs : r < 55296) : Calls Tryz.prog 40 #[.int .i64 r] w fun e w' => e = .returned (.string (str (Xm.put r))) ∧ Flow.Grow w w' := by
  have hb := Xm.size3 h
  have HE : Hid (Xm.put r = [UInt8.ofNat (224 + (r / 4096).toNat), UInt8.ofNat (128 + (r / 64 % 64).toNat), UInt8.ofNat (128 + (r % 64).toNat)]) := Lib.hid (by simp [Xm.put, h])
  have Hu0 : Hid (u8v (UInt8.ofNat (224 + (r / 4096).toNat)) = .int .u8 (224 + r / 4096)) := Lib.hid (by rw [u8v_of (by omega)]; congr 1; omega)
  have Hu1 : Hid (u8v (UInt8.ofNat (128 + (r / 64 % 64).toNat)) = .int .u8 (128 + r / 64 % 64)) := Lib.hid (by rw [u8v_of (by omega)]; congr 1; omega)
  have Hu2 : Hid (u8v (UInt8.ofNat (128 + (r % 64).toNat)) = .int .u8 (128 + r % 64)) := Lib.hid (by rw [u8v_of (by omega)]; congr 1; omega)
  have hB := Bytes.of_own (World.ownsRow_lit (base := 0) (e := 5) w #[u8v (UInt8.ofNat (224 + (r / 4096).toNat)), u8v (UInt8.ofNat (128 + (r / 64 % 64).toNat)), u8v (UInt8.ofNat (128 + (r % 64).toNat))] 3 (Nat.zero_le _) (by decide) rfl) (by simp : ([UInt8.ofNat (224 + (r / 4096).toNat), UInt8.ofNat (128 + (r / 64 % 64).toNat), UInt8.ofNat (128 + (r % 64).toNat)]).length ≤ 140737488351232)
  have Hs := Lib.hid (run_str (P := Tryz.prog) hB 42 9 5 Tryz.underlying42 Tryz.underlying5 Tryz.underlying9)
  have Hw := Hs.out
  rw [Hu0.out, Hu1.out, Hu2.out] at Hw
  obtain ⟨X, hX⟩ : ∃ X, X = str ([UInt8.ofNat (224 + (r / 4096).toNat), UInt8.ofNat (128 + (r / 64 % 64).toNat), UInt8.ofNat (128 + (r % 64).toNat)]) := ⟨_, rfl⟩
  rw [← hX] at Hw
  have HX := Lib.hid hX
  have n0 : ¬ r < 0 := by omega
  have n1 : ¬ 1114111 < r := by omega
  have n2 : ¬ 55296 ≤ r := by omega
  have n128 : ¬ r < 128 := by omega
  have n2048 : ¬ r < 2048 := by omega
  clear h Hs hB hX
  go_enter Tryz.func40, Tryz.ntmps40
  go_wp2
  go_ret
  exact ⟨ret_str (by rw [HE.out, ← HX.out]), Flow.grow_alloc _ _⟩
set_option maxRecDepth 100000 in
set_option maxHeartbeats 1000000 in
theorem rput3b (r : Int) (w : World) (h : Xm.size r = 3) (hs : 57343 < r) : Calls Tryz.prog 40 #[.int .i64 r] w fun e w' => e = .returned (.string (str (Xm.put r))) ∧ Flow.Grow w w' := by
  have hb := Xm.size3 h
  have HE : Hid (Xm.put r = [UInt8.ofNat (224 + (r / 4096).toNat), UInt8.ofNat (128 + (r / 64 % 64).toNat), UInt8.ofNat (128 + (r % 64).toNat)]) := Lib.hid (by simp [Xm.put, h])
  have Hu0 : Hid (u8v (UInt8.ofNat (224 + (r / 4096).toNat)) = .int .u8 (224 + r / 4096)) := Lib.hid (by rw [u8v_of (by omega)]; congr 1; omega)
  have Hu1 : Hid (u8v (UInt8.ofNat (128 + (r / 64 % 64).toNat)) = .int .u8 (128 + r / 64 % 64)) := Lib.hid (by rw [u8v_of (by omega)]; congr 1; omega)
  have Hu2 : Hid (u8v (UInt8.ofNat (128 + (r % 64).toNat)) = .int .u8 (128 + r % 64)) := Lib.hid (by rw [u8v_of (by omega)]; congr 1; omega)
  have hB := Bytes.of_own (World.ownsRow_lit (base := 0) (e := 5) w #[u8v (UInt8.ofNat (224 + (r / 4096).toNat)), u8v (UInt8.ofNat (128 + (r / 64 % 64).toNat)), u8v (UInt8.ofNat (128 + (r % 64).toNat))] 3 (Nat.zero_le _) (by decide) rfl) (by simp : ([UInt8.ofNat (224 + (r / 4096).toNat), UInt8.ofNat (128 + (r / 64 % 64).toNat), UInt8.ofNat (128 + (r % 64).toNat)]).length ≤ 140737488351232)
  have Hs := Lib.hid (run_str (P := Tryz.prog) hB 42 9 5 Tryz.underlying42 Tryz.underlying5 Tryz.underlying9)
  have Hw := Hs.out
  rw [Hu0.out, Hu1.out, Hu2.out] at Hw
  obtain ⟨X, hX⟩ : ∃ X, X = str ([UInt8.ofNat (224 + (r / 4096).toNat), UInt8.ofNat (128 + (r / 64 % 64).toNat), UInt8.ofNat (128 + (r % 64).toNat)]) := ⟨_, rfl⟩
  rw [← hX] at Hw
  have HX := Lib.hid hX
  have n0 : ¬ r < 0 := by omega
  have n1 : ¬ 1114111 < r := by omega
  have n2 : 55296 ≤ r := by omega
  have n2b : ¬ r ≤ 57343 := by omega
  have n128 : ¬ r < 128 := by omega
  have n2048 : ¬ r < 2048 := by omega
  clear h Hs hB hX
  go_enter Tryz.func40, Tryz.ntmps40
  go_wp2
  go_ret
  exact ⟨ret_str (by rw [HE.out, ← HX.out]), Flow.grow_alloc _ _⟩
set_option maxRecDepth 100000 in
set_option maxHeartbeats 1000000 in
theorem rput4 (r : Int) (w : World) (h : Xm.size r = 4) : Calls Tryz.prog 40 #[.int .i64 r] w fun e w' => e = .returned (.string (str (Xm.put r))) ∧ Flow.Grow w w' := by
  have hb := Xm.size4 h
  have HE : Hid (Xm.put r = [UInt8.ofNat (240 + (r / 262144).toNat), UInt8.ofNat (128 + (r / 4096 % 64).toNat), UInt8.ofNat (128 + (r / 64 % 64).toNat), UInt8.ofNat (128 + (r % 64).toNat)]) := Lib.hid (by simp [Xm.put, h])
  have Hu0 : Hid (u8v (UInt8.ofNat (240 + (r / 262144).toNat)) = .int .u8 (240 + r / 262144)) := Lib.hid (by rw [u8v_of (by omega)]; congr 1; omega)
  have Hu1 : Hid (u8v (UInt8.ofNat (128 + (r / 4096 % 64).toNat)) = .int .u8 (128 + r / 4096 % 64)) := Lib.hid (by rw [u8v_of (by omega)]; congr 1; omega)
  have Hu2 : Hid (u8v (UInt8.ofNat (128 + (r / 64 % 64).toNat)) = .int .u8 (128 + r / 64 % 64)) := Lib.hid (by rw [u8v_of (by omega)]; congr 1; omega)
  have Hu3 : Hid (u8v (UInt8.ofNat (128 + (r % 64).toNat)) = .int .u8 (128 + r % 64)) := Lib.hid (by rw [u8v_of (by omega)]; congr 1; omega)
  have hB := Bytes.of_own (World.ownsRow_lit (base := 0) (e := 5) w #[u8v (UInt8.ofNat (240 + (r / 262144).toNat)), u8v (UInt8.ofNat (128 + (r / 4096 % 64).toNat)), u8v (UInt8.ofNat (128 + (r / 64 % 64).toNat)), u8v (UInt8.ofNat (128 + (r % 64).toNat))] 4 (Nat.zero_le _) (by decide) rfl) (by simp : ([UInt8.ofNat (240 + (r / 262144).toNat), UInt8.ofNat (128 + (r / 4096 % 64).toNat), UInt8.ofNat (128 + (r / 64 % 64).toNat), UInt8.ofNat (128 + (r % 64).toNat)]).length ≤ 140737488351232)
  have Hs := Lib.hid (run_str (P := Tryz.prog) hB 42 9 5 Tryz.underlying42 Tryz.underlying5 Tryz.underlying9)
  have Hw := Hs.out
  rw [Hu0.out, Hu1.out, Hu2.out, Hu3.out] at Hw
  obtain ⟨X, hX⟩ : ∃ X, X = str ([UInt8.ofNat (240 + (r / 262144).toNat), UInt8.ofNat (128 + (r / 4096 % 64).toNat), UInt8.ofNat (128 + (r / 64 % 64).toNat), UInt8.ofNat (128 + (r % 64).toNat)]) := ⟨_, rfl⟩
  rw [← hX] at Hw
  have HX := Lib.hid hX
  have n0 : ¬ r < 0 := by omega
  have n1 : ¬ 1114111 < r := by omega
  have n2 : 55296 ≤ r := by omega
  have n2b : ¬ r ≤ 57343 := by omega
  have n128 : ¬ r < 128 := by omega
  have n2048 : ¬ r < 2048 := by omega
  have n65536 : ¬ r < 65536 := by omega
  clear h Hs hB hX
  go_enter Tryz.func40, Tryz.ntmps40
  go_wp2
  go_ret
  exact ⟨ret_str (by rw [HE.out, ← HX.out]), Flow.grow_alloc _ _⟩
set_option maxRecDepth 100000 in
set_option maxHeartbeats 1000000 in
theorem rput0 (r : Int) (w : World) (h : Xm.size r = 0) : Calls Tryz.prog 40 #[.int .i64 r] w fun e w' => e = .returned (.string (str (Xm.put r))) ∧ Flow.Grow w w' := by
  have HE : Hid (Xm.put r = []) := Lib.hid (by simp [Xm.put, h])
  have hb : r < 0 ∨ 1114111 < r ∨ (55296 ≤ r ∧ r ≤ 57343) := by
    unfold Xm.size at h
    split at h
    · rename_i hm
      simp [Xm.may] at hm
      omega
    · repeat' split at h
      all_goals omega
  clear h
  by_cases n0 : r < 0
  · clear hb
    go_enter Tryz.func40, Tryz.ntmps40
    go_wp2
    go_ret
    exact ⟨ret_str (by rw [HE.out]; rfl), Flow.grow_refl _⟩
  by_cases n1 : 1114111 < r
  · clear hb
    go_enter Tryz.func40, Tryz.ntmps40
    go_wp2
    go_ret
    exact ⟨ret_str (by rw [HE.out]; rfl), Flow.grow_refl _⟩
  have n2 : 55296 ≤ r := by omega
  have n3 : r ≤ 57343 := by omega
  clear hb
  go_enter Tryz.func40, Tryz.ntmps40
  go_wp2
  go_ret
  exact ⟨ret_str (by rw [HE.out]; rfl), Flow.grow_refl _⟩
theorem rput_any (r : Int) (w : World) : Calls Tryz.prog 40 #[.int .i64 r] w fun e w' => e = .returned (.string (str (Xm.put r))) ∧ Flow.Grow w w' := by
  rcases Xm.size_cases r with h | h | h | h | h
  · exact rput0 r w h
  · exact rput1 r w h
  · exact rput2 r w h
  · have hm : r < 55296 ∨ 57343 < r := by
      unfold Xm.size at h
      split at h
      · omega
      · rename_i hm
        simp [Xm.may] at hm
        omega
    rcases hm with hm | hm
    · exact rput3a r w h hm
    · exact rput3b r w h hm
  · exact rput4 r w h
end Go.Proofs.YtdpkhmfolmcejaaGreatDoor

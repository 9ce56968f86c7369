/- utf.Put by its contract. -/
import Derived.Test.YtdpkhmfolmcejaaGreatDoorMOne
import Derived.Test.YtdpkhmfolmcejaaGreatDoorMFlow
namespace Go.Proofs.YtdpkhmfolmcejaaGreatDoor
open Go.RowKit
namespace Xm
/-- a letter's bytes -/
def put (r : Int) : List UInt8 :=
  if size r = 0 then [] else if size r = 1 then [UInt8.ofNat r.toNat]
  else if size r = 2 then [UInt8.ofNat (192 + (r / 64).toNat), UInt8.ofNat (128 + (r % 64).toNat)]
  else if size r = 3 then [UInt8.ofNat (224 + (r / 4096).toNat), UInt8.ofNat (128 + (r / 64 % 64).toNat), UInt8.ofNat (128 + (r % 64).toNat)]
  else [UInt8.ofNat (240 + (r / 262144).toNat), UInt8.ofNat (128 + (r / 4096 % 64).toNat), UInt8.ofNat (128 + (r / 64 % 64).toNat), UInt8.ofNat (128 + (r % 64).toNat)]
theorem put_len (r : Int) : (put r).length ≤ 4 := by
  unfold put
  repeat' split
  all_goals simp
theorem size_cases (r : Int) : size r = 0 ∨ size r = 1 ∨ size r = 2 ∨ size r = 3 ∨ size r = 4 := by
  unfold size
  repeat' split
  all_goals simp
theorem size1 {r : Int} (h : size r = 1) : 0 ≤ r ∧ r < 128 := by
  unfold size at h
  split at h
  · omega
  · rename_i hm
    split at h
    · rename_i h1
      simp [may] at hm
      omega
    · split at h <;> (try split at h) <;> omega
theorem size2 {r : Int} (h : size r = 2) : 128 ≤ r ∧ r < 2048 := by
  unfold size at h
  split at h
  · omega
  · repeat' split at h
    all_goals omega
theorem size3 {r : Int} (h : size r = 3) : 2048 ≤ r ∧ r < 65536 := by
  unfold size at h
  split at h
  · omega
  · repeat' split at h
    all_goals omega
theorem size4 {r : Int} (h : size r = 4) : 65536 ≤ r ∧ r ≤ 1114111 := by
  unfold size at h
  split at h
  · omega
  · rename_i hm
    repeat' split at h
    all_goals first | omega | (simp [may] at hm; omega)
end Xm
theorem u8v_of {n : Nat} (h : n < 256) : u8v (UInt8.ofNat n) = .int .u8 (n : Int) := by
  simp [u8v, UInt8.toNat_ofNat', Nat.mod_eq_of_lt h]

set_option maxRecDepth 100000 in
set_option maxHeartbeats 1000000 in
theorem uput1 (r : Int) (w : World) (h : Xm.size r = 1) : Calls Tryz.prog 96 #[.int .i64 r] w fun e w' => e = .returned (.string (str (Xm.put r))) ∧ Flow.Grow w w' := by
  have hb := Xm.size1 h
  have HE : Hid (Xm.put r = [UInt8.ofNat r.toNat]) := Lib.hid (by simp [Xm.put, h])
  have Hu : Hid (u8v (UInt8.ofNat r.toNat) = .int .u8 r) := Lib.hid (by rw [u8v_of (by omega)]; congr 1; omega)
  have hc : IntKind.u8.wrap r = r := IntWalk.u8_in _ (by omega)
  have HZ := Lib.hid h
  have Hs := Lib.hid (run_str (P := Tryz.prog) (Bytes.of_own (World.ownsRow_lit (base := 0) (e := 5) w #[u8v (UInt8.ofNat r.toNat)] 1 (Nat.zero_le _) (by decide) rfl) (by simp : [UInt8.ofNat r.toNat].length ≤ 140737488351232)) 42 9 5 Tryz.underlying42 Tryz.underlying5 Tryz.underlying9)
  have Hw := Hs.out
  rw [Hu.out] at Hw
  clear h Hs
  go_enter Tryz.func96, Tryz.ntmps96
  go_wp2_with (go_at_call 64; refine (sizeR_any _ _).mono ?_; rintro e w' ⟨rfl, rfl⟩; rw [HZ.out])
  go_ret
  exact ⟨ret_str (by rw [HE.out]), Flow.grow_alloc _ _⟩
set_option maxRecDepth 100000 in
set_option maxHeartbeats 1000000 in
theorem uput2 (r : Int) (w : World) (h : Xm.size r = 2) : Calls Tryz.prog 96 #[.int .i64 r] w fun e w' => e = .returned (.string (str (Xm.put r))) ∧ Flow.Grow w w' := by
  have hb := Xm.size2 h
  have HE : Hid (Xm.put r = [UInt8.ofNat (192 + (r / 64).toNat), UInt8.ofNat (128 + (r % 64).toNat)]) := Lib.hid (by simp [Xm.put, h])
  have Hu0 : Hid (u8v (UInt8.ofNat (192 + (r / 64).toNat)) = .int .u8 (192 + r / 64)) := Lib.hid (by rw [u8v_of (by omega)]; congr 1; omega)
  have Hu1 : Hid (u8v (UInt8.ofNat (128 + (r % 64).toNat)) = .int .u8 (128 + r % 64)) := Lib.hid (by rw [u8v_of (by omega)]; congr 1; omega)
  have HZ := Lib.hid h
  have hm0 := Bits.i64_mask (r) 6 (by omega) 63 (by decide)
  have hB := (Bytes.of_own (World.ownsRow_lit (base := 0) (e := 5) w #[u8v (UInt8.ofNat (192 + (r / 64).toNat)), u8v (UInt8.ofNat (128 + (r % 64).toNat))] 2 (Nat.zero_le _) (by decide) rfl) (by simp : ([UInt8.ofNat (192 + (r / 64).toNat), UInt8.ofNat (128 + (r % 64).toNat)]).length ≤ 140737488351232)).grow (Flow.grow_alloc _ (Obj.cells #[.int .u8 192, .int .u8 224, .int .u8 240] 5))
  have Hs := Lib.hid (run_str (P := Tryz.prog) hB 42 9 5 Tryz.underlying42 Tryz.underlying5 Tryz.underlying9)
  have Hw := Hs.out
  rw [Hu0.out, Hu1.out] at Hw
  clear h Hs hB
  have hmk : ∀ w, (Instr.makeSlice 42 (.int .i64 2) (.int .i64 2)).run Tryz.prog w = .ok (.slice (some ⟨w.heap.size, 0, none⟩) 2 2) (w.alloc (.cells #[.int .u8 0, .int .u8 0] 5)) := fun _ => by kernel_rfl
  go_enter Tryz.func96, Tryz.ntmps96
  go_wp2_with (go_at_call 64; refine (sizeR_any _ _).mono ?_; rintro e w' ⟨rfl, rfl⟩; rw [HZ.out])
  refine wp_loop_rounds 2 ?_
  rw [rounds_succ]
  go_wp2_with fail
  rw [rounds_succ]
  go_wp2_with fail
  go_ret
  exact ⟨ret_str (by rw [HE.out]; simp), (Flow.grow_alloc _ _).trans (Flow.grow_alloc _ _)⟩
set_option maxRecDepth 100000 in
set_option maxHeartbeats 1000000 in
theorem uput3 (r : Int) (w : World) (h : Xm.size r = 3) : Calls Tryz.prog 96 #[.int .i64 r] w fun e w' => e = .returned (.string (str (Xm.put r))) ∧ Flow.Grow w w' := by
  have hb := Xm.size3 h
  have HE : Hid (Xm.put r = [UInt8.ofNat (224 + (r / 4096).toNat), UInt8.ofNat (128 + (r / 64 % 64).toNat), UInt8.ofNat (128 + (r % 64).toNat)]) := Lib.hid (by simp [Xm.put, h])
  have Hu0 : Hid (u8v (UInt8.ofNat (224 + (r / 4096).toNat)) = .int .u8 (224 + r / 4096)) := Lib.hid (by rw [u8v_of (by omega)]; congr 1; omega)
  have Hu1 : Hid (u8v (UInt8.ofNat (128 + (r / 64 % 64).toNat)) = .int .u8 (128 + r / 64 % 64)) := Lib.hid (by rw [u8v_of (by omega)]; congr 1; omega)
  have Hu2 : Hid (u8v (UInt8.ofNat (128 + (r % 64).toNat)) = .int .u8 (128 + r % 64)) := Lib.hid (by rw [u8v_of (by omega)]; congr 1; omega)
  have hd2 : r / 64 / 64 = r / 4096 := by omega
  have HZ := Lib.hid h
  have hm0 := Bits.i64_mask (r) 6 (by omega) 63 (by decide)
  have hm1 := Bits.i64_mask (r / 64) 6 (by omega) 63 (by decide)
  have hB := (Bytes.of_own (World.ownsRow_lit (base := 0) (e := 5) w #[u8v (UInt8.ofNat (224 + (r / 4096).toNat)), u8v (UInt8.ofNat (128 + (r / 64 % 64).toNat)), u8v (UInt8.ofNat (128 + (r % 64).toNat))] 3 (Nat.zero_le _) (by decide) rfl) (by simp : ([UInt8.ofNat (224 + (r / 4096).toNat), UInt8.ofNat (128 + (r / 64 % 64).toNat), UInt8.ofNat (128 + (r % 64).toNat)]).length ≤ 140737488351232)).grow (Flow.grow_alloc _ (Obj.cells #[.int .u8 192, .int .u8 224, .int .u8 240] 5))
  have Hs := Lib.hid (run_str (P := Tryz.prog) hB 42 9 5 Tryz.underlying42 Tryz.underlying5 Tryz.underlying9)
  have Hw := Hs.out
  rw [Hu0.out, Hu1.out, Hu2.out] at Hw
  clear h Hs hB
  have hmk : ∀ w, (Instr.makeSlice 42 (.int .i64 3) (.int .i64 3)).run Tryz.prog w = .ok (.slice (some ⟨w.heap.size, 0, none⟩) 3 3) (w.alloc (.cells #[.int .u8 0, .int .u8 0, .int .u8 0] 5)) := fun _ => by kernel_rfl
  go_enter Tryz.func96, Tryz.ntmps96
  go_wp2_with (go_at_call 64; refine (sizeR_any _ _).mono ?_; rintro e w' ⟨rfl, rfl⟩; rw [HZ.out])
  refine wp_loop_rounds 3 ?_
  rw [rounds_succ]
  go_wp2_with fail
  rw [rounds_succ]
  go_wp2_with fail
  rw [rounds_succ]
  go_wp2_with fail
  go_ret
  exact ⟨ret_str (by rw [HE.out]; simp), (Flow.grow_alloc _ _).trans (Flow.grow_alloc _ _)⟩
set_option maxRecDepth 100000 in
set_option maxHeartbeats 1000000 in
theorem uput4 (r : Int) (w : World) (h : Xm.size r = 4) : Calls Tryz.prog 96 #[.int .i64 r] w fun e w' => e = .returned (.string (str (Xm.put r))) ∧ Flow.Grow w w' := by
  have hb := Xm.size4 h
  have HE : Hid (Xm.put r = [UInt8.ofNat (240 + (r / 262144).toNat), UInt8.ofNat (128 + (r / 4096 % 64).toNat), UInt8.ofNat (128 + (r / 64 % 64).toNat), UInt8.ofNat (128 + (r % 64).toNat)]) := Lib.hid (by simp [Xm.put, h])
  have Hu0 : Hid (u8v (UInt8.ofNat (240 + (r / 262144).toNat)) = .int .u8 (240 + r / 262144)) := Lib.hid (by rw [u8v_of (by omega)]; congr 1; omega)
  have Hu1 : Hid (u8v (UInt8.ofNat (128 + (r / 4096 % 64).toNat)) = .int .u8 (128 + r / 4096 % 64)) := Lib.hid (by rw [u8v_of (by omega)]; congr 1; omega)
  have Hu2 : Hid (u8v (UInt8.ofNat (128 + (r / 64 % 64).toNat)) = .int .u8 (128 + r / 64 % 64)) := Lib.hid (by rw [u8v_of (by omega)]; congr 1; omega)
  have Hu3 : Hid (u8v (UInt8.ofNat (128 + (r % 64).toNat)) = .int .u8 (128 + r % 64)) := Lib.hid (by rw [u8v_of (by omega)]; congr 1; omega)
  have hd2 : r / 64 / 64 = r / 4096 := by omega
  have hd3 : r / 4096 / 64 = r / 262144 := by omega
  have HZ := Lib.hid h
  have hm0 := Bits.i64_mask (r) 6 (by omega) 63 (by decide)
  have hm1 := Bits.i64_mask (r / 64) 6 (by omega) 63 (by decide)
  have hm2 := Bits.i64_mask (r / 4096) 6 (by omega) 63 (by decide)
  have hB := (Bytes.of_own (World.ownsRow_lit (base := 0) (e := 5) w #[u8v (UInt8.ofNat (240 + (r / 262144).toNat)), u8v (UInt8.ofNat (128 + (r / 4096 % 64).toNat)), u8v (UInt8.ofNat (128 + (r / 64 % 64).toNat)), u8v (UInt8.ofNat (128 + (r % 64).toNat))] 4 (Nat.zero_le _) (by decide) rfl) (by simp : ([UInt8.ofNat (240 + (r / 262144).toNat), UInt8.ofNat (128 + (r / 4096 % 64).toNat), UInt8.ofNat (128 + (r / 64 % 64).toNat), UInt8.ofNat (128 + (r % 64).toNat)]).length ≤ 140737488351232)).grow (Flow.grow_alloc _ (Obj.cells #[.int .u8 192, .int .u8 224, .int .u8 240] 5))
  have Hs := Lib.hid (run_str (P := Tryz.prog) hB 42 9 5 Tryz.underlying42 Tryz.underlying5 Tryz.underlying9)
  have Hw := Hs.out
  rw [Hu0.out, Hu1.out, Hu2.out, Hu3.out] at Hw
  clear h Hs hB
  have hmk : ∀ w, (Instr.makeSlice 42 (.int .i64 4) (.int .i64 4)).run Tryz.prog w = .ok (.slice (some ⟨w.heap.size, 0, none⟩) 4 4) (w.alloc (.cells #[.int .u8 0, .int .u8 0, .int .u8 0, .int .u8 0] 5)) := fun _ => by kernel_rfl
  go_enter Tryz.func96, Tryz.ntmps96
  go_wp2_with (go_at_call 64; refine (sizeR_any _ _).mono ?_; rintro e w' ⟨rfl, rfl⟩; rw [HZ.out])
  refine wp_loop_rounds 4 ?_
  rw [rounds_succ]
  go_wp2_with fail
  rw [rounds_succ]
  go_wp2_with fail
  rw [rounds_succ]
  go_wp2_with fail
  rw [rounds_succ]
  go_wp2_with fail
  go_ret
  exact ⟨ret_str (by rw [HE.out]; simp), (Flow.grow_alloc _ _).trans (Flow.grow_alloc _ _)⟩
theorem uput_any (r : Int) (w : World) : Calls Tryz.prog 96 #[.int .i64 r] w fun e w' => e = .returned (.string (str (Xm.put r))) ∧ Flow.Grow w w' := by
  rcases Xm.size_cases r with h | h | h | h | h
  · have HE : Hid (Xm.put r = []) := Lib.hid (by simp [Xm.put, h])
    have HZ := Lib.hid h
    clear h
    go_enter Tryz.func96, Tryz.ntmps96
    go_wp2_with (go_at_call 64; refine (sizeR_any _ _).mono ?_; rintro e w' ⟨rfl, rfl⟩; rw [HZ.out])
    go_ret
    exact ⟨ret_str (by rw [HE.out]; rfl), Flow.grow_refl _⟩
  · exact uput1 r w h
  · exact uput2 r w h
  · exact uput3 r w h
  · exact uput4 r w h
end Go.Proofs.YtdpkhmfolmcejaaGreatDoor

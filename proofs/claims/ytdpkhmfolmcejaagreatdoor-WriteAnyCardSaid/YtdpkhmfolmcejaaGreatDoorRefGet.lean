/- galliardref01.Get by its contract. -/
import Derived.Test.YtdpkhmfolmcejaaGreatDoorRefPut
import Derived.Test.YtdpkhmfolmcejaaGreatDoorMScan
import Derived.Deep.RegionHeld3
namespace Go.Proofs.YtdpkhmfolmcejaaGreatDoor
open Go.RowKit
namespace Xm
/-- the letter that so many bytes would be -/
def rval (s : ByteArray) (n : Nat) : Int :=
  if n = 1 then bt s 0 else if n = 2 then (bt s 0 - 192) * 64 + bt s 1 - 128 else if n = 3 then (bt s 0 - 224) * 4096 + (bt s 1 - 128) * 64 + bt s 2 - 128
  else (bt s 0 - 240) * 262144 + (bt s 1 - 128) * 4096 + (bt s 2 - 128) * 64 + bt s 3 - 128
def rget (s : ByteArray) : Nat → Nat → Int × Int
  | 0, _ => (0, 0)
  | m + 1, n => if n ≤ s.size then (if str (put (rval s n)) = s.extract 0 n then (rval s n, (n : Int)) else rget s m (n + 1)) else (0, 0)
end Xm
set_option maxRecDepth 100000 in
set_option maxHeartbeats 2000000 in
theorem rget_any (s : ByteArray) (w : World) (hs : s.size ≤ 9223372036854775807) : Calls Tryz.prog 26 #[.string s] w fun e w' => e = .returned (.tuple #[.int .i64 (Xm.rget s 4 1).1, .int .i64 (Xm.rget s 4 1).2]) ∧ Flow.Grow w w' := by
  go_enter Tryz.func26, Tryz.ntmps26
  go_wp2
  go_loopw [4] (fun v wr => ∃ n m : Nat, v = .int .i64 n ∧ 1 ≤ n ∧ n + m = 5 ∧ Hid (Flow.Grow w wr) ∧ Hid (Xm.rget s 4 1 = Xm.rget s m n)) (fun v _ => 5 - (intOf v).toNat)
  case atStart => exact ⟨1, 4, rfl, by omega, rfl, Lib.hid (Flow.grow_refl _), Lib.hid rfl⟩
  case round =>
    obtain ⟨n, m, rfl, hn1, hnm, HG, HR⟩ := hrel
    rename World => wr
    by_cases hle : n ≤ s.size
    rotate_left
    · have HE : Hid (Xm.rget s 4 1 = (0, 0)) := Lib.hid (by
        rw [HR.out]
        cases m with
        | zero => rfl
        | succ m => rw [Xm.rget, if_neg hle])
      have hd : decide ((n : Int) ≤ (s.size : Int)) = false := by simp; omega
      have hd' : decide (n ≤ s.size) = false := by simp; omega
      by_cases h4 : n ≤ 4
      · have hf : decide ((n : Int) ≤ 4) = true := by simp; omega
        go_wp2
        go_ret2
        exact ⟨by rw [HE.out]; rfl, HG.out⟩
      · have hf : decide ((n : Int) ≤ 4) = false := by simp; omega
        go_wp2
        go_ret2
        exact ⟨by rw [HE.out]; rfl, HG.out⟩
    rcases (show n = 1 ∨ n = 2 ∨ n = 3 ∨ n = 4 ∨ n = 5 by omega) with rfl | rfl | rfl | rfl | rfl
    · obtain rfl : m = 4 := by omega
      obtain ⟨r, hr⟩ : ∃ r, r = Xm.rval s 1 := ⟨_, rfl⟩
      have HRr := Lib.hid hr
      obtain ⟨b0, hb0⟩ : ∃ b : Int, (s[0].toNat : Int) = b := ⟨_, rfl⟩
      have hc0 : 0 ≤ b0 ∧ b0 ≤ 255 := by
        rw [← hb0]
        have := s[0].toNat_lt
        omega
      have He0 : Hid (b0 = Xm.bt s 0) := Lib.hid (by rw [← hb0, Xm.bt_eq (by omega)])
      have Hv : Hid (b0 = r) := Lib.hid (by rw [HRr.out, Xm.rval, if_pos rfl, ← He0.out])
      obtain ⟨Y, hY⟩ : ∃ Y, Y = s.extract 0 1 := ⟨_, rfl⟩
      have HY := Lib.hid hY
      have hrun : ∀ w, (Instr.slice 9 (.string s) none (some (.int .i64 1)) none).run Tryz.prog w = .ok (.string Y) w := fun w => by
        rw [hY]
        simp [Instr.slice, run_underlying Tryz.underlying9, Sem.run_bind, Instr.sliceBounds, Instr.sliceBound, asIntOf]
        intro h
        omega
      have HEt : Hid (str (Xm.put r) = Y → Xm.rget s 4 1 = (r, 1)) := Lib.hid (fun he => by rw [HR.out, Xm.rget, if_pos hle, ← hr, if_pos (by rw [he, hY])]; rfl)
      have HEf : Hid (¬ str (Xm.put r) = Y → Xm.rget s 4 1 = Xm.rget s 3 2) := Lib.hid (fun he => by rw [HR.out, Xm.rget, if_pos hle, ← hr, if_neg (by rw [← hY]; exact he)])
      clear hr hY HR
      go_wp2_with fail
      have HG2 := HG
      rw [Hv.out]
      go_region_held3 (fun w' => Flow.Grow wr w') (first | exact Flow.grow_refl _ | exact Flow.grow_drew _ | assumption | exact Flow.Grow.trans ‹_› ‹_›)
        ((go_at_call 40; refine (rput_any _ _).mono ?_; rintro e w' ⟨rfl, hg⟩))
      have HG3 : Hid (Flow.Grow w w') := Lib.hid (HG2.out.trans ‹Flow.Grow wr w'›)
      generalize hc79 : ((str (Xm.put r)).toList == Y.toList) = c at *
      cases c
      · have HE := Lib.hid (HEf.out (fun he => by rw [he] at hc79; simp at hc79))
        clear hc79
        go_wp2_with fail
        go_roundw
        case rel => exact ⟨2, 3, rfl, by omega, rfl, HG3, HE⟩
        case measure => first | decide | (simp only; decide)
      · have HE := Lib.hid (HEt.out (Classical.byContradiction fun he => by rw [Xm.ne_f he] at hc79; cases hc79))
        clear hc79
        go_wp2_with fail
        go_ret2
        exact ⟨by rw [HE.out]; rfl, HG3.out⟩
    · obtain rfl : m = 3 := by omega
      obtain ⟨r, hr⟩ : ∃ r, r = Xm.rval s 2 := ⟨_, rfl⟩
      have HRr := Lib.hid hr
      obtain ⟨b0, hb0⟩ : ∃ b : Int, (s[0].toNat : Int) = b := ⟨_, rfl⟩
      have hc0 : 0 ≤ b0 ∧ b0 ≤ 255 := by
        rw [← hb0]
        have := s[0].toNat_lt
        omega
      have He0 : Hid (b0 = Xm.bt s 0) := Lib.hid (by rw [← hb0, Xm.bt_eq (by omega)])
      obtain ⟨b1, hb1⟩ : ∃ b : Int, (s[1].toNat : Int) = b := ⟨_, rfl⟩
      have hc1 : 0 ≤ b1 ∧ b1 ≤ 255 := by
        rw [← hb1]
        have := s[1].toNat_lt
        omega
      have He1 : Hid (b1 = Xm.bt s 1) := Lib.hid (by rw [← hb1, Xm.bt_eq (by omega)])
      have Hv : Hid ((b0 - 192) * 64 + b1 - 128 = r) := Lib.hid (by rw [HRr.out, Xm.rval, if_neg (by decide), if_pos rfl, ← He0.out, ← He1.out])
      obtain ⟨Y, hY⟩ : ∃ Y, Y = s.extract 0 2 := ⟨_, rfl⟩
      have HY := Lib.hid hY
      have hrun : ∀ w, (Instr.slice 9 (.string s) none (some (.int .i64 2)) none).run Tryz.prog w = .ok (.string Y) w := fun w => by
        rw [hY]
        simp [Instr.slice, run_underlying Tryz.underlying9, Sem.run_bind, Instr.sliceBounds, Instr.sliceBound, asIntOf]
        intro h
        omega
      have HEt : Hid (str (Xm.put r) = Y → Xm.rget s 4 1 = (r, 2)) := Lib.hid (fun he => by rw [HR.out, Xm.rget, if_pos hle, ← hr, if_pos (by rw [he, hY])]; rfl)
      have HEf : Hid (¬ str (Xm.put r) = Y → Xm.rget s 4 1 = Xm.rget s 2 3) := Lib.hid (fun he => by rw [HR.out, Xm.rget, if_pos hle, ← hr, if_neg (by rw [← hY]; exact he)])
      clear hr hY HR
      go_wp2_with fail
      go_quiet (fail)
      go_wp2_with fail
      have HG2 : Hid (Flow.Grow w (wr.drewN nq)) := Lib.hid (HG.out.trans (Flow.grow_drewN _ _))
      generalize wr.drewN nq = w2 at *
      rw [Hv.out]
      go_region_held3 (fun w' => Flow.Grow w2 w') (first | exact Flow.grow_refl _ | exact Flow.grow_drew _ | assumption | exact Flow.Grow.trans ‹_› ‹_›)
        ((go_at_call 40; refine (rput_any _ _).mono ?_; rintro e w' ⟨rfl, hg⟩))
      have HG3 : Hid (Flow.Grow w w') := Lib.hid (HG2.out.trans ‹Flow.Grow w2 w'›)
      generalize hc79 : ((str (Xm.put r)).toList == Y.toList) = c at *
      cases c
      · have HE := Lib.hid (HEf.out (fun he => by rw [he] at hc79; simp at hc79))
        clear hc79
        go_wp2_with fail
        go_roundw
        case rel => exact ⟨3, 2, rfl, by omega, rfl, HG3, HE⟩
        case measure => first | decide | (simp only; decide)
      · have HE := Lib.hid (HEt.out (Classical.byContradiction fun he => by rw [Xm.ne_f he] at hc79; cases hc79))
        clear hc79
        go_wp2_with fail
        go_ret2
        exact ⟨by rw [HE.out]; rfl, HG3.out⟩
    · obtain rfl : m = 2 := by omega
      obtain ⟨r, hr⟩ : ∃ r, r = Xm.rval s 3 := ⟨_, rfl⟩
      have HRr := Lib.hid hr
      obtain ⟨b0, hb0⟩ : ∃ b : Int, (s[0].toNat : Int) = b := ⟨_, rfl⟩
      have hc0 : 0 ≤ b0 ∧ b0 ≤ 255 := by
        rw [← hb0]
        have := s[0].toNat_lt
        omega
      have He0 : Hid (b0 = Xm.bt s 0) := Lib.hid (by rw [← hb0, Xm.bt_eq (by omega)])
      obtain ⟨b1, hb1⟩ : ∃ b : Int, (s[1].toNat : Int) = b := ⟨_, rfl⟩
      have hc1 : 0 ≤ b1 ∧ b1 ≤ 255 := by
        rw [← hb1]
        have := s[1].toNat_lt
        omega
      have He1 : Hid (b1 = Xm.bt s 1) := Lib.hid (by rw [← hb1, Xm.bt_eq (by omega)])
      obtain ⟨b2, hb2⟩ : ∃ b : Int, (s[2].toNat : Int) = b := ⟨_, rfl⟩
      have hc2 : 0 ≤ b2 ∧ b2 ≤ 255 := by
        rw [← hb2]
        have := s[2].toNat_lt
        omega
      have He2 : Hid (b2 = Xm.bt s 2) := Lib.hid (by rw [← hb2, Xm.bt_eq (by omega)])
      have Hv : Hid ((b0 - 224) * 4096 + (b1 - 128) * 64 + b2 - 128 = r) := Lib.hid (by rw [HRr.out, Xm.rval, if_neg (by decide), if_neg (by decide), if_pos rfl, ← He0.out, ← He1.out, ← He2.out])
      obtain ⟨Y, hY⟩ : ∃ Y, Y = s.extract 0 3 := ⟨_, rfl⟩
      have HY := Lib.hid hY
      have hrun : ∀ w, (Instr.slice 9 (.string s) none (some (.int .i64 3)) none).run Tryz.prog w = .ok (.string Y) w := fun w => by
        rw [hY]
        simp [Instr.slice, run_underlying Tryz.underlying9, Sem.run_bind, Instr.sliceBounds, Instr.sliceBound, asIntOf]
        intro h
        omega
      have HEt : Hid (str (Xm.put r) = Y → Xm.rget s 4 1 = (r, 3)) := Lib.hid (fun he => by rw [HR.out, Xm.rget, if_pos hle, ← hr, if_pos (by rw [he, hY])]; rfl)
      have HEf : Hid (¬ str (Xm.put r) = Y → Xm.rget s 4 1 = Xm.rget s 1 4) := Lib.hid (fun he => by rw [HR.out, Xm.rget, if_pos hle, ← hr, if_neg (by rw [← hY]; exact he)])
      clear hr hY HR
      go_wp2_with fail
      go_quiet (fail)
      go_wp2_with fail
      have HG2 : Hid (Flow.Grow w (wr.drewN nq)) := Lib.hid (HG.out.trans (Flow.grow_drewN _ _))
      generalize wr.drewN nq = w2 at *
      rw [Hv.out]
      go_region_held3 (fun w' => Flow.Grow w2 w') (first | exact Flow.grow_refl _ | exact Flow.grow_drew _ | assumption | exact Flow.Grow.trans ‹_› ‹_›)
        ((go_at_call 40; refine (rput_any _ _).mono ?_; rintro e w' ⟨rfl, hg⟩))
      have HG3 : Hid (Flow.Grow w w') := Lib.hid (HG2.out.trans ‹Flow.Grow w2 w'›)
      generalize hc79 : ((str (Xm.put r)).toList == Y.toList) = c at *
      cases c
      · have HE := Lib.hid (HEf.out (fun he => by rw [he] at hc79; simp at hc79))
        clear hc79
        go_wp2_with fail
        go_roundw
        case rel => exact ⟨4, 1, rfl, by omega, rfl, HG3, HE⟩
        case measure => first | decide | (simp only; decide)
      · have HE := Lib.hid (HEt.out (Classical.byContradiction fun he => by rw [Xm.ne_f he] at hc79; cases hc79))
        clear hc79
        go_wp2_with fail
        go_ret2
        exact ⟨by rw [HE.out]; rfl, HG3.out⟩
    · obtain rfl : m = 1 := by omega
      obtain ⟨r, hr⟩ : ∃ r, r = Xm.rval s 4 := ⟨_, rfl⟩
      have HRr := Lib.hid hr
      obtain ⟨b0, hb0⟩ : ∃ b : Int, (s[0].toNat : Int) = b := ⟨_, rfl⟩
      have hc0 : 0 ≤ b0 ∧ b0 ≤ 255 := by
        rw [← hb0]
        have := s[0].toNat_lt
        omega
      have He0 : Hid (b0 = Xm.bt s 0) := Lib.hid (by rw [← hb0, Xm.bt_eq (by omega)])
      obtain ⟨b1, hb1⟩ : ∃ b : Int, (s[1].toNat : Int) = b := ⟨_, rfl⟩
      have hc1 : 0 ≤ b1 ∧ b1 ≤ 255 := by
        rw [← hb1]
        have := s[1].toNat_lt
        omega
      have He1 : Hid (b1 = Xm.bt s 1) := Lib.hid (by rw [← hb1, Xm.bt_eq (by omega)])
      obtain ⟨b2, hb2⟩ : ∃ b : Int, (s[2].toNat : Int) = b := ⟨_, rfl⟩
      have hc2 : 0 ≤ b2 ∧ b2 ≤ 255 := by
        rw [← hb2]
        have := s[2].toNat_lt
        omega
      have He2 : Hid (b2 = Xm.bt s 2) := Lib.hid (by rw [← hb2, Xm.bt_eq (by omega)])
      obtain ⟨b3, hb3⟩ : ∃ b : Int, (s[3].toNat : Int) = b := ⟨_, rfl⟩
      have hc3 : 0 ≤ b3 ∧ b3 ≤ 255 := by
        rw [← hb3]
        have := s[3].toNat_lt
        omega
      have He3 : Hid (b3 = Xm.bt s 3) := Lib.hid (by rw [← hb3, Xm.bt_eq (by omega)])
      have Hv : Hid ((b0 - 240) * 262144 + (b1 - 128) * 4096 + (b2 - 128) * 64 + b3 - 128 = r) := Lib.hid (by rw [HRr.out, Xm.rval, if_neg (by decide), if_neg (by decide), if_neg (by decide), ← He0.out, ← He1.out, ← He2.out, ← He3.out])
      obtain ⟨Y, hY⟩ : ∃ Y, Y = s.extract 0 4 := ⟨_, rfl⟩
      have HY := Lib.hid hY
      have hrun : ∀ w, (Instr.slice 9 (.string s) none (some (.int .i64 4)) none).run Tryz.prog w = .ok (.string Y) w := fun w => by
        rw [hY]
        simp [Instr.slice, run_underlying Tryz.underlying9, Sem.run_bind, Instr.sliceBounds, Instr.sliceBound, asIntOf]
        intro h
        omega
      have HEt : Hid (str (Xm.put r) = Y → Xm.rget s 4 1 = (r, 4)) := Lib.hid (fun he => by rw [HR.out, Xm.rget, if_pos hle, ← hr, if_pos (by rw [he, hY])]; rfl)
      have HEf : Hid (¬ str (Xm.put r) = Y → Xm.rget s 4 1 = Xm.rget s 0 5) := Lib.hid (fun he => by rw [HR.out]; simp only [Xm.rget]; rw [if_pos hle, ← hr, if_neg (by rw [← hY]; exact he)])
      clear hr hY HR
      go_wp2_with fail
      go_quiet (fail)
      go_wp2_with fail
      have HG2 : Hid (Flow.Grow w (wr.drewN nq)) := Lib.hid (HG.out.trans (Flow.grow_drewN _ _))
      generalize wr.drewN nq = w2 at *
      rw [Hv.out]
      go_region_held3 (fun w' => Flow.Grow w2 w') (first | exact Flow.grow_refl _ | exact Flow.grow_drew _ | assumption | exact Flow.Grow.trans ‹_› ‹_›)
        ((go_at_call 40; refine (rput_any _ _).mono ?_; rintro e w' ⟨rfl, hg⟩))
      have HG3 : Hid (Flow.Grow w w') := Lib.hid (HG2.out.trans ‹Flow.Grow w2 w'›)
      generalize hc79 : ((str (Xm.put r)).toList == Y.toList) = c at *
      cases c
      · have HE := Lib.hid (HEf.out (fun he => by rw [he] at hc79; simp at hc79))
        clear hc79
        go_wp2_with fail
        go_roundw
        case rel => exact ⟨5, 0, rfl, by omega, rfl, HG3, HE⟩
        case measure => first | decide | (simp only; decide)
      · have HE := Lib.hid (HEt.out (Classical.byContradiction fun he => by rw [Xm.ne_f he] at hc79; cases hc79))
        clear hc79
        go_wp2_with fail
        go_ret2
        exact ⟨by rw [HE.out]; rfl, HG3.out⟩
    · obtain rfl : m = 0 := by omega
      have HE : Hid (Xm.rget s 4 1 = (0, 0)) := Lib.hid (by rw [HR.out]; rfl)
      go_wp2
      go_ret2
      exact ⟨by rw [HE.out]; rfl, HG.out⟩
end Go.Proofs.YtdpkhmfolmcejaaGreatDoor

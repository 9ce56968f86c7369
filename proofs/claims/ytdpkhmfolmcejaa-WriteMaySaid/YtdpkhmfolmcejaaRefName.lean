/- galliardref01.Bad, Name by their contracts. -/
import Derived.Test.YtdpkhmfolmcejaaMRead
import Derived.Test.YtdpkhmfolmcejaaMRef
import Derived.Deep.DeepCutAuto
namespace Go.Proofs.Ytdpkhmfolmcejaa
open Go.RowKit
namespace Xm
def rbad (s : ByteArray) (k : Nat) : Int := if h : k < s.size then (if _h0 : (rg s k).2 = 0 then k else rbad s (k + (rg s k).2.toNat)) else -1
  termination_by s.size - k
  decreasing_by have := rg_bd (s := s) (k := k) (by omega); omega
end Xm
set_option maxRecDepth 100000 in
set_option maxHeartbeats 4000000 in
theorem rbad_any (s : ByteArray) (w : World) (hs : s.size ≤ 1000000000) : Calls Try.prog 13 #[.string s] w fun e w' => e = .returned (.int .i64 (Xm.rbad s 0)) ∧ Flow.Grow w w' := by
  go_enter Try.func13, Try.ntmps13
  go_wp2
  go_loopw [3] (fun v wr => ∃ k : Nat, k ≤ s.size ∧ v = .int .i64 k ∧ Hid (Flow.Grow w wr) ∧ Hid (Xm.rbad s 0 = Xm.rbad s k)) (fun v _ => s.size - (intOf v).toNat)
  case atStart => exact ⟨0, by omega, rfl, Lib.hid (Flow.grow_refl _), Lib.hid rfl⟩
  case round =>
    obtain ⟨k, hk, rfl, HG, HR⟩ := hrel
    rename World => wr
    by_cases hlt : k < s.size
    rotate_left
    · have HE : Hid (Xm.rbad s 0 = -1) := Lib.hid (by rw [HR.out, Xm.rbad, dif_neg hlt])
      have hd : decide ((k : Int) < (s.size : Int)) = false := by simp; omega
      have hd' : decide (k < s.size) = false := by simp; omega
      go_wp2
      go_ret
      exact ⟨ret_int HE.out.symm, HG.out⟩
    have hd : decide ((k : Int) < (s.size : Int)) = true := by simp; omega
    have hd' : decide (k < s.size) = true := by simp; omega
    have hbd := Xm.rg_bd (s := s) hk
    obtain ⟨r, n, hg0⟩ : ∃ r n, (r, n) = Xm.rg s k := ⟨_, _, rfl⟩
    rw [← hg0] at hbd
    have Hg := Lib.hid hg0
    have Hg1 : Hid (Xm.rget (s.extract k s.size) 4 1 = (r, n)) := Lib.hid hg0.symm
    have Hsz : Hid ((s.extract k s.size).size ≤ 9223372036854775807) := Lib.hid (by simp; omega)
    simp only at hbd
    clear hg0
    by_cases hn : n = 0
    · subst hn
      have HE : Hid (Xm.rbad s 0 = k) := Lib.hid (by rw [HR.out, Xm.rbad, dif_pos hlt, dif_pos]; rw [← Hg.out])
      go_wp2_with (go_at_call 14; refine (rget_any _ _ Hsz.out).mono ?_; rintro e w1 ⟨rfl, hg⟩; rw [Hg1.out])
      go_ret
      exact ⟨ret_int HE.out.symm, HG.out.trans hg⟩
    · obtain ⟨m, rfl⟩ := Int.eq_ofNat_of_zero_le hbd.1
      rw [Int.toNat_natCast] at hbd
      have gn : ((m : Int) == 0) = false := by simpa using hn
      have hm0 : 0 < m := by omega
      have HE : Hid (Xm.rbad s 0 = Xm.rbad s (k + m)) := Lib.hid (by rw [HR.out, Xm.rbad, dif_pos hlt, dif_neg (by rw [← Hg.out]; exact hn), ← Hg.out, Int.toNat_natCast])
      go_wp2_with (go_at_call 14; refine (rget_any _ _ Hsz.out).mono ?_; rintro e w1 ⟨rfl, hg⟩; rw [Hg1.out])
      go_roundw
      case rel => exact ⟨k + m, by omega, by first | rfl | go_num, Lib.hid (HG.out.trans hg), HE⟩
      case measure => simp only [intOf]; omega
theorem byte_cases {k : Nat} (c : Int) (h : Xm.start c = true ∨ k ≠ 0 ∧ Xm.part c = true) :
    (97 ≤ c ∧ c ≤ 122) ∨ (c < 97 ∧ 65 ≤ c ∧ c ≤ 90) ∨ c = 95 ∨ (97 ≤ c ∧ 122 < c ∧ 65 ≤ c ∧ 90 < c ∧ ¬c = 95 ∧ 128 ≤ c) ∨ (k ≠ 0 ∧ c = 45) ∨ (k ≠ 0 ∧ c = 46) ∨ (k ≠ 0 ∧ c < 97 ∧ c < 65 ∧ ¬c = 95 ∧ c < 128 ∧ 48 ≤ c ∧ c ≤ 57) := by
  simp only [Xm.part, Xm.start, Bool.or_eq_true, Bool.and_eq_true, decide_eq_true_eq, beq_iff_eq] at h
  omega
set_option maxRecDepth 100000 in
set_option maxHeartbeats 8000000 in
theorem rname_true (s : ByteArray) (w : World) (h0 : s.size ≠ 0) (h60 : s.size ≤ 60) (hb : Xm.rbad s 0 < 0) (hp : ∀ k, k < s.size → Xm.start (Xm.bt s k) = true ∨ k ≠ 0 ∧ Xm.part (Xm.bt s k) = true) :
    Calls Try.prog 5 #[.string s] w fun e w' => e = .returned (.bool true) ∧ Flow.Grow w w' := by
  have HP := Lib.hid hp
  have HB := Lib.hid hb
  have t1 := Xm.emp_n h0
  have t2 := Xm.emp_f h0
  clear hp hb
  go_enter Try.func5, Try.ntmps5
  go_upto_if 17 with (go_at_call 13; refine (rbad_any s _ (by omega)).mono ?_; rintro e w1 ⟨rfl, hg1⟩; have hbb := HB.out)
  have c1 : decide (60 < (s.size : Int)) = false := by simp; omega
  have c2 : decide (0 ≤ Xm.rbad s 0) = false := by simp; omega
  rw [c1, c2, Bool.or_self]
  clear h60 c1 c2 hbb
  have HG := Lib.hid hg1
  clear hg1
  go_wp2
  go_loopw [3] (fun v wr => ∃ k : Nat, k ≤ s.size ∧ v = .int .i64 k ∧ wr = w1) (fun v _ => s.size - (intOf v).toNat)
  case atStart => exact ⟨0, by omega, rfl, rfl⟩
  case round =>
    obtain ⟨k, hk, rfl, rfl⟩ := hrel
    by_cases hkl : k < s.size
    · have Hbk := Lib.hid (Xm.bt_eq hkl)
      have hd : decide ((k : Int) < (s.size : Int)) = true := by simp; omega
      have hd' : decide (k < s.size) = true := by simp; omega
      have hc := HP.out k hkl
      rw [← Hbk.out] at hc
      have hc := byte_cases _ hc
      rcases hc with ⟨a1, a2⟩ | ⟨a1, a2, a3⟩ | a1 | ⟨a1, a2, a3, a4, a5, a6⟩ | ⟨a0, a1⟩ | ⟨a0, a1⟩ | ⟨a0, a1, a2, a3, a4, a5, a6⟩
      case inr.inr.inr.inl =>
        have b1 : decide ((128 : Int) ≤ (s[k].toNat : Int)) = true := by simp; omega
        go_wp2
        go_roundw
        case rel => exact ⟨k + 1, by omega, by first | rfl | go_num, by first | rfl | trivial⟩
        case measure => simp only [intOf]; omega
      case inr.inr.inr.inr.inl =>
        have g0 : ((k : Int) == 0) = false := by simpa using a0
        go_wp2
        go_roundw
        case rel => exact ⟨k + 1, by omega, by first | rfl | go_num, by first | rfl | trivial⟩
        case measure => simp only [intOf]; omega
      case inr.inr.inr.inr.inr.inl =>
        have g0 : ((k : Int) == 0) = false := by simpa using a0
        go_wp2
        go_roundw
        case rel => exact ⟨k + 1, by omega, by first | rfl | go_num, by first | rfl | trivial⟩
        case measure => simp only [intOf]; omega
      case inr.inr.inr.inr.inr.inr =>
        have g0 : ((k : Int) == 0) = false := by simpa using a0
        go_wp2
        go_roundw
        case rel => exact ⟨k + 1, by omega, by first | rfl | go_num, by first | rfl | trivial⟩
        case measure => simp only [intOf]; omega
      all_goals
        go_wp2
        go_roundw
        case rel => exact ⟨k + 1, by omega, by first | rfl | go_num, by first | rfl | trivial⟩
        case measure => simp only [intOf]; omega
    · have hd : decide ((k : Int) < (s.size : Int)) = false := by simp; omega
      have hd' : decide (k < s.size) = false := by simp; omega
      go_wp2
      go_ret
      exact ⟨rfl, HG.out⟩
end Go.Proofs.Ytdpkhmfolmcejaa

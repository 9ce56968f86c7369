/- galliardref01.Plain by its contract. -/
import Derived.Test.YtfkdjdmbgednkaaDoorRefText
namespace Go.Proofs.YtfkdjdmbgednkaaDoor
open Go.RowKit
namespace Xm
/-- a text's letters that may stand in one, from a place on; others are x -/
def rplain (s : ByteArray) (k : Nat) (acc : ByteArray) : ByteArray :=
  if h : k < s.size then
    (if h0 : (rg s k).2 = 0 ∨ 0 ≤ rtext (s.extract k (k + (rg s k).2.toNat)) 0 then rplain s (k + 1) (acc ++ ⟨#[120]⟩)
    else rplain s (k + (rg s k).2.toNat) (acc ++ s.extract k (k + (rg s k).2.toNat)))
  else acc
  termination_by s.size - k
  decreasing_by
    · omega
    · have := rg_bd (s := s) (k := k) (by omega); omega
end Xm
set_option maxRecDepth 100000 in
set_option maxHeartbeats 4000000 in
theorem rplain_any (s : ByteArray) (w : World) (hs : s.size ≤ 1000000000) : Calls Tryd.prog 17 #[.string s] w fun e w' => e = .returned (.string (Xm.rplain s 0 ByteArray.empty)) ∧ Flow.Grow w w' := by
  go_enter Tryd.func17, Tryd.ntmps17
  go_wp2
  go_loopw [3, 4] (fun v3 v4 wr => ∃ (k : Nat) (acc : ByteArray), k ≤ s.size ∧ v4 = .int .i64 k ∧ v3 = .string acc ∧ acc.size ≤ k ∧ Hid (Flow.Grow w wr) ∧ Hid (Xm.rplain s 0 ByteArray.empty = Xm.rplain s k acc)) (fun _ v4 _ => s.size - (intOf v4).toNat)
  case atStart => exact ⟨0, ByteArray.empty, by omega, rfl, rfl, Nat.le_refl _, Lib.hid (Flow.grow_refl _), Lib.hid rfl⟩
  case round =>
    obtain ⟨k, acc, hk, rfl, rfl, hacc, HG, HR⟩ := hrel
    rename World => wr
    by_cases hlt : k < s.size
    rotate_left
    · have HE : Hid (Xm.rplain s 0 ByteArray.empty = acc) := Lib.hid (by rw [HR.out, Xm.rplain, dif_neg hlt])
      have hd : decide ((k : Int) < (s.size : Int)) = false := by simp; omega
      have hd' : decide (k < s.size) = false := by simp; omega
      go_wp2
      go_ret
      exact ⟨ret_str HE.out.symm, HG.out⟩
    have hd : decide ((k : Int) < (s.size : Int)) = true := by simp; omega
    have hd' : decide (k < s.size) = true := by simp; omega
    have hbd := Xm.rg_bd (s := s) hk
    obtain ⟨r, n, hg0⟩ : ∃ r n, (r, n) = Xm.rg s k := ⟨_, _, rfl⟩
    rw [← hg0] at hbd
    have Hg := Lib.hid hg0
    have Hg1 : Hid (Xm.rget (s.extract k s.size) 4 1 = (r, n)) := Lib.hid hg0.symm
    have Hsz : Hid ((s.extract k s.size).size ≤ 9223372036854775807) := Lib.hid (by simp; omega)
    simp only at hbd
    clear hg0
    have hx1 : (⟨#[120]⟩ : ByteArray).size = 1 := rfl
    have hp1 : ¬ 9223372036854775807 < acc.size + 1 := by omega
    by_cases hn : n = 0
    · subst hn
      have HE : Hid (Xm.rplain s 0 ByteArray.empty = Xm.rplain s (k + 1) (acc ++ ⟨#[120]⟩)) := Lib.hid (by rw [HR.out, Xm.rplain, dif_pos hlt, dif_pos (.inl (by rw [← Hg.out]))])
      go_wp2_with (go_at_call 42; refine (rget_any _ _ Hsz.out).mono ?_; rintro e w1 ⟨rfl, hg⟩; rw [Hg1.out])
      go_roundw
      case rel => exact ⟨k + 1, acc ++ ⟨#[120]⟩, by omega, rfl, rfl, by rw [ByteArray.size_append, hx1]; omega, Lib.hid (HG.out.trans hg), HE⟩
      case measure => simp only [intOf]; omega
    obtain ⟨m, rfl⟩ := Int.eq_ofNat_of_zero_le hbd.1
    rw [Int.toNat_natCast] at hbd
    have gn : ((m : Int) == 0) = false := by simpa using hn
    obtain ⟨v, hv⟩ : ∃ v, v = s.extract k (k + m) := ⟨_, rfl⟩
    have Hv := Lib.hid hv
    have hvs : v.size = m := by rw [hv]; simp; omega
    have hsl := run_cut s k (k + m) (by omega) (by omega) (k : Int) ((k : Int) + m) rfl (by omega)
    rw [← hv] at hsl
    have e1 : IntKind.i64.wrap ((k : Int) + m) = (k : Int) + m := IntWalk.i64_in _ (by omega)
    obtain ⟨z, hz⟩ : ∃ z, z = Xm.rtext v 0 := ⟨_, rfl⟩
    have HZ := Lib.hid hz
    clear hv hz
    by_cases hz0 : 0 ≤ z
    · have HE : Hid (Xm.rplain s 0 ByteArray.empty = Xm.rplain s (k + 1) (acc ++ ⟨#[120]⟩)) := Lib.hid (by rw [HR.out, Xm.rplain, dif_pos hlt, dif_pos (.inr (by rw [← Hg.out, Int.toNat_natCast, ← Hv.out, ← HZ.out]; exact hz0))])
      go_wp2_with (first | (go_at_call 42; refine (rget_any _ _ Hsz.out).mono ?_; rintro e w1 ⟨rfl, hg⟩; rw [Hg1.out]) | (go_at_call 43; refine (rtext_any _ _ (by omega)).mono ?_; rintro e w2 ⟨rfl, hg2⟩; rw [← HZ.out]))
      go_roundw
      case rel => exact ⟨k + 1, acc ++ ⟨#[120]⟩, by omega, rfl, rfl, by rw [ByteArray.size_append, hx1]; omega, Lib.hid ((HG.out.trans hg).trans hg2), HE⟩
      case measure => simp only [intOf]; omega
    · have HE : Hid (Xm.rplain s 0 ByteArray.empty = Xm.rplain s (k + m) (acc ++ v)) := Lib.hid (by
        rw [HR.out, Xm.rplain, dif_pos hlt, dif_neg (by
          rw [← Hg.out, Int.toNat_natCast, ← Hv.out, ← HZ.out]
          simp only [not_or]
          exact ⟨hn, hz0⟩), ← Hg.out, Int.toNat_natCast, ← Hv.out])
      have hp2 : ¬ 9223372036854775807 < acc.size + v.size := by omega
      have hm0 : 0 < m := by omega
      go_wp2_with (first | (go_at_call 42; refine (rget_any _ _ Hsz.out).mono ?_; rintro e w1 ⟨rfl, hg⟩; rw [Hg1.out]) | (go_at_call 43; refine (rtext_any _ _ (by omega)).mono ?_; rintro e w2 ⟨rfl, hg2⟩; rw [← HZ.out]))
      go_roundw
      case rel => exact ⟨k + m, acc ++ v, by omega, rfl, rfl, by rw [ByteArray.size_append]; omega, Lib.hid ((HG.out.trans hg).trans hg2), HE⟩
      case measure => simp only [intOf]; omega
end Go.Proofs.YtfkdjdmbgednkaaDoor

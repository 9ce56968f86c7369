/- galliardref01.Name by its contract: it answers chars.Name. -/
import Derived.Test.YtdpkhmfolmcejaaRefSame
namespace Go.Proofs.Ytdpkhmfolmcejaa
open Go.RowKit
namespace Xm
def okb (s : ByteArray) (k : Nat) : Bool := start (bt s k) || decide (k ≠ 0) && part (bt s k)
def nmF (s : ByteArray) (k : Nat) : Bool := if k < s.size then okb s k && nmF s (k + 1) else true
  termination_by s.size - k
theorem start_part {c : Int} (h : start c = true) : part c = true := by unfold part; rw [h]; rfl
theorem nmF_parts {s : ByteArray} : ∀ (d k : Nat), s.size - k = d → k ≠ 0 → nmF s k = parts s k := by
  intro d
  induction d with
  | zero => intro k hd hk; rw [nmF, parts, if_neg (by omega), if_neg (by omega)]
  | succ d ih =>
    intro k hd hk
    rw [nmF, parts, if_pos (by omega), if_pos (by omega), ih (k + 1) (by omega) (by omega)]
    congr 1
    unfold okb
    rw [decide_eq_true hk, Bool.true_and]
    cases hs : start (bt s k) with
    | false => rfl
    | true => rw [start_part hs]; rfl
theorem name_nmF {s : ByteArray} (h0 : s.size ≠ 0) (h60 : s.size ≤ 60) (hb : bad s 0 < 0) : name s = nmF s 0 := by
  unfold name
  rw [decide_eq_true h0, decide_eq_true h60, decide_eq_true hb, nmF, if_pos (by omega), parts, if_pos (by omega), nmF_parts _ 1 rfl (by decide)]
  unfold okb
  cases hs : start (bt s 0) with
  | false => rfl
  | true => rw [start_part hs]; rfl
end Xm
theorem byte_full (c : Int) :
    (c < 97 ∧ c < 65 ∧ ¬c = 95 ∧ c < 128 ∧ Xm.start c = false) ∨ (c < 97 ∧ 65 ≤ c ∧ c ≤ 90 ∧ Xm.start c = true) ∨ (c < 97 ∧ 65 ≤ c ∧ 90 < c ∧ ¬c = 95 ∧ c < 128 ∧ Xm.start c = false) ∨ c = 95 ∨ (97 ≤ c ∧ c ≤ 122 ∧ Xm.start c = true) ∨ (97 ≤ c ∧ 122 < c ∧ 65 ≤ c ∧ 90 < c ∧ ¬c = 95 ∧ c < 128 ∧ Xm.start c = false) ∨ (97 ≤ c ∧ 122 < c ∧ 65 ≤ c ∧ 90 < c ∧ ¬c = 95 ∧ 128 ≤ c ∧ Xm.start c = true) := by
  cases h : Xm.start c with
  | false =>
    simp only [Xm.start, Bool.or_eq_false_iff, Bool.and_eq_false_iff, decide_eq_false_iff_not, beq_eq_false_iff_ne] at h
    simp
    omega
  | true =>
    simp only [Xm.start, Bool.or_eq_true, Bool.and_eq_true, decide_eq_true_eq, beq_iff_eq] at h
    simp
    omega
theorem byte_part (c : Int) (h : Xm.start c = false) :
    (c < 48 ∧ ¬c = 45 ∧ ¬c = 46 ∧ Xm.part c = false) ∨ (c < 48 ∧ c = 45 ∧ Xm.part c = true) ∨ (c < 48 ∧ ¬c = 45 ∧ c = 46 ∧ Xm.part c = true) ∨ (48 ≤ c ∧ c ≤ 57 ∧ Xm.part c = true) ∨ (48 ≤ c ∧ 57 < c ∧ ¬c = 45 ∧ ¬c = 46 ∧ Xm.part c = false) := by
  cases hp : Xm.part c with
  | false =>
    simp only [Xm.part, h, Bool.false_or, Bool.or_eq_false_iff, Bool.and_eq_false_iff, decide_eq_false_iff_not, beq_eq_false_iff_ne] at hp
    simp
    omega
  | true =>
    simp only [Xm.part, h, Bool.false_or, Bool.or_eq_true, Bool.and_eq_true, decide_eq_true_eq, beq_iff_eq] at hp
    simp
    omega
set_option maxRecDepth 100000 in
set_option maxHeartbeats 16000000 in
theorem rname_any (s : ByteArray) (w : World) (hs : s.size ≤ 1000000000) :
    Calls Try.prog 5 #[.string s] w fun e w' => e = .returned (.bool (Xm.name s)) ∧ Flow.Grow w w' := by
  by_cases h0 : s.size = 0
  · have HE : Hid (Xm.name s = false) := Lib.hid (by simp [Xm.name, h0])
    have t1 := Xm.emp_t h0
    have t2 : s.toList.isEmpty = true := by rw [t1]; rfl
    clear h0
    go_enter Try.func5, Try.ntmps5
    go_wp2
    go_ret
    exact ⟨ret_bool HE.out.symm, Flow.grow_refl _⟩
  have t1 := Xm.emp_n h0
  have t2 := Xm.emp_f h0
  by_cases h60 : s.size ≤ 60
  rotate_left
  · have HE : Hid (Xm.name s = false) := Lib.hid (by simp [Xm.name, h60])
    have c1 : decide (60 < (s.size : Int)) = true := by simp; omega
    have c2 : (60 : Int) < (s.size : Int) := by omega
    clear h0
    go_enter Try.func5, Try.ntmps5
    go_wp2
    go_ret
    exact ⟨ret_bool HE.out.symm, Flow.grow_refl _⟩
  have hbe := Xm.rbad_eq (s := s) _ 0 rfl
  by_cases hb : Xm.rbad s 0 < 0
  rotate_left
  · have HE : Hid (Xm.name s = false) := Lib.hid (by
      have : decide (Xm.bad s 0 < 0) = false := by rw [← hbe]; simp; omega
      simp [Xm.name, this])
    have HB := Lib.hid hb
    clear h0 hb hbe
    go_enter Try.func5, Try.ntmps5
    go_upto_if 17 with (go_at_call 13; refine (rbad_any s _ (by omega)).mono ?_; rintro e w1 ⟨rfl, hg1⟩; have hbb := HB.out)
    go_wp2
    go_ret
    exact ⟨ret_bool HE.out.symm, hg1⟩
  have HNF : Hid (Xm.name s = Xm.nmF s 0) := Lib.hid (Xm.name_nmF h0 h60 (by rw [← hbe]; exact hb))
  have HB := Lib.hid hb
  clear hb hbe
  go_enter Try.func5, Try.ntmps5
  go_upto_if 17 with (go_at_call 13; refine (rbad_any s _ (by omega)).mono ?_; rintro e w1 ⟨rfl, hg1⟩; have hbb := HB.out)
  have c1 : decide (60 < (s.size : Int)) = false := by simp; omega
  have c2 : decide (0 ≤ Xm.rbad s 0) = false := by simp; omega
  rw [c1, c2, Bool.or_self]
  clear h60 c1 c2 hbb
  have HG := Lib.hid hg1
  clear hg1
  go_wp2
  go_loopw [3] (fun v wr => ∃ k : Nat, k ≤ s.size ∧ v = .int .i64 k ∧ Hid (Xm.name s = Xm.nmF s k) ∧ wr = w1) (fun v _ => s.size - (intOf v).toNat)
  case atStart => exact ⟨0, by omega, rfl, HNF, rfl⟩
  case round =>
    obtain ⟨k, hk, rfl, HR, rfl⟩ := hrel
    by_cases hkl : k < s.size
    · have Hbk := Lib.hid (Xm.bt_eq hkl)
      have hd : decide ((k : Int) < (s.size : Int)) = true := by simp; omega
      have hd' : decide (k < s.size) = true := by simp; omega
      go_upto_region 7 with fail
      go_cut [5] from 18 to 71 (fun v5 wx => v5 = .bool (Xm.start (Xm.bt s k)) ∧ wx = wr)
      case first =>
        rcases byte_full (s[k].toNat : Int) with ⟨a1, a2, a3, a4, a5⟩ | ⟨a1, a2, a3, a5⟩ | ⟨a1, a2, a3, a4, a6, a5⟩ | a1 | ⟨a1, a2, a5⟩ | ⟨a1, a2, a3, a4, a6, a7, a5⟩ | ⟨a1, a2, a3, a4, a6, a7, a5⟩
        case inr.inr.inr.inl =>
          have HE : Hid (Xm.start (Xm.bt s k) = true) := Lib.hid (by rw [← Hbk.out, a1]; rfl)
          go_wp2
          go_meet
          case rel => exact ⟨by rw [HE.out], rfl⟩
        all_goals
          have HE := Lib.hid a5
          rw [Hbk.out] at HE
          clear a5
          go_wp2
          go_meet
          case rel => exact ⟨by rw [HE.out]; first | done | rfl | (simp; omega), rfl⟩
      case rest =>
        obtain ⟨rfl, hwx⟩ := hcut
        have hwx := hwx.symm
        subst hwx
        cases hst : Xm.start (Xm.bt s k) with
        | true =>
          have HS : Hid (Xm.name s = Xm.nmF s (k + 1)) := Lib.hid (by rw [HR.out, Xm.nmF, if_pos hkl, Xm.okb, hst]; rfl)
          clear hst
          go_wp2
          go_roundw
          case rel => exact ⟨k + 1, by omega, by first | rfl | go_num, HS, by first | rfl | trivial⟩
          case measure => simp only [intOf]; omega
        | false =>
          have Hst := Lib.hid hst
          clear hst
          by_cases k0 : k = 0
          · subst k0
            have HF : Hid (Xm.name s = false) := Lib.hid (by rw [HR.out, Xm.nmF, if_pos hkl, Xm.okb, Hst.out]; rfl)
            go_wp2
            go_ret
            exact ⟨ret_bool HF.out.symm, HG.out⟩
          · have g0 : ((k : Int) == 0) = false := by simpa using k0
            have hst := Hst.out
            rw [← Hbk.out] at hst
            rcases byte_part (s[k].toNat : Int) hst with ⟨a1, a2, a3, a5⟩ | ⟨a1, a2, a5⟩ | ⟨a1, a2, a3, a5⟩ | ⟨a1, a2, a5⟩ | ⟨a1, a2, a3, a4, a5⟩
            case inl =>
              rw [Hbk.out] at a5
              have HF : Hid (Xm.name s = false) := Lib.hid (by rw [HR.out, Xm.nmF, if_pos hkl, Xm.okb, Hst.out, a5]; simp)
              have b1 : ((s[k].toNat : Int) == 45) = false := by simp; omega
              have b2 : ((s[k].toNat : Int) == 46) = false := by simp; omega
              have b3 : decide (48 ≤ (s[k].toNat : Int)) = false := by simp; omega
              clear a5 hst
              go_wp2
              go_ret
              exact ⟨ret_bool HF.out.symm, HG.out⟩
            case inr.inr.inr.inr =>
              rw [Hbk.out] at a5
              have HF : Hid (Xm.name s = false) := Lib.hid (by rw [HR.out, Xm.nmF, if_pos hkl, Xm.okb, Hst.out, a5]; simp)
              have b1 : ((s[k].toNat : Int) == 45) = false := by simp; omega
              have b2 : ((s[k].toNat : Int) == 46) = false := by simp; omega
              have b3 : decide ((s[k].toNat : Int) ≤ 57) = false := by simp; omega
              clear a5 hst
              go_wp2
              go_ret
              exact ⟨ret_bool HF.out.symm, HG.out⟩
            all_goals
              rw [Hbk.out] at a5
              have HS : Hid (Xm.name s = Xm.nmF s (k + 1)) := Lib.hid (by rw [HR.out, Xm.nmF, if_pos hkl, Xm.okb, Hst.out, a5]; simp [k0])
              clear a5 hst
              go_wp2
              go_roundw
              case rel => exact ⟨k + 1, by omega, by first | rfl | go_num, HS, by first | rfl | trivial⟩
              case measure => simp only [intOf]; omega
    · have hd : decide ((k : Int) < (s.size : Int)) = false := by simp; omega
      have hd' : decide (k < s.size) = false := by simp; omega
      have HE : Hid (Xm.name s = true) := Lib.hid (by rw [HR.out, Xm.nmF, if_neg hkl])
      go_wp2
      go_ret
      exact ⟨ret_bool HE.out.symm, HG.out⟩
end Go.Proofs.Ytdpkhmfolmcejaa

/- chars.Name, Trim, Empty, Split by their contracts. -/
import Derived.Test.YtdpkhmfolmcejaaGreatDoorUget
import Derived.Laws.Strings
import Derived.Deep.QuietTactic
import Derived.BigQuiet
namespace Go.Proofs.YtdpkhmfolmcejaaGreatDoor
open Go.RowKit
namespace Xm
def parts (s : ByteArray) (k : Nat) : Bool := if k < s.size then part (bt s k) && parts s (k + 1) else true
  termination_by s.size - k
def name (s : ByteArray) : Bool := decide (s.size ≠ 0) && decide (s.size ≤ 60) && start (bt s 0) && decide (bad s 0 < 0) && parts s 0
theorem emp_t {s : ByteArray} (h : s.size = 0) : s.toList = [] := by rw [ByteArray.toList_eq]; exact List.eq_nil_of_length_eq_zero (by simpa using h)
theorem emp_n {s : ByteArray} (h : s.size ≠ 0) : ¬ s.toList = [] := by
  rw [ByteArray.toList_eq]; intro e; apply h
  have := congrArg List.length e
  simpa using this
theorem emp_f {s : ByteArray} (h : s.size ≠ 0) : s.toList.isEmpty = false := by simpa using emp_n h
end Xm

set_option maxRecDepth 100000 in
set_option maxHeartbeats 1000000 in
theorem name_any (s : ByteArray) (w : World) (hs : s.size ≤ 9223372036854775807) : Calls Tryz.prog 53 #[.string s] w fun e w' => e = .returned (.bool (Xm.name s)) ∧ w = w' := by
  by_cases h0 : s.size = 0
  · have HE : Hid (Xm.name s = false) := Lib.hid (by simp [Xm.name, h0])
    have hE := Xm.emp_t h0
    clear h0
    go_enter Tryz.func53, Tryz.ntmps53
    go_wp2
    go_ret
    exact ⟨ret_bool HE.out.symm, rfl⟩
  have hlt : 0 < s.size := by omega
  have Hb := Lib.hid (Xm.bt_eq hlt)
  have hE := Xm.emp_f h0
  by_cases h60 : s.size ≤ 60
  rotate_left
  · have HE : Hid (Xm.name s = false) := Lib.hid (by simp [Xm.name, h60])
    clear h0
    go_enter Tryz.func53, Tryz.ntmps53
    go_wp2
    go_ret
    exact ⟨ret_bool HE.out.symm, rfl⟩
  obtain ⟨q, hq⟩ : ∃ q, q = Xm.bad s 0 := ⟨_, rfl⟩
  have Hq := Lib.hid hq
  clear hq
  cases hst : Xm.start (Xm.bt s 0) with
  | false =>
    have HE : Hid (Xm.name s = false) := Lib.hid (by simp [Xm.name, hst])
    have Hst := Lib.hid hst
    clear h0 hst
    go_enter Tryz.func53, Tryz.ntmps53
    go_wp2_with (go_at_call 77; rw [Hb.out]; refine (start_any _ _).mono ?_; rintro e w' ⟨rfl, rfl⟩; rw [Hst.out])
    go_ret
    exact ⟨ret_bool HE.out.symm, rfl⟩
  | true =>
    have Hst := Lib.hid hst
    clear hst
    by_cases hq0 : 0 ≤ q
    · have HE : Hid (Xm.name s = false) := Lib.hid (by have e : decide (q < 0) = false := (by simp; omega); simp only [Xm.name, ← Hq.out, e, Bool.and_false, Bool.false_and])
      clear h0
      go_enter Tryz.func53, Tryz.ntmps53
      go_wp2_with (first | (go_at_call 77; rw [Hb.out]; refine (start_any _ _).mono ?_; rintro e w' ⟨rfl, rfl⟩; rw [Hst.out]) | (go_at_call 32; refine (ubad_any _ _ hs).mono ?_; rintro e w' ⟨rfl, rfl⟩; rw [← Hq.out]))
      go_ret
      exact ⟨ret_bool HE.out.symm, rfl⟩
    · have HE : Hid (Xm.name s = Xm.parts s 0) := Lib.hid (by simp [Xm.name, ← Hq.out, Hst.out, h0, h60]; intro _; omega)
      have hq1 : decide (0 ≤ q) = false := by simpa using hq0
      clear h0 hq0
      go_enter Tryz.func53, Tryz.ntmps53
      go_wp2_with (first | (go_at_call 77; rw [Hb.out]; refine (start_any _ _).mono ?_; rintro e w' ⟨rfl, rfl⟩; rw [Hst.out]) | (go_at_call 32; refine (ubad_any _ _ hs).mono ?_; rintro e w' ⟨rfl, rfl⟩; rw [← Hq.out]))
      go_loop [24] (fun i => ∃ k : Nat, k ≤ s.size ∧ i = .int .i64 k ∧ Hid (Xm.name s = Xm.parts s k)) (fun i => s.size - (intOf i).toNat)
      case atStart => exact ⟨0, by omega, rfl, HE⟩
      case round =>
        obtain ⟨k, hk, rfl, HP⟩ := hrel
        clear HE
        by_cases hkl : k < s.size
        · have Hbk := Lib.hid (Xm.bt_eq hkl)
          cases hp : Xm.part (Xm.bt s k) with
          | false =>
            have HE : Hid (Xm.name s = false) := Lib.hid (by rw [HP.out, Xm.parts, if_pos hkl, hp]; rfl)
            have Hp := Lib.hid hp
            clear hp
            go_wp2_with (go_at_call 78; rw [Hbk.out]; refine (part_any _ _).mono ?_; rintro e w' ⟨rfl, rfl⟩; rw [Hp.out])
            go_ret
            exact ⟨ret_bool HE.out.symm, rfl⟩
          | true =>
            have HE : Hid (Xm.name s = Xm.parts s (k + 1)) := Lib.hid (by rw [HP.out, Xm.parts, if_pos hkl, hp]; rfl)
            have Hp := Lib.hid hp
            clear hp
            go_wp2_with (go_at_call 78; rw [Hbk.out]; refine (part_any _ _).mono ?_; rintro e w' ⟨rfl, rfl⟩; rw [Hp.out])
            go_round
            case rel => exact ⟨k + 1, by omega, by go_num, HE⟩
            case measure => simp [intOf]; omega
        · have HE : Hid (Xm.name s = true) := Lib.hid (by rw [HP.out, Xm.parts, if_neg hkl])
          go_wp2
          go_ret
          exact ⟨ret_bool HE.out.symm, rfl⟩

namespace Xm
/-- the part of a text between two places -/
def cut (s : ByteArray) (a b : Nat) : ByteArray := s.extract a b
theorem cut_size {s : ByteArray} {a b : Nat} (h : b ≤ s.size) : (cut s a b).size = b - a := by simp [cut]; omega
theorem cut_full (s : ByteArray) : cut s 0 s.size = s := by simp [cut]
theorem cut_bt {s : ByteArray} {a b k : Nat} (h : b ≤ s.size) (hk : k < b - a) : bt (cut s a b) k = bt s (a + k) := by
  unfold bt
  rw [dif_pos (by rw [cut_size h]; exact hk), dif_pos (by omega)]
  show ((((cut s a b).data[k]'(by have := cut_size (a := a) h; simp only [ByteArray.size] at this; omega)).toNat : Nat) : Int) = (((s.data[a + k]'(by simp only [ByteArray.size] at h; omega)).toNat : Nat) : Int)
  simp [cut, ByteArray.data_extract]
theorem cut_cut {s : ByteArray} {a b c d : Nat} (hab : a ≤ b) (h : d ≤ b - a) : cut (cut s a b) c d = cut s (a + c) (a + d) := by
  simp only [cut]
  apply ByteArray.ext
  simp only [ByteArray.data_extract]
  rw [Array.extract_extract]
  congr 1
  omega
/-- where the first byte that is no blank stands, from a place on; where the last blanks begin -/
def skip (s : ByteArray) (k : Nat) : Nat := if k < s.size then (if blank (bt s k) then skip s (k + 1) else k) else k
  termination_by s.size - k
def back (s : ByteArray) (a : Nat) : Nat → Nat
  | 0 => 0
  | b + 1 => if a < b + 1 ∧ blank (bt s b) = true then back s a b else b + 1
def trim (s : ByteArray) : ByteArray := cut s (skip s 0) (back s (skip s 0) s.size)
theorem back_stop {s : ByteArray} {a b : Nat} (h : b ≤ a) : back s a b = b := by
  cases b with
  | zero => rfl
  | succ b => rw [back, if_neg (by omega)]
end Xm

set_option maxRecDepth 100000 in
set_option maxHeartbeats 1000000 in
theorem trim_any (s : ByteArray) (w : World) (hs : s.size ≤ 9223372036854775807) : Calls Tryz.prog 50 #[.string s] w fun e w' => e = .returned (.string (Xm.trim s)) ∧ w = w' := by
  go_enter Tryz.func50, Tryz.ntmps50
  go_wp2
  go_loop [0] (fun v => ∃ (k : Nat) (x : ByteArray), k ≤ s.size ∧ v = .string x ∧ x.size = s.size - k ∧ Hid (x = Xm.cut s k s.size) ∧ Hid (Xm.skip s 0 = Xm.skip s k)) (fun v => match v with | .string x => x.size | _ => 0)
  case atStart => exact ⟨0, s, by omega, rfl, by omega, Lib.hid (Xm.cut_full s).symm, Lib.hid rfl⟩
  case round =>
    obtain ⟨k, x, hk, rfl, hx, HX, HK⟩ := hrel
    by_cases h0 : x.size = 0
    rotate_left
    have hlt : 0 < x.size := by omega
    have hE := Xm.emp_f h0
    have Hb : Hid ((x[0].toNat : Int) = Xm.bt s k) := Lib.hid (by rw [Xm.bt_eq hlt, HX.out, Xm.cut_bt (Nat.le_refl _) (by omega), Nat.add_zero])
    cases hb : Xm.blank (Xm.bt s k)
    rotate_left
    · have Hbl := Lib.hid hb
      have HS : Hid (Xm.skip s 0 = Xm.skip s (k + 1)) := Lib.hid (by rw [HK.out, Xm.skip, if_pos (by omega), if_pos hb])
      have HY : Hid (x.extract 1 (s.size - k) = Xm.cut s (k + 1) s.size) := Lib.hid (by rw [HX.out]; show Xm.cut (Xm.cut s k s.size) 1 (s.size - k) = _; rw [Xm.cut_cut hk (Nat.le_refl _), show k + (s.size - k) = s.size by omega])
      clear hb h0
      go_wp2_with (go_at_call 73; rw [Hb.out]; refine (blank_any _ _).mono ?_; rintro e w' ⟨rfl, rfl⟩; rw [Hbl.out])
      go_round
      case rel => exact ⟨k + 1, _, by omega, rfl, by rw [HY.out, Xm.cut_size (Nat.le_refl _)], HY, HS⟩
      case measure =>
        show (x.extract 1 (s.size - k)).size < x.size
        rw [HY.out, Xm.cut_size (Nat.le_refl _)]
        omega
    have hE := Xm.emp_t h0
    have HA : Hid (Xm.skip s 0 = k) := Lib.hid (by rw [HK.out, Xm.skip, if_neg (by omega)])
    clear h0
    rotate_left
    have HA : Hid (Xm.skip s 0 = k) := Lib.hid (by rw [HK.out, Xm.skip, if_pos (by omega), if_neg (by simp [hb])])
    have Hbl := Lib.hid hb
    clear hb h0
    all_goals
      first
      | (go_wp2_with (go_at_call 73; rw [Hb.out]; refine (blank_any _ _).mono ?_; rintro e w' ⟨rfl, rfl⟩; rw [Hbl.out]))
      clear hE
      go_loop [0] (fun v => ∃ (b : Nat) (y : ByteArray), k ≤ b ∧ b ≤ s.size ∧ v = .string y ∧ y.size = b - k ∧ Hid (y = Xm.cut s k b) ∧ Hid (Xm.back s k s.size = Xm.back s k b)) (fun v => match v with | .string x => x.size | _ => 0)
      case atStart => exact ⟨s.size, x, by omega, by omega, rfl, hx, HX, Lib.hid rfl⟩
      case round =>
        clear hx
        obtain ⟨b, y, hkb, hb, rfl, hy, HY, HB⟩ := hrel
        by_cases h0 : y.size = 0
        · have hE := Xm.emp_t h0
          have HT : Hid (y = Xm.trim s) := Lib.hid (by
            obtain rfl : b = k := by omega
            rw [HY.out, Xm.trim, HA.out, HB.out, Xm.back_stop (by omega)])
          clear h0
          go_wp2
          go_ret
          exact ⟨ret_str HT.out, rfl⟩
        · have hlt : b - k - 1 < y.size := by omega
          have hE := Xm.emp_f h0
          obtain ⟨c, rfl⟩ : ∃ c, b = c + 1 := ⟨b - 1, by omega⟩
          have Hb2 : Hid ((y[c - k].toNat : Int) = Xm.bt s c) := Lib.hid (by
            rw [Xm.bt_eq (by omega), HY.out, Xm.cut_bt hb (by omega), show k + (c - k) = c by omega])
          have g1 : ((c + 1 - k : Nat) : Int) - 1 = ((c - k : Nat) : Int) := by omega
          have g2 : (0 : Int) ≤ ((c - k : Nat) : Int) := by omega
          cases hbl : Xm.blank (Xm.bt s c)
          · have Hbl2 := Lib.hid hbl
            have HT : Hid (y = Xm.trim s) := Lib.hid (by
              rw [HY.out, Xm.trim, HA.out, HB.out, Xm.back, if_neg (by simp [hbl])])
            clear hbl h0
            go_wp2_with (go_at_call 73; rw [Hb2.out]; refine (blank_any _ _).mono ?_; rintro e w' ⟨rfl, rfl⟩; rw [Hbl2.out])
            go_ret
            exact ⟨ret_str HT.out, rfl⟩
          · have Hbl2 := Lib.hid hbl
            have HB2 : Hid (Xm.back s k s.size = Xm.back s k c) := Lib.hid (by rw [HB.out, Xm.back, if_pos ⟨by omega, hbl⟩])
            have HY2 : Hid (y.extract 0 (c - k) = Xm.cut s k c) := Lib.hid (by rw [HY.out]; show Xm.cut (Xm.cut s k (c + 1)) 0 (c - k) = _; rw [Xm.cut_cut (by omega) (by omega), Nat.add_zero, show k + (c - k) = c by omega])
            clear hbl h0
            go_wp2_with (go_at_call 73; rw [Hb2.out]; refine (blank_any _ _).mono ?_; rintro e w' ⟨rfl, rfl⟩; rw [Hbl2.out])
            go_round
            case rel => exact ⟨c, _, by omega, by omega, rfl, by rw [HY2.out, Xm.cut_size (by omega)], HY2, HB2⟩
            case measure =>
              show (y.extract 0 (c - k)).size < y.size
              rw [HY2.out, Xm.cut_size (by omega)]
              omega

set_option maxRecDepth 100000 in
set_option maxHeartbeats 400000 in
theorem empty_any (s : ByteArray) (w : World) (hs : s.size ≤ 9223372036854775807) : Calls Tryz.prog 34 #[.string s] w fun e w' => e = .returned (.bool (decide ((Xm.trim s).size = 0))) ∧ w = w' := by
  have HE : Hid ((Xm.trim s).toList.isEmpty = decide ((Xm.trim s).size = 0)) := Lib.hid (by
    by_cases h : (Xm.trim s).size = 0
    · rw [Xm.emp_t h]; simp [h]
    · rw [Xm.emp_f h]; simp [h])
  generalize hx : Xm.trim s = x at *
  have Hx := Lib.hid hx
  clear hx
  go_enter Tryz.func34, Tryz.ntmps34
  go_wp2_with (go_at_call 50; refine (trim_any _ _ hs).mono ?_; rintro e w' ⟨rfl, rfl⟩; rw [Hx.out])
  go_ret
  exact ⟨ret_bool (by simpa using HE.out), rfl⟩
end Go.Proofs.YtdpkhmfolmcejaaGreatDoor

/- utf.Get, utf.Bad by their contracts. -/
import Derived.Test.YtdpkhmfolmcejaaGreatDoorUtf
import Derived.LoopTactic
namespace Go.Proofs.YtdpkhmfolmcejaaGreatDoor
open Go.RowKit
namespace Xm
theorem tail_mono (s : ByteArray) (k : Nat) {i j : Nat} (h : i ≤ j) (ht : tail s k j = true) : tail s k i = true := by
  induction j with
  | zero => obtain rfl : i = 0 := by omega
            exact ht
  | succ j ih =>
    by_cases e : i = j + 1
    · subst e; exact ht
    · simp only [tail, Bool.and_eq_true] at ht
      exact ih (by omega) ht.1.1
theorem val_lt (s : ByteArray) (k i : Nat) (h : i ≤ 3) : 0 ≤ val s k i ∧ val s k i < 2 ^ 40 := by
  have := val_bd s k i
  rcases (show i = 0 ∨ i = 1 ∨ i = 2 ∨ i = 3 by omega) with rfl | rfl | rfl | rfl <;> simp at this ⊢ <;> omega
end Xm

set_option maxRecDepth 100000 in
set_option maxHeartbeats 1000000 in
theorem uget_any (s : ByteArray) (k : Nat) (w : World) (hs : s.size ≤ 9223372036854775807) : Calls Tryz.prog 46 #[.string s, .int .i64 (k : Int)] w fun e w' => e = .returned (.tuple #[.int .i64 (Xm.getR s k), .int .i64 (Xm.getN s k)]) ∧ w = w' := by
  by_cases hk : k < s.size
  · have hb := Xm.bt_eq hk
    have hbd := Xm.bt_bd s k
    have hf := Xm.formN_bd (Xm.bt s k)
    obtain ⟨n, hn⟩ : ∃ n : Nat, (n : Int) = Xm.formN (Xm.bt s k) := ⟨(Xm.formN (Xm.bt s k)).toNat, by omega⟩
    obtain ⟨c, hc⟩ := Int.eq_ofNat_of_zero_le hbd.1
    have Hn := Lib.hid hn
    have Hc := Lib.hid hc
    have Hb := Lib.hid hb
    have Hv0 : Hid (Xm.formB (Xm.bt s k) = Xm.val s k 0) := Lib.hid rfl
    have hc256 : c < 256 := by omega
    have hn4 : n ≤ 4 := by omega
    clear hn hc hb hbd hf
    by_cases h0 : n = 0
    · have HR : Hid (Xm.getR s k = 0 ∧ Xm.getN s k = 0) := Lib.hid (by have := Hn.out; simp [Xm.getR, Xm.getN, Xm.whole, ← this, h0])
      subst h0
      go_enter Tryz.func46, Tryz.ntmps46
      go_wp2_with (go_at_call 63; rw [Hb.out, Hc.out]; refine (form_any _ hc256 _).mono ?_; rintro e w' ⟨rfl, rfl⟩; rw [← Hc.out, ← Hn.out, Hv0.out])
      go_ret2
      exact ⟨ret_int2 (by rw [HR.out.1]) (by rw [HR.out.2]), rfl⟩
    · by_cases hfit : k + n ≤ s.size
      · have HW : Hid (Xm.whole s k = (Xm.tail s k (n - 1) && decide (Xm.size (Xm.val s k (n - 1)) = n))) := Lib.hid (by
          have h1 := Hn.out
          have h2 : ((n : Int)).toNat = n := by simp
          have h3 : ((k : Int) + n ≤ s.size) := by omega
          simp [Xm.whole, ← h1, h0, hk, h2, h3])
        have g1 : ((n : Int) == 0) = false := by simpa using h0
        have g2 : decide ((s.size : Int) - n < k) = false := by simp; omega
        go_enter Tryz.func46, Tryz.ntmps46
        go_wp2_with (go_at_call 63; rw [Hb.out, Hc.out]; refine (form_any _ hc256 _).mono ?_; rintro e w' ⟨rfl, rfl⟩; rw [← Hc.out, ← Hn.out, Hv0.out])
        clear g1 g2
        go_loop [7, 8] (fun r i => ∃ j : Nat, 1 ≤ j ∧ j ≤ n ∧ i = .int .i64 j ∧ r = .int .i64 (Xm.val s k (j - 1)) ∧ Hid (Xm.tail s k (j - 1) = true)) (fun _ i => n - (intOf i).toNat)
        case atStart => exact ⟨1, by omega, by omega, rfl, rfl, Lib.hid rfl⟩
        case round =>
          obtain ⟨j, hj1, hjn, rfl, rfl, HT⟩ := hrel
          by_cases hlt : j < n
          · have hkj : k + j < s.size := by omega
            have hb := Xm.bt_eq hkj
            have hbd := Xm.bt_bd s (k + j)
            obtain ⟨d, hd⟩ := Int.eq_ofNat_of_zero_le hbd.1
            have hd256 : d < 256 := by omega
            have Hd := Lib.hid (hb.trans hd)
            have Hd' := Lib.hid hd
            have e1 := u8_192 d hd256
            have e2 := u8_63 d hd256
            have hv := Xm.val_lt s k (j - 1) (by omega)
            have e3 := i64_join (Xm.val s k (j - 1)) ((d : Int) % 64) hv.1 (by omega) (by omega) (by omega)
            have Hval : Hid (Xm.val s k (j - 1) * 64 + (d : Int) % 64 = Xm.val s k j) := Lib.hid (by
              obtain ⟨i, rfl⟩ : ∃ i, j = i + 1 := ⟨j - 1, by omega⟩
              simp only [Nat.add_sub_cancel, Xm.val]
              rw [show k + 1 + i = k + (i + 1) by omega, hd])
            have Htl : Hid (Xm.tail s k j = (decide (128 ≤ (d : Int)) && decide ((d : Int) < 192))) := Lib.hid (by
              obtain ⟨i, rfl⟩ : ∃ i, j = i + 1 := ⟨j - 1, by omega⟩
              have := HT.out
              simp only [Nat.add_sub_cancel] at this
              simp only [Xm.tail, this]
              rw [show k + 1 + i = k + (i + 1) by omega, hd]
              simp)
            clear hb hd hbd
            generalize Xm.val s k (j - 1) = r at *
            by_cases hc : 128 ≤ d ∧ d < 192
            · have g : ((d : Int) / 64 * 64 != 128) = false := by simp; omega
              have HT2 : Hid (Xm.tail s k j = true) := Lib.hid (by rw [Htl.out]; simp; omega)
              go_wp2_with (simp only [Hd.out])
              go_round
              case rel => exact ⟨j + 1, by omega, by omega, by go_num, by rw [Hval.out]; rfl, HT2⟩
              case measure => simp [intOf]; omega
            · have g : ((d : Int) / 64 * 64 != 128) = true := by simp; omega
              have HF : Hid (Xm.getR s k = 0 ∧ Xm.getN s k = 0) := Lib.hid (by
                have h1 : Xm.tail s k (n - 1) = false := by
                  cases h : Xm.tail s k (n - 1) with
                  | false => rfl
                  | true =>
                    have := Xm.tail_mono s k (i := j) (by omega) h
                    rw [Htl.out] at this
                    simp at this
                    omega
                have h2 := HW.out
                rw [h1, Bool.false_and] at h2
                simp [Xm.getR, Xm.getN, h2])
              go_wp2_with (simp only [Hd.out])
              go_ret2
              exact ⟨ret_int2 HF.out.1.symm HF.out.2.symm, rfl⟩
          · obtain rfl : j = n := by omega
            have Hn' := Hn
            cases hz : decide (Xm.size (Xm.val s k (j - 1)) = j) with
            | true =>
              have HF : Hid (Xm.getR s k = Xm.val s k (j - 1) ∧ Xm.getN s k = j) := Lib.hid (by
                have h2 := HW.out
                rw [HT.out, hz] at h2
                have h3 : (Xm.formN (Xm.bt s k)).toNat = j := by rw [← Hn.out]; simp
                simp [Xm.getR, Xm.getN, h2, h3, Hn.out])
              have g : (Xm.size (Xm.val s k (j - 1)) != j) = false := by simpa using hz
              have G := Lib.hid g
              clear hz g
              generalize Xm.val s k (j - 1) = r at *
              obtain ⟨q, hq⟩ : ∃ q, q = Xm.size r := ⟨_, rfl⟩
              have Hq := Lib.hid hq
              have g : (q != j) = false := by rw [hq]; exact G.out
              clear hq
              go_wp2_with (go_at_call 64; refine (sizeR_any _ _).mono ?_; rintro e w' ⟨rfl, rfl⟩; rw [← Hq.out])
              go_ret2
              exact ⟨ret_int2 HF.out.1.symm HF.out.2.symm, rfl⟩
            | false =>
              have HF : Hid (Xm.getR s k = 0 ∧ Xm.getN s k = 0) := Lib.hid (by
                have h2 := HW.out
                rw [hz, Bool.and_false] at h2
                simp [Xm.getR, Xm.getN, h2])
              have g : (Xm.size (Xm.val s k (j - 1)) != j) = true := by simpa using hz
              have G := Lib.hid g
              clear hz g
              generalize Xm.val s k (j - 1) = r at *
              obtain ⟨q, hq⟩ : ∃ q, q = Xm.size r := ⟨_, rfl⟩
              have Hq := Lib.hid hq
              have g : (q != j) = true := by rw [hq]; exact G.out
              clear hq
              go_wp2_with (go_at_call 64; refine (sizeR_any _ _).mono ?_; rintro e w' ⟨rfl, rfl⟩; rw [← Hq.out])
              go_ret2
              exact ⟨ret_int2 HF.out.1.symm HF.out.2.symm, rfl⟩
      · have HR : Hid (Xm.getR s k = 0 ∧ Xm.getN s k = 0) := Lib.hid (by
          have h1 := Hn.out
          have h3 : ¬ ((k : Int) + n ≤ s.size) := by omega
          simp [Xm.getR, Xm.getN, Xm.whole, ← h1, h3])
        have g1 : ((n : Int) == 0) = false := by simpa using h0
        have g2 : decide ((s.size : Int) - n < k) = true := by simp; omega
        go_enter Tryz.func46, Tryz.ntmps46
        go_wp2_with (go_at_call 63; rw [Hb.out, Hc.out]; refine (form_any _ hc256 _).mono ?_; rintro e w' ⟨rfl, rfl⟩; rw [← Hc.out, ← Hn.out, Hv0.out])
        go_ret2
        exact ⟨ret_int2 HR.out.1.symm HR.out.2.symm, rfl⟩
  · have HR : Hid (Xm.getR s k = 0 ∧ Xm.getN s k = 0) := Lib.hid (by simp [Xm.getR, Xm.getN, Xm.whole, hk])
    go_enter Tryz.func46, Tryz.ntmps46
    go_wp2
    go_ret2
    exact ⟨ret_int2 HR.out.1.symm HR.out.2.symm, rfl⟩

namespace Xm
theorem getN_bd (s : ByteArray) (k : Nat) : 0 ≤ getN s k ∧ getN s k ≤ 4 ∧ (getN s k ≠ 0 → (k : Int) + getN s k ≤ s.size) := by
  unfold getN
  split
  · rename_i h
    have := formN_bd (bt s k)
    simp only [whole, Bool.and_eq_true, decide_eq_true_eq] at h
    refine ⟨this.1, this.2, fun _ => h.1.1.2⟩
  · simp
/-- the place of the first byte from a place on that begins no letter; -1 -/
def bad (s : ByteArray) (k : Nat) : Int := if h : k < s.size then (if _h0 : getN s k = 0 then k else bad s (k + (getN s k).toNat)) else -1
  termination_by s.size - k
  decreasing_by have := getN_bd s k; omega
/-- of the first letter that may not stand in a text -/
def text (s : ByteArray) (k : Nat) : Int := if h : k < s.size then (if _h0 : getN s k = 0 ∨ letter (getR s k) = false then k else text s (k + (getN s k).toNat)) else -1
  termination_by s.size - k
  decreasing_by have := getN_bd s k; omega
end Xm

set_option maxRecDepth 100000 in
set_option maxHeartbeats 400000 in
theorem ubad_any (s : ByteArray) (w : World) (hs : s.size ≤ 9223372036854775807) : Calls Tryz.prog 32 #[.string s] w fun e w' => e = .returned (.int .i64 (Xm.bad s 0)) ∧ w = w' := by
  go_enter Tryz.func32, Tryz.ntmps32
  go_wp2
  go_loop [3] (fun i => ∃ k : Nat, k ≤ s.size ∧ i = .int .i64 k ∧ Hid (Xm.bad s 0 = Xm.bad s k)) (fun i => s.size - (intOf i).toNat)
  case atStart => exact ⟨0, by omega, rfl, Lib.hid rfl⟩
  case round =>
    obtain ⟨k, hk, rfl, HB⟩ := hrel
    by_cases hlt : k < s.size
    · have hn := Xm.getN_bd s k
      obtain ⟨n, hn0⟩ : ∃ n : Nat, (n : Int) = Xm.getN s k := ⟨(Xm.getN s k).toNat, by omega⟩
      have Hn := Lib.hid hn0
      rw [← hn0] at hn
      obtain ⟨-, hn4, hn2⟩ := hn
      clear hn0
      by_cases h0 : n = 0
      · have HE : Hid (Xm.bad s 0 = k) := Lib.hid (by rw [HB.out, Xm.bad, dif_pos hlt, dif_pos (by rw [← Hn.out]; simp [h0])])
        subst h0
        clear hn2
        go_wp2_with (go_at_call 46; refine (uget_any _ _ _ hs).mono ?_; rintro e w' ⟨rfl, rfl⟩; rw [← Hn.out])
        go_ret
        exact ⟨ret_int HE.out.symm, rfl⟩
      · have HE : Hid (Xm.bad s 0 = Xm.bad s (k + n)) := Lib.hid (by rw [HB.out, Xm.bad, dif_pos hlt, dif_neg (by rw [← Hn.out]; omega), ← Hn.out]; simp)
        have h3 : k + n ≤ s.size := by have := hn2 (by omega); omega
        have g1 : ((n : Int) == 0) = false := by simpa using h0
        clear hn2
        go_wp2_with (go_at_call 46; refine (uget_any _ _ _ hs).mono ?_; rintro e w' ⟨rfl, rfl⟩; rw [← Hn.out])
        go_round
        case rel => exact ⟨k + n, h3, by go_num, HE⟩
        case measure => simp [intOf]; omega
    · have HE : Hid (Xm.bad s 0 = -1) := Lib.hid (by rw [HB.out, Xm.bad, dif_neg hlt])
      go_wp2
      go_ret
      exact ⟨ret_int HE.out.symm, rfl⟩

set_option maxRecDepth 100000 in
set_option maxHeartbeats 400000 in
theorem ctext_any (s : ByteArray) (w : World) (hs : s.size ≤ 9223372036854775807) : Calls Tryz.prog 54 #[.string s] w fun e w' => e = .returned (.int .i64 (Xm.text s 0)) ∧ w = w' := by
  go_enter Tryz.func54, Tryz.ntmps54
  go_wp2
  go_loop [3] (fun i => ∃ k : Nat, k ≤ s.size ∧ i = .int .i64 k ∧ Hid (Xm.text s 0 = Xm.text s k)) (fun i => s.size - (intOf i).toNat)
  case atStart => exact ⟨0, by omega, rfl, Lib.hid rfl⟩
  case round =>
    obtain ⟨k, hk, rfl, HB⟩ := hrel
    by_cases hlt : k < s.size
    · have hn := Xm.getN_bd s k
      obtain ⟨n, hn0⟩ : ∃ n : Nat, (n : Int) = Xm.getN s k := ⟨(Xm.getN s k).toNat, by omega⟩
      obtain ⟨r, hr⟩ : ∃ r, r = Xm.getR s k := ⟨_, rfl⟩
      have Hn := Lib.hid hn0
      have Hr := Lib.hid hr
      rw [← hn0] at hn
      obtain ⟨-, hn4, hn2⟩ := hn
      clear hn0 hr
      by_cases h0 : n = 0
      · have HE : Hid (Xm.text s 0 = k) := Lib.hid (by rw [HB.out, Xm.text, dif_pos hlt, dif_pos (.inl (by rw [← Hn.out]; simp [h0]))])
        subst h0
        clear hn2
        go_wp2_with (go_at_call 46; refine (uget_any _ _ _ hs).mono ?_; rintro e w' ⟨rfl, rfl⟩; rw [← Hn.out, ← Hr.out])
        go_ret
        exact ⟨ret_int HE.out.symm, rfl⟩
      · have h3 : k + n ≤ s.size := by have := hn2 (by omega); omega
        have g1 : ((n : Int) == 0) = false := by simpa using h0
        clear hn2
        cases hl : Xm.letter r with
        | false =>
          have HE : Hid (Xm.text s 0 = k) := Lib.hid (by rw [HB.out, Xm.text, dif_pos hlt, dif_pos (.inr (by rw [← Hr.out]; exact hl))])
          have Hl := Lib.hid hl
          clear hl
          go_wp2_with (first | (go_at_call 46; refine (uget_any _ _ _ hs).mono ?_; rintro e w' ⟨rfl, rfl⟩; rw [← Hn.out, ← Hr.out]) | (go_at_call 79; refine (letter_any _ _).mono ?_; rintro e w' ⟨rfl, rfl⟩; rw [Hl.out]))
          go_ret
          exact ⟨ret_int HE.out.symm, rfl⟩
        | true =>
          have HE : Hid (Xm.text s 0 = Xm.text s (k + n)) := Lib.hid (by rw [HB.out, Xm.text, dif_pos hlt, dif_neg (by rw [← Hn.out, ← Hr.out, hl]; simp [h0]), ← Hn.out]; simp)
          have Hl := Lib.hid hl
          clear hl
          go_wp2_with (first | (go_at_call 46; refine (uget_any _ _ _ hs).mono ?_; rintro e w' ⟨rfl, rfl⟩; rw [← Hn.out, ← Hr.out]) | (go_at_call 79; refine (letter_any _ _).mono ?_; rintro e w' ⟨rfl, rfl⟩; rw [Hl.out]))
          go_round
          case rel => exact ⟨k + n, h3, by go_num, HE⟩
          case measure => simp [intOf]; omega
    · have HE : Hid (Xm.text s 0 = -1) := Lib.hid (by rw [HB.out, Xm.text, dif_neg hlt])
      go_wp2
      go_ret
      exact ⟨ret_int HE.out.symm, rfl⟩
end Go.Proofs.YtdpkhmfolmcejaaGreatDoor

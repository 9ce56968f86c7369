/- entity.number, One by their contracts. -/
import Derived.Test.YtfkdjdmbgednkaaDoorEnt
namespace Go.Proofs.YtfkdjdmbgednkaaDoor
open Go.RowKit
theorem Flow.grow_drewN (w : World) (n : Nat) : Flow.Grow w (w.drewN n) := ⟨rfl, rfl, rfl, Nat.le_refl _, fun _ _ _ => rfl⟩
namespace Xm
theorem pow_le {k : Nat} (h : k ≤ 8) : (16 : Int) ^ k ≤ 16 ^ 8 := by
  rcases (show k = 0 ∨ k = 1 ∨ k = 2 ∨ k = 3 ∨ k = 4 ∨ k = 5 ∨ k = 6 ∨ k = 7 ∨ k = 8 by omega) with rfl | rfl | rfl | rfl | rfl | rfl | rfl | rfl | rfl <;> decide
end Xm
set_option maxRecDepth 100000 in
set_option maxHeartbeats 2000000 in
theorem number_any (s : ByteArray) (w : World) (hs : s.size ≤ 9223372036854775807) : Calls Tryd.prog 93 #[.string s] w fun e w' => e = .returned (.int .i64 (Xm.number s)) ∧ Flow.Grow w w' := by
  by_cases hx : 0 < s.size ∧ Xm.bt s 0 = 120
  · obtain ⟨hlt, h120⟩ := hx
    have HX : Hid (Xm.number s = Xm.num1 (s.extract 1 s.size) 16) := Lib.hid (by rw [Xm.number, if_pos ⟨hlt, h120⟩]; rfl)
    have Hb := Lib.hid (Xm.bt_eq hlt)
    have g : (Xm.bt s 0 == 120) = true := by simpa using h120
    have hE := Xm.emp_f (s := s) (by omega)
    clear h120
    go_enter Tryd.func93, Tryd.ntmps93
    go_wp2_with (rw [Hb.out])
    go_quiet (fail)
    rename_i nq
    have HG : Hid (Flow.Grow w (w.drewN nq)) := Lib.hid (Flow.grow_drewN _ _)
    have hxs : (s.extract 1 s.size).size = s.size - 1 := by simp
    have hxm : (s.extract 1 s.size).size ≤ 9223372036854775807 := by omega
    clear hE g hxs
    generalize s.extract 1 s.size = x at *

    by_cases h0 : x.size = 0
    · have HE : Hid (Xm.number s = 0) := Lib.hid (by rw [HX.out, Xm.num1, if_pos (.inl h0)])
      have hE := Xm.emp_t h0
      clear h0
      go_wp2
      go_ret
      exact ⟨ret_int HE.out.symm, HG.out⟩
    have hE := Xm.emp_f h0
    by_cases h8 : 8 < x.size
    · have HE : Hid (Xm.number s = 0) := Lib.hid (by rw [HX.out, Xm.num1, if_pos (.inr h8)])
      clear h0
      go_wp2
      go_ret
      exact ⟨ret_int HE.out.symm, HG.out⟩
    have HN : Hid (Xm.num1 x 16 = if Xm.digits x 16 0 0 < 0 then 0 else if Xm.letter (Xm.digits x 16 0 0) = true then Xm.digits x 16 0 0 else 0) := Lib.hid (by rw [Xm.num1, if_neg (by omega)])
    have h8' : x.size ≤ 8 := by omega
    clear h0 h8
    go_wp2
    clear hE
    go_loop [4, 25] (fun n i => ∃ (k : Nat) (z : Int), k ≤ x.size ∧ i = .int .i64 k ∧ n = .int .i64 z ∧ 0 ≤ z ∧ z < 16 ^ k ∧ Hid (Xm.digits x 16 0 0 = Xm.digits x 16 k z)) (fun _ i => x.size - (intOf i).toNat)
    case atStart => exact ⟨0, 0, by omega, rfl, rfl, by omega, by simp, Lib.hid rfl⟩
    case round =>
      obtain ⟨k, z, hk, rfl, rfl, hz0, hz1, HD⟩ := hrel
      have hz2 : z < 16 ^ 8 := by have : (16 : Int) ^ k ≤ 16 ^ 8 := Xm.pow_le (by omega); omega
      by_cases hlt : k < x.size
      · have Hb := Lib.hid (Xm.bt_eq hlt)
        have hbd := Xm.bt_bd x k
        have hdb := Xm.digit_bd (Xm.bt x k) 16 (by decide)
        obtain ⟨d, hd⟩ : ∃ d, d = Xm.digit (Xm.bt x k) 16 := ⟨_, rfl⟩
        have Hd := Lib.hid hd
        rw [← hd] at hdb
        clear hd
        by_cases hd0 : d < 0
        · have HE : Hid (Xm.number s = 0) := Lib.hid (by
            have e : Xm.digits x 16 0 0 = -1 := by rw [HD.out, Xm.digits, if_pos hlt, if_pos (by rw [← Hd.out]; exact hd0)]
            rw [HX.out, HN.out, e]; rfl)
          go_wp2_with (go_at_call 100; rw [Hb.out]; refine (digit_any _ _ hbd (by decide) _).mono ?_; rintro e w' ⟨rfl, rfl⟩; rw [← Hd.out])
          go_ret
          exact ⟨ret_int HE.out.symm, HG.out⟩
        · have HE : Hid (Xm.digits x 16 0 0 = Xm.digits x 16 (k + 1) (z * 16 + d)) := Lib.hid (by rw [HD.out, Xm.digits, if_pos hlt, if_neg (by rw [← Hd.out]; exact hd0), ← Hd.out])
          have hp : z * 16 + d < 16 ^ (k + 1) := by rw [Int.pow_succ]; omega
          have Hp := Lib.hid hp
          clear hz1 hp
          go_wp2_with (go_at_call 100; rw [Hb.out]; refine (digit_any _ _ hbd (by decide) _).mono ?_; rintro e w' ⟨rfl, rfl⟩; rw [← Hd.out])
          go_round
          case rel => exact ⟨k + 1, z * 16 + d, by omega, by go_num, rfl, by omega, Hp.out, HE⟩
          case measure => simp [intOf]; omega
      · have HE : Hid (Xm.number s = if Xm.letter z = true then z else 0) := Lib.hid (by
          have e : Xm.digits x 16 0 0 = z := by rw [HD.out, Xm.digits, if_neg hlt]
          rw [HX.out, HN.out, e, if_neg (by omega)])
        clear hz1
        cases hl : Xm.letter z
        all_goals
          have Hl := Lib.hid hl
          clear hl
          go_wp2_with (go_at_call 58; refine (letter_any _ _).mono ?_; rintro e w' ⟨rfl, rfl⟩; rw [Hl.out])
          go_ret
          exact ⟨ret_int (by rw [HE.out, Hl.out]; rfl), HG.out⟩
  · have HX : Hid (Xm.number s = Xm.num1 s 10) := Lib.hid (by rw [Xm.number, if_neg hx])
    have HG : Hid (Flow.Grow w w) := Lib.hid (Flow.grow_refl _)
    by_cases hz : s.size = 0
    · have HE : Hid (Xm.number s = 0) := Lib.hid (by rw [HX.out, Xm.num1, if_pos (.inl hz)])
      have hE := Xm.emp_t hz
      clear hz hx
      go_enter Tryd.func93, Tryd.ntmps93
      go_wp2
      go_ret
      exact ⟨ret_int HE.out.symm, HG.out⟩
    have hlt : 0 < s.size := by omega
    have hE := Xm.emp_f hz
    have Hb := Lib.hid (Xm.bt_eq hlt)
    have g : (Xm.bt s 0 == 120) = false := by simp; intro h; exact hx ⟨hlt, h⟩
    have h0 : ¬ s.size = 0 := hz
    clear hx hz hE
    go_enter Tryd.func93, Tryd.ntmps93

    have hE := Xm.emp_f h0
    by_cases h8 : 8 < s.size
    · have HE : Hid (Xm.number s = 0) := Lib.hid (by rw [HX.out, Xm.num1, if_pos (.inr h8)])
      clear h0
      go_wp2_with (rw [Hb.out])
      go_ret
      exact ⟨ret_int HE.out.symm, HG.out⟩
    have HN : Hid (Xm.num1 s 10 = if Xm.digits s 10 0 0 < 0 then 0 else if Xm.letter (Xm.digits s 10 0 0) = true then Xm.digits s 10 0 0 else 0) := Lib.hid (by rw [Xm.num1, if_neg (by omega)])
    have h8' : s.size ≤ 8 := by omega
    clear h0 h8
    go_wp2_with (rw [Hb.out])
    clear hE
    go_loop [4, 25] (fun n i => ∃ (k : Nat) (z : Int), k ≤ s.size ∧ i = .int .i64 k ∧ n = .int .i64 z ∧ 0 ≤ z ∧ z < 16 ^ k ∧ Hid (Xm.digits s 10 0 0 = Xm.digits s 10 k z)) (fun _ i => s.size - (intOf i).toNat)
    case atStart => exact ⟨0, 0, by omega, rfl, rfl, by omega, by simp, Lib.hid rfl⟩
    case round =>
      obtain ⟨k, z, hk, rfl, rfl, hz0, hz1, HD⟩ := hrel
      have hz2 : z < 16 ^ 8 := by have : (16 : Int) ^ k ≤ 16 ^ 8 := Xm.pow_le (by omega); omega
      by_cases hlt : k < s.size
      · have Hb := Lib.hid (Xm.bt_eq hlt)
        have hbd := Xm.bt_bd s k
        have hdb := Xm.digit_bd (Xm.bt s k) 10 (by decide)
        obtain ⟨d, hd⟩ : ∃ d, d = Xm.digit (Xm.bt s k) 10 := ⟨_, rfl⟩
        have Hd := Lib.hid hd
        rw [← hd] at hdb
        clear hd
        by_cases hd0 : d < 0
        · have HE : Hid (Xm.number s = 0) := Lib.hid (by
            have e : Xm.digits s 10 0 0 = -1 := by rw [HD.out, Xm.digits, if_pos hlt, if_pos (by rw [← Hd.out]; exact hd0)]
            rw [HX.out, HN.out, e]; rfl)
          go_wp2_with (go_at_call 100; rw [Hb.out]; refine (digit_any _ _ hbd (by decide) _).mono ?_; rintro e w' ⟨rfl, rfl⟩; rw [← Hd.out])
          go_ret
          exact ⟨ret_int HE.out.symm, HG.out⟩
        · have HE : Hid (Xm.digits s 10 0 0 = Xm.digits s 10 (k + 1) (z * 10 + d)) := Lib.hid (by rw [HD.out, Xm.digits, if_pos hlt, if_neg (by rw [← Hd.out]; exact hd0), ← Hd.out])
          have hp : z * 10 + d < 16 ^ (k + 1) := by rw [Int.pow_succ]; omega
          have Hp := Lib.hid hp
          clear hz1 hp
          go_wp2_with (go_at_call 100; rw [Hb.out]; refine (digit_any _ _ hbd (by decide) _).mono ?_; rintro e w' ⟨rfl, rfl⟩; rw [← Hd.out])
          go_round
          case rel => exact ⟨k + 1, z * 10 + d, by omega, by go_num, rfl, by omega, Hp.out, HE⟩
          case measure => simp [intOf]; omega
      · have HE : Hid (Xm.number s = if Xm.letter z = true then z else 0) := Lib.hid (by
          have e : Xm.digits s 10 0 0 = z := by rw [HD.out, Xm.digits, if_neg hlt]
          rw [HX.out, HN.out, e, if_neg (by omega)])
        clear hz1
        cases hl : Xm.letter z
        all_goals
          have Hl := Lib.hid hl
          clear hl
          go_wp2_with (go_at_call 58; refine (letter_any _ _).mono ?_; rintro e w' ⟨rfl, rfl⟩; rw [Hl.out])
          go_ret
          exact ⟨ret_int (by rw [HE.out, Hl.out]; rfl), HG.out⟩
end Go.Proofs.YtfkdjdmbgednkaaDoor

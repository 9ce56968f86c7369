/- Numbers in digits: tally.digits, galliardlaw50.num by their contracts. -/
import Derived.Test.YtepianllbfnpoaaProg
import Derived.Test.YtepianllbfnpoaaPut
import Derived.Test.YtepianllbfnpoaaMBase
import Derived.Outline
namespace Go.Proofs.Ytepianllbfnpoaa
open Go.RowKit
namespace Dec
/-- a number's digits -/
def dec (n : Nat) : List UInt8 := if h : n < 10 then [UInt8.ofNat (48 + n)] else dec (n / 10) ++ [UInt8.ofNat (48 + n % 10)]
  termination_by n
  decreasing_by omega
theorem dec_lo {n : Nat} (h : n < 10) : dec n = [UInt8.ofNat (48 + n)] := by rw [dec, dif_pos h]
theorem dec_hi {n : Nat} (h : ¬ n < 10) : dec n = dec (n / 10) ++ [UInt8.ofNat (48 + n % 10)] := by rw [dec, dif_neg h]
theorem dec_len : ∀ (b n : Nat), n < 10 ^ (b + 1) → (dec n).length ≤ b + 1
  | 0, n, h => by rw [dec_lo (by simpa using h)]; simp
  | b + 1, n, h => by
    by_cases hlo : n < 10
    · rw [dec_lo hlo]; simp
    · have := dec_len b (n / 10) (by rw [Nat.pow_succ] at h; omega)
      rw [dec_hi hlo, List.length_append, List.length_singleton]
      omega
theorem dec_short {n : Nat} (h : n < 2 ^ 63) : (dec n).length ≤ 19 := dec_len 18 n (by omega)
theorem byte {n : Nat} (h : n < 10) : ((UInt8.ofNat (48 + n)).toNat : Int) = 48 + (n : Int) := by rw [UInt8.toNat_ofNat']; omega
end Dec

set_option maxRecDepth 100000 in
set_option maxHeartbeats 400000 in
theorem digits_lo (n : Nat) (hlo : n < 10) (w : World) :
    Calls Try.prog 45 #[.int .i64 n] w fun e w' => e = .returned (.string (str (Dec.dec n))) ∧ Flow.Grow w w' := by
  have Hv : Hid (Dec.dec n = _) := Lib.hid (Dec.dec_lo hlo)
  have Hb : Hid (_ = _) := Lib.hid (Dec.byte hlo)
  generalize UInt8.ofNat (48 + n) = c at *
  go_enter Try.func45, Try.ntmps45
  have Hs := fun (W : World) (v : Value) (h : Bytes W v [c]) => run_str (P := Try.prog) h 106 9 5 Try.underlying106 Try.underlying5 Try.underlying9
  have Hw := Hs _ _ (Bytes.of_own (World.ownsRow_lit (base := 0) (e := 5) w #[u8v c] 1 (Nat.zero_le _) (by decide) rfl) (by simp))
  rw [u8v, Hb.out] at Hw
  clear Hs
  go_wp2
  go_ret
  exact ⟨by rw [Hv.out]; rfl, Flow.grow_alloc _ _⟩

set_option maxRecDepth 100000 in
set_option maxHeartbeats 400000 in
theorem digits_any : ∀ (b n : Nat), n < 10 ^ (b + 1) → n < 2 ^ 63 → ∀ w : World,
    Calls Try.prog 45 #[.int .i64 n] w fun e w' => e = .returned (.string (str (Dec.dec n))) ∧ Flow.Grow w w' := by
  intro b
  induction b with
  | zero =>
    intro n hb hn w
    have hlo : n < 10 := by simpa using hb
    exact digits_lo n hlo w
  | succ b ih =>
    intro n hb hn w
    by_cases hlo : n < 10
    · exact digits_lo n hlo w
    · have Hv : Hid (Dec.dec n = _) := Lib.hid (Dec.dec_hi (n := n) (by omega))
      have Hb := Lib.hid (Dec.byte (n := n % 10) (by omega))
      have Hl := Lib.hid (Dec.dec_short hn)
      go_enter Try.func45, Try.ntmps45
      go_wp2_with fail
      refine Flow.region_grown (Fs := [.inl (.int .i64 (n : Int)), .inl (.int .i64 ((n / 10 : Nat) : Int)), .inl (.string (str (Dec.dec (n / 10)))), .inl (.int .i64 (n : Int)), .inl (.int .i64 ((n % 10 : Nat) : Int)), .inl (.int .i64 (48 + ((n % 10 : Nat) : Int))), .inl (u8v (UInt8.ofNat (48 + n % 10))), .inr (fun v w => Bytes w v [UInt8.ofNat (48 + n % 10)]), .inl (.string (str [UInt8.ofNat (48 + n % 10)])), .inl (.string (str (Dec.dec n))), .inl (.string (str (Dec.dec n)))])
        (S := [[], [0], [1], [], [3], [4], [5], [6], [7], [2, 8], [9]]) (by kernel_rfl) (by kernel_rfl) (by kernel_rfl) rfl ?stab3 ?ones3 ?ends3
      case ones3 =>
        refine Flow.Ones.cons ?_ ?_
        · intro a w hC hoff _
          have e0 : a.eval (.tmp 0) = .int .i64 (n : Int) := hoff.at 0 (by kernel_rfl)
          refine .inl ⟨Flow.want_none rfl, ?_⟩
          exact Flow.run_same (Flow.exec_move (.inl rfl) e0) Flow.grow_refl
        refine Flow.Ones.cons ?_ ?_
        · rintro a w hC hoff ⟨k0, -⟩
          have e10 : a.eval (.tmp 10) = .int .i64 (n : Int) := k0 10 rfl
          refine .inl ⟨Flow.want_none rfl, ?_⟩
          refine Flow.run_same ?_ Flow.grow_refl
          have ec := Flow.eval_const a
          generalize a.eval = ρ at e10 ec ⊢
          simp [execOp, e10, ec, go_sem]; exact IntWalk.i64_quo (n : Int) 10 (by omega)
        refine Flow.Ones.cons ?_ ?_
        · rintro a w hC hoff ⟨k1, -⟩
          have e11 : a.eval (.tmp 11) = .int .i64 ((n / 10 : Nat) : Int) := k1 11 rfl
          refine .inl ⟨Flow.want_none rfl, ?_⟩
          exact Flow.run_call (Flow.exec_call rfl Try.func45 (by kernel_rfl) (by kernel_rfl) (by simp [e11])) ((ih _ (by omega) (by omega) _).mono fun e w' ⟨he, hg⟩ => ⟨_, he, hg, rfl⟩)
        refine Flow.Ones.cons ?_ ?_
        · intro a w hC hoff _
          have e0 : a.eval (.tmp 0) = .int .i64 (n : Int) := hoff.at 0 (by kernel_rfl)
          refine .inl ⟨Flow.want_none rfl, ?_⟩
          exact Flow.run_same (Flow.exec_move (.inl rfl) e0) Flow.grow_refl
        refine Flow.Ones.cons ?_ ?_
        · rintro a w hC hoff ⟨k3, -⟩
          have e13 : a.eval (.tmp 13) = .int .i64 (n : Int) := k3 13 rfl
          refine .inl ⟨Flow.want_none rfl, ?_⟩
          refine Flow.run_same ?_ Flow.grow_refl
          have ec := Flow.eval_const a
          generalize a.eval = ρ at e13 ec ⊢
          simp [execOp, e13, ec, go_sem]; exact Int.tmod_eq_emod_of_nonneg (by omega)
        refine Flow.Ones.cons ?_ ?_
        · rintro a w hC hoff ⟨k4, -⟩
          have e14 : a.eval (.tmp 14) = .int .i64 ((n % 10 : Nat) : Int) := k4 14 rfl
          refine .inl ⟨Flow.want_none rfl, ?_⟩
          refine Flow.run_same ?_ Flow.grow_refl
          have ec := Flow.eval_const a
          generalize a.eval = ρ at e14 ec ⊢
          simp [execOp, e14, ec, go_sem]; exact IntWalk.i64_in _ (by omega)
        refine Flow.Ones.cons ?_ ?_
        · rintro a w hC hoff ⟨k5, -⟩
          have e15 : a.eval (.tmp 15) = .int .i64 (48 + ((n % 10 : Nat) : Int)) := k5 15 rfl
          refine .inl ⟨Flow.want_none rfl, ?_⟩
          refine Flow.run_same ?_ Flow.grow_refl
          have ec := Flow.eval_const a
          generalize a.eval = ρ at e15 ec ⊢
          rw [u8v, Hb.out]; simp [execOp, e15, go_sem]; exact IntWalk.u8_in _ (by omega)
        refine Flow.Ones.cons ?_ ?_
        · rintro a w hC hoff ⟨k6, -⟩
          have e16 : a.eval (.tmp 16) = u8v (UInt8.ofNat (48 + n % 10)) := k6 16 rfl
          refine .inl ⟨Flow.want_none rfl, ?_⟩
          refine Flow.run_val (v := .slice (some ⟨w.heap.size, 0, none⟩) 1 1) (w' := w.alloc (.cells #[u8v (UInt8.ofNat (48 + n % 10))] 5)) ?_ (Flow.grow_alloc _ _) ?_
          · generalize a.eval = ρ at e16 ⊢; simp [execOp, e16, u8v, go_sem]
          · exact Bytes.of_own (World.ownsRow_lit (e := 5) w #[_] 1 (Nat.zero_le _) (by decide) rfl) (by simp)
        refine Flow.Ones.cons ?_ ?_
        · rintro a w hC hoff ⟨k7, -⟩
          have e17 : (fun v w => Bytes w v [UInt8.ofNat (48 + n % 10)]) (a.eval (.tmp 17)) w := k7 17 rfl
          refine .inl ⟨Flow.want_none rfl, ?_⟩
          exact Flow.run_same (exec_str 5 rfl rfl e17 Try.underlying106 Try.underlying5 Try.underlying9) Flow.grow_refl
        refine Flow.Ones.cons ?_ ?_
        · rintro a w hC hoff ⟨k2, k8, -⟩
          have e12 : a.eval (.tmp 12) = .string (str (Dec.dec (n / 10))) := k2 12 rfl
          have e18 : a.eval (.tmp 18) = .string (str [UInt8.ofNat (48 + n % 10)]) := k8 18 rfl
          refine .inl ⟨Flow.want_none rfl, ?_⟩
          exact Flow.run_same (exec_add_str Try.underlying9 rfl e12 e18 (by rw [Hv.out]) (by have := Hl.out; rw [Hv.out] at this; simp at this ⊢; omega)) Flow.grow_refl
        refine Flow.Ones.cons ?_ ?_
        · rintro a w hC hoff ⟨k9, -⟩
          have e19 : a.eval (.tmp 19) = .string (str (Dec.dec n)) := k9 19 rfl
          refine .inl ⟨Flow.want_none rfl, ?_⟩
          exact Flow.run_same (Flow.exec_move (.inr rfl) e19) Flow.grow_refl
        exact trivial
      case stab3 => exact ⟨fun v w w' hR h => h.grow hR, trivial⟩
      case ends3 =>
        intro w' hg
        simp only [Flow.ends]
        intro v17 _
        simp only [Act.put, List.setIfInBounds_toArray, List.set_cons_succ, List.set_cons_zero]
        go_wp2
        go_ret
        exact ⟨rfl, hg⟩
theorem digits_calls (n : Nat) (hn : n < 2 ^ 63) (w : World) : Calls Try.prog 45 #[.int .i64 n] w fun e w' => e = .returned (.string (str (Dec.dec n))) ∧ Flow.Grow w w' :=
  digits_any 18 n (by omega) hn w

set_option maxRecDepth 100000 in
set_option maxHeartbeats 400000 in
theorem num50_lo (n : Nat) (hlo : n < 10) (w : World) :
    Calls Try.prog 9 #[.int .i64 n] w fun e w' => e = .returned (.string (str (Dec.dec n))) ∧ Flow.Grow w w' := by
  have Hv : Hid (Dec.dec n = _) := Lib.hid (Dec.dec_lo hlo)
  have Hb : Hid (_ = _) := Lib.hid (Dec.byte hlo)
  generalize UInt8.ofNat (48 + n) = c at *
  go_enter Try.func9, Try.ntmps9
  have Hs := fun (W : World) (v : Value) (h : Bytes W v [c]) => run_str (P := Try.prog) h 106 9 5 Try.underlying106 Try.underlying5 Try.underlying9
  have Hw := Hs _ _ (Bytes.of_own (World.ownsRow_lit (base := 0) (e := 5) w #[u8v c] 1 (Nat.zero_le _) (by decide) rfl) (by simp))
  rw [u8v, Hb.out] at Hw
  clear Hs
  go_wp2
  go_ret
  exact ⟨by rw [Hv.out]; rfl, Flow.grow_alloc _ _⟩

set_option maxRecDepth 100000 in
set_option maxHeartbeats 400000 in
theorem num50_any : ∀ (b n : Nat), n < 10 ^ (b + 1) → n < 2 ^ 63 → ∀ w : World,
    Calls Try.prog 9 #[.int .i64 n] w fun e w' => e = .returned (.string (str (Dec.dec n))) ∧ Flow.Grow w w' := by
  intro b
  induction b with
  | zero =>
    intro n hb hn w
    have hlo : n < 10 := by simpa using hb
    exact num50_lo n hlo w
  | succ b ih =>
    intro n hb hn w
    by_cases hlo : n < 10
    · exact num50_lo n hlo w
    · have Hv : Hid (Dec.dec n = _) := Lib.hid (Dec.dec_hi (n := n) (by omega))
      have Hl := Lib.hid (Dec.dec_short hn)
      have Hl2 : Hid (Dec.dec (n % 10) = _) := Lib.hid (Dec.dec_lo (n := n % 10) (by omega))
      have hq : IntKind.i64.wrap ((n : Int).tdiv 10) = ((n / 10 : Nat) : Int) := IntWalk.i64_quo (n : Int) 10 (by omega)
      have hr : (n : Int).tmod 10 = ((n % 10 : Nat) : Int) := Int.tmod_eq_emod_of_nonneg (by omega)
      have Ih : Hid (∀ w, Calls Try.prog 9 #[.int .i64 ((n / 10 : Nat) : Int)] w fun e w' => e = .returned (.string (str (Dec.dec (n / 10)))) ∧ Flow.Grow w w') := Lib.hid (ih _ (by omega) (by omega))
      have Il : Hid (∀ w, Calls Try.prog 9 #[.int .i64 ((n % 10 : Nat) : Int)] w fun e w' => e = .returned (.string (str (Dec.dec (n % 10)))) ∧ Flow.Grow w w') := Lib.hid (num50_lo _ (by omega))
      have Hd : Hid (Dec.dec n = Dec.dec (n / 10) ++ Dec.dec (n % 10)) := Lib.hid (by rw [Hv.out, Hl2.out])
      clear Hv ih hb
      generalize Dec.dec (n / 10) = d1 at *
      generalize Dec.dec (n % 10) = d2 at *
      generalize Dec.dec n = d at *
      go_enter Try.func9, Try.ntmps9
      go_wp2_with fail
      refine (Ih.out _).mono ?_
      rintro e w1 ⟨rfl, hg1⟩
      go_wp2_with fail
      refine (Il.out _).mono ?_
      rintro e w2 ⟨rfl, hg2⟩
      have hsz1 := str_size d1
      have hsz2 := str_size d2
      have hl : ¬ 9223372036854775807 < d1.length + d2.length := by
        have := Hl.out
        rw [Hd.out, List.length_append] at this
        omega
      have hap := str_append d1 d2
      go_wp2
      go_ret
      exact ⟨by rw [Hd.out]; rfl, hg1.trans hg2⟩
end Go.Proofs.Ytepianllbfnpoaa

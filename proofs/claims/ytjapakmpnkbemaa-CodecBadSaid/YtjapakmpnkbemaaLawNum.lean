/- The law's own 'num': a number's bytes, as a text. -/
import Derived.Test.YtjapakmpnkbemaaProg
import Derived.Test.YtjapakmpnkbemaaPut
import Derived.Test.YtjapakmpnkbemaaFlow
import Derived.Outline
namespace Go.Proofs.Ytjapakmpnkbemaa
open Go.RowKit

set_option maxRecDepth 100000 in
set_option maxHeartbeats 400000 in
theorem num_lo (n : Nat) (hlo : n < 128) (w : World) :
    Calls Try.prog 10 #[.int .i64 n] w fun e w' => e = .returned (.string (str (Num.vint n))) ∧ Flow.Grow w w' := by
  have Hv : Hid (Num.vint n = _) := Lib.hid (Num.vint_lo hlo)
  have Hb : Hid (_ = _) := Lib.hid (Num.byte_lo hlo)
  go_enter Try.func10, Try.ntmps10
  have Hs := fun (W : World) (v : Value) (h : Bytes W v [UInt8.ofNat n]) => run_str (P := Try.prog) h 22 9 5 Try.underlying22 Try.underlying5 Try.underlying9
  have Hw := Hs _ _ (Bytes.of_own (World.ownsRow_lit (base := 0) (e := 5) w #[u8v (UInt8.ofNat n)] 1 (Nat.zero_le _) (by decide) rfl) (by simp))
  rw [u8v, ← Hb.out] at Hw
  clear Hs
  go_wp2
  go_ret
  exact ⟨by rw [Hv.out]; rfl, Flow.grow_alloc _ _⟩

set_option maxRecDepth 100000 in
set_option maxHeartbeats 400000 in
theorem num_any : ∀ (b n : Nat), n < 128 ^ (b + 1) → n < 2 ^ 63 → ∀ w : World,
    Calls Try.prog 10 #[.int .i64 n] w fun e w' => e = .returned (.string (str (Num.vint n))) ∧ Flow.Grow w w' := by
  intro b
  induction b with
  | zero =>
    intro n hb hn w
    have hlo : n < 128 := by simpa using hb
    exact num_lo n hlo w
  | succ b ih =>
    intro n hb hn w
    by_cases hlo : n < 128
    · exact num_lo n hlo w
    · have Hv : Hid (Num.vint n = _) := Lib.hid (Num.vint_hi (n := n) (by omega))
      have Hc : Hid (((UInt8.ofNat (n % 128 + 128)).toNat : Int) = ((n % 128 + 128 : Nat) : Int)) := Lib.hid (by rw [UInt8.toNat_ofNat']; omega)
      have Hl := Lib.hid (Num.vint_len_le 8 n (by omega))
      go_enter Try.func10, Try.ntmps10
      go_wp2_with fail
      refine Flow.region_grown (Fs := [.inl (.int .i64 (n : Int)), .inl (.int .i64 ((n % 128 : Nat) : Int)), .inl (.int .i64 ((n % 128 + 128 : Nat) : Int)), .inl (u8v (UInt8.ofNat (n % 128 + 128))), .inr (fun v w => Bytes w v [UInt8.ofNat (n % 128 + 128)]), .inl (.string (str [UInt8.ofNat (n % 128 + 128)])), .inl (.int .i64 (n : Int)), .inl (.int .i64 ((n / 128 : Nat) : Int)), .inl (.string (str (Num.vint (n / 128)))), .inl (.string (str (Num.vint n))), .inl (.string (str (Num.vint n)))])
        (S := [[], [0], [1], [2], [3], [4], [], [6], [7], [5, 8], [9]]) (by kernel_rfl) (by kernel_rfl) (by kernel_rfl) rfl ?stab3 ?ones3 ?ends3
      case ones3 =>
        refine Flow.Ones.cons ?_ ?_
        · intro a w hC hoff _
          have e0 : a.eval (.tmp 0) = .int .i64 (n : Int) := hoff.at 0 (by kernel_rfl)
          refine .inl ⟨Flow.want_none rfl, ?_⟩
          exact Flow.run_same (Flow.exec_move (.inl rfl) e0) Flow.grow_refl
        refine Flow.Ones.cons ?_ ?_
        · rintro a w hC hoff ⟨k0, -⟩
          have e9 : a.eval (.tmp 9) = .int .i64 (n : Int) := k0 9 rfl
          refine .inl ⟨Flow.want_none rfl, ?_⟩
          refine Flow.run_same ?_ Flow.grow_refl
          have ec := Flow.eval_const a
          generalize a.eval = ρ at e9 ec ⊢
          simp [execOp, e9, ec, go_sem]; exact Int.tmod_eq_emod_of_nonneg (by omega)
        refine Flow.Ones.cons ?_ ?_
        · rintro a w hC hoff ⟨k1, -⟩
          have e10 : a.eval (.tmp 10) = .int .i64 ((n % 128 : Nat) : Int) := k1 10 rfl
          refine .inl ⟨Flow.want_none rfl, ?_⟩
          refine Flow.run_same ?_ Flow.grow_refl
          have ec := Flow.eval_const a
          generalize a.eval = ρ at e10 ec ⊢
          simp [execOp, e10, ec, go_sem]; exact IntWalk.i64_in _ (by omega)
        refine Flow.Ones.cons ?_ ?_
        · rintro a w hC hoff ⟨k2, -⟩
          have e11 : a.eval (.tmp 11) = .int .i64 ((n % 128 + 128 : Nat) : Int) := k2 11 rfl
          refine .inl ⟨Flow.want_none rfl, ?_⟩
          refine Flow.run_same ?_ Flow.grow_refl
          have ec := Flow.eval_const a
          generalize a.eval = ρ at e11 ec ⊢
          simp [execOp, e11, u8v, go_sem]; rw [IntWalk.u8_in _ (by omega)]; omega
        refine Flow.Ones.cons ?_ ?_
        · rintro a w hC hoff ⟨k3, -⟩
          have e12 : a.eval (.tmp 12) = u8v (UInt8.ofNat (n % 128 + 128)) := k3 12 rfl
          refine .inl ⟨Flow.want_none rfl, ?_⟩
          refine Flow.run_val (v := .slice (some ⟨w.heap.size, 0, none⟩) 1 1) (w' := w.alloc (.cells #[u8v (UInt8.ofNat (n % 128 + 128))] 5)) ?_ (Flow.grow_alloc _ _) ?_
          · generalize a.eval = ρ at e12 ⊢; simp [execOp, e12, u8v, go_sem]
          · exact Bytes.of_own (World.ownsRow_lit (e := 5) w #[_] 1 (Nat.zero_le _) (by decide) rfl) (by simp)
        refine Flow.Ones.cons ?_ ?_
        · rintro a w hC hoff ⟨k4, -⟩
          have e13 : (fun v w => Bytes w v [UInt8.ofNat (n % 128 + 128)]) (a.eval (.tmp 13)) w := k4 13 rfl
          refine .inl ⟨Flow.want_none rfl, ?_⟩
          exact Flow.run_same (exec_str 5 rfl rfl e13 Try.underlying22 Try.underlying5 Try.underlying9) Flow.grow_refl
        refine Flow.Ones.cons ?_ ?_
        · intro a w hC hoff _
          have e0 : a.eval (.tmp 0) = .int .i64 (n : Int) := hoff.at 0 (by kernel_rfl)
          refine .inl ⟨Flow.want_none rfl, ?_⟩
          exact Flow.run_same (Flow.exec_move (.inl rfl) e0) Flow.grow_refl
        refine Flow.Ones.cons ?_ ?_
        · rintro a w hC hoff ⟨k6, -⟩
          have e15 : a.eval (.tmp 15) = .int .i64 (n : Int) := k6 15 rfl
          refine .inl ⟨Flow.want_none rfl, ?_⟩
          refine Flow.run_same ?_ Flow.grow_refl
          have ec := Flow.eval_const a
          generalize a.eval = ρ at e15 ec ⊢
          simp [execOp, e15, ec, go_sem]; exact IntWalk.i64_quo (n : Int) 128 (by omega)
        refine Flow.Ones.cons ?_ ?_
        · rintro a w hC hoff ⟨k7, -⟩
          have e16 : a.eval (.tmp 16) = .int .i64 ((n / 128 : Nat) : Int) := k7 16 rfl
          refine .inl ⟨Flow.want_none rfl, ?_⟩
          exact Flow.run_call (Flow.exec_call rfl Try.func10 (by kernel_rfl) (by kernel_rfl) (by simp [e16])) ((ih _ (by omega) (by omega) _).mono fun e w' ⟨he, hg⟩ => ⟨_, he, hg, rfl⟩)
        refine Flow.Ones.cons ?_ ?_
        · rintro a w hC hoff ⟨k5, k8, -⟩
          have e14 : a.eval (.tmp 14) = .string (str [UInt8.ofNat (n % 128 + 128)]) := k5 14 rfl
          have e17 : a.eval (.tmp 17) = .string (str (Num.vint (n / 128))) := k8 17 rfl
          refine .inl ⟨Flow.want_none rfl, ?_⟩
          exact Flow.run_same (exec_add_str Try.underlying9 rfl e14 e17 (by rw [Hv.out]; rfl) (by have := Hl.out; rw [Hv.out] at this; simp at this ⊢; omega)) Flow.grow_refl
        refine Flow.Ones.cons ?_ ?_
        · rintro a w hC hoff ⟨k9, -⟩
          have e18 : a.eval (.tmp 18) = .string (str (Num.vint n)) := k9 18 rfl
          refine .inl ⟨Flow.want_none rfl, ?_⟩
          exact Flow.run_same (Flow.exec_move (.inr rfl) e18) Flow.grow_refl
        exact trivial
      case stab3 => exact ⟨fun v w w' hR h => h.grow hR, trivial⟩
      case ends3 =>
        intro w' hg
        simp only [Flow.ends]
        intro v13 _
        simp only [Act.put, List.setIfInBounds_toArray, List.set_cons_succ, List.set_cons_zero]
        go_wp2
        go_ret
        exact ⟨rfl, hg⟩
end Go.Proofs.Ytjapakmpnkbemaa

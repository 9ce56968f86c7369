/- Tokens.Mark of any tokens; slices.Clone of interactions; game.Labels; a game that is not there: by their contracts. -/
import Derived.Test.YtcnmaplopbbmaaaMBg
import Derived.Test.YtcnmaplopbbmaaaRTurns
namespace Go.Proofs.Ytcnmaplopbbmaaa
open Go.RowKit
set_option maxRecDepth 100000 in
set_option maxHeartbeats 400000 in
theorem tkMark_any (t : Gr.Tk) (w : World) (hl : t.1.length = 64) :
    Calls Try.prog 31 #[.agg (Gr.tcs t)] w fun e w' => e = .returned (.int .u64 (Mark.ofBools t.1 : Int)) ∧ Flow.Grow w w' := by
  have Hcell : Hid (∀ k, k < 64 → (w.alloc (.cells (Gr.tcs t) 80)).cell? ⟨w.heap.size, k, none⟩ = some (.bool (t.1.getD k false))) := Lib.hid fun k hk => by
    rw [World.cell?_alloc_new]
    exact Gr.tcs_get (by omega)
  obtain ⟨l, b⟩ := t
  simp only at hl Hcell ⊢
  have Hlt : Hid (∀ k, k ≤ 64 → Mark.ofBools (l.take k) < 2 ^ k) := Lib.hid fun k hk => by
    have := Mark.ofBools_lt (l.take k)
    rwa [List.length_take, Nat.min_eq_left (by omega)] at this
  have Hsn : Hid (∀ k, k < 64 → Mark.ofBools (l.take (k + 1)) = Mark.ofBools (l.take k) + if l.getD k false then 2 ^ k else 0) := Lib.hid fun k hk => by
    rw [List.take_succ_eq_append_getElem (by omega), Mark.ofBools_snoc, List.length_take, Nat.min_eq_left (by omega)]
    simp [show k < l.length by omega]
  have Hl := Lib.hid hl
  generalize Gr.tcs (l, b) = c at *
  clear hl
  go_enter Try.func31, Try.ntmps31
  go_wp2_with fail
  go_loop [3, 4, 5] (fun m x i => ∃ k : Nat, k ≤ 64 ∧ i = .int .i64 k ∧ m = .int .u64 (Mark.ofBools (l.take k) : Int) ∧ x = .int .u64 ((2 ^ k % 2 ^ 64 : Nat) : Int)) (fun _ _ i => 64 - (intOf i).toNat)
  case atStart => exact ⟨0, by omega, rfl, rfl, rfl⟩
  case round =>
    obtain ⟨k, hk, rfl, rfl, rfl⟩ := hrel
    by_cases hk64 : k < 64
    · have hcell := Hcell.out k hk64
      have hp : (2 : Nat) ^ k ≤ 2 ^ 63 := Nat.pow_le_pow_right (by omega) (by omega)
      have hlt := Hlt.out k hk
      have hmod : Hid (2 ^ k % 2 ^ 64 = 2 ^ k) := Lib.hid (Nat.mod_eq_of_lt (by omega))
      have hx : Hid (2 ^ (k + 1) % 2 ^ 64 = 2 * 2 ^ k % 2 ^ 64) := Lib.hid (by rw [Nat.pow_succ, Nat.mul_comm])
      have hs := Hsn.out k hk64
      have Hs := Lib.hid hs
      rw [hmod.out]
      clear hs hmod
      have hlt' : Mark.ofBools (l.take k) < 2 ^ 63 := by
        rcases Nat.lt_or_ge k 63 with h | h
        · have : (2 : Nat) ^ k ≤ 2 ^ 63 := Nat.pow_le_pow_right (by omega) (by omega)
          omega
        · have : k = 63 := by omega
          subst this
          exact hlt
      generalize Mark.ofBools (l.take k) = M at *
      generalize hX : 2 ^ k = X at *
      clear hX
      cases hb : l.getD k false with
      | true =>
        rw [hb] at hcell Hs
        go_wp2
        go_round
        case rel =>
          refine ⟨k + 1, by omega, by go_num, ?_, ?_⟩
          · rw [Hs.out]; go_num
          · rw [hx.out]; exact congrArg (Value.int .u64) (wrap_u64_nat X)
        case measure => simp [intOf]; omega
      | false =>
        rw [hb] at hcell Hs
        go_wp2
        go_round
        case rel =>
          refine ⟨k + 1, by omega, by go_num, ?_, ?_⟩
          · rw [Hs.out]; go_num
          · rw [hx.out]; exact congrArg (Value.int .u64) (wrap_u64_nat X)
        case measure => simp [intOf]; omega
    · have : k = 64 := by omega
      subst this
      have HE : Hid (l.take 64 = l) := Lib.hid (List.take_of_length_le (by rw [Hl.out]; exact Nat.le_refl _))
      rw [HE.out]
      go_wp2_with fail
      go_ret
      exact ⟨rfl, Flow.grow_alloc _ _⟩
set_option maxRecDepth 100000 in
set_option maxHeartbeats 1000000 in
theorem clone_lab (v : Value) (L : List Gr.Lb) (W : World) (hL : L.length ≤ 1000000) (h : Gr.LbsAt W v L) :
    Calls Try.prog 28 #[v] W fun e w' => (∃ v', e = .returned v' ∧ w'.ownsRow W.heap.size 45 3 v' L.length (L.flatMap Gr.lcells)) ∧ Flow.Grow W w' := by
  obtain ⟨i0, hi0, hz0, hz1, hz2⟩ := info_parts info_lab
  have HI := Lib.hid (And.intro hi0 (And.intro hz0 (And.intro hz1 hz2)))
  clear hi0 hz0 hz1 hz2
  have qn : ∀ (w : World) (a : Option Addr) (n c n' c' : Nat), (binOp .eql 40 (.slice a n c) (.slice none n' c')).run Try.prog w = .ok (.bool a.isNone) w := fun w a n c n' c' => Lib.run_eql_slice_nil w _ _ a n c n' c' Try.underlying40
  have H := Lib.hid h
  obtain ⟨a, c, rfl⟩ := h.form
  obtain ⟨n, hn⟩ : ∃ n, n = L.length := ⟨_, rfl⟩
  have Hn := Lib.hid hn
  rw [← hn] at H hL ⊢
  cases a with
  | none =>
    have HE : Hid (L = []) := Lib.hid (by
      cases L with
      | nil => rfl
      | cons x L =>
        obtain ⟨b, off, e, _⟩ := Gr.LbsAt.at h (j := 0) (by simp)
        cases e)
    have hn0 : n = 0 := by rw [hn, HE.out]; rfl
    subst hn0
    clear h hn
    go_enter Try.func28, Try.ntmps28
    go_wp2_with fail
    go_ret
    exact ⟨⟨_, rfl, by rw [HE.out]; exact World.ownsRow_nil _ _ _ _⟩, Flow.grow_refl _⟩
  | some a =>
    clear h hn
    go_enter Try.func28, Try.ntmps28
    have HO : Hid ((W.alloc (.cells #[] 45)).ownsRow W.heap.size 45 3 (.slice (some ⟨W.heap.size, 0, none⟩) 0 0) 0 []) := Lib.hid (World.ownsRow_lit W #[] 0 (Nat.le_refl _) (by decide) rfl)
    have HA : Hid (Seg 3 (W.alloc (.cells #[] 45)) (.slice (some a) n c) n (L.flatMap Gr.lcells)) := Lib.hid (by have := Gr.Recs.grow H.out (Flow.grow_alloc W (.cells #[] 45)); unfold Gr.Recs at this; rwa [← Hn.out] at this)
    go_wp2_with (at_builtin; refine wpList_appRow rfl _ _ 40 rfl W.heap.size 45 i0 (.agg #[.int .i64 0, .int .i64 0, .int .i64 0]) 3 24 Try.underlying40 HI.out.1 HI.out.2.1 HI.out.2.2.1 HI.out.2.2.2 rfl (by decide) (Try.sizeOf45 _) _ 0 [] rfl HO.out (by simp) _ n (L.flatMap Gr.lcells) rfl HA.out (lcells_one L) (by omega) (by omega) (by decide) ?_; intro v' w' ho hb; have HO2 := Lib.hid ho; have HG2 : Hid (Flow.Grow W w') := Lib.hid (grow_row (Flow.grow_alloc _ _) hb (own_lo HO.out)); obtain ⟨a', c', rfl⟩ := own_form ho; clear ho hb)
    go_ret
    exact ⟨⟨_, rfl, by simpa using HO2.out⟩, HG2.out⟩
set_option maxRecDepth 100000 in
theorem glabels_any (B : Nat) (v0 v1 v2 v3 lv : Value) (g : Gr.G) (L : List Gr.Lb) (e : Int) (W : World) (hL : L.length ≤ 1000000) (h : Gr.Gm W B v0 v1 v2 v3 lv g L e) :
    Calls Try.prog 11 #[.pointer (some ⟨B, 0, none⟩)] W fun e w' => (∃ v', e = .returned v' ∧ w'.ownsRow W.heap.size 45 3 v' L.length (L.flatMap Gr.lcells)) ∧ Flow.Grow W w' := by
  have HC := Lib.hid (clone_lab lv L W hL h.lbs)
  obtain ⟨d0, d1, d2, d3, d4⟩ := h.cells
  clear h
  go_enter Try.func11, Try.ntmps11
  go_wp2_with (go_at_call 28; refine HC.out.mono ?_; rintro e w' ⟨⟨v', rfl, ho⟩, hg⟩; have HO := Lib.hid ho; have HG := Lib.hid hg; obtain ⟨a, c, rfl⟩ := own_form ho; clear ho hg)
  go_ret
  exact ⟨⟨_, rfl, HO.out⟩, HG.out⟩
/-! ### a game that is not there -/
set_option maxRecDepth 100000 in
theorem labels_none (W : World) : Calls Try.prog 11 #[.pointer none] W fun e w' => e = .returned (.slice none 0 0) ∧ W = w' := by
  go_enter Try.func11, Try.ntmps11
  go_wp2_with fail
  go_ret
  exact ⟨rfl, rfl⟩
set_option maxRecDepth 100000 in
theorem turns_none (x : Int) (W : World) : Calls Try.prog 10 #[.pointer none, .int .u64 x] W fun e w' => e = .returned (.slice none 0 0) ∧ W = w' := by
  go_enter Try.func10, Try.ntmps10
  go_wp2_with fail
  go_ret
  exact ⟨rfl, rfl⟩
set_option maxRecDepth 100000 in
theorem first_none (W : World) : Calls Try.prog 12 #[.pointer none] W fun e w' => e = .returned (.int .u64 0) ∧ W = w' := by
  go_enter Try.func12, Try.ntmps12
  go_wp2_with fail
  go_ret
  exact ⟨rfl, rfl⟩
set_option maxRecDepth 100000 in
theorem unsafe_none (W : World) : Calls Try.prog 13 #[.pointer none] W fun e w' => e = .returned (.bool false) ∧ W = w' := by
  go_enter Try.func13, Try.ntmps13
  go_wp2_with fail
  go_ret
  exact ⟨rfl, rfl⟩
end Go.Proofs.Ytcnmaplopbbmaaa

/- galliardlaw42.FallCuts returns true: the walk. -/
import Derived.Test.YtmjonmahecdngaaCuts
import Derived.Test.YtmjonmahecdngaaAwake42
namespace Go.Proofs.Ytmjonmahecdngaa
open Go.RowKit
set_option maxRecDepth 100000 in
set_option maxHeartbeats 1000000 in
theorem fallCuts_core (a0 a1 : Int) (M S : Nat) (hM1 : M ≤ 1048576) (hS0 : 0 < S) (hS1 : S ≤ 9223372036854775807)
    (hA : (a0 < 0 ∧ M ≤ 0) ∨ (0 ≤ a0 ∧ a0 ≤ 1048576 ∧ (M : Int) ≤ a0 ∧ a0 ≤ M) ∨ (1048576 < a0 ∧ 1048576 ≤ M)) (hB : (a1 < 1 ∧ S ≤ 1) ∨ (1 ≤ a1 ∧ (S : Int) ≤ a1 ∧ a1 ≤ S)) (w : World) :
    Calls Try.prog 6 #[.int .i64 a0, .int .i64 a1] w fun e w' => e = .returned (.bool true) ∧ Flow.Grow w w' := by
  have HC : Hid (∀ w, Calls Try.prog 20 #[.int .i64 a0, .int .i64 a1] w (CutsPost w M S)) := Lib.hid fun w => cuts_any a0 a1 M S hM1 hS0 hS1 hA hB w
  have HW : Hid (∀ w, Calls Try.prog 22 #[] w fun e w' => e = .returned (.bool true) ∧ Flow.Grow w w') := Lib.hid awake42
  obtain ⟨L, hL⟩ : ∃ L, L = Cuts.count M S := ⟨_, rfl⟩
  obtain ⟨q, hq⟩ : ∃ q, q = M / S := ⟨_, rfl⟩
  have hL1 : (q < 1000 ∧ L = q + 1) ∨ (1000 ≤ q ∧ L = 1000) := by
    rw [hL, hq]; unfold Cuts.count; omega
  have hq1 : q ≤ M := by rw [hq]; exact Nat.div_le_self _ _
  have Hk : Hid (∀ k, k < L → k * S ≤ M) := Lib.hid fun k hk => (Nat.le_div_iff_mul_le hS0).1 (by omega)
  have Hq := Lib.hid hq
  have HLc := Lib.hid hL
  have HA := Lib.hid hA
  have HB := Lib.hid hB
  have HL := Lib.hid hL1
  clear hA hB hL hq hL1
  rcases HA.out with ⟨q1, q2⟩ | ⟨q1, q2, q3, q4⟩ | ⟨q1, q2⟩
  all_goals
    rcases HB.out with ⟨r1, r2⟩ | ⟨r1, r2, r3⟩
    all_goals
      rcases HL.out with ⟨s1, s2⟩ | ⟨s1, s2⟩
      all_goals
        have s3 : L ≤ q + 1 := by omega
        have s4 : 1 ≤ L ∧ L ≤ 1000 := by omega
        have Hs2 := Lib.hid s2
        clear s2
        go_enter Try.func6, Try.ntmps6
        go_wp2_with fail
        refine (HC.out _).mono ?_
        rintro e w1 ⟨v', rfl, ⟨hown, _⟩, hg⟩
        rw [← HLc.out] at hown
        obtain ⟨g, cap2, rfl⟩ : ∃ g cap2, v' = .slice (some ⟨g, 0, none⟩) L cap2 := by
          rcases hown.2 with ⟨_, h⟩ | ⟨g, cap, cur, h, _⟩
          · omega
          · exact ⟨_, _, h⟩
        have Hcell : Hid (∀ k, k < L → w1.cell? ⟨g, k, none⟩ = some (.int .i64 ((k * S : Nat) : Int))) := Lib.hid fun k hk => by
          have := hown.cells (g := g) rfl k (.int .i64 ((k * S : Nat) : Int)) (by rw [List.getElem?_map, Cuts.list_get hk]; rfl)
          rw [Addr.add_lit] at this
          simpa using this
        clear hown
        go_wp2_with fail
        go_loop [8] (fun i => ∃ k : Nat, k ≤ L ∧ i = .int .i64 k) (fun i => L - (intOf i).toNat)
        case atStart => exact ⟨0, by omega, rfl⟩
        case round =>
          obtain ⟨k, hk, rfl⟩ := hrel
          by_cases hlt : k < L
          · have hc := Hcell.out k hlt
            have hp := Hk.out k hlt
            obtain ⟨n, hn⟩ : ∃ n, n = k * S := ⟨_, rfl⟩
            have hB1 : a1 < 1 → n = k := fun h => by
              have : S = 1 := by
                rcases HB.out with ⟨_, h2⟩ | ⟨h1, _⟩ <;> omega
              rw [hn, this]; omega
            have hB2 : 1 ≤ a1 → (k : Int) * a1 = (n : Int) := fun h => by
              have : a1 = (S : Int) := by
                rcases HB.out with ⟨h1, _⟩ | ⟨_, h2, h3⟩ <;> omega
              rw [hn, this]; simp
            have hB3 : ¬ S ≤ 1048576 → k = 0 := fun h => by
              rcases Nat.eq_zero_or_pos k with h0 | h0
              · exact h0
              · have := Nat.le_mul_of_pos_left S h0
                omega
            rw [← hn] at hc hp
            have Hn := Lib.hid hn
            clear hn
            by_cases hs2 : S ≤ 1048576
            · clear hB3
              by_cases hb : a1 < 1
              · try (exfalso; omega)
                all_goals
                  have e1 := hB1 hb
                  clear hB1 hB2
                  subst e1
                  go_wp2_with fail
                  go_round
                  case rel => exact ⟨n + 1, by omega, by go_num⟩
                  case measure => simp [intOf] <;> omega
              · try (exfalso; omega)
                all_goals
                  have e1 := hB2 (by omega)
                  clear hB1 hB2
                  go_wp2_with fail
                  go_round
                  case rel => exact ⟨k + 1, by omega, by go_num⟩
                  case measure => simp [intOf] <;> omega
            · try (exfalso; omega)
              all_goals
                have e2 := hB3 hs2
                clear hB1 hB2 hB3
                subst e2
                have hn0 : n = 0 := by
                  have h := Hn.out
                  rw [Nat.zero_mul] at h
                  exact h
                subst hn0
                go_wp2_with fail
                go_round
                case rel => exact ⟨1, by omega, by go_num⟩
                case measure => simp [intOf] <;> omega
          · have d1 : 0 ≤ a0 → a0 ≤ 1048576 → 1 ≤ a1 → a0 / a1 = (q : Int) := fun h1 h2 h3 => by
              have e1 : a0 = (M : Int) := by rcases HA.out with ⟨x1, x2⟩ | ⟨x1, x2, x3, x4⟩ | ⟨x1, x2⟩ <;> omega
              have e2 : a1 = (S : Int) := by rcases HB.out with ⟨x1, _⟩ | ⟨_, x2, x3⟩ <;> omega
              rw [e1, e2, Hq.out]; exact (Int.natCast_ediv M S).symm
            have d2 : 1048576 < a0 → 1 ≤ a1 → (1048576 : Int) / a1 = (q : Int) := fun h1 h3 => by
              have e1 : M = 1048576 := by rcases HA.out with ⟨x1, x2⟩ | ⟨x1, x2, x3, x4⟩ | ⟨x1, x2⟩ <;> omega
              have e2 : a1 = (S : Int) := by rcases HB.out with ⟨x1, _⟩ | ⟨_, x2, x3⟩ <;> omega
              rw [e2, Hq.out, e1]; exact (Int.natCast_ediv 1048576 S).symm
            have d3 : a1 < 1 → M ≤ q := fun h => by
              have e2 : S = 1 := by rcases HB.out with ⟨_, x2⟩ | ⟨x1, _⟩ <;> omega
              rw [Hq.out, e2]; simp
            (try have e1 := d1 (by omega) (by omega) (by omega))
            (try have e2 := d2 (by omega) (by omega))
            (try have e3 := d3 (by omega))
            clear d1 d2 d3
            go_wp2_with fail
            refine (HW.out _).mono ?_
            rintro e w2 ⟨rfl, hg2⟩
            go_wp2_with fail
            all_goals
              first
                | (exfalso; have h9 := Hs2.out; omega)
                | (go_ret
                   refine ⟨?_, hg.trans hg2⟩
                   have h9 := Hs2.out
                   have h8 : L = 1 ∨ 2 ≤ L := by omega
                   simp
                   omega)
theorem fallCuts_walk (a0 a1 : Int) (h : a1 ≤ 9223372036854775807) (w : World) :
    Calls Try.prog 6 #[.int .i64 a0, .int .i64 a1] w fun e w' => e = .returned (.bool true) ∧ Flow.Grow w w' :=
  fallCuts_core a0 a1 (min (max a0 0) 1048576).toNat (max a1 1).toNat (by omega) (by omega) (by omega) (by omega) (by omega) w
end Go.Proofs.Ytmjonmahecdngaa

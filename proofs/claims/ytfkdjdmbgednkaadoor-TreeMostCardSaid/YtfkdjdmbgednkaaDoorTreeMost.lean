/- galliardlaw06.TreeMost: at most so many, at most so deep; the walk. -/
import Derived.Test.YtfkdjdmbgednkaaDoorTreeBad
import Derived.Test.YtfkdjdmbgednkaaDoorMost2
import Derived.Test.YtfkdjdmbgednkaaDoorBits
namespace Go.Proofs.YtfkdjdmbgednkaaDoor
open Go.RowKit
namespace Xm
theorem deepN_cnt : ∀ n, cnt (deepN n) = n + 1
  | 0 => by simp [deepN, cnt, cntL]
  | n + 1 => by rw [deepN, cnt, cntL, cntL, deepN_cnt n]; omega
end Xm
def nodeV (u0 u1 u4 : ByteArray) (a1 a2 : Option Addr) (n1 n2 c1 c2 : Nat) : Value := .agg #[.string u0, .string u1, .slice a1 n1 c1, .slice a2 n2 c2, .string u4]
theorem deep_res (k : Nat) (h1 : 1 ≤ k) (h2 : k ≤ 33) (w : World) (hT : Xm.Tab w) (hm : Xm.Max w) : Calls Tryd.prog 19 #[.string (Xm.deepS k)] w fun e w' => Flow.Grow w w' ∧
    ∃ (u0 u1 u4 : ByteArray) (a1 a2 : Option Addr) (n1 n2 c1 c2 : Nat) (at' er : Int), e = .returned (.tuple #[.agg #[.string u0, .string u1, .slice a1 n1 c1, .slice a2 n2 c2, .string u4], .int .i64 at', .int .i64 er]) ∧
      ((er = 0 ∧ k ≤ 32 ∧ ∃ F, Xm.NodAt F w' (.agg #[.string u0, .string u1, .slice a1 n1 c1, .slice a2 n2 c2, .string u4]) (Xm.deepN (k - 1))) ∨ (er = 4 ∧ at' = 96 ∧ k = 33)) := by
  obtain ⟨j, rfl⟩ : ∃ j, k = j + 1 := ⟨k - 1, by omega⟩
  have hz := Xm.deepS_size (j + 1)
  refine (parse_any (Xm.deepS (j + 1)) (by omega) (Xm.deepS_new (by omega)) w hT hm).mono ?_
  rintro e w' ⟨hg, hp⟩
  refine ⟨hg, ?_⟩
  by_cases hj : j < 32
  · rw [Xm.deep_ok hj] at hp
    obtain ⟨v, rfl, hn⟩ := hp
    cases hx : Xm.deepN j with
    | mk sp nm l ks tx =>
      rw [hx] at hn
      obtain ⟨b1, b2, n1, n2, c1, c2, rfl⟩ := node_known hn
      exact ⟨_, _, _, _, _, _, _, _, _, _, _, rfl, .inl ⟨rfl, by omega, _, by rw [Nat.add_sub_cancel, hx]; exact hn⟩⟩
  · rw [Xm.deep_bad (show j = 32 by omega)] at hp
    exact ⟨_, _, _, _, _, _, _, _, _, _, _, hp, .inr ⟨rfl, rfl, by omega⟩⟩
theorem many_res (m : Nat) (h1 : 1 ≤ m) (h2 : m ≤ 2000) (w : World) (hT : Xm.Tab w) (hm : Xm.Max w) : Calls Tryd.prog 19 #[.string (Xm.manyS m)] w fun e w' => Flow.Grow w w' ∧
    ∃ (u0 u1 u4 : ByteArray) (a1 a2 : Option Addr) (n1 n2 c1 c2 : Nat) (at' er : Int), e = .returned (.tuple #[.agg #[.string u0, .string u1, .slice a1 n1 c1, .slice a2 n2 c2, .string u4], .int .i64 at', .int .i64 er]) ∧
      ((er = 0 ∧ m ≤ 1999 ∧ ∃ F, Xm.NodAt F w' (.agg #[.string u0, .string u1, .slice a1 n1 c1, .slice a2 n2 c2, .string u4]) (Xm.manyN m)) ∨ (er = 5 ∧ at' = 7999 ∧ m = 2000)) := by
  obtain ⟨j, rfl⟩ : ∃ j, m = j + 1 := ⟨m - 1, by omega⟩
  have hz := Xm.manyS_size (j + 1)
  refine (parse_any (Xm.manyS (j + 1)) (by omega) (Xm.manyS_new (by omega)) w hT hm).mono ?_
  rintro e w' ⟨hg, hp⟩
  refine ⟨hg, ?_⟩
  by_cases hj : j < 1999
  · rw [Xm.many_ok (show j + 1 ≤ 1999 by omega)] at hp
    obtain ⟨v, rfl, hn⟩ := hp
    obtain ⟨b1, b2, n1, n2, c1, c2, rfl⟩ := node_known hn
    exact ⟨_, _, _, _, _, _, _, _, _, _, _, rfl, .inl ⟨rfl, by omega, _, hn⟩⟩
  · rw [Xm.many_bad (show j = 1999 by omega)] at hp
    exact ⟨_, _, _, _, _, _, _, _, _, _, _, hp, .inr ⟨rfl, rfl, by omega⟩⟩
set_option maxRecDepth 100000 in
set_option maxHeartbeats 2000000 in
theorem treeMost_walk (n : Int) (w : World) (hT : Xm.Tab w) (hm : Xm.Max w) : Calls Tryd.prog 8 #[.int .i64 n] w fun r w' => r = .returned (.bool true) ∧ Flow.Grow w w' := by
  have HT := Lib.hid hT
  have HM := Lib.hid hm
  clear hT hm
  go_enter Tryd.func8, Tryd.ntmps8
  go_upto_region 3 with fail
  have hk : ∃ k : Nat, 30 ≤ k ∧ k ≤ 33 ∧ wrap64 (30 + bits .and .i64 n 3) = (k : Int) := by
    rw [Bits.i64_mask n 2 (by omega) 3 (by decide)]
    refine ⟨(30 + n % 2 ^ 2).toNat, by omega, by omega, ?_⟩
    unfold wrap64
    omega
  have hq : ∃ m : Nat, 1997 ≤ m ∧ m ≤ 2000 ∧ wrap64 (1997 + bits .and .i64 (n / 4) 3) = (m : Int) := by
    rw [Bits.i64_mask (n / 4) 2 (by omega) 3 (by decide)]
    refine ⟨(1997 + n / 4 % 2 ^ 2).toNat, by omega, by omega, ?_⟩
    unfold wrap64
    omega
  obtain ⟨k, k1, k2, hk⟩ := hk
  obtain ⟨m, m1, m2, hq⟩ := hq
  rw [hk, hq]
  clear hk hq
  generalize bits .and .i64 n 3 = z1 at *
  generalize bits .and .i64 (n / 4) 3 = z2 at *
  generalize n / 4 = z3 at *
  go_upto_region 4 with fail
  go_loop [5, 6, 8] (fun v5 v6 v8 => ∃ i : Nat, i ≤ k ∧ v5 = .string (str (Xm.rep Xm.aS i)) ∧ v6 = .string (str (Xm.rep Xm.aZ i)) ∧ v8 = .int .i64 (i : Int)) (fun _ _ v8 => k - (intOf v8).toNat)
  case atStart => exact ⟨0, Nat.zero_le _, rfl, rfl, rfl⟩
  case round =>
    obtain ⟨i, hi, rfl, rfl, rfl⟩ := hrel
    by_cases hik : i < k
    · have g1 : (i : Int) < (k : Int) := by omega
      have ei : IntKind.i64.wrap ((i : Int) + 1) = ((i + 1 : Nat) : Int) := (IntWalk.i64_in _ (by omega)).trans (by omega)
      have l1 : ¬ 9223372036854775807 < (str (Xm.rep Xm.aS i)).size + 3 := by rw [str_size, Xm.rep_len]; show ¬ _ < i * 3 + 3; omega
      have l2 : ¬ 9223372036854775807 < (str (Xm.rep Xm.aZ i)).size + 4 := by rw [str_size, Xm.rep_len]; show ¬ _ < i * 4 + 4; omega
      go_wp2
      go_round
      case rel => exact ⟨i + 1, by omega, by rw [Xm.deep_step], by rw [Xm.end_step], by first | rfl | go_num | (rw [ei])⟩
      case measure => simp only [intOf]; omega
    · obtain rfl : i = k := by omega
      have g1 : ¬ (i : Int) < (i : Int) := by omega
      go_upto_region 9 with fail
      go_loop [7, 9] (fun v7 v9 => ∃ j : Nat, j ≤ m ∧ v7 = .string (str (Xm.rS ++ Xm.rep Xm.aE j)) ∧ v9 = .int .i64 (j : Int)) (fun _ v9 => m - (intOf v9).toNat)
      case atStart => exact ⟨0, Nat.zero_le _, rfl, rfl⟩
      case round =>
        obtain ⟨j, hj, rfl, rfl⟩ := hrel
        by_cases hjm : j < m
        · have g2 : (j : Int) < (m : Int) := by omega
          have ej : IntKind.i64.wrap ((j : Int) + 1) = ((j + 1 : Nat) : Int) := (IntWalk.i64_in _ (by omega)).trans (by omega)
          have l1 : ¬ 9223372036854775807 < (str (Xm.rS ++ Xm.rep Xm.aE j)).size + 4 := by rw [str_size, List.length_append, Xm.rep_len]; show ¬ _ < 3 + j * 4 + 4; omega
          go_wp2
          go_round
          case rel => exact ⟨j + 1, by omega, by rw [Xm.many_step], by first | rfl | go_num | (rw [ej])⟩
          case measure => simp only [intOf]; omega
        · obtain rfl : j = m := by omega
          have g2 : ¬ (j : Int) < (j : Int) := by omega
          have l1 : ¬ 9223372036854775807 < (str (Xm.rep Xm.aS i)).size + (str (Xm.rep Xm.aZ i)).size := by rw [str_size, str_size, Xm.rep_len, Xm.rep_len]; show ¬ _ < i * 3 + i * 4; omega
          have l2 : ¬ 9223372036854775807 < (str (Xm.rS ++ Xm.rep Xm.aE j)).size + 4 := by rw [str_size, List.length_append, Xm.rep_len]; show ¬ _ < 3 + j * 4 + 4; omega
          go_upto_region 13 with (go_at_call 19; rw [Xm.deep_join]; refine (deep_res i (by omega) (by omega) w HT.out HM.out).mono ?_; rintro e w1 ⟨hg1, u0, u1, u4, a1, a2, p1, p2, c1, c2, at1, er1, rfl, hc1⟩)
          have X2 : Hid (Xm.RowN (w1.alloc (.cells #[.string u0, .string u1, .slice a1 p1 c1, .slice a2 p2 c2, .string u4] 47)) w1.heap.size #[.string u0, .string u1, .slice a1 p1 c1, .slice a2 p2 c2, .string u4]) := Lib.hid (heap_alloc_new _ _)
          have g3 := Flow.grow_alloc w1 (.cells #[.string u0, .string u1, .slice a1 p1 c1, .slice a2 p2 c2, .string u4] 47)
          have G2 := Lib.hid (hg1.trans g3)
          have C2 : Hid ((er1 = 0 ∧ i ≤ 32 ∧ Xm.NodAt (fun _ => True) (w1.alloc (.cells #[.string u0, .string u1, .slice a1 p1 c1, .slice a2 p2 c2, .string u4] 47)) (.agg #[.string u0, .string u1, .slice a1 p1 c1, .slice a2 p2 c2, .string u4]) (Xm.deepN (i - 1))) ∨ (er1 = 4 ∧ at1 = 96 ∧ i = 33)) := Lib.hid (by
            rcases hc1 with ⟨x, y, F, h⟩ | h
            · exact .inl ⟨x, y, h.grow g3⟩
            · exact .inr h)
          obtain ⟨A, hA⟩ : ∃ A, A = w1.heap.size := ⟨_, rfl⟩
          rw [← hA] at X2 ⊢
          clear hA hg1 g3 hc1
          generalize w1.alloc (.cells #[.string u0, .string u1, .slice a1 p1 c1, .slice a2 p2 c2, .string u4] 47) = w2 at *
          go_upto_region 14 with (go_at_call 19; rw [Xm.many_join]; refine (many_res j (by omega) (by omega) w2 (HT.out.grow G2.out) (HM.out.grow G2.out)).mono ?_; rintro e w3 ⟨hg3, s0, s1, s4, b1, b2, q1, q2, d1, d2, at2, er2, rfl, hc2⟩)
          have Y4 : Hid (Xm.RowN (w3.alloc (.cells #[.string s0, .string s1, .slice b1 q1 d1, .slice b2 q2 d2, .string s4] 47)) w3.heap.size #[.string s0, .string s1, .slice b1 q1 d1, .slice b2 q2 d2, .string s4]) := Lib.hid (heap_alloc_new _ _)
          have g4 := Flow.grow_alloc w3 (.cells #[.string s0, .string s1, .slice b1 q1 d1, .slice b2 q2 d2, .string s4] 47)
          have G4 := Lib.hid ((G2.out.trans hg3).trans g4)
          have G24 := Lib.hid (hg3.trans g4)
          have X4 := Lib.hid (X2.out.grow G24.out)
          have C4 : Hid ((er2 = 0 ∧ j ≤ 1999 ∧ Xm.NodAt (fun _ => True) (w3.alloc (.cells #[.string s0, .string s1, .slice b1 q1 d1, .slice b2 q2 d2, .string s4] 47)) (.agg #[.string s0, .string s1, .slice b1 q1 d1, .slice b2 q2 d2, .string s4]) (Xm.manyN j)) ∨ (er2 = 5 ∧ at2 = 7999 ∧ j = 2000)) := Lib.hid (by
            rcases hc2 with ⟨x, y, F, h⟩ | h
            · exact .inl ⟨x, y, h.grow g4⟩
            · exact .inr h)
          obtain ⟨B, hB⟩ : ∃ B, B = w3.heap.size := ⟨_, rfl⟩
          rw [← hB] at Y4 ⊢
          clear hB hg3 g4 hc2
          generalize w3.alloc (.cells #[.string s0, .string s1, .slice b1 q1 d1, .slice b2 q2 d2, .string s4] 47) = w4 at *
          have T4 := Lib.hid (HT.out.grow G4.out)
          have M4 := Lib.hid (HM.out.grow G4.out)
          have ej : IntKind.i64.wrap ((j : Int) + 1) = (j : Int) + 1 := IntWalk.i64_in _ (by omega)
          rcases C2.out with ⟨rfl, q3, hn1⟩ | ⟨rfl, rfl, q3⟩ <;> rcases C4.out with ⟨rfl, q4, hn2⟩ | ⟨rfl, rfl, q4⟩ <;> clear C2 C4
          · have f1 : (i : Int) ≤ 32 := by omega
            have HD : Hid (∀ w5, Flow.Grow w4 w5 → Calls Tryd.prog 25 #[.agg #[.string u0, .string u1, .slice a1 p1 c1, .slice a2 p2 c2, .string u4]] w5 fun e w' => e = .returned (.int .i64 (i : Int)) ∧ Flow.Grow w5 w') := Lib.hid (fun w5 hg => by
              refine (depthN_any i _ _ _ w5 (by rw [Xm.deepN_cnt]; omega) (by omega) ((hn1.grow G24.out).grow hg)).mono ?_
              rintro e w6 ⟨rfl, hg6⟩
              exact ⟨by rw [Xm.deepN_dep, show i - 1 + 1 = i by omega], hg6⟩)
            have f2 : (j : Int) + 1 ≤ 2000 := by omega
            have HC : Hid (∀ w5, Flow.Grow w4 w5 → Calls Tryd.prog 24 #[.agg #[.string s0, .string s1, .slice b1 q1 d1, .slice b2 q2 d2, .string s4]] w5 fun e w' => e = .returned (.int .i64 ((j + 1 : Nat) : Int)) ∧ Flow.Grow w5 w') := Lib.hid (fun w5 hg => by
              refine (count_any (j + 1) _ _ _ w5 (by rw [Xm.manyN_cnt]; omega) (by omega) (hn2.grow hg)).mono ?_
              rintro e w6 ⟨rfl, hg6⟩
              exact ⟨by rw [Xm.manyN_cnt], hg6⟩)
            clear hn1 hn2
            go_wp2_with (first | (go_at_call 20; refine (awake6_T w4 T4.out M4.out).mono ?_; rintro e w5 ⟨rfl, hg5⟩; have X5 := X4.out.grow hg5; have Y5 := Y4.out.grow hg5; have x0 := (cell_of_row w5 A 0 _ _ _ X5).trans rfl; have x1 := (cell_of_row w5 A 1 _ _ _ X5).trans rfl; have x2 := (cell_of_row w5 A 2 _ _ _ X5).trans rfl; have x3 := (cell_of_row w5 A 3 _ _ _ X5).trans rfl; have x4 := (cell_of_row w5 A 4 _ _ _ X5).trans rfl; have y0 := (cell_of_row w5 B 0 _ _ _ Y5).trans rfl; have y1 := (cell_of_row w5 B 1 _ _ _ Y5).trans rfl; have y2 := (cell_of_row w5 B 2 _ _ _ Y5).trans rfl; have y3 := (cell_of_row w5 B 3 _ _ _ Y5).trans rfl; have y4 := (cell_of_row w5 B 4 _ _ _ Y5).trans rfl; clear X5 Y5; have G5 := Lib.hid (G4.out.trans hg5); have K5 := Lib.hid hg5; clear hg5) | (go_at_call 25; refine (HD.out w5 K5.out).mono ?_; rintro e w6 ⟨rfl, hg6⟩; have Y6 := Y4.out.grow (K5.out.trans hg6); have yy0 := (cell_of_row w6 B 0 _ _ _ Y6).trans rfl; have yy1 := (cell_of_row w6 B 1 _ _ _ Y6).trans rfl; have yy2 := (cell_of_row w6 B 2 _ _ _ Y6).trans rfl; have yy3 := (cell_of_row w6 B 3 _ _ _ Y6).trans rfl; have yy4 := (cell_of_row w6 B 4 _ _ _ Y6).trans rfl; clear Y6; have G6 := Lib.hid (G5.out.trans hg6); have K6 := Lib.hid (K5.out.trans hg6); clear hg6) | (go_at_call 24; refine (HC.out w6 K6.out).mono ?_; rintro e w7 ⟨rfl, hg7⟩; have G7 := Lib.hid (G6.out.trans hg7); clear hg7))
            go_ret
            exact ⟨rfl, G7.out⟩
          · have f1 : (i : Int) ≤ 32 := by omega
            have HD : Hid (∀ w5, Flow.Grow w4 w5 → Calls Tryd.prog 25 #[.agg #[.string u0, .string u1, .slice a1 p1 c1, .slice a2 p2 c2, .string u4]] w5 fun e w' => e = .returned (.int .i64 (i : Int)) ∧ Flow.Grow w5 w') := Lib.hid (fun w5 hg => by
              refine (depthN_any i _ _ _ w5 (by rw [Xm.deepN_cnt]; omega) (by omega) ((hn1.grow G24.out).grow hg)).mono ?_
              rintro e w6 ⟨rfl, hg6⟩
              exact ⟨by rw [Xm.deepN_dep, show i - 1 + 1 = i by omega], hg6⟩)
            have f2 : ¬ (j : Int) + 1 ≤ 2000 := by omega
            clear hn1
            go_wp2_with (first | (go_at_call 20; refine (awake6_T w4 T4.out M4.out).mono ?_; rintro e w5 ⟨rfl, hg5⟩; have X5 := X4.out.grow hg5; have Y5 := Y4.out.grow hg5; have x0 := (cell_of_row w5 A 0 _ _ _ X5).trans rfl; have x1 := (cell_of_row w5 A 1 _ _ _ X5).trans rfl; have x2 := (cell_of_row w5 A 2 _ _ _ X5).trans rfl; have x3 := (cell_of_row w5 A 3 _ _ _ X5).trans rfl; have x4 := (cell_of_row w5 A 4 _ _ _ X5).trans rfl; have y0 := (cell_of_row w5 B 0 _ _ _ Y5).trans rfl; have y1 := (cell_of_row w5 B 1 _ _ _ Y5).trans rfl; have y2 := (cell_of_row w5 B 2 _ _ _ Y5).trans rfl; have y3 := (cell_of_row w5 B 3 _ _ _ Y5).trans rfl; have y4 := (cell_of_row w5 B 4 _ _ _ Y5).trans rfl; clear X5 Y5; have G5 := Lib.hid (G4.out.trans hg5); have K5 := Lib.hid hg5; clear hg5) | (go_at_call 25; refine (HD.out w5 K5.out).mono ?_; rintro e w6 ⟨rfl, hg6⟩; have Y6 := Y4.out.grow (K5.out.trans hg6); have yy0 := (cell_of_row w6 B 0 _ _ _ Y6).trans rfl; have yy1 := (cell_of_row w6 B 1 _ _ _ Y6).trans rfl; have yy2 := (cell_of_row w6 B 2 _ _ _ Y6).trans rfl; have yy3 := (cell_of_row w6 B 3 _ _ _ Y6).trans rfl; have yy4 := (cell_of_row w6 B 4 _ _ _ Y6).trans rfl; clear Y6; have G6 := Lib.hid (G5.out.trans hg6); have K6 := Lib.hid (K5.out.trans hg6); clear hg6))
            go_ret
            exact ⟨rfl, G6.out⟩
          · have f1 : ¬ (i : Int) ≤ 32 := by omega
            have f2 : (j : Int) + 1 ≤ 2000 := by omega
            have HC : Hid (∀ w5, Flow.Grow w4 w5 → Calls Tryd.prog 24 #[.agg #[.string s0, .string s1, .slice b1 q1 d1, .slice b2 q2 d2, .string s4]] w5 fun e w' => e = .returned (.int .i64 ((j + 1 : Nat) : Int)) ∧ Flow.Grow w5 w') := Lib.hid (fun w5 hg => by
              refine (count_any (j + 1) _ _ _ w5 (by rw [Xm.manyN_cnt]; omega) (by omega) (hn2.grow hg)).mono ?_
              rintro e w6 ⟨rfl, hg6⟩
              exact ⟨by rw [Xm.manyN_cnt], hg6⟩)
            clear hn2
            go_wp2_with (first | (go_at_call 20; refine (awake6_T w4 T4.out M4.out).mono ?_; rintro e w5 ⟨rfl, hg5⟩; have X5 := X4.out.grow hg5; have Y5 := Y4.out.grow hg5; have x0 := (cell_of_row w5 A 0 _ _ _ X5).trans rfl; have x1 := (cell_of_row w5 A 1 _ _ _ X5).trans rfl; have x2 := (cell_of_row w5 A 2 _ _ _ X5).trans rfl; have x3 := (cell_of_row w5 A 3 _ _ _ X5).trans rfl; have x4 := (cell_of_row w5 A 4 _ _ _ X5).trans rfl; have y0 := (cell_of_row w5 B 0 _ _ _ Y5).trans rfl; have y1 := (cell_of_row w5 B 1 _ _ _ Y5).trans rfl; have y2 := (cell_of_row w5 B 2 _ _ _ Y5).trans rfl; have y3 := (cell_of_row w5 B 3 _ _ _ Y5).trans rfl; have y4 := (cell_of_row w5 B 4 _ _ _ Y5).trans rfl; clear X5 Y5; have G5 := Lib.hid (G4.out.trans hg5); have K5 := Lib.hid hg5; clear hg5) | (go_at_call 24; refine (HC.out w5 K5.out).mono ?_; rintro e w7 ⟨rfl, hg7⟩; have G7 := Lib.hid (G5.out.trans hg7); clear hg7))
            go_ret
            exact ⟨rfl, G7.out⟩
          · have f1 : ¬ (i : Int) ≤ 32 := by omega
            have f2 : ¬ (j : Int) + 1 ≤ 2000 := by omega
            go_wp2_with (first | (go_at_call 20; refine (awake6_T w4 T4.out M4.out).mono ?_; rintro e w5 ⟨rfl, hg5⟩; have X5 := X4.out.grow hg5; have Y5 := Y4.out.grow hg5; have x0 := (cell_of_row w5 A 0 _ _ _ X5).trans rfl; have x1 := (cell_of_row w5 A 1 _ _ _ X5).trans rfl; have x2 := (cell_of_row w5 A 2 _ _ _ X5).trans rfl; have x3 := (cell_of_row w5 A 3 _ _ _ X5).trans rfl; have x4 := (cell_of_row w5 A 4 _ _ _ X5).trans rfl; have y0 := (cell_of_row w5 B 0 _ _ _ Y5).trans rfl; have y1 := (cell_of_row w5 B 1 _ _ _ Y5).trans rfl; have y2 := (cell_of_row w5 B 2 _ _ _ Y5).trans rfl; have y3 := (cell_of_row w5 B 3 _ _ _ Y5).trans rfl; have y4 := (cell_of_row w5 B 4 _ _ _ Y5).trans rfl; clear X5 Y5; have G5 := Lib.hid (G4.out.trans hg5); have K5 := Lib.hid hg5; clear hg5))
            go_ret
            exact ⟨rfl, G5.out⟩
end Go.Proofs.YtfkdjdmbgednkaaDoor

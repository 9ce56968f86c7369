/- galliardlaw25.CodecNumbers returns true: the walk. -/
import Derived.Test.YtjapakmpnkbemaaLaw25a
import Derived.Test.YtjapakmpnkbemaaNum2
import Derived.Deep.DeepCutAuto
namespace Go.Proofs.Ytjapakmpnkbemaa
open Go.RowKit

theorem vint_len10 {k : Nat} (h : k < 9223372036854775808) : (Num.vint k).length ≤ 9 := Num.vint_len_le 8 k (by omega)

theorem num_calls (k : Nat) (hk : k < 2 ^ 63) (w : World) :
    Calls Try.prog 10 #[.int .i64 k] w fun e w' => e = .returned (.string (str (Num.vint k))) ∧ Flow.Grow w w' :=
  num_any 8 k (by omega) hk w

set_option maxRecDepth 100000 in
set_option maxHeartbeats 1000000 in
theorem numbers_walk (n : Int) (ao : Option Addr) (len cap : Nat) (w : World) (hcap : len ≤ cap) (hcm : cap ≤ 9223372036854775807)
    (hb : ∀ T, T ≤ 6 → T ≤ len → ∃ tb, Bytes w (.slice ao T cap) tb) :
    Calls Try.prog 3 #[.int .i64 n, .slice ao len cap] w fun e w' => e = .returned (.bool true) ∧ Flow.Grow w w' := by
  obtain ⟨k, hk⟩ : ∃ k : Nat, bits .and .i64 n 2147483647 = (k : Int) ∧ k < 2147483648 := by
    have h := Bits.i64_mask n 31 (by omega) 2147483647 (by decide)
    have h1 : (2 : Int) ^ 31 = 2147483648 := by decide
    rw [h1] at h
    exact ⟨(n % 2147483648).toNat, by rw [h]; omega, by omega⟩
  obtain ⟨hk, hk31⟩ := hk
  have Hb := Lib.hid hb
  clear hb
  obtain ⟨i0, hi, hz0, hz1, hz2⟩ := info_parts info_u8
  go_enter Try.func3, Try.ntmps3
  go_upto_region 2 with fail
  go_cut [6] (fun s wx => ∃ T : Nat, T ≤ 6 ∧ T ≤ len ∧ s = .slice ao T cap ∧ wx = w)
  case first =>
    by_cases h6 : len ≤ 6
    · go_wp2_with fail
      go_meet
      case rel => exact ⟨len, h6, Nat.le_refl _, rfl, rfl⟩
    · go_wp2_with fail
      go_meet
      case rel => exact ⟨6, Nat.le_refl _, by omega, rfl, rfl⟩
  case rest =>
    obtain ⟨T, hT6, hTl, rfl, rfl⟩ := hcut
    obtain ⟨tb, hbt⟩ := Hb.out T hT6 hTl
    clear Hb
    have HT := Lib.hid hbt.len.1
    go_wp2_with fail
    refine (put_nil k _ (by omega)).mono ?_
    rintro e w1 ⟨v1, rfl, ⟨hown1, hb1, hf1⟩, hg1⟩
    rw [Int.toNat_natCast] at hown1 hb1
    have hbt1 := hbt.grow hg1
    have hkl := vint_len10 (k := k) (by omega)
    go_wp2_with (at_builtin; refine wpList_append_put _ rfl _ _ 22 rfl 5 i0 (.int .u8 0) 1 1 Try.underlying22 hi hz0 hz1 hz2 rfl (by decide) _ _ _ rfl hown1 ao T cap (tb.map u8v) rfl ?d1 hbt1.ifNone hbt1.cells ?d2 ?d3 ?d4 ?_)
    case d1 => rw [HT.out]; simp
    case d2 => intro u hu; obtain ⟨_, _, rfl⟩ := List.mem_map.1 hu; rfl
    case d3 => unfold maxLen; omega
    case d4 => omega
    intro v2 w2 hown2 hgr2 _ _
    have hg2 : Flow.Grow wc w2 := grow_fresh hg1 hf1 hgr2
    have hb2 : Bytes w2 v2 (Num.vint k ++ tb) := Bytes.of_own (by rw [List.map_append]; exact hown2) (by have := hbt.len; simp; omega)
    clear hown1 hb1 hf1 hgr2 hg1 hown2 hbt1
    have Hg1 := Lib.hid (Num.get_vint tb hk31)
    go_wp2_with fail
    refine (get_any hb2).mono ?_
    rintro e w3 ⟨rfl, rfl⟩
    rw [Hg1.out]
    clear hb2 Hg1
    have hbt2 := hbt.grow hg2
    go_wp2_with fail
    refine (get_any hbt2).mono ?_
    rintro e w3 ⟨rfl, rfl⟩
    go_wp2_with fail
    refine (put_nil _ _ (by omega)).mono ?_
    rintro e w4 ⟨v4, rfl, ⟨_, hb4, _⟩, hg4⟩
    rw [show ((2147483648 : Int) + (k : Int)).toNat = 2147483648 + k by omega] at hb4
    go_wp2_with fail
    refine (get_any hb4).mono ?_
    rintro e w5 ⟨rfl, rfl⟩
    rw [Num.get_big (by omega)]
    have hg := hg2.trans hg4
    have hbt4 := hbt2.grow hg4
    clear hb4 hg4 hg2 hbt2 hbt
    go_upto_region 6 with fail
    rcases Num.get_sound tb with h | ⟨m, h, hm31, hmlen, hmt⟩
    · rw [h]
      refine Flow.region_grown (Fs := [.inl (.bool true), .inl (.bool true), .inr (fun v w => Full v 1 ∧ w.ownsRow 0 5 1 v 1 (([9] : List UInt8).map u8v)), .inl (.int .i64 (k : Int)), .inr (fun v w => Bytes w v ([9] ++ Num.vint k)), .inl (.string (str ([9] ++ Num.vint k))), .inl (.int .i64 (k : Int)), .inl (.string (str (Num.vint k))), .inl (.string (str ([9] ++ Num.vint k))), .inl (.bool true), .inl (.bool true), .inl (.bool true), .inl (.int .i64 (k : Int)), .inl (.int .i64 (k : Int)), .inl (.bool true), .inl (.bool true), .inl (.bool true), .inl (.int .i64 ((Num.vint k).length : Int)), .inl (.int .i64 (k : Int)), .inl (.string (str (Num.vint k))), .inl (.int .i64 ((Num.vint k).length : Int)), .inl (.bool true), .inl (.bool true), .inl (.bool true), .inl (.int .i64 0), .inl (.bool true), .inl (.bool true), .inl (.int .i64 0), .inl (.bool true), .inl (.bool true), .inl (.bool true), .inl (undef), .inl (undef), .inl (undef), .inl (undef), .inl (undef), .inl (undef), .inl (undef), .inl (undef), .inl (undef), .inl (undef), .inl (undef), .inl ((Value.bool true)), .inl ((Value.bool true)), .inl ((Value.bool true)), .inl (.int .i64 0), .inl (.bool true), .inl (.bool true), .inl (.bool true), .inl (.int .i64 0), .inl (.bool true), .inl (.bool true), .inl (.bool true), .inl (.int .i64 (k : Int)), .inl (.int .i64 (-1 - (k : Int))), .inr (fun v w => Bytes w v [0]), .inl (.string (str [0])), .inl (.bool true), .inl (.bool true), .inl (.bool true)])
        (S := [[], [0], [1], [1], [2, 3, 1], [4, 1], [1], [6, 1], [7, 1], [5, 8, 1], [1, 9], [10], [11], [11], [12, 13, 11], [11, 14], [15], [16], [16], [18, 16], [19, 16], [17, 20, 16], [16, 21], [22], [23], [24, 23], [25, 23], [26], [27, 26], [26, 28, 23], [29, 23], [30], [31, 30], [32, 30], [33], [34, 33], [33], [33], [36, 37, 33], [38, 33], [35, 39, 33], [33, 40, 30], [30, 41, 23], [23, 42], [43], [44], [45, 44], [44, 46], [47], [48], [49, 48], [48, 50], [51], [52], [53, 52], [54, 52], [55, 52], [56, 52], [52, 57], [58]]) (by kernel_rfl) (by kernel_rfl) (by kernel_rfl) rfl ?stab6 ?ones6 ?ends6
      case ones6 =>
        refine Flow.Ones.cons ?_ ?_
        · intro a w hC hoff _
          refine .inl ⟨Flow.want_none rfl, ?_⟩
          exact Flow.run_call (Flow.exec_call (args := #[]) rfl Try.func9 (by kernel_rfl) (by kernel_rfl) (by simp only [List.map_toArray, List.map_nil])) ((awake25 _).mono fun e w' ⟨he, hg⟩ => ⟨_, he, hg, rfl⟩)
        refine Flow.Ones.cons ?_ ?_
        · rintro a w hC hoff ⟨k0, -⟩
          have e40 : a.eval (.tmp 40) = .bool true := k0 40 rfl
          refine .inl ⟨Flow.want_none rfl, ?_⟩
          exact Flow.run_same (Flow.exec_move (.inl rfl) e40) Flow.grow_refl
        refine Flow.Ones.cons ?_ ?_
        · rintro a w hC hoff ⟨k1, -⟩
          have e41 : a.eval (.tmp 41) = .bool true := k1 41 rfl
          refine .inl ⟨Flow.want_yes rfl rfl e41, ?_⟩
          have ec := Flow.eval_const a
          refine Flow.run_val (v := .slice (some ⟨w.heap.size, 0, none⟩) 1 1) (w' := w.alloc (.cells #[u8v 9] 5)) ?_ (Flow.grow_alloc _ _) ⟨.inr ⟨_, rfl⟩, World.ownsRow_lit (e := 5) w #[_] 1 (Nat.zero_le _) (by decide) rfl⟩
          generalize a.eval = ρ at ec ⊢
          simp [execOp, ec, u8v, go_sem]
        refine Flow.Ones.cons ?_ ?_
        · rintro a w hC hoff ⟨k1, -⟩
          have e41 : a.eval (.tmp 41) = .bool true := k1 41 rfl
          have e5 : a.eval (.tmp 5) = .int .i64 (k : Int) := hoff.at 5 (by kernel_rfl)
          refine .inl ⟨Flow.want_yes rfl rfl e41, ?_⟩
          exact Flow.run_same (Flow.exec_move (.inl rfl) e5) Flow.grow_refl
        refine Flow.Ones.cons ?_ ?_
        · rintro a w hC hoff ⟨k2, k3, k1, -⟩
          have e42 : (fun v w => Full v 1 ∧ w.ownsRow 0 5 1 v 1 (([9] : List UInt8).map u8v)) (a.eval (.tmp 42)) w := k2 42 rfl
          have e43 : a.eval (.tmp 43) = .int .i64 (k : Int) := k3 43 rfl
          have e41 : a.eval (.tmp 41) = .bool true := k1 41 rfl
          refine .inl ⟨Flow.want_yes rfl rfl e41, ?_⟩
          exact Flow.run_call (Flow.exec_call (args := #[a.eval (.tmp 42), (.int .i64 (k : Int))]) rfl Try.func8 (by kernel_rfl) (by kernel_rfl) (by simp only [List.map_toArray, List.map_cons, List.map_nil, e43] <;> rfl)) ((put_new _ 1 [9] k w (by omega) (by omega) e42.1 e42.2).mono fun e w' ⟨v', he, ⟨_, hb, _⟩, hg⟩ => ⟨v', he, hg, by rw [Int.toNat_natCast] at hb; exact hb⟩)
        refine Flow.Ones.cons ?_ ?_
        · rintro a w hC hoff ⟨k4, k1, -⟩
          have e44 : (fun v w => Bytes w v ([9] ++ Num.vint k)) (a.eval (.tmp 44)) w := k4 44 rfl
          have e41 : a.eval (.tmp 41) = .bool true := k1 41 rfl
          refine .inl ⟨Flow.want_yes rfl rfl e41, ?_⟩
          exact Flow.run_same (exec_str 5 rfl rfl e44 Try.underlying22 Try.underlying5 Try.underlying9) Flow.grow_refl
        refine Flow.Ones.cons ?_ ?_
        · rintro a w hC hoff ⟨k1, -⟩
          have e41 : a.eval (.tmp 41) = .bool true := k1 41 rfl
          have e5 : a.eval (.tmp 5) = .int .i64 (k : Int) := hoff.at 5 (by kernel_rfl)
          refine .inl ⟨Flow.want_yes rfl rfl e41, ?_⟩
          exact Flow.run_same (Flow.exec_move (.inl rfl) e5) Flow.grow_refl
        refine Flow.Ones.cons ?_ ?_
        · rintro a w hC hoff ⟨k6, k1, -⟩
          have e46 : a.eval (.tmp 46) = .int .i64 (k : Int) := k6 46 rfl
          have e41 : a.eval (.tmp 41) = .bool true := k1 41 rfl
          refine .inl ⟨Flow.want_yes rfl rfl e41, ?_⟩
          exact Flow.run_call (Flow.exec_call (args := #[(.int .i64 (k : Int))]) rfl Try.func10 (by kernel_rfl) (by kernel_rfl) (by simp only [List.map_toArray, List.map_cons, List.map_nil, e46] <;> rfl)) ((num_calls k (by omega) _).mono fun e w' ⟨he, hg⟩ => ⟨_, he, hg, rfl⟩)
        refine Flow.Ones.cons ?_ ?_
        · rintro a w hC hoff ⟨k7, k1, -⟩
          have e47 : a.eval (.tmp 47) = .string (str (Num.vint k)) := k7 47 rfl
          have e41 : a.eval (.tmp 41) = .bool true := k1 41 rfl
          refine .inl ⟨Flow.want_yes rfl rfl e41, ?_⟩
          exact Flow.run_same (exec_add_str Try.underlying9 rfl (a := [9]) rfl e47 rfl (by simp; omega)) Flow.grow_refl
        refine Flow.Ones.cons ?_ ?_
        · rintro a w hC hoff ⟨k5, k8, k1, -⟩
          have e45 : a.eval (.tmp 45) = .string (str ([9] ++ Num.vint k)) := k5 45 rfl
          have e48 : a.eval (.tmp 48) = .string (str ([9] ++ Num.vint k)) := k8 48 rfl
          have e41 : a.eval (.tmp 41) = .bool true := k1 41 rfl
          refine .inl ⟨Flow.want_yes rfl rfl e41, ?_⟩
          exact Flow.run_same (exec_eq_str Try.underlying9 rfl e45 e48 (by simp)) Flow.grow_refl
        refine Flow.Ones.cons ?_ ?_
        · rintro a w hC hoff ⟨k1, k9, -⟩
          have e41 : a.eval (.tmp 41) = .bool true := k1 41 rfl
          have e49 : a.eval (.tmp 49) = .bool true := k9 49 rfl
          refine .inl ⟨Flow.want_none rfl, ?_⟩
          exact Flow.run_same (Flow.exec_pick_yes rfl e41 e49) Flow.grow_refl
        refine Flow.Ones.cons ?_ ?_
        · rintro a w hC hoff ⟨k10, -⟩
          have e50 : a.eval (.tmp 50) = .bool true := k10 50 rfl
          refine .inl ⟨Flow.want_none rfl, ?_⟩
          exact Flow.run_same (Flow.exec_move (.inl rfl) e50) Flow.grow_refl
        refine Flow.Ones.cons ?_ ?_
        · rintro a w hC hoff ⟨k11, -⟩
          have e51 : a.eval (.tmp 51) = .bool true := k11 51 rfl
          have e7 : a.eval (.tmp 7) = .int .i64 (k : Int) := hoff.at 7 (by kernel_rfl)
          refine .inl ⟨Flow.want_yes rfl rfl e51, ?_⟩
          exact Flow.run_same (Flow.exec_move (.inl rfl) e7) Flow.grow_refl
        refine Flow.Ones.cons ?_ ?_
        · rintro a w hC hoff ⟨k11, -⟩
          have e51 : a.eval (.tmp 51) = .bool true := k11 51 rfl
          have e5 : a.eval (.tmp 5) = .int .i64 (k : Int) := hoff.at 5 (by kernel_rfl)
          refine .inl ⟨Flow.want_yes rfl rfl e51, ?_⟩
          exact Flow.run_same (Flow.exec_move (.inl rfl) e5) Flow.grow_refl
        refine Flow.Ones.cons ?_ ?_
        · rintro a w hC hoff ⟨k12, k13, k11, -⟩
          have e52 : a.eval (.tmp 52) = .int .i64 (k : Int) := k12 52 rfl
          have e53 : a.eval (.tmp 53) = .int .i64 (k : Int) := k13 53 rfl
          have e51 : a.eval (.tmp 51) = .bool true := k11 51 rfl
          refine .inl ⟨Flow.want_yes rfl rfl e51, ?_⟩
          refine Flow.run_same ?_ Flow.grow_refl
          have ec := Flow.eval_const a
          generalize a.eval = ρ at e52 e53 ec ⊢
          simp [execOp, e52, e53, go_sem]
        refine Flow.Ones.cons ?_ ?_
        · rintro a w hC hoff ⟨k11, k14, -⟩
          have e51 : a.eval (.tmp 51) = .bool true := k11 51 rfl
          have e54 : a.eval (.tmp 54) = .bool true := k14 54 rfl
          refine .inl ⟨Flow.want_none rfl, ?_⟩
          exact Flow.run_same (Flow.exec_pick_yes rfl e51 e54) Flow.grow_refl
        refine Flow.Ones.cons ?_ ?_
        · rintro a w hC hoff ⟨k15, -⟩
          have e55 : a.eval (.tmp 55) = .bool true := k15 55 rfl
          refine .inl ⟨Flow.want_none rfl, ?_⟩
          exact Flow.run_same (Flow.exec_move (.inl rfl) e55) Flow.grow_refl
        refine Flow.Ones.cons ?_ ?_
        · rintro a w hC hoff ⟨k16, -⟩
          have e56 : a.eval (.tmp 56) = .bool true := k16 56 rfl
          have e8 : a.eval (.tmp 8) = .int .i64 ((Num.vint k).length : Int) := hoff.at 8 (by kernel_rfl)
          refine .inl ⟨Flow.want_yes rfl rfl e56, ?_⟩
          exact Flow.run_same (Flow.exec_move (.inl rfl) e8) Flow.grow_refl
        refine Flow.Ones.cons ?_ ?_
        · rintro a w hC hoff ⟨k16, -⟩
          have e56 : a.eval (.tmp 56) = .bool true := k16 56 rfl
          have e5 : a.eval (.tmp 5) = .int .i64 (k : Int) := hoff.at 5 (by kernel_rfl)
          refine .inl ⟨Flow.want_yes rfl rfl e56, ?_⟩
          exact Flow.run_same (Flow.exec_move (.inl rfl) e5) Flow.grow_refl
        refine Flow.Ones.cons ?_ ?_
        · rintro a w hC hoff ⟨k18, k16, -⟩
          have e58 : a.eval (.tmp 58) = .int .i64 (k : Int) := k18 58 rfl
          have e56 : a.eval (.tmp 56) = .bool true := k16 56 rfl
          refine .inl ⟨Flow.want_yes rfl rfl e56, ?_⟩
          exact Flow.run_call (Flow.exec_call (args := #[(.int .i64 (k : Int))]) rfl Try.func10 (by kernel_rfl) (by kernel_rfl) (by simp only [List.map_toArray, List.map_cons, List.map_nil, e58] <;> rfl)) ((num_calls k (by omega) _).mono fun e w' ⟨he, hg⟩ => ⟨_, he, hg, rfl⟩)
        refine Flow.Ones.cons ?_ ?_
        · rintro a w hC hoff ⟨k19, k16, -⟩
          have e59 : a.eval (.tmp 59) = .string (str (Num.vint k)) := k19 59 rfl
          have e56 : a.eval (.tmp 56) = .bool true := k16 56 rfl
          refine .inl ⟨Flow.want_yes rfl rfl e56, ?_⟩
          refine Flow.run_same ?_ Flow.grow_refl
          have ec := Flow.eval_const a
          generalize a.eval = ρ at e59 ec ⊢
          simp [e59, str_size, go_sem]
        refine Flow.Ones.cons ?_ ?_
        · rintro a w hC hoff ⟨k17, k20, k16, -⟩
          have e57 : a.eval (.tmp 57) = .int .i64 ((Num.vint k).length : Int) := k17 57 rfl
          have e60 : a.eval (.tmp 60) = .int .i64 ((Num.vint k).length : Int) := k20 60 rfl
          have e56 : a.eval (.tmp 56) = .bool true := k16 56 rfl
          refine .inl ⟨Flow.want_yes rfl rfl e56, ?_⟩
          refine Flow.run_same ?_ Flow.grow_refl
          have ec := Flow.eval_const a
          generalize a.eval = ρ at e57 e60 ec ⊢
          simp [execOp, e57, e60, go_sem]
        refine Flow.Ones.cons ?_ ?_
        · rintro a w hC hoff ⟨k16, k21, -⟩
          have e56 : a.eval (.tmp 56) = .bool true := k16 56 rfl
          have e61 : a.eval (.tmp 61) = .bool true := k21 61 rfl
          refine .inl ⟨Flow.want_none rfl, ?_⟩
          exact Flow.run_same (Flow.exec_pick_yes rfl e56 e61) Flow.grow_refl
        refine Flow.Ones.cons ?_ ?_
        · rintro a w hC hoff ⟨k22, -⟩
          have e62 : a.eval (.tmp 62) = .bool true := k22 62 rfl
          refine .inl ⟨Flow.want_none rfl, ?_⟩
          exact Flow.run_same (Flow.exec_move (.inl rfl) e62) Flow.grow_refl
        refine Flow.Ones.cons ?_ ?_
        · rintro a w hC hoff ⟨k23, -⟩
          have e63 : a.eval (.tmp 63) = .bool true := k23 63 rfl
          have e10 : a.eval (.tmp 10) = .int .i64 0 := hoff.at 10 (by kernel_rfl)
          refine .inl ⟨Flow.want_yes rfl rfl e63, ?_⟩
          exact Flow.run_same (Flow.exec_move (.inl rfl) e10) Flow.grow_refl
        refine Flow.Ones.cons ?_ ?_
        · rintro a w hC hoff ⟨k24, k23, -⟩
          have e64 : a.eval (.tmp 64) = .int .i64 0 := k24 64 rfl
          have e63 : a.eval (.tmp 63) = .bool true := k23 63 rfl
          refine .inl ⟨Flow.want_yes rfl rfl e63, ?_⟩
          refine Flow.run_same ?_ Flow.grow_refl
          have ec := Flow.eval_const a
          generalize a.eval = ρ at e64 ec ⊢
          simp [execOp, e64, ec, go_sem]
        refine Flow.Ones.cons ?_ ?_
        · rintro a w hC hoff ⟨k25, k23, -⟩
          have e65 : a.eval (.tmp 65) = .bool true := k25 65 rfl
          have e63 : a.eval (.tmp 63) = .bool true := k23 63 rfl
          refine .inl ⟨Flow.want_yes rfl rfl e63, ?_⟩
          exact Flow.run_same (Flow.exec_move (.inl rfl) e65) Flow.grow_refl
        refine Flow.Ones.cons ?_ ?_
        · rintro a w hC hoff ⟨k26, -⟩
          have e66 : a.eval (.tmp 66) = .bool true := k26 66 rfl
          have e9 : a.eval (.tmp 9) = .int .i64 0 := hoff.at 9 (by kernel_rfl)
          refine .inl ⟨Flow.want_yes rfl rfl e66, ?_⟩
          exact Flow.run_same (Flow.exec_move (.inl rfl) e9) Flow.grow_refl
        refine Flow.Ones.cons ?_ ?_
        · rintro a w hC hoff ⟨k27, k26, -⟩
          have e67 : a.eval (.tmp 67) = .int .i64 0 := k27 67 rfl
          have e66 : a.eval (.tmp 66) = .bool true := k26 66 rfl
          refine .inl ⟨Flow.want_yes rfl rfl e66, ?_⟩
          refine Flow.run_same ?_ Flow.grow_refl
          have ec := Flow.eval_const a
          generalize a.eval = ρ at e67 ec ⊢
          simp [execOp, e67, ec, go_sem]
        refine Flow.Ones.cons ?_ ?_
        · rintro a w hC hoff ⟨k26, k28, k23, -⟩
          have e66 : a.eval (.tmp 66) = .bool true := k26 66 rfl
          have e68 : a.eval (.tmp 68) = .bool true := k28 68 rfl
          have e63 : a.eval (.tmp 63) = .bool true := k23 63 rfl
          refine .inl ⟨Flow.want_yes rfl rfl e63, ?_⟩
          exact Flow.run_same (Flow.exec_pick_yes rfl e66 e68) Flow.grow_refl
        refine Flow.Ones.cons ?_ ?_
        · rintro a w hC hoff ⟨k29, k23, -⟩
          have e69 : a.eval (.tmp 69) = .bool true := k29 69 rfl
          have e63 : a.eval (.tmp 63) = .bool true := k23 63 rfl
          refine .inl ⟨Flow.want_yes rfl rfl e63, ?_⟩
          exact Flow.run_same (Flow.exec_move (.inl rfl) e69) Flow.grow_refl
        refine Flow.Ones.cons ?_ ?_
        · rintro a w hC hoff ⟨k30, -⟩
          have e70 : a.eval (.tmp 70) = .bool true := k30 70 rfl
          have e10 : a.eval (.tmp 10) = .int .i64 0 := hoff.at 10 (by kernel_rfl)
          exact .inr ⟨Flow.want_no rfl rfl e70, rfl⟩
        refine Flow.Ones.cons ?_ ?_
        · rintro a w hC hoff ⟨k31, k30, -⟩
          have e71 : a.eval (.tmp 71) = undef := k31 71 rfl
          have e70 : a.eval (.tmp 70) = .bool true := k30 70 rfl
          exact .inr ⟨Flow.want_no rfl rfl e70, rfl⟩
        refine Flow.Ones.cons ?_ ?_
        · rintro a w hC hoff ⟨k32, k30, -⟩
          have e72 : a.eval (.tmp 72) = undef := k32 72 rfl
          have e70 : a.eval (.tmp 70) = .bool true := k30 70 rfl
          exact .inr ⟨Flow.want_no rfl rfl e70, rfl⟩
        refine Flow.Ones.cons ?_ ?_
        · rintro a w hC hoff ⟨k33, -⟩
          have e73 : a.eval (.tmp 73) = undef := k33 73 rfl
          have e9 : a.eval (.tmp 9) = .int .i64 0 := hoff.at 9 (by kernel_rfl)
          exact .inr ⟨Flow.want_undef rfl rfl e73, rfl⟩
        refine Flow.Ones.cons ?_ ?_
        · rintro a w hC hoff ⟨k34, k33, -⟩
          have e74 : a.eval (.tmp 74) = undef := k34 74 rfl
          have e73 : a.eval (.tmp 73) = undef := k33 73 rfl
          exact .inr ⟨Flow.want_undef rfl rfl e73, rfl⟩
        refine Flow.Ones.cons ?_ ?_
        · rintro a w hC hoff ⟨k33, -⟩
          have e73 : a.eval (.tmp 73) = undef := k33 73 rfl
          have e6 : a.eval (.tmp 6) = .slice ao T cap := hoff.at 6 (by kernel_rfl)
          exact .inr ⟨Flow.want_undef rfl rfl e73, rfl⟩
        refine Flow.Ones.cons ?_ ?_
        · rintro a w hC hoff ⟨k33, -⟩
          have e73 : a.eval (.tmp 73) = undef := k33 73 rfl
          have e10 : a.eval (.tmp 10) = .int .i64 0 := hoff.at 10 (by kernel_rfl)
          exact .inr ⟨Flow.want_undef rfl rfl e73, rfl⟩
        refine Flow.Ones.cons ?_ ?_
        · rintro a w hC hoff ⟨k36, k37, k33, -⟩
          have e76 : a.eval (.tmp 76) = undef := k36 76 rfl
          have e77 : a.eval (.tmp 77) = undef := k37 77 rfl
          have e73 : a.eval (.tmp 73) = undef := k33 73 rfl
          exact .inr ⟨Flow.want_undef rfl rfl e73, rfl⟩
        refine Flow.Ones.cons ?_ ?_
        · rintro a w hC hoff ⟨k38, k33, -⟩
          have e78 : a.eval (.tmp 78) = undef := k38 78 rfl
          have e73 : a.eval (.tmp 73) = undef := k33 73 rfl
          exact .inr ⟨Flow.want_undef rfl rfl e73, rfl⟩
        refine Flow.Ones.cons ?_ ?_
        · rintro a w hC hoff ⟨k35, k39, k33, -⟩
          have e75 : a.eval (.tmp 75) = undef := k35 75 rfl
          have e79 : a.eval (.tmp 79) = undef := k39 79 rfl
          have e73 : a.eval (.tmp 73) = undef := k33 73 rfl
          exact .inr ⟨Flow.want_undef rfl rfl e73, rfl⟩
        refine Flow.Ones.cons ?_ ?_
        · rintro a w hC hoff ⟨k33, k40, k30, -⟩
          have e73 : a.eval (.tmp 73) = undef := k33 73 rfl
          have e80 : a.eval (.tmp 80) = undef := k40 80 rfl
          have e70 : a.eval (.tmp 70) = .bool true := k30 70 rfl
          exact .inr ⟨Flow.want_no rfl rfl e70, rfl⟩
        refine Flow.Ones.cons ?_ ?_
        · rintro a w hC hoff ⟨k30, k41, k23, -⟩
          have e70 : a.eval (.tmp 70) = .bool true := k30 70 rfl
          have e81 : a.eval (.tmp 81) = undef := k41 81 rfl
          have e63 : a.eval (.tmp 63) = .bool true := k23 63 rfl
          refine .inl ⟨Flow.want_yes rfl rfl e63, ?_⟩
          exact Flow.run_same (Flow.exec_pick_yes rfl e70 rfl) Flow.grow_refl
        refine Flow.Ones.cons ?_ ?_
        · rintro a w hC hoff ⟨k23, k42, -⟩
          have e63 : a.eval (.tmp 63) = .bool true := k23 63 rfl
          have e82 : a.eval (.tmp 82) = (Value.bool true) := k42 82 rfl
          refine .inl ⟨Flow.want_none rfl, ?_⟩
          exact Flow.run_same (Flow.exec_pick_yes rfl e63 e82) Flow.grow_refl
        refine Flow.Ones.cons ?_ ?_
        · rintro a w hC hoff ⟨k43, -⟩
          have e83 : a.eval (.tmp 83) = (Value.bool true) := k43 83 rfl
          refine .inl ⟨Flow.want_none rfl, ?_⟩
          exact Flow.run_same (Flow.exec_move (.inl rfl) e83) Flow.grow_refl
        refine Flow.Ones.cons ?_ ?_
        · rintro a w hC hoff ⟨k44, -⟩
          have e84 : a.eval (.tmp 84) = (Value.bool true) := k44 84 rfl
          have e11 : a.eval (.tmp 11) = .int .i64 0 := hoff.at 11 (by kernel_rfl)
          refine .inl ⟨Flow.want_yes rfl rfl e84, ?_⟩
          exact Flow.run_same (Flow.exec_move (.inl rfl) e11) Flow.grow_refl
        refine Flow.Ones.cons ?_ ?_
        · rintro a w hC hoff ⟨k45, k44, -⟩
          have e85 : a.eval (.tmp 85) = .int .i64 0 := k45 85 rfl
          have e84 : a.eval (.tmp 84) = (Value.bool true) := k44 84 rfl
          refine .inl ⟨Flow.want_yes rfl rfl e84, ?_⟩
          refine Flow.run_same ?_ Flow.grow_refl
          have ec := Flow.eval_const a
          generalize a.eval = ρ at e85 ec ⊢
          simp [execOp, e85, ec, go_sem]
        refine Flow.Ones.cons ?_ ?_
        · rintro a w hC hoff ⟨k44, k46, -⟩
          have e84 : a.eval (.tmp 84) = (Value.bool true) := k44 84 rfl
          have e86 : a.eval (.tmp 86) = .bool true := k46 86 rfl
          refine .inl ⟨Flow.want_none rfl, ?_⟩
          exact Flow.run_same (Flow.exec_pick_yes rfl e84 e86) Flow.grow_refl
        refine Flow.Ones.cons ?_ ?_
        · rintro a w hC hoff ⟨k47, -⟩
          have e87 : a.eval (.tmp 87) = .bool true := k47 87 rfl
          refine .inl ⟨Flow.want_none rfl, ?_⟩
          exact Flow.run_same (Flow.exec_move (.inl rfl) e87) Flow.grow_refl
        refine Flow.Ones.cons ?_ ?_
        · rintro a w hC hoff ⟨k48, -⟩
          have e88 : a.eval (.tmp 88) = .bool true := k48 88 rfl
          have e12 : a.eval (.tmp 12) = .int .i64 0 := hoff.at 12 (by kernel_rfl)
          refine .inl ⟨Flow.want_yes rfl rfl e88, ?_⟩
          exact Flow.run_same (Flow.exec_move (.inl rfl) e12) Flow.grow_refl
        refine Flow.Ones.cons ?_ ?_
        · rintro a w hC hoff ⟨k49, k48, -⟩
          have e89 : a.eval (.tmp 89) = .int .i64 0 := k49 89 rfl
          have e88 : a.eval (.tmp 88) = .bool true := k48 88 rfl
          refine .inl ⟨Flow.want_yes rfl rfl e88, ?_⟩
          refine Flow.run_same ?_ Flow.grow_refl
          have ec := Flow.eval_const a
          generalize a.eval = ρ at e89 ec ⊢
          simp [execOp, e89, ec, go_sem]
        refine Flow.Ones.cons ?_ ?_
        · rintro a w hC hoff ⟨k48, k50, -⟩
          have e88 : a.eval (.tmp 88) = .bool true := k48 88 rfl
          have e90 : a.eval (.tmp 90) = .bool true := k50 90 rfl
          refine .inl ⟨Flow.want_none rfl, ?_⟩
          exact Flow.run_same (Flow.exec_pick_yes rfl e88 e90) Flow.grow_refl
        refine Flow.Ones.cons ?_ ?_
        · rintro a w hC hoff ⟨k51, -⟩
          have e91 : a.eval (.tmp 91) = .bool true := k51 91 rfl
          refine .inl ⟨Flow.want_none rfl, ?_⟩
          exact Flow.run_same (Flow.exec_move (.inl rfl) e91) Flow.grow_refl
        refine Flow.Ones.cons ?_ ?_
        · rintro a w hC hoff ⟨k52, -⟩
          have e92 : a.eval (.tmp 92) = .bool true := k52 92 rfl
          have e5 : a.eval (.tmp 5) = .int .i64 (k : Int) := hoff.at 5 (by kernel_rfl)
          refine .inl ⟨Flow.want_yes rfl rfl e92, ?_⟩
          exact Flow.run_same (Flow.exec_move (.inl rfl) e5) Flow.grow_refl
        refine Flow.Ones.cons ?_ ?_
        · rintro a w hC hoff ⟨k53, k52, -⟩
          have e93 : a.eval (.tmp 93) = .int .i64 (k : Int) := k53 93 rfl
          have e92 : a.eval (.tmp 92) = .bool true := k52 92 rfl
          refine .inl ⟨Flow.want_yes rfl rfl e92, ?_⟩
          refine Flow.run_same ?_ Flow.grow_refl
          have ec := Flow.eval_const a
          generalize a.eval = ρ at e93 ec ⊢
          simp [execOp, e93, ec, go_sem]; exact IntWalk.i64_in _ (by omega)
        refine Flow.Ones.cons ?_ ?_
        · rintro a w hC hoff ⟨k54, k52, -⟩
          have e94 : a.eval (.tmp 94) = .int .i64 (-1 - (k : Int)) := k54 94 rfl
          have e92 : a.eval (.tmp 92) = .bool true := k52 92 rfl
          refine .inl ⟨Flow.want_yes rfl rfl e92, ?_⟩
          exact Flow.run_call (Flow.exec_call (args := #[((Value.slice none 0 0)), (.int .i64 (-1 - (k : Int)))]) rfl Try.func8 (by kernel_rfl) (by kernel_rfl) (by simp only [List.map_toArray, List.map_cons, List.map_nil, e94] <;> rfl)) ((put_nil (-1 - (k : Int)) _ (by omega)).mono fun e w' ⟨v', he, ⟨_, hb, _⟩, hg⟩ => ⟨v', he, hg, by rw [show (-1 - (k : Int)).toNat = 0 by omega, vint_zero] at hb; exact hb⟩)
        refine Flow.Ones.cons ?_ ?_
        · rintro a w hC hoff ⟨k55, k52, -⟩
          have e95 : (fun v w => Bytes w v [0]) (a.eval (.tmp 95)) w := k55 95 rfl
          have e92 : a.eval (.tmp 92) = .bool true := k52 92 rfl
          refine .inl ⟨Flow.want_yes rfl rfl e92, ?_⟩
          exact Flow.run_same (exec_str 5 rfl rfl e95 Try.underlying22 Try.underlying5 Try.underlying9) Flow.grow_refl
        refine Flow.Ones.cons ?_ ?_
        · rintro a w hC hoff ⟨k56, k52, -⟩
          have e96 : a.eval (.tmp 96) = .string (str [0]) := k56 96 rfl
          have e92 : a.eval (.tmp 92) = .bool true := k52 92 rfl
          refine .inl ⟨Flow.want_yes rfl rfl e92, ?_⟩
          exact Flow.run_same (exec_eq_str Try.underlying9 rfl e96 (b := [0]) rfl rfl) Flow.grow_refl
        refine Flow.Ones.cons ?_ ?_
        · rintro a w hC hoff ⟨k52, k57, -⟩
          have e92 : a.eval (.tmp 92) = .bool true := k52 92 rfl
          have e97 : a.eval (.tmp 97) = .bool true := k57 97 rfl
          refine .inl ⟨Flow.want_none rfl, ?_⟩
          exact Flow.run_same (Flow.exec_pick_yes rfl e92 e97) Flow.grow_refl
        refine Flow.Ones.cons ?_ ?_
        · rintro a w hC hoff ⟨k58, -⟩
          have e98 : a.eval (.tmp 98) = .bool true := k58 98 rfl
          refine .inl ⟨Flow.want_none rfl, ?_⟩
          exact Flow.run_same (Flow.exec_move (.inr rfl) e98) Flow.grow_refl
        exact trivial
      case stab6 => exact ⟨fun v w w' hR h => ⟨h.1, h.2.kept hR (by cases h : v.ownBlock <;> simp)⟩, fun v w w' hR h => h.grow hR, fun v w w' hR h => h.grow hR, trivial⟩
      case ends6 =>
        intro w' hg'
        simp only [Flow.ends]
        intro v42 _ v44 _ v95 _
        simp only [Act.put, List.setIfInBounds_toArray, List.set_cons_succ, List.set_cons_zero]
        go_wp2
        go_ret
        exact ⟨rfl, hg.trans hg'⟩
    · rw [h]
      refine Flow.region_grown (Fs := [.inl (.bool true), .inl (.bool true), .inr (fun v w => Full v 1 ∧ w.ownsRow 0 5 1 v 1 (([9] : List UInt8).map u8v)), .inl (.int .i64 (k : Int)), .inr (fun v w => Bytes w v ([9] ++ Num.vint k)), .inl (.string (str ([9] ++ Num.vint k))), .inl (.int .i64 (k : Int)), .inl (.string (str (Num.vint k))), .inl (.string (str ([9] ++ Num.vint k))), .inl (.bool true), .inl (.bool true), .inl (.bool true), .inl (.int .i64 (k : Int)), .inl (.int .i64 (k : Int)), .inl (.bool true), .inl (.bool true), .inl (.bool true), .inl (.int .i64 ((Num.vint k).length : Int)), .inl (.int .i64 (k : Int)), .inl (.string (str (Num.vint k))), .inl (.int .i64 ((Num.vint k).length : Int)), .inl (.bool true), .inl (.bool true), .inl (.bool true), .inl (.int .i64 ((Num.vint m).length : Int)), .inl (.bool false), .inl (.bool false), .inl (undef), .inl (undef), .inl ((Value.bool false)), .inl ((Value.bool false)), .inl (.int .i64 ((Num.vint m).length : Int)), .inl (.bool true), .inl (.bool true), .inl (.int .i64 (m : Int)), .inl (.string (str (Num.vint m))), .inl (.slice ao T cap), .inl (.int .i64 ((Num.vint m).length : Int)), .inl (.slice ao (Num.vint m).length cap), .inl (.string (str (tb.take (Num.vint m).length))), .inl (.bool true), .inl (.bool true), .inl (.bool true), .inl (.bool true), .inl (.bool true), .inl (.int .i64 0), .inl (.bool true), .inl (.bool true), .inl (.bool true), .inl (.int .i64 0), .inl (.bool true), .inl (.bool true), .inl (.bool true), .inl (.int .i64 (k : Int)), .inl (.int .i64 (-1 - (k : Int))), .inr (fun v w => Bytes w v [0]), .inl (.string (str [0])), .inl (.bool true), .inl (.bool true), .inl (.bool true)])
        (S := [[], [0], [1], [1], [2, 3, 1], [4, 1], [1], [6, 1], [7, 1], [5, 8, 1], [1, 9], [10], [11], [11], [12, 13, 11], [11, 14], [15], [16], [16], [18, 16], [19, 16], [17, 20, 16], [16, 21], [22], [23], [24, 23], [25, 23], [26], [27, 26], [26, 28, 23], [29, 23], [30], [31, 30], [32, 30], [33], [34, 33], [33], [33], [36, 37, 33], [38, 33], [35, 39, 33], [33, 40, 30], [30, 41, 23], [23, 42], [43], [44], [45, 44], [44, 46], [47], [48], [49, 48], [48, 50], [51], [52], [53, 52], [54, 52], [55, 52], [56, 52], [52, 57], [58]]) (by kernel_rfl) (by kernel_rfl) (by kernel_rfl) rfl ?stab6 ?ones6 ?ends6
      case ones6 =>
        refine Flow.Ones.cons ?_ ?_
        · intro a w hC hoff _
          refine .inl ⟨Flow.want_none rfl, ?_⟩
          exact Flow.run_call (Flow.exec_call (args := #[]) rfl Try.func9 (by kernel_rfl) (by kernel_rfl) (by simp only [List.map_toArray, List.map_nil])) ((awake25 _).mono fun e w' ⟨he, hg⟩ => ⟨_, he, hg, rfl⟩)
        refine Flow.Ones.cons ?_ ?_
        · rintro a w hC hoff ⟨k0, -⟩
          have e40 : a.eval (.tmp 40) = .bool true := k0 40 rfl
          refine .inl ⟨Flow.want_none rfl, ?_⟩
          exact Flow.run_same (Flow.exec_move (.inl rfl) e40) Flow.grow_refl
        refine Flow.Ones.cons ?_ ?_
        · rintro a w hC hoff ⟨k1, -⟩
          have e41 : a.eval (.tmp 41) = .bool true := k1 41 rfl
          refine .inl ⟨Flow.want_yes rfl rfl e41, ?_⟩
          have ec := Flow.eval_const a
          refine Flow.run_val (v := .slice (some ⟨w.heap.size, 0, none⟩) 1 1) (w' := w.alloc (.cells #[u8v 9] 5)) ?_ (Flow.grow_alloc _ _) ⟨.inr ⟨_, rfl⟩, World.ownsRow_lit (e := 5) w #[_] 1 (Nat.zero_le _) (by decide) rfl⟩
          generalize a.eval = ρ at ec ⊢
          simp [execOp, ec, u8v, go_sem]
        refine Flow.Ones.cons ?_ ?_
        · rintro a w hC hoff ⟨k1, -⟩
          have e41 : a.eval (.tmp 41) = .bool true := k1 41 rfl
          have e5 : a.eval (.tmp 5) = .int .i64 (k : Int) := hoff.at 5 (by kernel_rfl)
          refine .inl ⟨Flow.want_yes rfl rfl e41, ?_⟩
          exact Flow.run_same (Flow.exec_move (.inl rfl) e5) Flow.grow_refl
        refine Flow.Ones.cons ?_ ?_
        · rintro a w hC hoff ⟨k2, k3, k1, -⟩
          have e42 : (fun v w => Full v 1 ∧ w.ownsRow 0 5 1 v 1 (([9] : List UInt8).map u8v)) (a.eval (.tmp 42)) w := k2 42 rfl
          have e43 : a.eval (.tmp 43) = .int .i64 (k : Int) := k3 43 rfl
          have e41 : a.eval (.tmp 41) = .bool true := k1 41 rfl
          refine .inl ⟨Flow.want_yes rfl rfl e41, ?_⟩
          exact Flow.run_call (Flow.exec_call (args := #[a.eval (.tmp 42), (.int .i64 (k : Int))]) rfl Try.func8 (by kernel_rfl) (by kernel_rfl) (by simp only [List.map_toArray, List.map_cons, List.map_nil, e43] <;> rfl)) ((put_new _ 1 [9] k w (by omega) (by omega) e42.1 e42.2).mono fun e w' ⟨v', he, ⟨_, hb, _⟩, hg⟩ => ⟨v', he, hg, by rw [Int.toNat_natCast] at hb; exact hb⟩)
        refine Flow.Ones.cons ?_ ?_
        · rintro a w hC hoff ⟨k4, k1, -⟩
          have e44 : (fun v w => Bytes w v ([9] ++ Num.vint k)) (a.eval (.tmp 44)) w := k4 44 rfl
          have e41 : a.eval (.tmp 41) = .bool true := k1 41 rfl
          refine .inl ⟨Flow.want_yes rfl rfl e41, ?_⟩
          exact Flow.run_same (exec_str 5 rfl rfl e44 Try.underlying22 Try.underlying5 Try.underlying9) Flow.grow_refl
        refine Flow.Ones.cons ?_ ?_
        · rintro a w hC hoff ⟨k1, -⟩
          have e41 : a.eval (.tmp 41) = .bool true := k1 41 rfl
          have e5 : a.eval (.tmp 5) = .int .i64 (k : Int) := hoff.at 5 (by kernel_rfl)
          refine .inl ⟨Flow.want_yes rfl rfl e41, ?_⟩
          exact Flow.run_same (Flow.exec_move (.inl rfl) e5) Flow.grow_refl
        refine Flow.Ones.cons ?_ ?_
        · rintro a w hC hoff ⟨k6, k1, -⟩
          have e46 : a.eval (.tmp 46) = .int .i64 (k : Int) := k6 46 rfl
          have e41 : a.eval (.tmp 41) = .bool true := k1 41 rfl
          refine .inl ⟨Flow.want_yes rfl rfl e41, ?_⟩
          exact Flow.run_call (Flow.exec_call (args := #[(.int .i64 (k : Int))]) rfl Try.func10 (by kernel_rfl) (by kernel_rfl) (by simp only [List.map_toArray, List.map_cons, List.map_nil, e46] <;> rfl)) ((num_calls k (by omega) _).mono fun e w' ⟨he, hg⟩ => ⟨_, he, hg, rfl⟩)
        refine Flow.Ones.cons ?_ ?_
        · rintro a w hC hoff ⟨k7, k1, -⟩
          have e47 : a.eval (.tmp 47) = .string (str (Num.vint k)) := k7 47 rfl
          have e41 : a.eval (.tmp 41) = .bool true := k1 41 rfl
          refine .inl ⟨Flow.want_yes rfl rfl e41, ?_⟩
          exact Flow.run_same (exec_add_str Try.underlying9 rfl (a := [9]) rfl e47 rfl (by simp; omega)) Flow.grow_refl
        refine Flow.Ones.cons ?_ ?_
        · rintro a w hC hoff ⟨k5, k8, k1, -⟩
          have e45 : a.eval (.tmp 45) = .string (str ([9] ++ Num.vint k)) := k5 45 rfl
          have e48 : a.eval (.tmp 48) = .string (str ([9] ++ Num.vint k)) := k8 48 rfl
          have e41 : a.eval (.tmp 41) = .bool true := k1 41 rfl
          refine .inl ⟨Flow.want_yes rfl rfl e41, ?_⟩
          exact Flow.run_same (exec_eq_str Try.underlying9 rfl e45 e48 (by simp)) Flow.grow_refl
        refine Flow.Ones.cons ?_ ?_
        · rintro a w hC hoff ⟨k1, k9, -⟩
          have e41 : a.eval (.tmp 41) = .bool true := k1 41 rfl
          have e49 : a.eval (.tmp 49) = .bool true := k9 49 rfl
          refine .inl ⟨Flow.want_none rfl, ?_⟩
          exact Flow.run_same (Flow.exec_pick_yes rfl e41 e49) Flow.grow_refl
        refine Flow.Ones.cons ?_ ?_
        · rintro a w hC hoff ⟨k10, -⟩
          have e50 : a.eval (.tmp 50) = .bool true := k10 50 rfl
          refine .inl ⟨Flow.want_none rfl, ?_⟩
          exact Flow.run_same (Flow.exec_move (.inl rfl) e50) Flow.grow_refl
        refine Flow.Ones.cons ?_ ?_
        · rintro a w hC hoff ⟨k11, -⟩
          have e51 : a.eval (.tmp 51) = .bool true := k11 51 rfl
          have e7 : a.eval (.tmp 7) = .int .i64 (k : Int) := hoff.at 7 (by kernel_rfl)
          refine .inl ⟨Flow.want_yes rfl rfl e51, ?_⟩
          exact Flow.run_same (Flow.exec_move (.inl rfl) e7) Flow.grow_refl
        refine Flow.Ones.cons ?_ ?_
        · rintro a w hC hoff ⟨k11, -⟩
          have e51 : a.eval (.tmp 51) = .bool true := k11 51 rfl
          have e5 : a.eval (.tmp 5) = .int .i64 (k : Int) := hoff.at 5 (by kernel_rfl)
          refine .inl ⟨Flow.want_yes rfl rfl e51, ?_⟩
          exact Flow.run_same (Flow.exec_move (.inl rfl) e5) Flow.grow_refl
        refine Flow.Ones.cons ?_ ?_
        · rintro a w hC hoff ⟨k12, k13, k11, -⟩
          have e52 : a.eval (.tmp 52) = .int .i64 (k : Int) := k12 52 rfl
          have e53 : a.eval (.tmp 53) = .int .i64 (k : Int) := k13 53 rfl
          have e51 : a.eval (.tmp 51) = .bool true := k11 51 rfl
          refine .inl ⟨Flow.want_yes rfl rfl e51, ?_⟩
          refine Flow.run_same ?_ Flow.grow_refl
          have ec := Flow.eval_const a
          generalize a.eval = ρ at e52 e53 ec ⊢
          simp [execOp, e52, e53, go_sem]
        refine Flow.Ones.cons ?_ ?_
        · rintro a w hC hoff ⟨k11, k14, -⟩
          have e51 : a.eval (.tmp 51) = .bool true := k11 51 rfl
          have e54 : a.eval (.tmp 54) = .bool true := k14 54 rfl
          refine .inl ⟨Flow.want_none rfl, ?_⟩
          exact Flow.run_same (Flow.exec_pick_yes rfl e51 e54) Flow.grow_refl
        refine Flow.Ones.cons ?_ ?_
        · rintro a w hC hoff ⟨k15, -⟩
          have e55 : a.eval (.tmp 55) = .bool true := k15 55 rfl
          refine .inl ⟨Flow.want_none rfl, ?_⟩
          exact Flow.run_same (Flow.exec_move (.inl rfl) e55) Flow.grow_refl
        refine Flow.Ones.cons ?_ ?_
        · rintro a w hC hoff ⟨k16, -⟩
          have e56 : a.eval (.tmp 56) = .bool true := k16 56 rfl
          have e8 : a.eval (.tmp 8) = .int .i64 ((Num.vint k).length : Int) := hoff.at 8 (by kernel_rfl)
          refine .inl ⟨Flow.want_yes rfl rfl e56, ?_⟩
          exact Flow.run_same (Flow.exec_move (.inl rfl) e8) Flow.grow_refl
        refine Flow.Ones.cons ?_ ?_
        · rintro a w hC hoff ⟨k16, -⟩
          have e56 : a.eval (.tmp 56) = .bool true := k16 56 rfl
          have e5 : a.eval (.tmp 5) = .int .i64 (k : Int) := hoff.at 5 (by kernel_rfl)
          refine .inl ⟨Flow.want_yes rfl rfl e56, ?_⟩
          exact Flow.run_same (Flow.exec_move (.inl rfl) e5) Flow.grow_refl
        refine Flow.Ones.cons ?_ ?_
        · rintro a w hC hoff ⟨k18, k16, -⟩
          have e58 : a.eval (.tmp 58) = .int .i64 (k : Int) := k18 58 rfl
          have e56 : a.eval (.tmp 56) = .bool true := k16 56 rfl
          refine .inl ⟨Flow.want_yes rfl rfl e56, ?_⟩
          exact Flow.run_call (Flow.exec_call (args := #[(.int .i64 (k : Int))]) rfl Try.func10 (by kernel_rfl) (by kernel_rfl) (by simp only [List.map_toArray, List.map_cons, List.map_nil, e58] <;> rfl)) ((num_calls k (by omega) _).mono fun e w' ⟨he, hg⟩ => ⟨_, he, hg, rfl⟩)
        refine Flow.Ones.cons ?_ ?_
        · rintro a w hC hoff ⟨k19, k16, -⟩
          have e59 : a.eval (.tmp 59) = .string (str (Num.vint k)) := k19 59 rfl
          have e56 : a.eval (.tmp 56) = .bool true := k16 56 rfl
          refine .inl ⟨Flow.want_yes rfl rfl e56, ?_⟩
          refine Flow.run_same ?_ Flow.grow_refl
          have ec := Flow.eval_const a
          generalize a.eval = ρ at e59 ec ⊢
          simp [e59, str_size, go_sem]
        refine Flow.Ones.cons ?_ ?_
        · rintro a w hC hoff ⟨k17, k20, k16, -⟩
          have e57 : a.eval (.tmp 57) = .int .i64 ((Num.vint k).length : Int) := k17 57 rfl
          have e60 : a.eval (.tmp 60) = .int .i64 ((Num.vint k).length : Int) := k20 60 rfl
          have e56 : a.eval (.tmp 56) = .bool true := k16 56 rfl
          refine .inl ⟨Flow.want_yes rfl rfl e56, ?_⟩
          refine Flow.run_same ?_ Flow.grow_refl
          have ec := Flow.eval_const a
          generalize a.eval = ρ at e57 e60 ec ⊢
          simp [execOp, e57, e60, go_sem]
        refine Flow.Ones.cons ?_ ?_
        · rintro a w hC hoff ⟨k16, k21, -⟩
          have e56 : a.eval (.tmp 56) = .bool true := k16 56 rfl
          have e61 : a.eval (.tmp 61) = .bool true := k21 61 rfl
          refine .inl ⟨Flow.want_none rfl, ?_⟩
          exact Flow.run_same (Flow.exec_pick_yes rfl e56 e61) Flow.grow_refl
        refine Flow.Ones.cons ?_ ?_
        · rintro a w hC hoff ⟨k22, -⟩
          have e62 : a.eval (.tmp 62) = .bool true := k22 62 rfl
          refine .inl ⟨Flow.want_none rfl, ?_⟩
          exact Flow.run_same (Flow.exec_move (.inl rfl) e62) Flow.grow_refl
        refine Flow.Ones.cons ?_ ?_
        · rintro a w hC hoff ⟨k23, -⟩
          have e63 : a.eval (.tmp 63) = .bool true := k23 63 rfl
          have e10 : a.eval (.tmp 10) = .int .i64 ((Num.vint m).length : Int) := hoff.at 10 (by kernel_rfl)
          refine .inl ⟨Flow.want_yes rfl rfl e63, ?_⟩
          exact Flow.run_same (Flow.exec_move (.inl rfl) e10) Flow.grow_refl
        refine Flow.Ones.cons ?_ ?_
        · rintro a w hC hoff ⟨k24, k23, -⟩
          have e64 : a.eval (.tmp 64) = .int .i64 ((Num.vint m).length : Int) := k24 64 rfl
          have e63 : a.eval (.tmp 63) = .bool true := k23 63 rfl
          refine .inl ⟨Flow.want_yes rfl rfl e63, ?_⟩
          refine Flow.run_same ?_ Flow.grow_refl
          have ec := Flow.eval_const a
          generalize a.eval = ρ at e64 ec ⊢
          simp [execOp, e64, ec, go_sem]; exact Num.vint_ne m
        refine Flow.Ones.cons ?_ ?_
        · rintro a w hC hoff ⟨k25, k23, -⟩
          have e65 : a.eval (.tmp 65) = .bool false := k25 65 rfl
          have e63 : a.eval (.tmp 63) = .bool true := k23 63 rfl
          refine .inl ⟨Flow.want_yes rfl rfl e63, ?_⟩
          exact Flow.run_same (Flow.exec_move (.inl rfl) e65) Flow.grow_refl
        refine Flow.Ones.cons ?_ ?_
        · rintro a w hC hoff ⟨k26, -⟩
          have e66 : a.eval (.tmp 66) = .bool false := k26 66 rfl
          have e9 : a.eval (.tmp 9) = .int .i64 (m : Int) := hoff.at 9 (by kernel_rfl)
          exact .inr ⟨Flow.want_no rfl rfl e66, rfl⟩
        refine Flow.Ones.cons ?_ ?_
        · rintro a w hC hoff ⟨k27, k26, -⟩
          have e67 : a.eval (.tmp 67) = undef := k27 67 rfl
          have e66 : a.eval (.tmp 66) = .bool false := k26 66 rfl
          exact .inr ⟨Flow.want_no rfl rfl e66, rfl⟩
        refine Flow.Ones.cons ?_ ?_
        · rintro a w hC hoff ⟨k26, k28, k23, -⟩
          have e66 : a.eval (.tmp 66) = .bool false := k26 66 rfl
          have e68 : a.eval (.tmp 68) = undef := k28 68 rfl
          have e63 : a.eval (.tmp 63) = .bool true := k23 63 rfl
          refine .inl ⟨Flow.want_yes rfl rfl e63, ?_⟩
          exact Flow.run_same (Flow.exec_pick_no rfl e66 rfl) Flow.grow_refl
        refine Flow.Ones.cons ?_ ?_
        · rintro a w hC hoff ⟨k29, k23, -⟩
          have e69 : a.eval (.tmp 69) = (Value.bool false) := k29 69 rfl
          have e63 : a.eval (.tmp 63) = .bool true := k23 63 rfl
          refine .inl ⟨Flow.want_yes rfl rfl e63, ?_⟩
          exact Flow.run_same (Flow.exec_move (.inl rfl) e69) Flow.grow_refl
        refine Flow.Ones.cons ?_ ?_
        · rintro a w hC hoff ⟨k30, -⟩
          have e70 : a.eval (.tmp 70) = (Value.bool false) := k30 70 rfl
          have e10 : a.eval (.tmp 10) = .int .i64 ((Num.vint m).length : Int) := hoff.at 10 (by kernel_rfl)
          refine .inl ⟨Flow.want_yes rfl rfl e70, ?_⟩
          exact Flow.run_same (Flow.exec_move (.inl rfl) e10) Flow.grow_refl
        refine Flow.Ones.cons ?_ ?_
        · rintro a w hC hoff ⟨k31, k30, -⟩
          have e71 : a.eval (.tmp 71) = .int .i64 ((Num.vint m).length : Int) := k31 71 rfl
          have e70 : a.eval (.tmp 70) = (Value.bool false) := k30 70 rfl
          refine .inl ⟨Flow.want_yes rfl rfl e70, ?_⟩
          refine Flow.run_same ?_ Flow.grow_refl
          have ec := Flow.eval_const a
          generalize a.eval = ρ at e71 ec ⊢
          simp [execOp, e71, ec, go_sem]; exact List.length_pos_iff.2 (Num.vint_ne m)
        refine Flow.Ones.cons ?_ ?_
        · rintro a w hC hoff ⟨k32, k30, -⟩
          have e72 : a.eval (.tmp 72) = .bool true := k32 72 rfl
          have e70 : a.eval (.tmp 70) = (Value.bool false) := k30 70 rfl
          refine .inl ⟨Flow.want_yes rfl rfl e70, ?_⟩
          exact Flow.run_same (Flow.exec_move (.inl rfl) e72) Flow.grow_refl
        refine Flow.Ones.cons ?_ ?_
        · rintro a w hC hoff ⟨k33, -⟩
          have e73 : a.eval (.tmp 73) = .bool true := k33 73 rfl
          have e9 : a.eval (.tmp 9) = .int .i64 (m : Int) := hoff.at 9 (by kernel_rfl)
          refine .inl ⟨Flow.want_yes rfl rfl e73, ?_⟩
          exact Flow.run_same (Flow.exec_move (.inl rfl) e9) Flow.grow_refl
        refine Flow.Ones.cons ?_ ?_
        · rintro a w hC hoff ⟨k34, k33, -⟩
          have e74 : a.eval (.tmp 74) = .int .i64 (m : Int) := k34 74 rfl
          have e73 : a.eval (.tmp 73) = .bool true := k33 73 rfl
          refine .inl ⟨Flow.want_yes rfl rfl e73, ?_⟩
          exact Flow.run_call (Flow.exec_call (args := #[(.int .i64 (m : Int))]) rfl Try.func10 (by kernel_rfl) (by kernel_rfl) (by simp only [List.map_toArray, List.map_cons, List.map_nil, e74] <;> rfl)) ((num_calls m (by omega) _).mono fun e w' ⟨he, hg⟩ => ⟨_, he, hg, rfl⟩)
        refine Flow.Ones.cons ?_ ?_
        · rintro a w hC hoff ⟨k33, -⟩
          have e73 : a.eval (.tmp 73) = .bool true := k33 73 rfl
          have e6 : a.eval (.tmp 6) = .slice ao T cap := hoff.at 6 (by kernel_rfl)
          refine .inl ⟨Flow.want_yes rfl rfl e73, ?_⟩
          exact Flow.run_same (Flow.exec_move (.inl rfl) e6) Flow.grow_refl
        refine Flow.Ones.cons ?_ ?_
        · rintro a w hC hoff ⟨k33, -⟩
          have e73 : a.eval (.tmp 73) = .bool true := k33 73 rfl
          have e10 : a.eval (.tmp 10) = .int .i64 ((Num.vint m).length : Int) := hoff.at 10 (by kernel_rfl)
          refine .inl ⟨Flow.want_yes rfl rfl e73, ?_⟩
          exact Flow.run_same (Flow.exec_move (.inl rfl) e10) Flow.grow_refl
        refine Flow.Ones.cons ?_ ?_
        · rintro a w hC hoff ⟨k36, k37, k33, -⟩
          have e76 : a.eval (.tmp 76) = .slice ao T cap := k36 76 rfl
          have e77 : a.eval (.tmp 77) = .int .i64 ((Num.vint m).length : Int) := k37 77 rfl
          have e73 : a.eval (.tmp 73) = .bool true := k33 73 rfl
          refine .inl ⟨Flow.want_yes rfl rfl e73, ?_⟩
          refine Flow.run_same ?_ Flow.grow_refl
          have ec := Flow.eval_const a
          generalize a.eval = ρ at e76 e77 ec ⊢
          simp [execOp, e76, e77, go_sem]; intro hlt; have := HT.out; omega
        refine Flow.Ones.cons ?_ ?_
        · rintro a w hC hoff ⟨k38, k33, -⟩
          have e78 : a.eval (.tmp 78) = .slice ao (Num.vint m).length cap := k38 78 rfl
          have e73 : a.eval (.tmp 73) = .bool true := k33 73 rfl
          refine .inl ⟨Flow.want_yes rfl rfl e73, ?_⟩
          exact Flow.run_same (exec_str 5 rfl e78 ((hbt4.grow hC).cut hmlen) Try.underlying22 Try.underlying5 Try.underlying9) Flow.grow_refl
        refine Flow.Ones.cons ?_ ?_
        · rintro a w hC hoff ⟨k35, k39, k33, -⟩
          have e75 : a.eval (.tmp 75) = .string (str (Num.vint m)) := k35 75 rfl
          have e79 : a.eval (.tmp 79) = .string (str (tb.take (Num.vint m).length)) := k39 79 rfl
          have e73 : a.eval (.tmp 73) = .bool true := k33 73 rfl
          refine .inl ⟨Flow.want_yes rfl rfl e73, ?_⟩
          exact Flow.run_same (exec_eq_str Try.underlying9 rfl e75 e79 (by simpa using hmt)) Flow.grow_refl
        refine Flow.Ones.cons ?_ ?_
        · rintro a w hC hoff ⟨k33, k40, k30, -⟩
          have e73 : a.eval (.tmp 73) = .bool true := k33 73 rfl
          have e80 : a.eval (.tmp 80) = .bool true := k40 80 rfl
          have e70 : a.eval (.tmp 70) = (Value.bool false) := k30 70 rfl
          refine .inl ⟨Flow.want_yes rfl rfl e70, ?_⟩
          exact Flow.run_same (Flow.exec_pick_yes rfl e73 e80) Flow.grow_refl
        refine Flow.Ones.cons ?_ ?_
        · rintro a w hC hoff ⟨k30, k41, k23, -⟩
          have e70 : a.eval (.tmp 70) = (Value.bool false) := k30 70 rfl
          have e81 : a.eval (.tmp 81) = .bool true := k41 81 rfl
          have e63 : a.eval (.tmp 63) = .bool true := k23 63 rfl
          refine .inl ⟨Flow.want_yes rfl rfl e63, ?_⟩
          exact Flow.run_same (Flow.exec_pick_no rfl e70 e81) Flow.grow_refl
        refine Flow.Ones.cons ?_ ?_
        · rintro a w hC hoff ⟨k23, k42, -⟩
          have e63 : a.eval (.tmp 63) = .bool true := k23 63 rfl
          have e82 : a.eval (.tmp 82) = .bool true := k42 82 rfl
          refine .inl ⟨Flow.want_none rfl, ?_⟩
          exact Flow.run_same (Flow.exec_pick_yes rfl e63 e82) Flow.grow_refl
        refine Flow.Ones.cons ?_ ?_
        · rintro a w hC hoff ⟨k43, -⟩
          have e83 : a.eval (.tmp 83) = .bool true := k43 83 rfl
          refine .inl ⟨Flow.want_none rfl, ?_⟩
          exact Flow.run_same (Flow.exec_move (.inl rfl) e83) Flow.grow_refl
        refine Flow.Ones.cons ?_ ?_
        · rintro a w hC hoff ⟨k44, -⟩
          have e84 : a.eval (.tmp 84) = .bool true := k44 84 rfl
          have e11 : a.eval (.tmp 11) = .int .i64 0 := hoff.at 11 (by kernel_rfl)
          refine .inl ⟨Flow.want_yes rfl rfl e84, ?_⟩
          exact Flow.run_same (Flow.exec_move (.inl rfl) e11) Flow.grow_refl
        refine Flow.Ones.cons ?_ ?_
        · rintro a w hC hoff ⟨k45, k44, -⟩
          have e85 : a.eval (.tmp 85) = .int .i64 0 := k45 85 rfl
          have e84 : a.eval (.tmp 84) = .bool true := k44 84 rfl
          refine .inl ⟨Flow.want_yes rfl rfl e84, ?_⟩
          refine Flow.run_same ?_ Flow.grow_refl
          have ec := Flow.eval_const a
          generalize a.eval = ρ at e85 ec ⊢
          simp [execOp, e85, ec, go_sem]
        refine Flow.Ones.cons ?_ ?_
        · rintro a w hC hoff ⟨k44, k46, -⟩
          have e84 : a.eval (.tmp 84) = .bool true := k44 84 rfl
          have e86 : a.eval (.tmp 86) = .bool true := k46 86 rfl
          refine .inl ⟨Flow.want_none rfl, ?_⟩
          exact Flow.run_same (Flow.exec_pick_yes rfl e84 e86) Flow.grow_refl
        refine Flow.Ones.cons ?_ ?_
        · rintro a w hC hoff ⟨k47, -⟩
          have e87 : a.eval (.tmp 87) = .bool true := k47 87 rfl
          refine .inl ⟨Flow.want_none rfl, ?_⟩
          exact Flow.run_same (Flow.exec_move (.inl rfl) e87) Flow.grow_refl
        refine Flow.Ones.cons ?_ ?_
        · rintro a w hC hoff ⟨k48, -⟩
          have e88 : a.eval (.tmp 88) = .bool true := k48 88 rfl
          have e12 : a.eval (.tmp 12) = .int .i64 0 := hoff.at 12 (by kernel_rfl)
          refine .inl ⟨Flow.want_yes rfl rfl e88, ?_⟩
          exact Flow.run_same (Flow.exec_move (.inl rfl) e12) Flow.grow_refl
        refine Flow.Ones.cons ?_ ?_
        · rintro a w hC hoff ⟨k49, k48, -⟩
          have e89 : a.eval (.tmp 89) = .int .i64 0 := k49 89 rfl
          have e88 : a.eval (.tmp 88) = .bool true := k48 88 rfl
          refine .inl ⟨Flow.want_yes rfl rfl e88, ?_⟩
          refine Flow.run_same ?_ Flow.grow_refl
          have ec := Flow.eval_const a
          generalize a.eval = ρ at e89 ec ⊢
          simp [execOp, e89, ec, go_sem]
        refine Flow.Ones.cons ?_ ?_
        · rintro a w hC hoff ⟨k48, k50, -⟩
          have e88 : a.eval (.tmp 88) = .bool true := k48 88 rfl
          have e90 : a.eval (.tmp 90) = .bool true := k50 90 rfl
          refine .inl ⟨Flow.want_none rfl, ?_⟩
          exact Flow.run_same (Flow.exec_pick_yes rfl e88 e90) Flow.grow_refl
        refine Flow.Ones.cons ?_ ?_
        · rintro a w hC hoff ⟨k51, -⟩
          have e91 : a.eval (.tmp 91) = .bool true := k51 91 rfl
          refine .inl ⟨Flow.want_none rfl, ?_⟩
          exact Flow.run_same (Flow.exec_move (.inl rfl) e91) Flow.grow_refl
        refine Flow.Ones.cons ?_ ?_
        · rintro a w hC hoff ⟨k52, -⟩
          have e92 : a.eval (.tmp 92) = .bool true := k52 92 rfl
          have e5 : a.eval (.tmp 5) = .int .i64 (k : Int) := hoff.at 5 (by kernel_rfl)
          refine .inl ⟨Flow.want_yes rfl rfl e92, ?_⟩
          exact Flow.run_same (Flow.exec_move (.inl rfl) e5) Flow.grow_refl
        refine Flow.Ones.cons ?_ ?_
        · rintro a w hC hoff ⟨k53, k52, -⟩
          have e93 : a.eval (.tmp 93) = .int .i64 (k : Int) := k53 93 rfl
          have e92 : a.eval (.tmp 92) = .bool true := k52 92 rfl
          refine .inl ⟨Flow.want_yes rfl rfl e92, ?_⟩
          refine Flow.run_same ?_ Flow.grow_refl
          have ec := Flow.eval_const a
          generalize a.eval = ρ at e93 ec ⊢
          simp [execOp, e93, ec, go_sem]; exact IntWalk.i64_in _ (by omega)
        refine Flow.Ones.cons ?_ ?_
        · rintro a w hC hoff ⟨k54, k52, -⟩
          have e94 : a.eval (.tmp 94) = .int .i64 (-1 - (k : Int)) := k54 94 rfl
          have e92 : a.eval (.tmp 92) = .bool true := k52 92 rfl
          refine .inl ⟨Flow.want_yes rfl rfl e92, ?_⟩
          exact Flow.run_call (Flow.exec_call (args := #[((Value.slice none 0 0)), (.int .i64 (-1 - (k : Int)))]) rfl Try.func8 (by kernel_rfl) (by kernel_rfl) (by simp only [List.map_toArray, List.map_cons, List.map_nil, e94] <;> rfl)) ((put_nil (-1 - (k : Int)) _ (by omega)).mono fun e w' ⟨v', he, ⟨_, hb, _⟩, hg⟩ => ⟨v', he, hg, by rw [show (-1 - (k : Int)).toNat = 0 by omega, vint_zero] at hb; exact hb⟩)
        refine Flow.Ones.cons ?_ ?_
        · rintro a w hC hoff ⟨k55, k52, -⟩
          have e95 : (fun v w => Bytes w v [0]) (a.eval (.tmp 95)) w := k55 95 rfl
          have e92 : a.eval (.tmp 92) = .bool true := k52 92 rfl
          refine .inl ⟨Flow.want_yes rfl rfl e92, ?_⟩
          exact Flow.run_same (exec_str 5 rfl rfl e95 Try.underlying22 Try.underlying5 Try.underlying9) Flow.grow_refl
        refine Flow.Ones.cons ?_ ?_
        · rintro a w hC hoff ⟨k56, k52, -⟩
          have e96 : a.eval (.tmp 96) = .string (str [0]) := k56 96 rfl
          have e92 : a.eval (.tmp 92) = .bool true := k52 92 rfl
          refine .inl ⟨Flow.want_yes rfl rfl e92, ?_⟩
          exact Flow.run_same (exec_eq_str Try.underlying9 rfl e96 (b := [0]) rfl rfl) Flow.grow_refl
        refine Flow.Ones.cons ?_ ?_
        · rintro a w hC hoff ⟨k52, k57, -⟩
          have e92 : a.eval (.tmp 92) = .bool true := k52 92 rfl
          have e97 : a.eval (.tmp 97) = .bool true := k57 97 rfl
          refine .inl ⟨Flow.want_none rfl, ?_⟩
          exact Flow.run_same (Flow.exec_pick_yes rfl e92 e97) Flow.grow_refl
        refine Flow.Ones.cons ?_ ?_
        · rintro a w hC hoff ⟨k58, -⟩
          have e98 : a.eval (.tmp 98) = .bool true := k58 98 rfl
          refine .inl ⟨Flow.want_none rfl, ?_⟩
          exact Flow.run_same (Flow.exec_move (.inr rfl) e98) Flow.grow_refl
        exact trivial
      case stab6 => exact ⟨fun v w w' hR h => ⟨h.1, h.2.kept hR (by cases h : v.ownBlock <;> simp)⟩, fun v w w' hR h => h.grow hR, fun v w w' hR h => h.grow hR, trivial⟩
      case ends6 =>
        intro w' hg'
        simp only [Flow.ends]
        intro v42 _ v44 _ v95 _
        simp only [Act.put, List.setIfInBounds_toArray, List.set_cons_succ, List.set_cons_zero]
        go_wp2
        go_ret
        exact ⟨rfl, hg.trans hg'⟩
end Go.Proofs.Ytjapakmpnkbemaa

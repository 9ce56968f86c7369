/- galliardlaw06.TreeAny: the walk. -/
import Derived.Test.YtfkdjdmbgednkaaDoorTreeBad
import Derived.Test.YtfkdjdmbgednkaaDoorTr10
import Derived.Test.YtfkdjdmbgednkaaDoorTr11
import Derived.Test.YtfkdjdmbgednkaaDoorDocB
import Derived.Test.YtfkdjdmbgednkaaDoorNear
import Derived.Test.YtfkdjdmbgednkaaDoorRefName2
import Derived.Deep.DeepCutAuto
import Derived.BigRegion
namespace Go.Proofs.YtfkdjdmbgednkaaDoor
open Go.RowKit
/-- what Parse answers for a text of few '<', known ahead of the call -/
theorem parse_law (u : ByteArray) (hs : u.size ≤ 200000) (hc : Xm.c60 u 0 ≤ 32) :
    (∃ z1 z2 : Int, Xm.Er u (z1, z2) ∧ ∀ w, Xm.Tab w → Xm.Max w → Calls Tryd.prog 19 #[.string u] w fun e w' => e = .returned (.tuple #[zeroNode, .int .i64 z2, .int .i64 z1]) ∧ Flow.Grow w w') ∨
    ∃ y, Xm.name (Xm.nmN y) = true ∧ Xm.cnt y ≤ 33 ∧ ∀ w, Xm.Tab w → Xm.Max w → Calls Tryd.prog 19 #[.string u] w fun e w' => ∃ v, e = .returned (.tuple #[v, .int .i64 0, .int .i64 0]) ∧ Xm.NodAt (fun _ => True) w' v y ∧ Flow.Grow w w' := by
  by_cases hn : Xm.newT u = ⟨0, 0, 0⟩
  · have hr := Xm.parse_er hc
    cases hz : Xm.parseT u with
    | error z =>
      refine .inl ⟨z.1, z.2, hr.1 z hz, fun w hT hm => (parse_any u hs hn w hT hm).mono ?_⟩
      rintro e w' ⟨hg, hp⟩
      rw [hz] at hp
      exact ⟨hp, hg⟩
    | ok y =>
      refine .inr ⟨y, (hr.2 y hz).1, (hr.2 y hz).2, fun w hT hm => (parse_any u hs hn w hT hm).mono ?_⟩
      rintro e w' ⟨hg, hp⟩
      rw [hz] at hp
      obtain ⟨v, he, hy⟩ := hp
      exact ⟨v, he, hy.grow (Flow.grow_refl _), hg⟩
  · have hl := Xm.newT_law hs
    have hb := Xm.bad_lt u 0
    have he : (Xm.newT u).e ≠ 0 := by
      intro h0
      apply hn
      unfold Xm.newT at h0 ⊢
      rw [if_neg (by omega)] at h0 ⊢
      split
      · rename_i hc
        rw [if_pos hc] at h0
        simp [Xm.wrong, Xm.errOf] at h0
      · rfl
    refine .inl ⟨(Xm.newT u).e, (Xm.newT u).bad, ?_, fun w hT hm => (parse_bad u hs (Xm.newT u) he hl.1.2.1 rfl w hT hm).mono fun e w' h => ⟨h.2, h.1⟩⟩
    rcases hl.1.2.2 with h | ⟨h1, h2, h3⟩
    · exact absurd h he
    · exact ⟨by show (Xm.newT u).e = 2 ∨ _; rcases h1 with h | h | h; exact .inl h; exact .inr (.inl h); exact .inr (.inr (.inr h)), h2, h3⟩
namespace Xm
theorem count_extract (T : ByteArray) (i j : Nat) : (T.extract i j).data.toList.count 60 = ((T.data.toList.take j).drop i).count 60 := by
  rw [ByteArray.data_extract, Array.toList_extract, List.extract_eq_take_drop, List.drop_take]
/-- few '<' in what is made of a text with few -/
theorem mixed_c60 (T s : ByteArray) (k m j n : Nat) (hkj : k ≤ j) (hm : m ≤ 6) (hT : T.data.toList.count 60 ≤ 26) : c60 (T.extract 0 k ++ s.extract 0 m ++ T.extract j n) 0 ≤ 32 := by
  unfold c60
  rw [List.drop_zero, ByteArray.data_append, ByteArray.data_append, Array.toList_append, Array.toList_append, List.count_append, List.count_append, count_extract, count_extract, count_extract, List.drop_zero, List.drop_zero]
  have h1 : ((s.data.toList.take m)).count 60 ≤ 6 := by
    have := List.count_le_length (a := (60 : UInt8)) (l := s.data.toList.take m)
    rw [List.length_take] at this
    omega
  have h2 : ((T.data.toList.take n).drop j).count 60 ≤ (T.data.toList.drop k).count 60 := by
    have g1 : ((T.data.toList.take n).drop j).count 60 ≤ ((T.data.toList).drop j).count 60 := by
      rw [List.drop_take]
      exact (List.take_sublist _ _).count_le 60
    have g2 : ((T.data.toList).drop j).count 60 ≤ (T.data.toList.drop k).count 60 := by
      obtain ⟨d, rfl⟩ : ∃ d, j = k + d := ⟨j - k, by omega⟩
      rw [← List.drop_drop]
      exact (List.drop_sublist d _).count_le 60
    omega
  have h3 : T.data.toList.count 60 = (T.data.toList.take k).count 60 + (T.data.toList.drop k).count 60 := by rw [← List.count_append, List.take_append_drop]
  omega
end Xm
set_option maxRecDepth 100000 in
set_option maxHeartbeats 4000000 in
theorem treeAny_walk (v0 : Value) (a b : Int) (s : ByteArray) (w : World) (hx : Xm.ArgN w v0) (hs : s.size ≤ 9223372036854775807) (hT : Xm.Tab w) (hm : Xm.Max w) :
    Calls Tryd.prog 7 #[v0, .agg #[.int .i64 a, .int .i64 b], .string s] w fun e w' => e = .returned (.bool true) ∧ Flow.Grow w w' := by
  have HT := Lib.hid hT
  have HM := Lib.hid hm
  have HX := Lib.hid hx
  clear hT hm
  obtain ⟨sp, nm, tx, a1, a2, n1, c1, n2, c2, rfl⟩ := hx.form
  clear hx
  go_enter Tryd.func7, Tryd.ntmps7
  go_upto_region 1 with fail
  have G1 : Hid (Flow.Grow w ((w.alloc (.cells #[.string sp, .string nm, .slice a1 n1 c1, .slice a2 n2 c2, .string tx] 47)).alloc (.cells #[.int .i64 a, .int .i64 b] 51))) := Lib.hid ((Flow.grow_alloc _ _).trans (Flow.grow_alloc _ _))
  have X1 : Hid (Xm.RowN ((w.alloc (.cells #[.string sp, .string nm, .slice a1 n1 c1, .slice a2 n2 c2, .string tx] 47)).alloc (.cells #[.int .i64 a, .int .i64 b] 51)) w.heap.size #[.string sp, .string nm, .slice a1 n1 c1, .slice a2 n2 c2, .string tx]) := Lib.hid (Xm.RowN.grow (heap_alloc_new w _) (Flow.grow_alloc _ _))
  have A1 : Hid (((w.alloc (.cells #[.string sp, .string nm, .slice a1 n1 c1, .slice a2 n2 c2, .string tx] 47)).alloc (.cells #[.int .i64 a, .int .i64 b] 51)).heap[w.heap.size + 1]? = some (.cells #[.int .i64 a, .int .i64 b] 51 (0, 0))) := Lib.hid (by
    have h := heap_alloc_new (w.alloc (.cells #[.string sp, .string nm, .slice a1 n1 c1, .slice a2 n2 c2, .string tx] 47)) (.cells #[.int .i64 a, .int .i64 b] 51)
    rw [show (w.alloc (.cells #[.string sp, .string nm, .slice a1 n1 c1, .slice a2 n2 c2, .string tx] 47)).heap.size = w.heap.size + 1 by simp] at h
    exact h)
  obtain ⟨X, hX⟩ : ∃ X, X = w.heap.size := ⟨_, rfl⟩
  rw [← hX] at X1 A1 ⊢
  clear hX
  generalize (w.alloc (.cells #[.string sp, .string nm, .slice a1 n1 c1, .slice a2 n2 c2, .string tx] 47)).alloc (.cells #[.int .i64 a, .int .i64 b] 51) = w1 at *
  have x0 := (cell_of_row w1 X 0 _ _ _ X1.out).trans rfl
  have x1 := (cell_of_row w1 X 1 _ _ _ X1.out).trans rfl
  have x2 := (cell_of_row w1 X 2 _ _ _ X1.out).trans rfl
  have x3 := (cell_of_row w1 X 3 _ _ _ X1.out).trans rfl
  have x4 := (cell_of_row w1 X 4 _ _ _ X1.out).trans rfl
  simp at x0 x1 x2 x3 x4
  have HN := Lib.hid (near_any 3 _ w1 (by omega) (by omega) (HX.out.grow G1.out))
  go_upto_region 2 with (first
    | (go_at_call 22; refine HN.out.mono ?_; rintro e w2 ⟨u, y, rfl, hn, hny, hg⟩; have hdb := Xm.doc3 hny)
    | (go_at_call 21; refine (text6_any 13 y _ u ByteArray.empty [] w2 (Xm.nice_cnt3 y hny) hn (by omega)).mono ?_; rintro e w3 ⟨rfl, hg3⟩))
  have G3 := Lib.hid ((G1.out.trans hg).trans hg3)
  have A3 : Hid (w3.heap[X + 1]? = some (.cells #[.int .i64 a, .int .i64 b] 51 (0, 0))) := Lib.hid (((hg.trans hg3).block (X + 1) (Array.getElem?_eq_some_iff.1 A1.out).1 (by simp)).trans A1.out)
  have y0 := (cell_of_row w3 (X + 1) 0 _ _ _ A3.out).trans rfl
  have y1 := (cell_of_row w3 (X + 1) 1 _ _ _ A3.out).trans rfl
  simp at y0 y1
  obtain ⟨T, hTT⟩ : ∃ T, T = str (Xm.docN y ByteArray.empty []) := ⟨_, rfl⟩
  have hTz : T.size ≤ 10000 := by rw [hTT, str_size]; exact hdb.1
  have hT6 := Lib.hid (show T.data.toList.count 60 ≤ 26 by rw [hTT]; exact hdb.2)
  rw [← hTT]
  clear hTT hdb hn hny x0 x1 x2 x3 x4 X1 A1 HN hg hg3 G1 HX A3
  clear w1 w2
  have b1 := Bits.i64_mask a 16 (by omega) 65535 (by decide)
  obtain ⟨ja, hja⟩ : ∃ j : Nat, a % 2 ^ 16 = (j : Int) := ⟨(a % 2 ^ 16).toNat, by omega⟩
  have ha6 : ja < 65536 := by omega
  rw [hja] at b1
  have b2 := Bits.i64_mask b 3 (by omega) 7 (by decide)
  obtain ⟨jb, hjb⟩ : ∃ j : Nat, b % 2 ^ 3 = (j : Int) := ⟨(b % 2 ^ 3).toNat, by omega⟩
  have hb8 : jb < 8 := by omega
  rw [hjb] at b2
  clear hja hjb
  obtain ⟨k, hk, hkT⟩ : ∃ k : Nat, (ja : Int) % ((T.size : Int) + 1) = k ∧ k ≤ T.size := ⟨((ja : Int) % ((T.size : Int) + 1)).toNat, by
    have h1 := Int.emod_nonneg (ja : Int) (show (T.size : Int) + 1 ≠ 0 by omega)
    omega, by
    have h1 := Int.emod_nonneg (ja : Int) (show (T.size : Int) + 1 ≠ 0 by omega)
    have h2 := Int.emod_lt_of_pos (ja : Int) (show 0 < (T.size : Int) + 1 by omega)
    omega⟩
  go_upto_region 3 with fail
  rw [hk]
  clear hk b1
  obtain ⟨m, hm, hms, hm6⟩ : ∃ m : Nat, min (s.size : Int) 6 = m ∧ m ≤ s.size ∧ m ≤ 6 := ⟨(min (s.size : Int) 6).toNat, by omega, by omega, by omega⟩
  obtain ⟨j, hj, hkj, hjT⟩ : ∃ j : Nat, min ((k : Int) + jb) (T.size : Int) = j ∧ k ≤ j ∧ j ≤ T.size := ⟨(min ((k : Int) + jb) (T.size : Int)).toNat, by omega, by omega, by omega⟩
  have q1 := run_cut T 0 k (by omega) (by omega) 0 (k : Int) rfl rfl
  have q2 := run_cut s 0 m (by omega) (by omega) 0 (m : Int) rfl rfl
  have q3 := run_cut T j T.size (by omega) (by omega) (j : Int) (T.size : Int) rfl rfl
  have z1 : (T.extract 0 k).size = k := by simp; omega
  have z2 : (s.extract 0 m).size = m := by simp; omega
  have z3 : (T.extract j T.size).size = T.size - j := by simp
  have z4 : (T.extract 0 k ++ s.extract 0 m).size = k + m := by rw [ByteArray.size_append, z1, z2]
  have n1 : ¬ 9223372036854775807 < (T.extract 0 k).size + (s.extract 0 m).size := by omega
  have n2 : ¬ 9223372036854775807 < (T.extract 0 k ++ s.extract 0 m).size + (T.extract j T.size).size := by omega
  go_region
  have hU6 := Lib.hid (Xm.mixed_c60 T s k m j T.size hkj hm6 hT6.out)
  have hUz : (T.extract 0 k ++ s.extract 0 m ++ T.extract j T.size).size ≤ 30000 := by rw [ByteArray.size_append, z4, z3]; omega
  generalize T.extract 0 k ++ s.extract 0 m ++ T.extract j T.size = U at *
  clear q1 q2 q3 z1 z2 z3 z4 n1 n2 hT6
  go_upto_region 4 with fail
  have G4 : Hid (Flow.Grow w w3.drew) := Lib.hid (G3.out.trans (Flow.grow_drewN w3 1))
  clear G3 y0 y1 hTz b2 hb8 hkT hm hms hm6 hj hkj hjT ha6
  generalize w3.drew = w4 at *
  clear w3
  rcases parse_law U (by omega) hU6.out with ⟨z1, z2, ⟨hz, h0, h1⟩, hP⟩ | ⟨y', hnm, hcn, hP⟩
  · have HP := Lib.hid (hP w4 (HT.out.grow G4.out) (HM.out.grow G4.out))
    clear hP
    unfold zeroNode at HP
    simp only at hz h0 h1
    have d1 : decide (0 ≤ z2) = true := by simp; omega
    have d2 : decide (z2 ≤ (U.size : Int)) = true := by simp; omega
    rcases hz with rfl | rfl | rfl | rfl
    all_goals
      go_upto_region 5 with (go_at_call 19; refine HP.out.mono ?_; rintro e w5 ⟨rfl, hg5⟩)
      have g6 := Flow.grow_alloc w5 (.cells #[.string ⟨#[]⟩, .string ⟨#[]⟩, .slice none 0 0, .slice none 0 0, .string ⟨#[]⟩] 47)
      have X6 : Hid (Xm.RowN (w5.alloc (.cells #[.string ⟨#[]⟩, .string ⟨#[]⟩, .slice none 0 0, .slice none 0 0, .string ⟨#[]⟩] 47)) w5.heap.size #[.string ⟨#[]⟩, .string ⟨#[]⟩, .slice none 0 0, .slice none 0 0, .string ⟨#[]⟩]) := Lib.hid (heap_alloc_new _ _)
      have G6 := Lib.hid ((G4.out.trans hg5).trans g6)
      obtain ⟨B, hB⟩ : ∃ B, B = w5.heap.size := ⟨_, rfl⟩
      rw [← hB] at X6 ⊢
      clear hg5 g6 hB
      generalize w5.alloc (.cells #[.string ⟨#[]⟩, .string ⟨#[]⟩, .slice none 0 0, .slice none 0 0, .string ⟨#[]⟩] 47) = w6 at *
      go_wp2_with (go_at_call 20; refine (awake6_T w6 (HT.out.grow G6.out) (HM.out.grow G6.out)).mono ?_; rintro e w7 ⟨rfl, hg7⟩; have x1 := (cell_of_row w7 B 1 _ _ _ (X6.out.grow hg7)).trans rfl; have G7 := Lib.hid (G6.out.trans hg7); clear hg7)
      go_ret
      exact ⟨rfl, G7.out⟩
  · have HP := Lib.hid (hP w4 (HT.out.grow G4.out) (HM.out.grow G4.out))
    clear hP
    obtain ⟨sp', nm', l', ks', tx'⟩ := y'
    have HNM := Lib.hid (show Xm.name nm' = true from hnm)
    obtain ⟨c, hc⟩ : ∃ c, c = Xm.cnt (.mk sp' nm' l' ks' tx') := ⟨_, rfl⟩
    have hc1 : 1 ≤ c := by rw [hc, Xm.cnt]; omega
    rw [← hc] at hcn
    have HC := Lib.hid hc
    have d1 : decide (1 ≤ (c : Int)) = true := by simp; omega
    clear hnm hc
    go_upto_region 5 with (go_at_call 19; refine HP.out.mono ?_; rintro e w5 ⟨v, rfl, hv, hg5⟩; obtain ⟨b1, b2, n1', n2', k1, k2, rfl⟩ := node_known hv)
    have g6 := Flow.grow_alloc w5 (.cells #[.string sp', .string nm', .slice b1 n1' k1, .slice b2 n2' k2, .string tx'] 47)
    have X6 : Hid (Xm.RowN (w5.alloc (.cells #[.string sp', .string nm', .slice b1 n1' k1, .slice b2 n2' k2, .string tx'] 47)) w5.heap.size #[.string sp', .string nm', .slice b1 n1' k1, .slice b2 n2' k2, .string tx']) := Lib.hid (heap_alloc_new _ _)
    have V6 := Lib.hid (hv.grow g6)
    have G6 := Lib.hid ((G4.out.trans hg5).trans g6)
    obtain ⟨B, hB⟩ : ∃ B, B = w5.heap.size := ⟨_, rfl⟩
    rw [← hB] at X6 ⊢
    clear hg5 g6 hB hv
    generalize w5.alloc (.cells #[.string sp', .string nm', .slice b1 n1' k1, .slice b2 n2' k2, .string tx'] 47) = w6 at *
    go_wp2_with (first
      | (go_at_call 20; refine (awake6_T w6 (HT.out.grow G6.out) (HM.out.grow G6.out)).mono ?_; rintro e w7 ⟨rfl, hg7⟩; have x1 := (cell_of_row w7 B 1 _ _ _ (X6.out.grow hg7)).trans rfl; have G7 := Lib.hid (G6.out.trans hg7); have X7 := Lib.hid (X6.out.grow hg7); have V7 := Lib.hid (V6.out.grow hg7); clear hg7)
      | (go_at_call 23; refine (rname_ok nm' _ HNM.out).mono ?_; rintro e w8 ⟨rfl, hg8⟩; have G8 := Lib.hid (G7.out.trans hg8); have V8 := Lib.hid (V7.out.grow hg8); have X8 := Lib.hid (X7.out.grow hg8); have r0 := (cell_of_row w8 B 0 _ _ _ X8.out).trans rfl; have r1 := (cell_of_row w8 B 1 _ _ _ X8.out).trans rfl; have r2 := (cell_of_row w8 B 2 _ _ _ X8.out).trans rfl; have r3 := (cell_of_row w8 B 3 _ _ _ X8.out).trans rfl; have r4 := (cell_of_row w8 B 4 _ _ _ X8.out).trans rfl; simp at r0 r1 r2 r3 r4; clear hg8)
      | (go_at_call 24; refine (count_any 33 _ _ _ _ (by rw [← HC.out]; exact hcn) (by omega) V8.out).mono ?_; rintro e w9 ⟨rfl, hg9⟩; rw [← HC.out]; have G9 := Lib.hid (G8.out.trans hg9); clear hg9))
    go_ret
    exact ⟨rfl, G9.out⟩
end Go.Proofs.YtfkdjdmbgednkaaDoor

/- WriteBack: what is written is read again; the walk. -/
import Derived.Test.YtdpkhmfolmcejaaGreatDoorWNice
import Derived.Test.YtdpkhmfolmcejaaGreatDoorWMay
import Derived.Test.YtdpkhmfolmcejaaGreatDoorMDo
import Derived.Test.YtdpkhmfolmcejaaGreatDoorMBack
import Derived.Test.YtdpkhmfolmcejaaGreatDoorNear
import Derived.Test.YtdpkhmfolmcejaaGreatDoorSame6
import Derived.Test.YtdpkhmfolmcejaaGreatDoorMTree
import Derived.Test.YtdpkhmfolmcejaaGreatDoorMTr
import Derived.Deep.DeepCutAuto
namespace Go.Proofs.YtdpkhmfolmcejaaGreatDoor
open Go.RowKit
namespace Xm
theorem docN_new {d : Nat} {y : Nod} (hy : Nice d y) (hl : (docN y ByteArray.empty []).length ≤ 200000) : newT (str (docN y ByteArray.empty [])) = ⟨0, 0, 0⟩ :=
  new_lt (docN_lt d y _ _ hy (by intro c hc; cases hc)) hl
/-- an element's document is read as the element -/
theorem docN_parse {d : Nat} {y : Nod} (hy : Nice d y) (hd32 : d ≤ 32) (hc : cnt y ≤ 2000) : parseT (str (docN y ByteArray.empty [])) = .ok y := by
  obtain ⟨s, hs⟩ : ∃ s, s = str (docN y ByteArray.empty []) := ⟨_, rfl⟩
  rw [← hs]
  have hz : s.size = (docN y ByteArray.empty []).length := by rw [hs, str_size]
  have hL : Lies s 0 (docN y ByteArray.empty []) := Lies.of (A := []) (B := []) (by rw [hs]; simp [str]) rfl
  have e : docN y ByteArray.empty [] = nodB y ByteArray.empty [] ++ [10] := by rw [docN_nod]; simp
  have hlen : s.size = (nodB y ByteArray.empty []).length + 1 := by rw [hz, e]; simp
  rw [e] at hL
  have L4 := hL.right
  obtain ⟨q, st2, g1, g2, g3, g4⟩ := node_T s d y [] [] hy (by intro c hc; cases hc) 0 (2 * s.size + 2) newB 0 0 hL.left (by kernel_rfl) (by intro r hr; simp [newB, xmlB] at hr; rcases hr with rfl | rfl <;> exact Nat.le_refl _) (by show 2 + d ≤ 100; omega) (by omega) (by omega) (by omega)
  rw [show str [] = ByteArray.empty from rfl] at g4
  have h4 : nextR s ⟨0 + (nodB y ByteArray.empty []).length, 0, 0⟩ = (⟨4, ByteArray.empty, [], str [10], (0 + (nodB y ByteArray.empty []).length : Nat)⟩, ⟨0 + (nodB y ByteArray.empty []).length + 1, 0, 0⟩) :=
    next_run ((bl_one (by decide)).no (by decide)) (by simp) (openT_bl (bl_one (by decide))) L4 (.inl (by rw [hlen]; simp))
  have h5 : nextR s ⟨0 + (nodB y ByteArray.empty []).length + 1, 0, 0⟩ = (Pc.zero, ⟨s.size, 0, 0⟩) := by
    rw [show 0 + (nodB y ByteArray.empty []).length + 1 = s.size by omega]
    exact next_eof _
  unfold parseT r0
  obtain ⟨f, hf⟩ : ∃ f, s.size + 1 = f + 1 + 1 + 1 := by
    obtain ⟨r, hr⟩ := nodB_first y ByteArray.empty []
    have : 1 ≤ (nodB y ByteArray.empty []).length := by rw [hr]; simp
    exact ⟨s.size - 2, by omega⟩
  rw [hf, doc_kid g1 g2 g3 g4, doc_text h4 rfl rfl (trim_bl (bl_one (by decide))), doc_end h5 rfl rfl]
theorem nice_may {d : Nat} {y : Nod} (hd : d ≤ 4) (hy : Nice d y) : mayB y = true := by
  obtain ⟨h1, _, h3⟩ := nice_all d y hy
  have := nice_le d y hd hy
  rw [mayB, h1, decide_eq_true (by omega), decide_eq_true (by omega)]
  rfl
theorem nice_doc {d : Nat} {y : Nod} (hd : d ≤ 4) (hy : Nice d y) : (docN y ByteArray.empty []).length ≤ 20000 := by
  have h := (docN_bd d d y ByteArray.empty [] hy (by simp) rfl).1
  have h2 := nice_le d y hd hy
  have h3 : (350 + 2 * d) * cnt y ≤ (350 + 2 * 4) * 40 := Nat.mul_le_mul (by omega) h2
  omega
theorem nice_wtext {d : Nat} {y : Nod} (hd : d ≤ 4) (hy : Nice d y) : wtext y = str (docN y ByteArray.empty []) := by
  rw [wtext, if_pos ⟨nice_may hd hy, by have := nice_doc hd hy; exact Nat.le_trans this (by omega)⟩]
  rfl
end Xm
set_option maxRecDepth 100000 in
set_option maxHeartbeats 4000000 in
theorem writeBack_walk (v0 : Value) (deep : Int) (w : World) (hx : Xm.ArgN w v0) (hT : Xm.Tab w) (hm : Xm.Max w) :
    Calls Tryz.prog 3 #[v0, .int .i64 deep] w fun e w' => e = .returned (.bool true) ∧ Flow.Grow w w' := by
  have HT := Lib.hid hT
  have HM := Lib.hid hm
  have HX := Lib.hid hx
  clear hT hm
  obtain ⟨sp, nm, tx, a1, a2, n1, c1, n2, c2, rfl⟩ := hx.form
  clear hx
  have b2 := Bits.i64_mask deep 2 (by omega) 3 (by decide)
  obtain ⟨jd, hjd⟩ : ∃ j : Nat, deep % 2 ^ 2 = (j : Int) := ⟨(deep % 2 ^ 2).toNat, by omega⟩
  have hd4 : jd < 4 := by omega
  rw [hjd] at b2
  have eJ : IntKind.i64.wrap ((jd : Int) + 1) = (jd : Int) + 1 := IntWalk.i64_in _ (by omega)
  clear hjd
  go_enter Tryz.func3, Tryz.ntmps3
  go_upto_region 1 with fail
  have G1 : Hid (Flow.Grow w (w.alloc (.cells #[.string sp, .string nm, .slice a1 n1 c1, .slice a2 n2 c2, .string tx] 25))) := Lib.hid (Flow.grow_alloc _ _)
  have X1 : Hid (Xm.RowN (w.alloc (.cells #[.string sp, .string nm, .slice a1 n1 c1, .slice a2 n2 c2, .string tx] 25)) w.heap.size #[.string sp, .string nm, .slice a1 n1 c1, .slice a2 n2 c2, .string tx]) := Lib.hid (heap_alloc_new _ _)
  obtain ⟨X, hX⟩ : ∃ X, X = w.heap.size := ⟨_, rfl⟩
  rw [← hX] at X1 ⊢
  clear hX
  generalize w.alloc (.cells #[.string sp, .string nm, .slice a1 n1 c1, .slice a2 n2 c2, .string tx] 25) = w1 at *
  have x0 := (cell_of_row w1 X 0 _ _ _ X1.out).trans rfl
  have x1 := (cell_of_row w1 X 1 _ _ _ X1.out).trans rfl
  have x2 := (cell_of_row w1 X 2 _ _ _ X1.out).trans rfl
  have x3 := (cell_of_row w1 X 3 _ _ _ X1.out).trans rfl
  have x4 := (cell_of_row w1 X 4 _ _ _ X1.out).trans rfl
  simp at x0 x1 x2 x3 x4
  have hne := near_any (jd + 1) _ w1 (by omega) (by omega) (HX.out.grow G1.out)
  rw [show ((jd + 1 : Nat) : Int) = (jd : Int) + 1 by omega] at hne
  have HN := Lib.hid hne
  clear hne
  go_upto_region 2 with (go_at_call 5; refine HN.out.mono ?_; rintro e w2 ⟨u, Y, rfl, hn, hny, hg⟩; have hn' := hn; obtain ⟨ysp, ynm, yl, yks, ytx⟩ := Y; obtain ⟨b1, b2', m1, m2, d1, d2, rfl⟩ := node_known hn'; clear hn')
  have gA := Flow.grow_alloc w2 (.cells #[.string ysp, .string ynm, .slice b1 m1 d1, .slice b2' m2 d2, .string ytx] 25)
  have X3 : Hid (Xm.RowN (w2.alloc (.cells #[.string ysp, .string ynm, .slice b1 m1 d1, .slice b2' m2 d2, .string ytx] 25)) w2.heap.size #[.string ysp, .string ynm, .slice b1 m1 d1, .slice b2' m2 d2, .string ytx]) := Lib.hid (heap_alloc_new w2 _)
  have V3 := Lib.hid (hn.grow gA)
  have G3 := Lib.hid ((G1.out.trans hg).trans gA)
  have HNY := Lib.hid hny
  obtain ⟨N, hN⟩ : ∃ N, N = w2.heap.size := ⟨_, rfl⟩
  rw [← hN] at X3 ⊢
  obtain ⟨Y, hY⟩ : ∃ Y, Y = Xm.Nod.mk ysp ynm yl yks ytx := ⟨_, rfl⟩
  rw [← hY] at V3 HNY
  have HY := Lib.hid hY
  clear hN hn hny gA hg x0 x1 x2 x3 x4 X1 HN HX hY
  generalize w2.alloc (.cells #[.string ysp, .string ynm, .slice b1 m1 d1, .slice b2' m2 d2, .string ytx] 25) = w3 at *
  have hcy := Xm.nice_le (jd + 1) Y (by omega) HNY.out
  have HC : Hid (Xm.cnt Y ≤ 40) := Lib.hid hcy
  have HSz := Lib.hid (Xm.nice_all (jd + 1) Y HNY.out).2.1
  have hdl := Xm.nice_doc (by omega : jd + 1 ≤ 4) HNY.out
  have HTx : Hid (∀ wq, Flow.Grow w3 wq → Calls Tryz.prog 6 #[.agg #[.string ysp, .string ynm, .slice b1 m1 d1, .slice b2' m2 d2, .string ytx]] wq fun e w' => e = .returned (.string (str (Xm.docN Y ByteArray.empty []))) ∧ Flow.Grow wq w') := Lib.hid (fun wq hq => by
    have h := wtext_any Y _ _ wq (by have := HC.out; omega) (V3.out.grow hq) HSz.out (Nat.le_trans hdl (by omega))
    rw [Xm.nice_wtext (by omega : jd + 1 ≤ 4) HNY.out] at h
    exact h)
  have HMa : Hid (∀ wq, Flow.Grow w3 wq → Calls Tryz.prog 9 #[.agg #[.string ysp, .string ynm, .slice b1 m1 d1, .slice b2' m2 d2, .string ytx]] wq fun e w' => e = .returned (.bool true) ∧ Flow.Grow wq w') := Lib.hid (fun wq hq => by
    have h := may_any Y _ _ wq (by have := HC.out; omega) (V3.out.grow hq) HSz.out
    rw [Xm.nice_may (by omega : jd + 1 ≤ 4) HNY.out] at h
    exact h)
  have HT6 : Hid (∀ wq, Flow.Grow w3 wq → Calls Tryz.prog 10 #[.agg #[.string ysp, .string ynm, .slice b1 m1 d1, .slice b2' m2 d2, .string ytx], .string ⟨#[]⟩, .string ⟨#[]⟩] wq fun e w' => e = .returned (.string (str (Xm.docN Y ByteArray.empty []))) ∧ Flow.Grow wq w') := Lib.hid (fun wq hq =>
    text6_any 40 Y _ _ ByteArray.empty [] wq HC.out (V3.out.grow hq) (Nat.le_trans hdl (by omega)))
  have HPT : Hid (Xm.parseT (str (Xm.docN Y ByteArray.empty [])) = .ok Y) := Lib.hid (Xm.docN_parse HNY.out (by omega) (by omega))
  have HPC : Hid (∀ wq, Flow.Grow w3 wq → Calls Tryz.prog 7 #[.string (str (Xm.docN Y ByteArray.empty []))] wq (ParsePost (str (Xm.docN Y ByteArray.empty [])) wq)) := Lib.hid (fun wq hq =>
    parse_any _ (by rw [str_size]; omega) (Xm.docN_new HNY.out (by omega)) wq (HT.out.grow (G3.out.trans hq)) (HM.out.grow (G3.out.trans hq)))
  obtain ⟨T, hTT⟩ : ∃ T, T = str (Xm.docN Y ByteArray.empty []) := ⟨_, rfl⟩
  rw [← hTT] at HTx HT6 HPT HPC
  clear hTT hdl hcy
  have RX : Hid (∀ wq, Flow.Grow w3 wq → wq.cell? ⟨N, 0, none⟩ = some (.string ysp) ∧ wq.cell? ⟨N, 1, none⟩ = some (.string ynm) ∧ wq.cell? ⟨N, 2, none⟩ = some (.slice b1 m1 d1) ∧ wq.cell? ⟨N, 3, none⟩ = some (.slice b2' m2 d2) ∧ wq.cell? ⟨N, 4, none⟩ = some (.string ytx)) := Lib.hid (fun wq h =>
    ⟨(cell_of_row wq N 0 _ _ _ (X3.out.grow h)).trans rfl, (cell_of_row wq N 1 _ _ _ (X3.out.grow h)).trans rfl, (cell_of_row wq N 2 _ _ _ (X3.out.grow h)).trans rfl, (cell_of_row wq N 3 _ _ _ (X3.out.grow h)).trans rfl, (cell_of_row wq N 4 _ _ _ (X3.out.grow h)).trans rfl⟩)
  obtain ⟨r0, r1, r2, r3, r4⟩ := RX.out w3 (Flow.grow_refl _)
  go_upto_region 3 with (go_at_call 6; refine (HTx.out w3 (Flow.grow_refl _)).mono ?_; rintro e w4 ⟨rfl, hg4⟩; have K4 := Lib.hid hg4; clear hg4)
  clear r0 r1 r2 r3 r4
  go_upto_region 4 with (go_at_call 7; refine (HPC.out w4 K4.out).mono ?_; rintro e w6 ⟨hg6, hp⟩; rw [HPT.out] at hp; obtain ⟨u, rfl, hu⟩ := hp; have hu' := hu; rw [HY.out] at hu'; obtain ⟨p1, p2, p3, p4, p5, p6, rfl⟩ := node_known hu'; clear hu')
  have gB := Flow.grow_alloc w6 (.cells #[.string ysp, .string ynm, .slice p1 p3 p5, .slice p2 p4 p6, .string ytx] 25)
  have Y7 : Hid (Xm.RowN (w6.alloc (.cells #[.string ysp, .string ynm, .slice p1 p3 p5, .slice p2 p4 p6, .string ytx] 25)) w6.heap.size #[.string ysp, .string ynm, .slice p1 p3 p5, .slice p2 p4 p6, .string ytx]) := Lib.hid (heap_alloc_new w6 _)
  have U7 := Lib.hid (hu.grow gB)
  have K7 := Lib.hid ((K4.out.trans hg6).trans gB)
  obtain ⟨M, hM⟩ : ∃ M, M = w6.heap.size := ⟨_, rfl⟩
  rw [← hM] at Y7 ⊢
  clear hM gB hu hg6
  generalize w6.alloc (.cells #[.string ysp, .string ynm, .slice p1 p3 p5, .slice p2 p4 p6, .string ytx] 25) = w7 at *
  have RY : Hid (∀ wq, Flow.Grow w7 wq → wq.cell? ⟨M, 0, none⟩ = some (.string ysp) ∧ wq.cell? ⟨M, 1, none⟩ = some (.string ynm) ∧ wq.cell? ⟨M, 2, none⟩ = some (.slice p1 p3 p5) ∧ wq.cell? ⟨M, 3, none⟩ = some (.slice p2 p4 p6) ∧ wq.cell? ⟨M, 4, none⟩ = some (.string ytx)) := Lib.hid (fun wq h =>
    ⟨(cell_of_row wq M 0 _ _ _ (Y7.out.grow h)).trans rfl, (cell_of_row wq M 1 _ _ _ (Y7.out.grow h)).trans rfl, (cell_of_row wq M 2 _ _ _ (Y7.out.grow h)).trans rfl, (cell_of_row wq M 3 _ _ _ (Y7.out.grow h)).trans rfl, (cell_of_row wq M 4 _ _ _ (Y7.out.grow h)).trans rfl⟩)
  go_wp2_with (first
    | (go_at_call 8; refine (awake7 _).mono ?_; rintro e w10 ⟨rfl, hg10⟩; have K10 := Lib.hid hg10; clear hg10; obtain ⟨r0, r1, r2, r3, r4⟩ := RX.out w10 (K7.out.trans K10.out))
    | (go_at_call 9; refine (HMa.out w10 (K7.out.trans K10.out)).mono ?_; rintro e w11 ⟨rfl, hg11⟩; have K11 := Lib.hid (K10.out.trans hg11); clear hg11; obtain ⟨t0, t1, t2, t3, t4⟩ := RX.out w11 (K7.out.trans K11.out))
    | (go_at_call 10; refine (HT6.out w11 (K7.out.trans K11.out)).mono ?_; rintro e w12 ⟨rfl, hg12⟩; have K12 := Lib.hid (K11.out.trans hg12); clear hg12; obtain ⟨q0, q1, q2, q3, q4⟩ := RX.out w12 (K7.out.trans K12.out); obtain ⟨s0, s1, s2, s3, s4⟩ := RY.out w12 K12.out)
    | (go_at_call 11; refine (same6_true 40 Y _ _ _ _ w12 HC.out (by omega) (V3.out.grow (K7.out.trans K12.out)) (U7.out.grow K12.out)).mono ?_; rintro e w13 ⟨rfl, hg13⟩))
  go_ret
  exact ⟨rfl, ((G3.out.trans K7.out).trans K12.out).trans hg13⟩
end Go.Proofs.YtdpkhmfolmcejaaGreatDoor

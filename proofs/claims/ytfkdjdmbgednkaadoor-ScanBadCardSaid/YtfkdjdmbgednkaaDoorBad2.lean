/- galliardlaw04.ScanBad: the walk. -/
import Derived.Test.YtfkdjdmbgednkaaDoorBad1
import Derived.Test.YtfkdjdmbgednkaaDoorScan12
namespace Go.Proofs.YtfkdjdmbgednkaaDoor
open Go.RowKit
namespace Xm
/-- the law's three rows in memory -/
structure BadRows (w : World) (A : Nat) : Prop where
  doc : ∀ j, j < 16 → w.cell? ⟨A, j, none⟩ = some (.string (badDoc j))
  at' : ∀ j, j < 16 → w.cell? ⟨A + 1, j, none⟩ = some (.int .i64 (badAt j))
  err : ∀ j, j < 16 → w.cell? ⟨A + 1 + 1, j, none⟩ = some (.int .i64 (badErr j))
  lt : A + 1 + 1 < w.heap.size
theorem BadRows.grow {w w' : World} {A : Nat} (h : BadRows w A) (g : Flow.Grow w w') : BadRows w' A := by
  have hl := h.lt
  exact ⟨fun j hj => (cell_grow g (by show A < _; omega)).trans (h.doc j hj), fun j hj => (cell_grow g (by show A + 1 < _; omega)).trans (h.at' j hj), fun j hj => (cell_grow g hl).trans (h.err j hj), Nat.lt_of_lt_of_le hl g.size⟩
theorem badRows_new (w : World) : BadRows (((w.alloc (.cells #[.string ⟨#[60, 49, 62]⟩, .string ⟨#[60, 97, 32, 98, 62]⟩, .string ⟨#[60, 97, 32, 98, 61, 99, 62]⟩, .string ⟨#[60, 97, 32, 98, 61, 39, 60, 39, 62]⟩, .string ⟨#[60, 97, 32, 98, 61, 39, 120, 39, 99, 61, 39, 121, 39, 62]⟩, .string ⟨#[60, 97, 32, 98, 61, 39, 39, 32, 98, 61, 39, 39, 62]⟩, .string ⟨#[38, 120, 59]⟩, .string ⟨#[60, 97]⟩, .string ⟨#[60, 47, 97]⟩, .string ⟨#[60, 33, 45, 45, 32, 45, 45, 32, 45, 45, 62]⟩, .string ⟨#[60, 33, 91, 67, 68, 65, 84, 65, 91]⟩, .string ⟨#[60, 97, 58, 98, 58, 99, 62]⟩, .string ⟨#[60, 32, 97, 62]⟩, .string ⟨#[60, 63, 120]⟩, .string ⟨#[1]⟩, .string ⟨#[60, 97, 32, 98, 61, 39, 38, 39, 47, 62]⟩] 9)).alloc (.cells #[.int .i64 1, .int .i64 4, .int .i64 5, .int .i64 6, .int .i64 8, .int .i64 8, .int .i64 0, .int .i64 2, .int .i64 3, .int .i64 0, .int .i64 9, .int .i64 1, .int .i64 1, .int .i64 0, .int .i64 0, .int .i64 6] 3)).alloc (.cells #[.int .i64 3, .int .i64 3, .int .i64 3, .int .i64 3, .int .i64 3, .int .i64 7, .int .i64 3, .int .i64 3, .int .i64 3, .int .i64 3, .int .i64 3, .int .i64 3, .int .i64 3, .int .i64 3, .int .i64 3, .int .i64 3] 34)) w.heap.size := by
  refine ⟨fun j hj => ?_, fun j hj => ?_, fun j hj => ?_, by simp⟩
  · rcases bad_cases hj with rfl | rfl | rfl | rfl | rfl | rfl | rfl | rfl | rfl | rfl | rfl | rfl | rfl | rfl | rfl | rfl <;> simp [go_sem, badDoc, badDocs]
  · rcases bad_cases hj with rfl | rfl | rfl | rfl | rfl | rfl | rfl | rfl | rfl | rfl | rfl | rfl | rfl | rfl | rfl | rfl <;> simp [go_sem, badAt, badAts]
  · rcases bad_cases hj with rfl | rfl | rfl | rfl | rfl | rfl | rfl | rfl | rfl | rfl | rfl | rfl | rfl | rfl | rfl | rfl <;> simp [go_sem, badErr, badErrs]
theorem grow_same {w w' : World} {b : Nat} {s : ByteArray} {k e bad : Int} (h : Sc w b s k e bad) (hm : Mv w b w') (h' : Sc w' b s k e bad) : Flow.Grow w w' :=
  ⟨hm.os, hm.tape, hm.output, hm.size, fun i hi _ => by
    by_cases hib : i = b
    · rw [hib]; exact (show w'.heap[b]? = _ from h').trans (show w.heap[b]? = _ from h).symm
    · exact hm.block i hi (by simp; omega)⟩
theorem badAt_lt {j : Nat} (h : j < 16) : 0 ≤ badAt j ∧ badAt j ≤ 9 := by
  rcases bad_cases h with rfl | rfl | rfl | rfl | rfl | rfl | rfl | rfl | rfl | rfl | rfl | rfl | rfl | rfl | rfl | rfl <;> decide
end Xm
theorem field_kind (v0 v1 v2 v3 v4 : Value) (w : World) : (Instr.field 27 (.agg #[v0, v1, v2, v3, v4]) 0).run Tryd.prog w = .ok v0 w := by kernel_rfl
/-- nothing comes where something is wrong -/
theorem next_done (b : Nat) (s : ByteArray) (k : Nat) (e bad : Int) (w : World) (h : Xm.Sc w b s k e bad) (he : e ≠ 0) (hs : s.size ≤ 900000000) (hT : Xm.Tab w) (hm : Xm.Max w) (hb1 : 1 < b) (hk : k ≤ s.size := by simp) :
    Calls Tryd.prog 12 #[.pointer (some ⟨b, 0, none⟩)] w fun r w' => ∃ v, r = .returned v ∧ (∃ ao cp, v = .agg #[.int .i64 0, .string ByteArray.empty, .slice ao 0 cp, .string ByteArray.empty, .int .i64 0]) ∧ Flow.Grow w w' := by
  refine (next_T b s ⟨k, e, bad⟩ w h hk hs hT hm hb1).mono ?_
  rintro r w' ⟨va, rfl, hat, hfr, hs3, hm3⟩
  rw [Xm.next_done (p := ⟨k, e, bad⟩) he] at hat hs3 ⊢
  obtain ⟨ao, cap, hva⟩ := hat.shape
  subst hva
  exact ⟨_, rfl, ⟨ao, cap, rfl⟩, Xm.grow_same h hm3 hs3⟩
set_option maxRecDepth 100000 in
set_option maxHeartbeats 2000000 in
theorem scanBad_walk (n : Int) (x : ByteArray) (w : World) (hx : x.size ≤ 9223372036854775807) (hT : Xm.Tab w) (hm : Xm.Max w) :
    Calls Tryd.prog 4 #[.int .i64 n, .string x] w fun r w' => r = .returned (.bool true) ∧ Flow.Grow w w' := by
  have HT := Lib.hid hT
  have HM := Lib.hid hm
  have Hb1 : Hid (1 < w.heap.size) := Lib.hid hT.1
  clear hT hm
  have hk := Bits.i64_mask n 4 (by omega) 15 (by decide)
  obtain ⟨j, hj⟩ : ∃ j : Nat, n % 2 ^ 4 = (j : Int) := ⟨(n % 2 ^ 4).toNat, by omega⟩
  have hj16 : j < 16 := by omega
  rw [hj] at hk
  clear hj
  go_enter Tryd.func4, Tryd.ntmps4
  go_upto_region 6 with fail
  have HR := Lib.hid (Xm.badRows_new w)
  have HG : Hid (Flow.Grow w (((w.alloc (.cells #[.string ⟨#[60, 49, 62]⟩, .string ⟨#[60, 97, 32, 98, 62]⟩, .string ⟨#[60, 97, 32, 98, 61, 99, 62]⟩, .string ⟨#[60, 97, 32, 98, 61, 39, 60, 39, 62]⟩, .string ⟨#[60, 97, 32, 98, 61, 39, 120, 39, 99, 61, 39, 121, 39, 62]⟩, .string ⟨#[60, 97, 32, 98, 61, 39, 39, 32, 98, 61, 39, 39, 62]⟩, .string ⟨#[38, 120, 59]⟩, .string ⟨#[60, 97]⟩, .string ⟨#[60, 47, 97]⟩, .string ⟨#[60, 33, 45, 45, 32, 45, 45, 32, 45, 45, 62]⟩, .string ⟨#[60, 33, 91, 67, 68, 65, 84, 65, 91]⟩, .string ⟨#[60, 97, 58, 98, 58, 99, 62]⟩, .string ⟨#[60, 32, 97, 62]⟩, .string ⟨#[60, 63, 120]⟩, .string ⟨#[1]⟩, .string ⟨#[60, 97, 32, 98, 61, 39, 38, 39, 47, 62]⟩] 9)).alloc (.cells #[.int .i64 1, .int .i64 4, .int .i64 5, .int .i64 6, .int .i64 8, .int .i64 8, .int .i64 0, .int .i64 2, .int .i64 3, .int .i64 0, .int .i64 9, .int .i64 1, .int .i64 1, .int .i64 0, .int .i64 0, .int .i64 6] 3)).alloc (.cells #[.int .i64 3, .int .i64 3, .int .i64 3, .int .i64 3, .int .i64 3, .int .i64 7, .int .i64 3, .int .i64 3, .int .i64 3, .int .i64 3, .int .i64 3, .int .i64 3, .int .i64 3, .int .i64 3, .int .i64 3, .int .i64 3] 34))) := Lib.hid (((Flow.grow_alloc _ _).trans (Flow.grow_alloc _ _)).trans (Flow.grow_alloc _ _))
  generalize (((w.alloc (.cells #[.string ⟨#[60, 49, 62]⟩, .string ⟨#[60, 97, 32, 98, 62]⟩, .string ⟨#[60, 97, 32, 98, 61, 99, 62]⟩, .string ⟨#[60, 97, 32, 98, 61, 39, 60, 39, 62]⟩, .string ⟨#[60, 97, 32, 98, 61, 39, 120, 39, 99, 61, 39, 121, 39, 62]⟩, .string ⟨#[60, 97, 32, 98, 61, 39, 39, 32, 98, 61, 39, 39, 62]⟩, .string ⟨#[38, 120, 59]⟩, .string ⟨#[60, 97]⟩, .string ⟨#[60, 47, 97]⟩, .string ⟨#[60, 33, 45, 45, 32, 45, 45, 32, 45, 45, 62]⟩, .string ⟨#[60, 33, 91, 67, 68, 65, 84, 65, 91]⟩, .string ⟨#[60, 97, 58, 98, 58, 99, 62]⟩, .string ⟨#[60, 32, 97, 62]⟩, .string ⟨#[60, 63, 120]⟩, .string ⟨#[1]⟩, .string ⟨#[60, 97, 32, 98, 61, 39, 38, 39, 47, 62]⟩] 9)).alloc (.cells #[.int .i64 1, .int .i64 4, .int .i64 5, .int .i64 6, .int .i64 8, .int .i64 8, .int .i64 0, .int .i64 2, .int .i64 3, .int .i64 0, .int .i64 9, .int .i64 1, .int .i64 1, .int .i64 0, .int .i64 0, .int .i64 6] 3)).alloc (.cells #[.int .i64 3, .int .i64 3, .int .i64 3, .int .i64 3, .int .i64 3, .int .i64 7, .int .i64 3, .int .i64 3, .int .i64 3, .int .i64 3, .int .i64 3, .int .i64 3, .int .i64 3, .int .i64 3, .int .i64 3, .int .i64 3] 34)) = w1 at *
  obtain ⟨A, hA⟩ : ∃ A, A = w.heap.size := ⟨_, rfl⟩
  rw [← hA] at HR ⊢
  have HAw := Lib.hid hA
  clear hA
  obtain ⟨D, hD⟩ : ∃ D, D = Xm.badDoc j := ⟨_, rfl⟩
  obtain ⟨S, hS⟩ : ∃ S, S = Xm.badQ ++ Xm.badDoc j := ⟨_, rfl⟩
  have hSr : (⟨#[60, 113, 47, 62]⟩ : ByteArray) ++ D = S := by rw [hD, hS]; rfl
  have hz := Xm.bad_size hj16
  have h1 := Xm.bad_new hj16
  have h2 := Xm.bad_first hj16
  have h3 := Xm.bad_second hj16
  rw [← hS] at hz h1 h2 h3
  have hDz : D.size ≤ 96 := by
    have h5 : S.size = 4 + D.size := by rw [← hSr, ByteArray.size_append]; rfl
    omega
  have hc := HR.out.doc j hj16
  rw [← hD] at hc
  have H1 := Lib.hid h1
  have H2 := Lib.hid h2
  have H3 := Lib.hid h3
  have Hz := Lib.hid hz
  clear h1 h2 h3 hz hD hS
  have hp1 : ¬ 9223372036854775807 < 4 + D.size := by omega
  have hj0 : ¬ (16 : Int) ≤ (j : Int) := by omega
  have hj0' : ¬ 16 ≤ j := by omega
  go_upto_region 7 with (go_at_call 11; refine (new_T S w1 (by have := Hz.out; omega)).mono ?_; rintro e w2 ⟨rfl, hs2, hg2⟩)
  rw [H1.out] at hs2
  obtain ⟨B, hB⟩ : ∃ B, B = w1.heap.size := ⟨_, rfl⟩
  rw [← hB] at hs2 ⊢
  have HBw : Hid (w.heap.size ≤ B) := Lib.hid (by rw [hB]; exact HG.out.size)
  have HB := Lib.hid hB
  have HBs : Hid (1 < B) := Lib.hid (Nat.lt_of_lt_of_le Hb1.out HBw.out)
  have HS2 := Lib.hid hs2
  have HG2 := Lib.hid hg2
  clear hB hg2 hs2 hc
  have HT2 : Hid (Xm.Tab w2) := Lib.hid (HT.out.grow (HG.out.trans HG2.out))
  have HM2 : Hid (Xm.Max w2) := Lib.hid (HM.out.grow (HG.out.trans HG2.out))
  go_upto_region 8 with (go_at_call 12; refine (next_T B S ⟨0, 0, 0⟩ w2 HS2.out (by simp) (by have := Hz.out; omega) HT2.out HM2.out HBs.out).mono ?_; rintro e w3 ⟨va, rfl, hat, hfr, hs3, hm3⟩; rw [H2.out] at hat hs3 ⊢; obtain ⟨ao, cap, hva⟩ := hat.shape; subst hva; clear hat hfr; unfold Xm.Pc.cells)
  have HG3 : Hid (Flow.Grow w1 w3) := Lib.hid (Xm.Mv.grow HG2.out hm3 (by rw [HB.out]; exact Nat.le_refl _))
  have HP4 : Hid (Xm.Row5 (w3.alloc (.cells #[.int .i64 3, .string ⟨#[113]⟩, .slice ao 0 cap, .string ⟨#[]⟩, .int .i64 0] 27)) w3.heap.size #[.int .i64 3, .string ⟨#[113]⟩, .slice ao 0 cap, .string ⟨#[]⟩, .int .i64 0]) := Lib.hid (heap_alloc_new _ _)
  have HS4 : Hid (Xm.Scs (w3.alloc (.cells #[.int .i64 3, .string ⟨#[113]⟩, .slice ao 0 cap, .string ⟨#[]⟩, .int .i64 0] 27)) B S ⟨4, 0, 0⟩) := Lib.hid (Xm.Sc.grow hs3 (Flow.grow_alloc _ _))
  have HG4 : Hid (Flow.Grow w1 (w3.alloc (.cells #[.int .i64 3, .string ⟨#[113]⟩, .slice ao 0 cap, .string ⟨#[]⟩, .int .i64 0] 27))) := Lib.hid (HG3.out.trans (Flow.grow_alloc _ _))
  have HAB : Hid (w3.heap.size ≠ B) := Lib.hid (by have h := hs3; have : B < w3.heap.size := Xm.Sc.lt h; omega)
  obtain ⟨A1, hA1⟩ : ∃ A, A = w3.heap.size := ⟨_, rfl⟩
  rw [← hA1] at HP4 HAB ⊢
  clear hA1 hs3 hm3 HG3 HS2 HG2 HT2 HM2 w2
  generalize w3.alloc (.cells #[.int .i64 3, .string ⟨#[113]⟩, .slice ao 0 cap, .string ⟨#[]⟩, .int .i64 0] 27) = w4 at *
  clear w3
  have HT4 : Hid (Xm.Tab w4) := Lib.hid (HT.out.grow (HG.out.trans HG4.out))
  have HM4 : Hid (Xm.Max w4) := Lib.hid (HM.out.grow (HG.out.trans HG4.out))
  obtain ⟨r, hr⟩ : ∃ r, r = Xm.nextR S ⟨4, 0, 0⟩ := ⟨_, rfl⟩
  have Hr := Lib.hid hr
  have h3 := H3.out
  rw [← hr] at h3
  obtain ⟨pc, q⟩ := r
  obtain ⟨qk, qe, qb⟩ := q
  obtain ⟨g1, g2, g3⟩ := h3
  simp only at g1 g2 g3
  subst g1
  have HE := Lib.hid g2
  have HQ := Lib.hid g3
  clear hr H3 H2 g2 g3
  go_upto_region 9 with (go_at_call 12; refine (next_T B S ⟨4, 0, 0⟩ w4 HS4.out Hz.out.1 (by have := Hz.out; omega) HT4.out HM4.out HBs.out).mono ?_; rintro e w5 ⟨va, rfl, hat, hfr, hs5, hm5⟩; rw [← Hr.out] at hat hs5 ⊢; obtain ⟨ao2, cap2, hva⟩ := hat.shape; subst hva; clear hat hfr; unfold Xm.Pc.cells)
  have HG5 : Hid (Flow.Grow w1 w5) := Lib.hid (Xm.Mv.grow HG4.out hm5 (by rw [HB.out]; exact Nat.le_refl _))
  have HP5 : Hid (Xm.Row5 w5 A1 #[.int .i64 3, .string ⟨#[113]⟩, .slice ao 0 cap, .string ⟨#[]⟩, .int .i64 0]) := Lib.hid (HP4.out.mv hm5 HAB.out)
  have HP6 : Hid (Xm.Row5 (w5.alloc (.cells #[.int .i64 0, .string ⟨#[]⟩, .slice ao2 0 cap2, .string ⟨#[]⟩, .int .i64 0] 27)) A1 #[.int .i64 3, .string ⟨#[113]⟩, .slice ao 0 cap, .string ⟨#[]⟩, .int .i64 0]) := Lib.hid (HP5.out.grow (Flow.grow_alloc _ _))
  have HR6 : Hid (Xm.Row5 (w5.alloc (.cells #[.int .i64 0, .string ⟨#[]⟩, .slice ao2 0 cap2, .string ⟨#[]⟩, .int .i64 0] 27)) w5.heap.size #[.int .i64 0, .string ⟨#[]⟩, .slice ao2 0 cap2, .string ⟨#[]⟩, .int .i64 0]) := Lib.hid (heap_alloc_new _ _)
  have HS6 : Hid (Xm.Scs (w5.alloc (.cells #[.int .i64 0, .string ⟨#[]⟩, .slice ao2 0 cap2, .string ⟨#[]⟩, .int .i64 0] 27)) B S ⟨qk, qe, qb⟩) := Lib.hid (Xm.Sc.grow hs5 (Flow.grow_alloc _ _))
  have HG6 : Hid (Flow.Grow w1 (w5.alloc (.cells #[.int .i64 0, .string ⟨#[]⟩, .slice ao2 0 cap2, .string ⟨#[]⟩, .int .i64 0] 27))) := Lib.hid (HG5.out.trans (Flow.grow_alloc _ _))
  obtain ⟨A2, hA2⟩ : ∃ A, A = w5.heap.size := ⟨_, rfl⟩
  rw [← hA2] at HR6 ⊢
  clear hA2 hs5 hm5 HG5 HP5 HP4 HG4 HS4 HT4 HM4 Hr w4 HAB
  generalize w5.alloc (.cells #[.int .i64 0, .string ⟨#[]⟩, .slice ao2 0 cap2, .string ⟨#[]⟩, .int .i64 0] 27) = w6 at *
  clear w5
  have ht : (x.extract 0 (min (x.size : Int) 9).toNat).size ≤ 9 := by simp; omega
  go_upto_region 10 with (go_at_call 17; refine (rplain_any _ _ (by simp; omega)).mono ?_; rintro e w7 ⟨rfl, hg7⟩)
  have HG7 : Hid (Flow.Grow w1 w7) := Lib.hid (HG6.out.trans hg7)
  have HP7 := Lib.hid (HP6.out.grow hg7)
  have HR7 := Lib.hid (HR6.out.grow hg7)
  have HS7 : Hid (Xm.Scs w7 B S ⟨qk, qe, qb⟩) := Lib.hid (Xm.Sc.grow HS6.out hg7)
  have hbz : (Xm.rplain (x.extract 0 (min (x.size : Int) 9).toNat) 0 ByteArray.empty).size ≤ 9 := by
    have := Xm.rplain_size (x.extract 0 (min (x.size : Int) 9).toNat) _ 0 ByteArray.empty rfl (Nat.zero_le _)
    have h0 : ByteArray.empty.size = 0 := rfl
    omega
  have HN := Lib.hid (Xm.bad_text (Xm.plain_cat (x.extract 0 (min (x.size : Int) 9).toNat)) (by omega))
  clear HG6 HP6 HR6 HS6 hg7 w6
  generalize Xm.rplain (x.extract 0 (min (x.size : Int) 9).toNat) 0 ByteArray.empty = y at *
  clear ht
  have hy1 : (⟨#[255]⟩ : ByteArray).size = 1 := rfl
  have hp2 : ¬ 9223372036854775807 < y.size + 1 := by omega
  obtain ⟨Y, hY⟩ : ∃ Y, Y = y ++ (⟨#[255]⟩ : ByteArray) := ⟨_, rfl⟩
  have hYz : Y.size ≤ 900000000 := by rw [hY, ByteArray.size_append, hy1]; omega
  rw [← hY] at HN
  have hYr := hY.symm
  clear hY hy1
  go_upto_region 11 with (go_at_call 11; refine (new_T Y w7 hYz).mono ?_; rintro e w8 ⟨rfl, hs8, hg8⟩)
  rw [HN.out] at hs8
  obtain ⟨U, hU⟩ : ∃ U, U = w7.heap.size := ⟨_, rfl⟩
  rw [← hU] at hs8 ⊢
  have HG8 : Hid (Flow.Grow w1 w8) := Lib.hid (HG7.out.trans hg8)
  have HP8 := Lib.hid (HP7.out.grow hg8)
  have HR8 := Lib.hid (HR7.out.grow hg8)
  have HS8 : Hid (Xm.Scs w8 B S ⟨qk, qe, qb⟩) := Lib.hid (Xm.Sc.grow HS7.out hg8)
  have HU8 := Lib.hid hs8
  have HUs : Hid (1 < U) := Lib.hid (by have h1 := HG7.out.size; have h2 := HB.out; have h3 := HBs.out; omega)
  clear HG7 HP7 HR7 HS7 HN hg8 hs8 hU w7
  obtain ⟨M, Z, hZ, hZ2, hmk, hcv⟩ := make_big
  have HZ := Lib.hid (Xm.big_new hZ)
  go_upto_region 12 with (go_at_call 11; refine (new_T Z _ hZ2).mono ?_; rintro e w9 ⟨rfl, hs9, hg9⟩)
  rw [HZ.out] at hs9
  obtain ⟨V, hV⟩ : ∃ V, V = w8.heap.size + 1 := ⟨_, rfl⟩
  have hs9b : Xm.Scs w9 V Z ⟨0, 5, 200000⟩ := by rw [hV]; simpa using hs9
  rw [← hV]
  have HV9 := Lib.hid hs9b
  have HG9 : Hid (Flow.Grow w1 w9) := Lib.hid ((HG8.out.trans (Flow.grow_alloc _ _)).trans hg9)
  have HP9 := Lib.hid ((HP8.out.grow (Flow.grow_alloc _ _)).grow hg9)
  have HR9 := Lib.hid ((HR8.out.grow (Flow.grow_alloc _ _)).grow hg9)
  have HS9 : Hid (Xm.Scs w9 B S ⟨qk, qe, qb⟩) := Lib.hid (Xm.Sc.grow (Xm.Sc.grow HS8.out (Flow.grow_alloc _ _)) hg9)
  have HU9 : Hid (Xm.Scs w9 U Y ⟨0, 2, y.size⟩) := Lib.hid (Xm.Sc.grow (Xm.Sc.grow HU8.out (Flow.grow_alloc _ _)) hg9)
  clear HG8 HP8 HR8 HS8 HU8 hg9 hs9 hs9b hmk hcv HZ hZ hV
  go_upto_region 14 with (go_at_call 18; refine (wrong_nil _ _ _).mono ?_; rintro e w10 ⟨rfl, rfl⟩)
  have hUs : 1 < U := HUs.out
  obtain ⟨q0, hq0⟩ : ∃ q0, q0 = qe := ⟨_, rfl⟩
  have HAt : Hid (Xm.atOf (Xm.badErr j) qk qb = 4 + Xm.badAt j) := Lib.hid (by rw [Xm.atOf, if_neg (Xm.badErr_ne hj16)]; exact HQ.out)
  have HSj : Hid (Xm.Sc w9 B S qk (Xm.badErr j) qb) := Lib.hid (by rw [← HE.out]; exact HS9.out)
  have Hba : Hid (0 ≤ Xm.badAt j ∧ Xm.badAt j ≤ 9) := Lib.hid (Xm.badAt_lt hj16)
  have HR9j : Hid (Xm.BadRows w9 A) := Lib.hid (HR.out.grow HG9.out)
  have HT9 : Hid (Xm.Tab w9) := Lib.hid (HT.out.grow (HG.out.trans HG9.out))
  have HM9 : Hid (Xm.Max w9) := Lib.hid (HM.out.grow (HG.out.trans HG9.out))
  have HG0 : Hid (Flow.Grow w w9) := Lib.hid (HG.out.trans HG9.out)
  clear hq0 q0 HS9 HE HQ HR
  refine Flow.region_grown (Fs := [.inl (.bool true), .inl (.bool true), .inl (.pointer (some ⟨A1, 0, none⟩)), .inl (.int .i64 3), .inl (.bool true), .inl (.bool true), .inl (.bool true), .inl (.pointer (some ⟨A2, 0, none⟩)), .inl (.int .i64 0), .inl (.bool true), .inl (.bool true), .inl (.bool true), .inl ((.pointer (some ⟨B, 0, none⟩))), .inl (.int .i64 (Xm.badErr j)), .inl ((.slice (some ⟨A + 1 + 1, 0, none⟩) 16 16)), .inl ((.int .i64 (j : Int))), .inl (.pointer (some ⟨A + 1 + 1, j, none⟩)), .inl (.int .i64 (Xm.badErr j)), .inl (.bool true), .inl (.bool true), .inl (.bool true), .inl ((.pointer (some ⟨B, 0, none⟩))), .inl (.int .i64 (4 + Xm.badAt j)), .inl ((.string ⟨#[60, 113, 47, 62]⟩)), .inl (.int .i64 4), .inl ((.slice (some ⟨A + 1, 0, none⟩) 16 16)), .inl ((.int .i64 (j : Int))), .inl (.pointer (some ⟨A + 1, j, none⟩)), .inl (.int .i64 (Xm.badAt j)), .inl (.int .i64 (4 + Xm.badAt j)), .inl (.bool true), .inl (.bool true), .inl (.bool true), .inl ((.pointer (some ⟨U, 0, none⟩))), .inl (.int .i64 2), .inl (.bool true), .inl (.bool true), .inl (.bool true), .inl ((.pointer (some ⟨U, 0, none⟩))), .inl (.int .i64 (y.size : Int)), .inl ((.string y)), .inl (.int .i64 (y.size : Int)), .inl (.bool true), .inl (.bool true), .inl (.bool true), .inl ((.pointer (some ⟨U, 0, none⟩))), .inr (fun v _ => ∃ ao cp, v = .agg #[.int .i64 0, .string ByteArray.empty, .slice ao 0 cp, .string ByteArray.empty, .int .i64 0]), .inl (.int .i64 0), .inl (.bool true), .inl (.bool true), .inl (.bool true), .inl ((.pointer (some ⟨V, 0, none⟩))), .inl (.int .i64 5), .inl (.bool true), .inl (.bool true), .inl (.bool true), .inl ((.pointer none)), .inl (.int .i64 1), .inl (.bool true), .inl (.bool true), .inl (.bool true), .inl ((.pointer none)), .inl (.int .i64 0), .inl (.bool true), .inl (.bool true), .inl (.bool true), .inl ((.pointer none)), .inl (.agg #[.int .i64 0, .string ByteArray.empty, .slice none 0 0, .string ByteArray.empty, .int .i64 0]), .inl (.int .i64 0), .inl (.bool true), .inl (.bool true), .inl (.bool true)])
    (S := [[], [0], [1], [2, 1], [3, 1], [1, 4], [5], [6], [7, 6], [8, 6], [6, 9], [10], [11], [12, 11], [11], [11], [14, 15, 11], [16, 11], [13, 17, 11], [11, 18], [19], [20], [21, 20], [20], [23, 20], [20], [20], [25, 26, 20], [27, 20], [24, 28, 20], [22, 29, 20], [20, 30], [31], [32], [33, 32], [34, 32], [32, 35], [36], [37], [38, 37], [37], [40, 37], [39, 41, 37], [37, 42], [43], [44], [45, 44], [46, 44], [47, 44], [44, 48], [49], [50], [51, 50], [52, 50], [50, 53], [54], [55], [56, 55], [57, 55], [55, 58], [59], [60], [61, 60], [62, 60], [60, 63], [64], [65], [66, 65], [67, 65], [68, 65], [65, 69], [70]]) (by kernel_rfl) (by kernel_rfl) (by kernel_rfl) rfl ?stab14 ?ones14 ?ends14
  case ones14 =>
    refine Flow.Ones.cons ?_ ?_
    · intro a w hC hoff _
      refine .inl ⟨Flow.want_none rfl, ?_⟩
      exact Flow.run_call (Flow.exec_call (args := #[]) rfl Tryd.func15 (by kernel_rfl) (by kernel_rfl) (by simp only [List.map_toArray, List.map_nil])) ((awake_T w (HT9.out.grow hC) (HM9.out.grow hC)).mono fun e w' ⟨he, hg⟩ => ⟨_, he, hg, rfl⟩)
    refine Flow.Ones.cons ?_ ?_
    · rintro a w hC hoff ⟨k0, -⟩
      have e47 : a.eval (.tmp 47) = .bool true := k0 47 rfl
      refine .inl ⟨Flow.want_none rfl, ?_⟩
      exact Flow.run_same (Flow.exec_move (.inl rfl) e47) Flow.grow_refl
    refine Flow.Ones.cons ?_ ?_
    · rintro a w hC hoff ⟨k1, -⟩
      have e48 : a.eval (.tmp 48) = .bool true := k1 48 rfl
      have e11 : a.eval (.tmp 11) = (.pointer (some ⟨A1, 0, none⟩)) := hoff.at 11 (by kernel_rfl)
      refine .inl ⟨Flow.want_yes rfl rfl e48, ?_⟩
      refine Flow.run_same ?_ Flow.grow_refl
      have ec := Flow.eval_const a
      generalize a.eval = ρ at e11 ec ⊢
      simp [execOp, e11, go_sem]
    refine Flow.Ones.cons ?_ ?_
    · rintro a w hC hoff ⟨k2, k1, -⟩
      have e49 : a.eval (.tmp 49) = .pointer (some ⟨A1, 0, none⟩) := k2 49 rfl
      have e48 : a.eval (.tmp 48) = .bool true := k1 48 rfl
      refine .inl ⟨Flow.want_yes rfl rfl e48, ?_⟩
      refine Flow.run_same ?_ Flow.grow_refl
      have ec := Flow.eval_const a
      generalize a.eval = ρ at e49 ec ⊢
      have hc := (cell_of_row w A1 0 _ _ _ (HP9.out.grow hC)).trans rfl
      simp [execOp, e49, hc, go_sem]
    refine Flow.Ones.cons ?_ ?_
    · rintro a w hC hoff ⟨k3, k1, -⟩
      have e50 : a.eval (.tmp 50) = .int .i64 3 := k3 50 rfl
      have e48 : a.eval (.tmp 48) = .bool true := k1 48 rfl
      refine .inl ⟨Flow.want_yes rfl rfl e48, ?_⟩
      refine Flow.run_same ?_ Flow.grow_refl
      have ec := Flow.eval_const a
      generalize a.eval = ρ at e50 ec ⊢
      simp [execOp, e50, ec, go_sem]
    refine Flow.Ones.cons ?_ ?_
    · rintro a w hC hoff ⟨k1, k4, -⟩
      have e48 : a.eval (.tmp 48) = .bool true := k1 48 rfl
      have e51 : a.eval (.tmp 51) = .bool true := k4 51 rfl
      refine .inl ⟨Flow.want_none rfl, ?_⟩
      exact Flow.run_same (Flow.exec_pick_yes rfl e48 e51) Flow.grow_refl
    refine Flow.Ones.cons ?_ ?_
    · rintro a w hC hoff ⟨k5, -⟩
      have e52 : a.eval (.tmp 52) = .bool true := k5 52 rfl
      refine .inl ⟨Flow.want_none rfl, ?_⟩
      exact Flow.run_same (Flow.exec_move (.inl rfl) e52) Flow.grow_refl
    refine Flow.Ones.cons ?_ ?_
    · rintro a w hC hoff ⟨k6, -⟩
      have e53 : a.eval (.tmp 53) = .bool true := k6 53 rfl
      have e12 : a.eval (.tmp 12) = (.pointer (some ⟨A2, 0, none⟩)) := hoff.at 12 (by kernel_rfl)
      refine .inl ⟨Flow.want_yes rfl rfl e53, ?_⟩
      refine Flow.run_same ?_ Flow.grow_refl
      have ec := Flow.eval_const a
      generalize a.eval = ρ at e12 ec ⊢
      simp [execOp, e12, go_sem]
    refine Flow.Ones.cons ?_ ?_
    · rintro a w hC hoff ⟨k7, k6, -⟩
      have e54 : a.eval (.tmp 54) = .pointer (some ⟨A2, 0, none⟩) := k7 54 rfl
      have e53 : a.eval (.tmp 53) = .bool true := k6 53 rfl
      refine .inl ⟨Flow.want_yes rfl rfl e53, ?_⟩
      refine Flow.run_same ?_ Flow.grow_refl
      have ec := Flow.eval_const a
      generalize a.eval = ρ at e54 ec ⊢
      have hc := (cell_of_row w A2 0 _ _ _ (HR9.out.grow hC)).trans rfl
      simp [execOp, e54, hc, go_sem]
    refine Flow.Ones.cons ?_ ?_
    · rintro a w hC hoff ⟨k8, k6, -⟩
      have e55 : a.eval (.tmp 55) = .int .i64 0 := k8 55 rfl
      have e53 : a.eval (.tmp 53) = .bool true := k6 53 rfl
      refine .inl ⟨Flow.want_yes rfl rfl e53, ?_⟩
      refine Flow.run_same ?_ Flow.grow_refl
      have ec := Flow.eval_const a
      generalize a.eval = ρ at e55 ec ⊢
      simp [execOp, e55, ec, go_sem]
    refine Flow.Ones.cons ?_ ?_
    · rintro a w hC hoff ⟨k6, k9, -⟩
      have e53 : a.eval (.tmp 53) = .bool true := k6 53 rfl
      have e56 : a.eval (.tmp 56) = .bool true := k9 56 rfl
      refine .inl ⟨Flow.want_none rfl, ?_⟩
      exact Flow.run_same (Flow.exec_pick_yes rfl e53 e56) Flow.grow_refl
    refine Flow.Ones.cons ?_ ?_
    · rintro a w hC hoff ⟨k10, -⟩
      have e57 : a.eval (.tmp 57) = .bool true := k10 57 rfl
      refine .inl ⟨Flow.want_none rfl, ?_⟩
      exact Flow.run_same (Flow.exec_move (.inl rfl) e57) Flow.grow_refl
    refine Flow.Ones.cons ?_ ?_
    · rintro a w hC hoff ⟨k11, -⟩
      have e58 : a.eval (.tmp 58) = .bool true := k11 58 rfl
      have e10 : a.eval (.tmp 10) = (.pointer (some ⟨B, 0, none⟩)) := hoff.at 10 (by kernel_rfl)
      refine .inl ⟨Flow.want_yes rfl rfl e58, ?_⟩
      exact Flow.run_same (Flow.exec_move (.inl rfl) e10) Flow.grow_refl
    refine Flow.Ones.cons ?_ ?_
    · rintro a w hC hoff ⟨k12, k11, -⟩
      have e59 : a.eval (.tmp 59) = (.pointer (some ⟨B, 0, none⟩)) := k12 59 rfl
      have e58 : a.eval (.tmp 58) = .bool true := k11 58 rfl
      refine .inl ⟨Flow.want_yes rfl rfl e58, ?_⟩
      exact Flow.run_call (Flow.exec_call (args := #[((.pointer (some ⟨B, 0, none⟩)))]) rfl Tryd.func14 (by kernel_rfl) (by kernel_rfl) (by simp only [List.map_toArray, List.map_cons, List.map_nil, e59] <;> rfl)) ((err_any _ _ _ _ _ _ (Xm.Sc.grow HSj.out hC)).mono fun e w' ⟨he, hw⟩ => ⟨_, he, hw ▸ Flow.grow_refl _, rfl⟩)
    refine Flow.Ones.cons ?_ ?_
    · rintro a w hC hoff ⟨k11, -⟩
      have e58 : a.eval (.tmp 58) = .bool true := k11 58 rfl
      have e7 : a.eval (.tmp 7) = (.slice (some ⟨A + 1 + 1, 0, none⟩) 16 16) := hoff.at 7 (by kernel_rfl)
      refine .inl ⟨Flow.want_yes rfl rfl e58, ?_⟩
      exact Flow.run_same (Flow.exec_move (.inl rfl) e7) Flow.grow_refl
    refine Flow.Ones.cons ?_ ?_
    · rintro a w hC hoff ⟨k11, -⟩
      have e58 : a.eval (.tmp 58) = .bool true := k11 58 rfl
      have e8 : a.eval (.tmp 8) = (.int .i64 (j : Int)) := hoff.at 8 (by kernel_rfl)
      refine .inl ⟨Flow.want_yes rfl rfl e58, ?_⟩
      exact Flow.run_same (Flow.exec_move (.inl rfl) e8) Flow.grow_refl
    refine Flow.Ones.cons ?_ ?_
    · rintro a w hC hoff ⟨k14, k15, k11, -⟩
      have e61 : a.eval (.tmp 61) = (.slice (some ⟨A + 1 + 1, 0, none⟩) 16 16) := k14 61 rfl
      have e62 : a.eval (.tmp 62) = (.int .i64 (j : Int)) := k15 62 rfl
      have e58 : a.eval (.tmp 58) = .bool true := k11 58 rfl
      refine .inl ⟨Flow.want_yes rfl rfl e58, ?_⟩
      refine Flow.run_same ?_ Flow.grow_refl
      have ec := Flow.eval_const a
      generalize a.eval = ρ at e61 e62 ec ⊢
      simp [execOp, e61, e62, go_sem]; intro hh; omega
    refine Flow.Ones.cons ?_ ?_
    · rintro a w hC hoff ⟨k16, k11, -⟩
      have e63 : a.eval (.tmp 63) = .pointer (some ⟨A + 1 + 1, j, none⟩) := k16 63 rfl
      have e58 : a.eval (.tmp 58) = .bool true := k11 58 rfl
      refine .inl ⟨Flow.want_yes rfl rfl e58, ?_⟩
      refine Flow.run_same ?_ Flow.grow_refl
      have ec := Flow.eval_const a
      generalize a.eval = ρ at e63 ec ⊢
      have hc := (HR9j.out.grow hC).err j hj16
      simp [execOp, e63, hc, go_sem]
    refine Flow.Ones.cons ?_ ?_
    · rintro a w hC hoff ⟨k13, k17, k11, -⟩
      have e60 : a.eval (.tmp 60) = .int .i64 (Xm.badErr j) := k13 60 rfl
      have e64 : a.eval (.tmp 64) = .int .i64 (Xm.badErr j) := k17 64 rfl
      have e58 : a.eval (.tmp 58) = .bool true := k11 58 rfl
      refine .inl ⟨Flow.want_yes rfl rfl e58, ?_⟩
      refine Flow.run_same ?_ Flow.grow_refl
      have ec := Flow.eval_const a
      generalize a.eval = ρ at e60 e64 ec ⊢
      simp [execOp, e60, e64, go_sem]
    refine Flow.Ones.cons ?_ ?_
    · rintro a w hC hoff ⟨k11, k18, -⟩
      have e58 : a.eval (.tmp 58) = .bool true := k11 58 rfl
      have e65 : a.eval (.tmp 65) = .bool true := k18 65 rfl
      refine .inl ⟨Flow.want_none rfl, ?_⟩
      exact Flow.run_same (Flow.exec_pick_yes rfl e58 e65) Flow.grow_refl
    refine Flow.Ones.cons ?_ ?_
    · rintro a w hC hoff ⟨k19, -⟩
      have e66 : a.eval (.tmp 66) = .bool true := k19 66 rfl
      refine .inl ⟨Flow.want_none rfl, ?_⟩
      exact Flow.run_same (Flow.exec_move (.inl rfl) e66) Flow.grow_refl
    refine Flow.Ones.cons ?_ ?_
    · rintro a w hC hoff ⟨k20, -⟩
      have e67 : a.eval (.tmp 67) = .bool true := k20 67 rfl
      have e10 : a.eval (.tmp 10) = (.pointer (some ⟨B, 0, none⟩)) := hoff.at 10 (by kernel_rfl)
      refine .inl ⟨Flow.want_yes rfl rfl e67, ?_⟩
      exact Flow.run_same (Flow.exec_move (.inl rfl) e10) Flow.grow_refl
    refine Flow.Ones.cons ?_ ?_
    · rintro a w hC hoff ⟨k21, k20, -⟩
      have e68 : a.eval (.tmp 68) = (.pointer (some ⟨B, 0, none⟩)) := k21 68 rfl
      have e67 : a.eval (.tmp 67) = .bool true := k20 67 rfl
      refine .inl ⟨Flow.want_yes rfl rfl e67, ?_⟩
      exact Flow.run_call (Flow.exec_call (args := #[((.pointer (some ⟨B, 0, none⟩)))]) rfl Tryd.func16 (by kernel_rfl) (by kernel_rfl) (by simp only [List.map_toArray, List.map_cons, List.map_nil, e68] <;> rfl)) ((at_any _ _ _ _ _ _ (Xm.Sc.grow HSj.out hC)).mono fun e w' ⟨he, hw⟩ => ⟨_, he, hw ▸ Flow.grow_refl _, by rw [HAt.out]; rfl⟩)
    refine Flow.Ones.cons ?_ ?_
    · rintro a w hC hoff ⟨k20, -⟩
      have e67 : a.eval (.tmp 67) = .bool true := k20 67 rfl
      have e9 : a.eval (.tmp 9) = (.string ⟨#[60, 113, 47, 62]⟩) := hoff.at 9 (by kernel_rfl)
      refine .inl ⟨Flow.want_yes rfl rfl e67, ?_⟩
      exact Flow.run_same (Flow.exec_move (.inl rfl) e9) Flow.grow_refl
    refine Flow.Ones.cons ?_ ?_
    · rintro a w hC hoff ⟨k23, k20, -⟩
      have e70 : a.eval (.tmp 70) = (.string ⟨#[60, 113, 47, 62]⟩) := k23 70 rfl
      have e67 : a.eval (.tmp 67) = .bool true := k20 67 rfl
      refine .inl ⟨Flow.want_yes rfl rfl e67, ?_⟩
      refine Flow.run_same ?_ Flow.grow_refl
      have ec := Flow.eval_const a
      generalize a.eval = ρ at e70 ec ⊢
      simp [execOp, e70, go_sem]
    refine Flow.Ones.cons ?_ ?_
    · rintro a w hC hoff ⟨k20, -⟩
      have e67 : a.eval (.tmp 67) = .bool true := k20 67 rfl
      have e6 : a.eval (.tmp 6) = (.slice (some ⟨A + 1, 0, none⟩) 16 16) := hoff.at 6 (by kernel_rfl)
      refine .inl ⟨Flow.want_yes rfl rfl e67, ?_⟩
      exact Flow.run_same (Flow.exec_move (.inl rfl) e6) Flow.grow_refl
    refine Flow.Ones.cons ?_ ?_
    · rintro a w hC hoff ⟨k20, -⟩
      have e67 : a.eval (.tmp 67) = .bool true := k20 67 rfl
      have e8 : a.eval (.tmp 8) = (.int .i64 (j : Int)) := hoff.at 8 (by kernel_rfl)
      refine .inl ⟨Flow.want_yes rfl rfl e67, ?_⟩
      exact Flow.run_same (Flow.exec_move (.inl rfl) e8) Flow.grow_refl
    refine Flow.Ones.cons ?_ ?_
    · rintro a w hC hoff ⟨k25, k26, k20, -⟩
      have e72 : a.eval (.tmp 72) = (.slice (some ⟨A + 1, 0, none⟩) 16 16) := k25 72 rfl
      have e73 : a.eval (.tmp 73) = (.int .i64 (j : Int)) := k26 73 rfl
      have e67 : a.eval (.tmp 67) = .bool true := k20 67 rfl
      refine .inl ⟨Flow.want_yes rfl rfl e67, ?_⟩
      refine Flow.run_same ?_ Flow.grow_refl
      have ec := Flow.eval_const a
      generalize a.eval = ρ at e72 e73 ec ⊢
      simp [execOp, e72, e73, go_sem]; intro hh; omega
    refine Flow.Ones.cons ?_ ?_
    · rintro a w hC hoff ⟨k27, k20, -⟩
      have e74 : a.eval (.tmp 74) = .pointer (some ⟨A + 1, j, none⟩) := k27 74 rfl
      have e67 : a.eval (.tmp 67) = .bool true := k20 67 rfl
      refine .inl ⟨Flow.want_yes rfl rfl e67, ?_⟩
      refine Flow.run_same ?_ Flow.grow_refl
      have ec := Flow.eval_const a
      generalize a.eval = ρ at e74 ec ⊢
      have hc := (HR9j.out.grow hC).at' j hj16
      simp [execOp, e74, hc, go_sem]
    refine Flow.Ones.cons ?_ ?_
    · rintro a w hC hoff ⟨k24, k28, k20, -⟩
      have e71 : a.eval (.tmp 71) = .int .i64 4 := k24 71 rfl
      have e75 : a.eval (.tmp 75) = .int .i64 (Xm.badAt j) := k28 75 rfl
      have e67 : a.eval (.tmp 67) = .bool true := k20 67 rfl
      refine .inl ⟨Flow.want_yes rfl rfl e67, ?_⟩
      refine Flow.run_same ?_ Flow.grow_refl
      have ec := Flow.eval_const a
      generalize a.eval = ρ at e71 e75 ec ⊢
      simp [execOp, e71, e75, go_sem]; exact IntWalk.i64_in _ (by have := Hba.out; omega)
    refine Flow.Ones.cons ?_ ?_
    · rintro a w hC hoff ⟨k22, k29, k20, -⟩
      have e69 : a.eval (.tmp 69) = .int .i64 (4 + Xm.badAt j) := k22 69 rfl
      have e76 : a.eval (.tmp 76) = .int .i64 (4 + Xm.badAt j) := k29 76 rfl
      have e67 : a.eval (.tmp 67) = .bool true := k20 67 rfl
      refine .inl ⟨Flow.want_yes rfl rfl e67, ?_⟩
      refine Flow.run_same ?_ Flow.grow_refl
      have ec := Flow.eval_const a
      generalize a.eval = ρ at e69 e76 ec ⊢
      simp [execOp, e69, e76, go_sem]
    refine Flow.Ones.cons ?_ ?_
    · rintro a w hC hoff ⟨k20, k30, -⟩
      have e67 : a.eval (.tmp 67) = .bool true := k20 67 rfl
      have e77 : a.eval (.tmp 77) = .bool true := k30 77 rfl
      refine .inl ⟨Flow.want_none rfl, ?_⟩
      exact Flow.run_same (Flow.exec_pick_yes rfl e67 e77) Flow.grow_refl
    refine Flow.Ones.cons ?_ ?_
    · rintro a w hC hoff ⟨k31, -⟩
      have e78 : a.eval (.tmp 78) = .bool true := k31 78 rfl
      refine .inl ⟨Flow.want_none rfl, ?_⟩
      exact Flow.run_same (Flow.exec_move (.inl rfl) e78) Flow.grow_refl
    refine Flow.Ones.cons ?_ ?_
    · rintro a w hC hoff ⟨k32, -⟩
      have e79 : a.eval (.tmp 79) = .bool true := k32 79 rfl
      have e14 : a.eval (.tmp 14) = (.pointer (some ⟨U, 0, none⟩)) := hoff.at 14 (by kernel_rfl)
      refine .inl ⟨Flow.want_yes rfl rfl e79, ?_⟩
      exact Flow.run_same (Flow.exec_move (.inl rfl) e14) Flow.grow_refl
    refine Flow.Ones.cons ?_ ?_
    · rintro a w hC hoff ⟨k33, k32, -⟩
      have e80 : a.eval (.tmp 80) = (.pointer (some ⟨U, 0, none⟩)) := k33 80 rfl
      have e79 : a.eval (.tmp 79) = .bool true := k32 79 rfl
      refine .inl ⟨Flow.want_yes rfl rfl e79, ?_⟩
      exact Flow.run_call (Flow.exec_call (args := #[((.pointer (some ⟨U, 0, none⟩)))]) rfl Tryd.func14 (by kernel_rfl) (by kernel_rfl) (by simp only [List.map_toArray, List.map_cons, List.map_nil, e80] <;> rfl)) ((err_any _ _ _ _ _ _ (Xm.Sc.grow HU9.out hC)).mono fun e w' ⟨he, hw⟩ => ⟨_, he, hw ▸ Flow.grow_refl _, rfl⟩)
    refine Flow.Ones.cons ?_ ?_
    · rintro a w hC hoff ⟨k34, k32, -⟩
      have e81 : a.eval (.tmp 81) = .int .i64 2 := k34 81 rfl
      have e79 : a.eval (.tmp 79) = .bool true := k32 79 rfl
      refine .inl ⟨Flow.want_yes rfl rfl e79, ?_⟩
      refine Flow.run_same ?_ Flow.grow_refl
      have ec := Flow.eval_const a
      generalize a.eval = ρ at e81 ec ⊢
      simp [execOp, e81, ec, go_sem]
    refine Flow.Ones.cons ?_ ?_
    · rintro a w hC hoff ⟨k32, k35, -⟩
      have e79 : a.eval (.tmp 79) = .bool true := k32 79 rfl
      have e82 : a.eval (.tmp 82) = .bool true := k35 82 rfl
      refine .inl ⟨Flow.want_none rfl, ?_⟩
      exact Flow.run_same (Flow.exec_pick_yes rfl e79 e82) Flow.grow_refl
    refine Flow.Ones.cons ?_ ?_
    · rintro a w hC hoff ⟨k36, -⟩
      have e83 : a.eval (.tmp 83) = .bool true := k36 83 rfl
      refine .inl ⟨Flow.want_none rfl, ?_⟩
      exact Flow.run_same (Flow.exec_move (.inl rfl) e83) Flow.grow_refl
    refine Flow.Ones.cons ?_ ?_
    · rintro a w hC hoff ⟨k37, -⟩
      have e84 : a.eval (.tmp 84) = .bool true := k37 84 rfl
      have e14 : a.eval (.tmp 14) = (.pointer (some ⟨U, 0, none⟩)) := hoff.at 14 (by kernel_rfl)
      refine .inl ⟨Flow.want_yes rfl rfl e84, ?_⟩
      exact Flow.run_same (Flow.exec_move (.inl rfl) e14) Flow.grow_refl
    refine Flow.Ones.cons ?_ ?_
    · rintro a w hC hoff ⟨k38, k37, -⟩
      have e85 : a.eval (.tmp 85) = (.pointer (some ⟨U, 0, none⟩)) := k38 85 rfl
      have e84 : a.eval (.tmp 84) = .bool true := k37 84 rfl
      refine .inl ⟨Flow.want_yes rfl rfl e84, ?_⟩
      exact Flow.run_call (Flow.exec_call (args := #[((.pointer (some ⟨U, 0, none⟩)))]) rfl Tryd.func16 (by kernel_rfl) (by kernel_rfl) (by simp only [List.map_toArray, List.map_cons, List.map_nil, e85] <;> rfl)) ((at_any _ _ _ _ _ _ (Xm.Sc.grow HU9.out hC)).mono fun e w' ⟨he, hw⟩ => ⟨_, he, hw ▸ Flow.grow_refl _, rfl⟩)
    refine Flow.Ones.cons ?_ ?_
    · rintro a w hC hoff ⟨k37, -⟩
      have e84 : a.eval (.tmp 84) = .bool true := k37 84 rfl
      have e13 : a.eval (.tmp 13) = (.string y) := hoff.at 13 (by kernel_rfl)
      refine .inl ⟨Flow.want_yes rfl rfl e84, ?_⟩
      exact Flow.run_same (Flow.exec_move (.inl rfl) e13) Flow.grow_refl
    refine Flow.Ones.cons ?_ ?_
    · rintro a w hC hoff ⟨k40, k37, -⟩
      have e87 : a.eval (.tmp 87) = (.string y) := k40 87 rfl
      have e84 : a.eval (.tmp 84) = .bool true := k37 84 rfl
      refine .inl ⟨Flow.want_yes rfl rfl e84, ?_⟩
      refine Flow.run_same ?_ Flow.grow_refl
      have ec := Flow.eval_const a
      generalize a.eval = ρ at e87 ec ⊢
      simp [execOp, e87, go_sem]
    refine Flow.Ones.cons ?_ ?_
    · rintro a w hC hoff ⟨k39, k41, k37, -⟩
      have e86 : a.eval (.tmp 86) = .int .i64 (y.size : Int) := k39 86 rfl
      have e88 : a.eval (.tmp 88) = .int .i64 (y.size : Int) := k41 88 rfl
      have e84 : a.eval (.tmp 84) = .bool true := k37 84 rfl
      refine .inl ⟨Flow.want_yes rfl rfl e84, ?_⟩
      refine Flow.run_same ?_ Flow.grow_refl
      have ec := Flow.eval_const a
      generalize a.eval = ρ at e86 e88 ec ⊢
      simp [execOp, e86, e88, go_sem]
    refine Flow.Ones.cons ?_ ?_
    · rintro a w hC hoff ⟨k37, k42, -⟩
      have e84 : a.eval (.tmp 84) = .bool true := k37 84 rfl
      have e89 : a.eval (.tmp 89) = .bool true := k42 89 rfl
      refine .inl ⟨Flow.want_none rfl, ?_⟩
      exact Flow.run_same (Flow.exec_pick_yes rfl e84 e89) Flow.grow_refl
    refine Flow.Ones.cons ?_ ?_
    · rintro a w hC hoff ⟨k43, -⟩
      have e90 : a.eval (.tmp 90) = .bool true := k43 90 rfl
      refine .inl ⟨Flow.want_none rfl, ?_⟩
      exact Flow.run_same (Flow.exec_move (.inl rfl) e90) Flow.grow_refl
    refine Flow.Ones.cons ?_ ?_
    · rintro a w hC hoff ⟨k44, -⟩
      have e91 : a.eval (.tmp 91) = .bool true := k44 91 rfl
      have e14 : a.eval (.tmp 14) = (.pointer (some ⟨U, 0, none⟩)) := hoff.at 14 (by kernel_rfl)
      refine .inl ⟨Flow.want_yes rfl rfl e91, ?_⟩
      exact Flow.run_same (Flow.exec_move (.inl rfl) e14) Flow.grow_refl
    refine Flow.Ones.cons ?_ ?_
    · rintro a w hC hoff ⟨k45, k44, -⟩
      have e92 : a.eval (.tmp 92) = (.pointer (some ⟨U, 0, none⟩)) := k45 92 rfl
      have e91 : a.eval (.tmp 91) = .bool true := k44 91 rfl
      refine .inl ⟨Flow.want_yes rfl rfl e91, ?_⟩
      exact Flow.run_call (Flow.exec_call (args := #[((.pointer (some ⟨U, 0, none⟩)))]) rfl Tryd.func12 (by kernel_rfl) (by kernel_rfl) (by simp only [List.map_toArray, List.map_cons, List.map_nil, e92] <;> rfl)) ((next_done U Y 0 2 y.size w (Xm.Sc.grow HU9.out hC) (by decide) hYz (HT9.out.grow hC) (HM9.out.grow hC) hUs).mono fun e w' ⟨v, he, hv, hg⟩ => ⟨v, he, hg, hv⟩)
    refine Flow.Ones.cons ?_ ?_
    · rintro a w hC hoff ⟨k46, k44, -⟩
      have e93 : (fun v _ => ∃ ao cp, v = .agg #[.int .i64 0, .string ByteArray.empty, .slice ao 0 cp, .string ByteArray.empty, .int .i64 0]) (a.eval (.tmp 93)) w := k46 93 rfl
      have e91 : a.eval (.tmp 91) = .bool true := k44 91 rfl
      refine .inl ⟨Flow.want_yes rfl rfl e91, ?_⟩
      obtain ⟨ao, cp, hv⟩ := e93
      refine Flow.run_same ?_ Flow.grow_refl
      generalize a.eval = ρ at hv ⊢
      simp [execOp, hv, field_kind, go_sem]
    refine Flow.Ones.cons ?_ ?_
    · rintro a w hC hoff ⟨k47, k44, -⟩
      have e94 : a.eval (.tmp 94) = .int .i64 0 := k47 94 rfl
      have e91 : a.eval (.tmp 91) = .bool true := k44 91 rfl
      refine .inl ⟨Flow.want_yes rfl rfl e91, ?_⟩
      refine Flow.run_same ?_ Flow.grow_refl
      have ec := Flow.eval_const a
      generalize a.eval = ρ at e94 ec ⊢
      simp [execOp, e94, ec, go_sem]
    refine Flow.Ones.cons ?_ ?_
    · rintro a w hC hoff ⟨k44, k48, -⟩
      have e91 : a.eval (.tmp 91) = .bool true := k44 91 rfl
      have e95 : a.eval (.tmp 95) = .bool true := k48 95 rfl
      refine .inl ⟨Flow.want_none rfl, ?_⟩
      exact Flow.run_same (Flow.exec_pick_yes rfl e91 e95) Flow.grow_refl
    refine Flow.Ones.cons ?_ ?_
    · rintro a w hC hoff ⟨k49, -⟩
      have e96 : a.eval (.tmp 96) = .bool true := k49 96 rfl
      refine .inl ⟨Flow.want_none rfl, ?_⟩
      exact Flow.run_same (Flow.exec_move (.inl rfl) e96) Flow.grow_refl
    refine Flow.Ones.cons ?_ ?_
    · rintro a w hC hoff ⟨k50, -⟩
      have e97 : a.eval (.tmp 97) = .bool true := k50 97 rfl
      have e15 : a.eval (.tmp 15) = (.pointer (some ⟨V, 0, none⟩)) := hoff.at 15 (by kernel_rfl)
      refine .inl ⟨Flow.want_yes rfl rfl e97, ?_⟩
      exact Flow.run_same (Flow.exec_move (.inl rfl) e15) Flow.grow_refl
    refine Flow.Ones.cons ?_ ?_
    · rintro a w hC hoff ⟨k51, k50, -⟩
      have e98 : a.eval (.tmp 98) = (.pointer (some ⟨V, 0, none⟩)) := k51 98 rfl
      have e97 : a.eval (.tmp 97) = .bool true := k50 97 rfl
      refine .inl ⟨Flow.want_yes rfl rfl e97, ?_⟩
      exact Flow.run_call (Flow.exec_call (args := #[((.pointer (some ⟨V, 0, none⟩)))]) rfl Tryd.func14 (by kernel_rfl) (by kernel_rfl) (by simp only [List.map_toArray, List.map_cons, List.map_nil, e98] <;> rfl)) ((err_any _ _ _ _ _ _ (Xm.Sc.grow HV9.out hC)).mono fun e w' ⟨he, hw⟩ => ⟨_, he, hw ▸ Flow.grow_refl _, rfl⟩)
    refine Flow.Ones.cons ?_ ?_
    · rintro a w hC hoff ⟨k52, k50, -⟩
      have e99 : a.eval (.tmp 99) = .int .i64 5 := k52 99 rfl
      have e97 : a.eval (.tmp 97) = .bool true := k50 97 rfl
      refine .inl ⟨Flow.want_yes rfl rfl e97, ?_⟩
      refine Flow.run_same ?_ Flow.grow_refl
      have ec := Flow.eval_const a
      generalize a.eval = ρ at e99 ec ⊢
      simp [execOp, e99, ec, go_sem]
    refine Flow.Ones.cons ?_ ?_
    · rintro a w hC hoff ⟨k50, k53, -⟩
      have e97 : a.eval (.tmp 97) = .bool true := k50 97 rfl
      have e100 : a.eval (.tmp 100) = .bool true := k53 100 rfl
      refine .inl ⟨Flow.want_none rfl, ?_⟩
      exact Flow.run_same (Flow.exec_pick_yes rfl e97 e100) Flow.grow_refl
    refine Flow.Ones.cons ?_ ?_
    · rintro a w hC hoff ⟨k54, -⟩
      have e101 : a.eval (.tmp 101) = .bool true := k54 101 rfl
      refine .inl ⟨Flow.want_none rfl, ?_⟩
      exact Flow.run_same (Flow.exec_move (.inl rfl) e101) Flow.grow_refl
    refine Flow.Ones.cons ?_ ?_
    · rintro a w hC hoff ⟨k55, -⟩
      have e102 : a.eval (.tmp 102) = .bool true := k55 102 rfl
      have e16 : a.eval (.tmp 16) = (.pointer none) := hoff.at 16 (by kernel_rfl)
      refine .inl ⟨Flow.want_yes rfl rfl e102, ?_⟩
      exact Flow.run_same (Flow.exec_move (.inl rfl) e16) Flow.grow_refl
    refine Flow.Ones.cons ?_ ?_
    · rintro a w hC hoff ⟨k56, k55, -⟩
      have e103 : a.eval (.tmp 103) = (.pointer none) := k56 103 rfl
      have e102 : a.eval (.tmp 102) = .bool true := k55 102 rfl
      refine .inl ⟨Flow.want_yes rfl rfl e102, ?_⟩
      exact Flow.run_call (Flow.exec_call (args := #[((.pointer none))]) rfl Tryd.func14 (by kernel_rfl) (by kernel_rfl) (by simp only [List.map_toArray, List.map_cons, List.map_nil, e103] <;> rfl)) ((err_nil w).mono fun e w' ⟨he, hw⟩ => ⟨_, he, hw ▸ Flow.grow_refl _, rfl⟩)
    refine Flow.Ones.cons ?_ ?_
    · rintro a w hC hoff ⟨k57, k55, -⟩
      have e104 : a.eval (.tmp 104) = .int .i64 1 := k57 104 rfl
      have e102 : a.eval (.tmp 102) = .bool true := k55 102 rfl
      refine .inl ⟨Flow.want_yes rfl rfl e102, ?_⟩
      refine Flow.run_same ?_ Flow.grow_refl
      have ec := Flow.eval_const a
      generalize a.eval = ρ at e104 ec ⊢
      simp [execOp, e104, ec, go_sem]
    refine Flow.Ones.cons ?_ ?_
    · rintro a w hC hoff ⟨k55, k58, -⟩
      have e102 : a.eval (.tmp 102) = .bool true := k55 102 rfl
      have e105 : a.eval (.tmp 105) = .bool true := k58 105 rfl
      refine .inl ⟨Flow.want_none rfl, ?_⟩
      exact Flow.run_same (Flow.exec_pick_yes rfl e102 e105) Flow.grow_refl
    refine Flow.Ones.cons ?_ ?_
    · rintro a w hC hoff ⟨k59, -⟩
      have e106 : a.eval (.tmp 106) = .bool true := k59 106 rfl
      refine .inl ⟨Flow.want_none rfl, ?_⟩
      exact Flow.run_same (Flow.exec_move (.inl rfl) e106) Flow.grow_refl
    refine Flow.Ones.cons ?_ ?_
    · rintro a w hC hoff ⟨k60, -⟩
      have e107 : a.eval (.tmp 107) = .bool true := k60 107 rfl
      have e16 : a.eval (.tmp 16) = (.pointer none) := hoff.at 16 (by kernel_rfl)
      refine .inl ⟨Flow.want_yes rfl rfl e107, ?_⟩
      exact Flow.run_same (Flow.exec_move (.inl rfl) e16) Flow.grow_refl
    refine Flow.Ones.cons ?_ ?_
    · rintro a w hC hoff ⟨k61, k60, -⟩
      have e108 : a.eval (.tmp 108) = (.pointer none) := k61 108 rfl
      have e107 : a.eval (.tmp 107) = .bool true := k60 107 rfl
      refine .inl ⟨Flow.want_yes rfl rfl e107, ?_⟩
      exact Flow.run_call (Flow.exec_call (args := #[((.pointer none))]) rfl Tryd.func16 (by kernel_rfl) (by kernel_rfl) (by simp only [List.map_toArray, List.map_cons, List.map_nil, e108] <;> rfl)) ((at_nil w).mono fun e w' ⟨he, hw⟩ => ⟨_, he, hw ▸ Flow.grow_refl _, rfl⟩)
    refine Flow.Ones.cons ?_ ?_
    · rintro a w hC hoff ⟨k62, k60, -⟩
      have e109 : a.eval (.tmp 109) = .int .i64 0 := k62 109 rfl
      have e107 : a.eval (.tmp 107) = .bool true := k60 107 rfl
      refine .inl ⟨Flow.want_yes rfl rfl e107, ?_⟩
      refine Flow.run_same ?_ Flow.grow_refl
      have ec := Flow.eval_const a
      generalize a.eval = ρ at e109 ec ⊢
      simp [execOp, e109, ec, go_sem]
    refine Flow.Ones.cons ?_ ?_
    · rintro a w hC hoff ⟨k60, k63, -⟩
      have e107 : a.eval (.tmp 107) = .bool true := k60 107 rfl
      have e110 : a.eval (.tmp 110) = .bool true := k63 110 rfl
      refine .inl ⟨Flow.want_none rfl, ?_⟩
      exact Flow.run_same (Flow.exec_pick_yes rfl e107 e110) Flow.grow_refl
    refine Flow.Ones.cons ?_ ?_
    · rintro a w hC hoff ⟨k64, -⟩
      have e111 : a.eval (.tmp 111) = .bool true := k64 111 rfl
      refine .inl ⟨Flow.want_none rfl, ?_⟩
      exact Flow.run_same (Flow.exec_move (.inl rfl) e111) Flow.grow_refl
    refine Flow.Ones.cons ?_ ?_
    · rintro a w hC hoff ⟨k65, -⟩
      have e112 : a.eval (.tmp 112) = .bool true := k65 112 rfl
      have e16 : a.eval (.tmp 16) = (.pointer none) := hoff.at 16 (by kernel_rfl)
      refine .inl ⟨Flow.want_yes rfl rfl e112, ?_⟩
      exact Flow.run_same (Flow.exec_move (.inl rfl) e16) Flow.grow_refl
    refine Flow.Ones.cons ?_ ?_
    · rintro a w hC hoff ⟨k66, k65, -⟩
      have e113 : a.eval (.tmp 113) = (.pointer none) := k66 113 rfl
      have e112 : a.eval (.tmp 112) = .bool true := k65 112 rfl
      refine .inl ⟨Flow.want_yes rfl rfl e112, ?_⟩
      exact Flow.run_call (Flow.exec_call (args := #[((.pointer none))]) rfl Tryd.func12 (by kernel_rfl) (by kernel_rfl) (by simp only [List.map_toArray, List.map_cons, List.map_nil, e113] <;> rfl)) ((next_nil w).mono fun e w' ⟨he, hg⟩ => ⟨_, he, hg, rfl⟩)
    refine Flow.Ones.cons ?_ ?_
    · rintro a w hC hoff ⟨k67, k65, -⟩
      have e114 : a.eval (.tmp 114) = .agg #[.int .i64 0, .string ByteArray.empty, .slice none 0 0, .string ByteArray.empty, .int .i64 0] := k67 114 rfl
      have e112 : a.eval (.tmp 112) = .bool true := k65 112 rfl
      refine .inl ⟨Flow.want_yes rfl rfl e112, ?_⟩
      refine Flow.run_same ?_ Flow.grow_refl
      have ec := Flow.eval_const a
      generalize a.eval = ρ at e114 ec ⊢
      simp [execOp, e114, field_kind, go_sem]
    refine Flow.Ones.cons ?_ ?_
    · rintro a w hC hoff ⟨k68, k65, -⟩
      have e115 : a.eval (.tmp 115) = .int .i64 0 := k68 115 rfl
      have e112 : a.eval (.tmp 112) = .bool true := k65 112 rfl
      refine .inl ⟨Flow.want_yes rfl rfl e112, ?_⟩
      refine Flow.run_same ?_ Flow.grow_refl
      have ec := Flow.eval_const a
      generalize a.eval = ρ at e115 ec ⊢
      simp [execOp, e115, ec, go_sem]
    refine Flow.Ones.cons ?_ ?_
    · rintro a w hC hoff ⟨k65, k69, -⟩
      have e112 : a.eval (.tmp 112) = .bool true := k65 112 rfl
      have e116 : a.eval (.tmp 116) = .bool true := k69 116 rfl
      refine .inl ⟨Flow.want_none rfl, ?_⟩
      exact Flow.run_same (Flow.exec_pick_yes rfl e112 e116) Flow.grow_refl
    refine Flow.Ones.cons ?_ ?_
    · rintro a w hC hoff ⟨k70, -⟩
      have e117 : a.eval (.tmp 117) = .bool true := k70 117 rfl
      refine .inl ⟨Flow.want_none rfl, ?_⟩
      exact Flow.run_same (Flow.exec_move (.inr rfl) e117) Flow.grow_refl
    exact trivial
  case stab14 => simp [Flow.Stable]
  case ends14 =>
    intro w' hC
    simp only [List.toList_toArray, Flow.ends]
    intro v93 _
    simp only [Flow.ends]
    simp only [Act.put, List.setIfInBounds_toArray, List.set_cons_succ, List.set_cons_zero]
    go_wp2
    go_ret
    exact ⟨rfl, HG0.out.trans hC⟩
end Go.Proofs.YtfkdjdmbgednkaaDoor

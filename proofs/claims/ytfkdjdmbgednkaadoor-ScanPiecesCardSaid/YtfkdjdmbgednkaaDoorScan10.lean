/- scan: New, and what is told of no scanner, by their contracts; the law's awake. -/
import Derived.Test.YtfkdjdmbgednkaaDoorScan9
namespace Go.Proofs.YtfkdjdmbgednkaaDoor
open Go.RowKit
namespace Xm
def newT (s : ByteArray) : P3 := if 200000 < s.size then wrong ⟨0, 0, 0⟩ 5 200000 else if 0 ≤ bad s 0 then wrong ⟨0, 0, 0⟩ 2 (bad s 0) else ⟨0, 0, 0⟩
theorem Mv.grow {w w1 w2 : World} {b : Nat} (g : Flow.Grow w w1) (h : Mv w1 b w2) (hb : w.heap.size ≤ b) : Flow.Grow w w2 :=
  ⟨h.os.trans g.os, h.tape.trans g.tape, h.output.trans g.output, Nat.le_trans g.size h.size, fun i hi _ => (h.block i (Nat.lt_of_lt_of_le hi g.size) (by simp; omega)).trans (g.block i hi (by simp))⟩
theorem Mv.below {w w2 : World} {b : Nat} (h : Mv w b w2) {B : Nat} (hB : B ≤ w.heap.size) (hb : B ≤ b) : Below B w w2 := ⟨h.os, h.tape, h.output, h.size, fun i hi => h.block i (by omega) (by simp; omega)⟩
def awk : ByteArray := ⟨#[60, 97, 32, 98, 61, 39, 99, 39, 47, 62]⟩
theorem awk_new : newT awk = ⟨0, 0, 0⟩ := by kernel_rfl
theorem awk_next : nextR awk ⟨0, 0, 0⟩ = (⟨3, ⟨#[97]⟩, [(⟨#[98]⟩, ⟨#[99]⟩)], ⟨#[]⟩, 0⟩, ⟨10, 0, 0⟩) := by kernel_rfl
end Xm

set_option maxRecDepth 100000 in
set_option maxHeartbeats 1000000 in
theorem new_T (s : ByteArray) (w : World) (hs : s.size ≤ 900000000) :
    Calls Tryd.prog 11 #[.string s] w fun r w' => r = .returned (.pointer (some ⟨w.heap.size, 0, none⟩)) ∧ Xm.Scs w' w.heap.size s (Xm.newT s) ∧ Flow.Grow w w' := by
  have hS : Xm.Sc (w.alloc (.cells #[.string s, .int .i64 0, .int .i64 0, .int .i64 0] 66)) w.heap.size s 0 0 0 := heap_alloc_new _ _
  have HS := Lib.hid hS
  have hG : Flow.Grow w (w.alloc (.cells #[.string s, .int .i64 0, .int .i64 0, .int .i64 0] 66)) := Flow.grow_alloc _ _
  have HG := Lib.hid hG
  clear hS hG
  by_cases hbig : 200000 < s.size
  · have HE : Hid (Xm.newT s = Xm.wrong ⟨0, 0, 0⟩ 5 200000) := Lib.hid (by rw [Xm.newT, if_pos hbig])
    have hd : decide ((200000 : Int) < (s.size : Int)) = true := by simp; omega
    have hd' : decide (200000 < s.size) = true := by simp; omega
    go_enter Tryd.func11, Tryd.ntmps11
    go_wp2_with (go_at_call 18; refine (wrong_any _ _ _ _ _ 5 _ _ HS.out (by decide)).mono ?_; rintro e w6 ⟨rfl, hs6, hm6⟩)
    go_ret
    exact ⟨rfl, by rw [HE.out]; exact hs6, hm6.grow HG.out (Nat.le_refl _)⟩
  · have hd : decide ((200000 : Int) < (s.size : Int)) = false := by simp; omega
    have hd' : decide (200000 < s.size) = false := by simp; omega
    obtain ⟨z, hz⟩ : ∃ z, z = Xm.bad s 0 := ⟨_, rfl⟩
    have HZ := Lib.hid hz
    by_cases hz0 : 0 ≤ z
    · have HE : Hid (Xm.newT s = Xm.wrong ⟨0, 0, 0⟩ 2 z) := Lib.hid (by rw [Xm.newT, if_neg hbig, ← hz, if_pos hz0])
      clear hz
      go_enter Tryd.func11, Tryd.ntmps11
      go_wp2_with (first | (go_at_call 32; refine (ubad_any _ _ (by omega)).mono ?_; rintro e w' ⟨rfl, rfl⟩; rw [← HZ.out]) | (go_at_call 18; refine (wrong_any _ _ _ _ _ 2 _ _ HS.out (by decide)).mono ?_; rintro e w6 ⟨rfl, hs6, hm6⟩))
      go_ret
      exact ⟨rfl, by rw [HE.out]; exact hs6, hm6.grow HG.out (Nat.le_refl _)⟩
    · have HE : Hid (Xm.newT s = ⟨0, 0, 0⟩) := Lib.hid (by rw [Xm.newT, if_neg hbig, ← hz, if_neg hz0])
      clear hz
      go_enter Tryd.func11, Tryd.ntmps11
      go_wp2_with (go_at_call 32; refine (ubad_any _ _ (by omega)).mono ?_; rintro e w' ⟨rfl, rfl⟩; rw [← HZ.out])
      go_ret
      exact ⟨rfl, by rw [HE.out]; exact HS.out, HG.out⟩

set_option maxRecDepth 100000 in
set_option maxHeartbeats 1000000 in
theorem awake_T (w : World) (hT : Xm.Tab w) (hm : Xm.Max w) :
    Calls Tryd.prog 15 #[] w fun r w' => r = .returned (.bool true) ∧ Flow.Grow w w' := by
  have HT := Lib.hid hT
  have HM := Lib.hid hm
  have Hb1 : Hid (1 < w.heap.size) := Lib.hid hT.1
  clear hT hm
  go_enter Tryd.func15, Tryd.ntmps15
  go_upto_region 3 with (first | (go_at_call 11; refine (new_T Xm.awk w (by decide)).mono ?_; rintro e w1 ⟨rfl, hs1, hg1⟩; rw [Xm.awk_new] at hs1) | (go_at_call 12; refine (next_T w.heap.size Xm.awk ⟨0, 0, 0⟩ w1 hs1 (by decide) (by decide) (HT.out.grow hg1) (HM.out.grow hg1) Hb1.out).mono ?_; rintro e w2 ⟨va, rfl, hat, hfr, hs2, hm2⟩; rw [Xm.awk_next] at hat hs2 ⊢; rcases hat with ⟨rfl, h⟩ | ⟨g, off, cap, rfl, hlc, hcm, hg, hcell⟩; (cases h); unfold Xm.Pc.cells; simp only [List.length_cons, List.length_nil, Nat.zero_add] at hlc ⊢))
  have hc : (w2.alloc (.cells #[.int .i64 3, .string ⟨#[97]⟩, .slice (some ⟨g, off, none⟩) 1 cap, .string ⟨#[]⟩, .int .i64 0] 27)).cell? ⟨g, off + 1, none⟩ = some (.string ⟨#[99]⟩) := (Xm.cell_grow (Flow.grow_alloc _ _) hg).trans (hcell 1 _ rfl)
  have hP : Xm.Row5 (w2.alloc (.cells #[.int .i64 3, .string ⟨#[97]⟩, .slice (some ⟨g, off, none⟩) 1 cap, .string ⟨#[]⟩, .int .i64 0] 27)) w2.heap.size #[.int .i64 3, .string ⟨#[97]⟩, .slice (some ⟨g, off, none⟩) 1 cap, .string ⟨#[]⟩, .int .i64 0] := heap_alloc_new _ _
  have hS3 : Xm.Sc (w2.alloc (.cells #[.int .i64 3, .string ⟨#[97]⟩, .slice (some ⟨g, off, none⟩) 1 cap, .string ⟨#[]⟩, .int .i64 0] 27)) w.heap.size Xm.awk (10 : Nat) 0 0 := Xm.Sc.grow hs2 (Flow.grow_alloc _ _)
  have hG3 : Flow.Grow w (w2.alloc (.cells #[.int .i64 3, .string ⟨#[97]⟩, .slice (some ⟨g, off, none⟩) 1 cap, .string ⟨#[]⟩, .int .i64 0] 27)) := Flow.Grow.trans (hm2.grow hg1 (Nat.le_refl _)) (Flow.grow_alloc _ _)
  obtain ⟨A, hA⟩ : ∃ A, A = w2.heap.size := ⟨_, rfl⟩
  rw [← hA] at hP ⊢
  have HS3 := Lib.hid hS3
  have HG3 := Lib.hid hG3
  clear hA hs1 hg1 hs2 hm2 hfr hcell hg hS3 hG3
  unfold maxLen at hcm
  generalize w2.alloc (.cells #[.int .i64 3, .string ⟨#[97]⟩, .slice (some ⟨g, off, none⟩) 1 cap, .string ⟨#[]⟩, .int .i64 0] 27) = w3 at *
  have p0 := (cell_of_row w3 A 0 _ _ _ hP).trans rfl
  have p1 := (cell_of_row w3 A 1 _ _ _ hP).trans rfl
  have p2 := (cell_of_row w3 A 2 _ _ _ hP).trans rfl
  clear hP
  go_wp2_with (go_at_call 14; refine (err_any _ _ _ _ _ _ HS3.out).mono ?_; rintro e w4 ⟨rfl, rfl⟩)
  go_ret
  exact ⟨rfl, HG3.out⟩
end Go.Proofs.YtfkdjdmbgednkaaDoor

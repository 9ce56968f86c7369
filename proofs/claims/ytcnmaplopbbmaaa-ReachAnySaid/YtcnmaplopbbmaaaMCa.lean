/- galliardlaw17.awake is true: by contracts, on its own small graph. -/
/- galliardlaw17.ReachAny returns true: the walk. -/
import Derived.Test.YtcnmaplopbbmaaaROf
import Derived.Test.YtcnmaplopbbmaaaRAw16
namespace Go.Proofs.Ytcnmaplopbbmaaa
open Go.RowKit Go.Maps
namespace Rs
def fA : M → List Gr.Tn := fun l => Gr.gA.turns Gr.gA.labels (l, false)
def mA : M := Gr.gA.firstL Gr.gA.es.length
def lA : M := List.replicate 64 false
theorem stA0 : stage fA mA 0 = ([Gr.l1], []) := by kernel_rfl
theorem stA1 : stage fA mA 1 = ([Gr.l1, Gr.l2], [[(0, 1)]]) := by kernel_rfl
theorem stA2 : stage fA mA 2 = ([Gr.l1, Gr.l2, lA], [[(0, 1)], [(-1, 2)]]) := by kernel_rfl
theorem stA3 : stage fA mA 3 = ([Gr.l1, Gr.l2, lA], [[(0, 1)], [(-1, 2)], []]) := by kernel_rfl
theorem bA1 : Gr.bad (fA Gr.l1) = false := by kernel_rfl
theorem bA2 : Gr.bad (fA Gr.l2) = false := by kernel_rfl
theorem bA3 : Gr.bad (fA lA) = false := by kernel_rfl
theorem runA : RunL fA mA 3 := fun j hj => by
  match j, hj with
  | 0, _ => rw [stA0]; exact ⟨Gr.l1, rfl, bA1, by decide⟩
  | 1, _ => rw [stA1]; exact ⟨Gr.l2, rfl, bA2, by decide⟩
  | 2, _ => rw [stA2]; exact ⟨lA, rfl, bA3, by decide⟩
theorem ovA : ([Gr.l1, Gr.l2, lA] : List M).map over = [false, false, true] := by kernel_rfl
end Rs
set_option maxRecDepth 100000 in
set_option maxHeartbeats 4000000 in
theorem awake17 (W : World) : Calls Try.prog 17 #[] W fun e w' => e = .returned (.bool true) ∧ Flow.Grow W w' := by
  go_enter Try.func17, Try.ntmps17
  go_upto_region 2 with fail
  have HBw10 : Hid ((((((W.alloc (.cells (#[.string ⟨#[97]⟩, .string ⟨#[98]⟩]) 9)).alloc (.cells (#[.string ⟨#[109]⟩]) 9)).alloc (.cells (#[.int .i64 1, .string ⟨#[]⟩, .int .i64 0, .int .i64 0, .int .i64 0, .int .i64 0, .bool false, .int .i64 3, .string ⟨#[]⟩, .int .i64 0, .int .i64 1, .int .i64 0, .int .i64 (-1), .bool false, .int .i64 2, .string ⟨#[]⟩, .int .i64 0, .int .i64 0, .int .i64 0, .int .i64 0, .bool false]) 62)).alloc (.cells (#[.int .i64 0, .int .i64 1, .int .i64 1, .int .i64 2]) 66)).alloc (.cells (#[.slice (some ⟨W.heap.size, 0, none⟩) 2 2, .slice (some ⟨W.heap.size + 1, 0, none⟩) 1 1, .slice (some ⟨W.heap.size + 1 + 1, 0, none⟩) 3 3, .slice (some ⟨W.heap.size + 1 + 1 + 1, 0, none⟩) 2 2]) 28)).heap[W.heap.size]? = some (.cells (#[.string ⟨#[97]⟩, .string ⟨#[98]⟩]) 9 (0, 0))) := Lib.hid (lay5_0 _ _ _ _ _ _)
  have HBw11 : Hid ((((((W.alloc (.cells (#[.string ⟨#[97]⟩, .string ⟨#[98]⟩]) 9)).alloc (.cells (#[.string ⟨#[109]⟩]) 9)).alloc (.cells (#[.int .i64 1, .string ⟨#[]⟩, .int .i64 0, .int .i64 0, .int .i64 0, .int .i64 0, .bool false, .int .i64 3, .string ⟨#[]⟩, .int .i64 0, .int .i64 1, .int .i64 0, .int .i64 (-1), .bool false, .int .i64 2, .string ⟨#[]⟩, .int .i64 0, .int .i64 0, .int .i64 0, .int .i64 0, .bool false]) 62)).alloc (.cells (#[.int .i64 0, .int .i64 1, .int .i64 1, .int .i64 2]) 66)).alloc (.cells (#[.slice (some ⟨W.heap.size, 0, none⟩) 2 2, .slice (some ⟨W.heap.size + 1, 0, none⟩) 1 1, .slice (some ⟨W.heap.size + 1 + 1, 0, none⟩) 3 3, .slice (some ⟨W.heap.size + 1 + 1 + 1, 0, none⟩) 2 2]) 28)).heap[W.heap.size + 1]? = some (.cells (#[.string ⟨#[109]⟩]) 9 (0, 0))) := Lib.hid (lay5_1 _ _ _ _ _ _)
  have HBw12 : Hid ((((((W.alloc (.cells (#[.string ⟨#[97]⟩, .string ⟨#[98]⟩]) 9)).alloc (.cells (#[.string ⟨#[109]⟩]) 9)).alloc (.cells (#[.int .i64 1, .string ⟨#[]⟩, .int .i64 0, .int .i64 0, .int .i64 0, .int .i64 0, .bool false, .int .i64 3, .string ⟨#[]⟩, .int .i64 0, .int .i64 1, .int .i64 0, .int .i64 (-1), .bool false, .int .i64 2, .string ⟨#[]⟩, .int .i64 0, .int .i64 0, .int .i64 0, .int .i64 0, .bool false]) 62)).alloc (.cells (#[.int .i64 0, .int .i64 1, .int .i64 1, .int .i64 2]) 66)).alloc (.cells (#[.slice (some ⟨W.heap.size, 0, none⟩) 2 2, .slice (some ⟨W.heap.size + 1, 0, none⟩) 1 1, .slice (some ⟨W.heap.size + 1 + 1, 0, none⟩) 3 3, .slice (some ⟨W.heap.size + 1 + 1 + 1, 0, none⟩) 2 2]) 28)).heap[W.heap.size + 1 + 1]? = some (.cells (#[.int .i64 1, .string ⟨#[]⟩, .int .i64 0, .int .i64 0, .int .i64 0, .int .i64 0, .bool false, .int .i64 3, .string ⟨#[]⟩, .int .i64 0, .int .i64 1, .int .i64 0, .int .i64 (-1), .bool false, .int .i64 2, .string ⟨#[]⟩, .int .i64 0, .int .i64 0, .int .i64 0, .int .i64 0, .bool false]) 62 (0, 0))) := Lib.hid (lay5_2 _ _ _ _ _ _)
  have HBw13 : Hid ((((((W.alloc (.cells (#[.string ⟨#[97]⟩, .string ⟨#[98]⟩]) 9)).alloc (.cells (#[.string ⟨#[109]⟩]) 9)).alloc (.cells (#[.int .i64 1, .string ⟨#[]⟩, .int .i64 0, .int .i64 0, .int .i64 0, .int .i64 0, .bool false, .int .i64 3, .string ⟨#[]⟩, .int .i64 0, .int .i64 1, .int .i64 0, .int .i64 (-1), .bool false, .int .i64 2, .string ⟨#[]⟩, .int .i64 0, .int .i64 0, .int .i64 0, .int .i64 0, .bool false]) 62)).alloc (.cells (#[.int .i64 0, .int .i64 1, .int .i64 1, .int .i64 2]) 66)).alloc (.cells (#[.slice (some ⟨W.heap.size, 0, none⟩) 2 2, .slice (some ⟨W.heap.size + 1, 0, none⟩) 1 1, .slice (some ⟨W.heap.size + 1 + 1, 0, none⟩) 3 3, .slice (some ⟨W.heap.size + 1 + 1 + 1, 0, none⟩) 2 2]) 28)).heap[W.heap.size + 1 + 1 + 1]? = some (.cells (#[.int .i64 0, .int .i64 1, .int .i64 1, .int .i64 2]) 66 (0, 0))) := Lib.hid (lay5_3 _ _ _ _ _ _)
  have HBw14 : Hid ((((((W.alloc (.cells (#[.string ⟨#[97]⟩, .string ⟨#[98]⟩]) 9)).alloc (.cells (#[.string ⟨#[109]⟩]) 9)).alloc (.cells (#[.int .i64 1, .string ⟨#[]⟩, .int .i64 0, .int .i64 0, .int .i64 0, .int .i64 0, .bool false, .int .i64 3, .string ⟨#[]⟩, .int .i64 0, .int .i64 1, .int .i64 0, .int .i64 (-1), .bool false, .int .i64 2, .string ⟨#[]⟩, .int .i64 0, .int .i64 0, .int .i64 0, .int .i64 0, .bool false]) 62)).alloc (.cells (#[.int .i64 0, .int .i64 1, .int .i64 1, .int .i64 2]) 66)).alloc (.cells (#[.slice (some ⟨W.heap.size, 0, none⟩) 2 2, .slice (some ⟨W.heap.size + 1, 0, none⟩) 1 1, .slice (some ⟨W.heap.size + 1 + 1, 0, none⟩) 3 3, .slice (some ⟨W.heap.size + 1 + 1 + 1, 0, none⟩) 2 2]) 28)).heap[W.heap.size + 1 + 1 + 1 + 1]? = some (.cells (#[.slice (some ⟨W.heap.size, 0, none⟩) 2 2, .slice (some ⟨W.heap.size + 1, 0, none⟩) 1 1, .slice (some ⟨W.heap.size + 1 + 1, 0, none⟩) 3 3, .slice (some ⟨W.heap.size + 1 + 1 + 1, 0, none⟩) 2 2]) 28 (0, 0))) := Lib.hid (lay5_4 _ _ _ _ _ _)
  have HGw1 : Hid (Flow.Grow W (((((W.alloc (.cells (#[.string ⟨#[97]⟩, .string ⟨#[98]⟩]) 9)).alloc (.cells (#[.string ⟨#[109]⟩]) 9)).alloc (.cells (#[.int .i64 1, .string ⟨#[]⟩, .int .i64 0, .int .i64 0, .int .i64 0, .int .i64 0, .bool false, .int .i64 3, .string ⟨#[]⟩, .int .i64 0, .int .i64 1, .int .i64 0, .int .i64 (-1), .bool false, .int .i64 2, .string ⟨#[]⟩, .int .i64 0, .int .i64 0, .int .i64 0, .int .i64 0, .bool false]) 62)).alloc (.cells (#[.int .i64 0, .int .i64 1, .int .i64 1, .int .i64 2]) 66)).alloc (.cells (#[.slice (some ⟨W.heap.size, 0, none⟩) 2 2, .slice (some ⟨W.heap.size + 1, 0, none⟩) 1 1, .slice (some ⟨W.heap.size + 1 + 1, 0, none⟩) 3 3, .slice (some ⟨W.heap.size + 1 + 1 + 1, 0, none⟩) 2 2]) 28))) := Lib.hid (lay5_g _ _ _ _ _ _)
  have HSw1 : Hid ((((((W.alloc (.cells (#[.string ⟨#[97]⟩, .string ⟨#[98]⟩]) 9)).alloc (.cells (#[.string ⟨#[109]⟩]) 9)).alloc (.cells (#[.int .i64 1, .string ⟨#[]⟩, .int .i64 0, .int .i64 0, .int .i64 0, .int .i64 0, .bool false, .int .i64 3, .string ⟨#[]⟩, .int .i64 0, .int .i64 1, .int .i64 0, .int .i64 (-1), .bool false, .int .i64 2, .string ⟨#[]⟩, .int .i64 0, .int .i64 0, .int .i64 0, .int .i64 0, .bool false]) 62)).alloc (.cells (#[.int .i64 0, .int .i64 1, .int .i64 1, .int .i64 2]) 66)).alloc (.cells (#[.slice (some ⟨W.heap.size, 0, none⟩) 2 2, .slice (some ⟨W.heap.size + 1, 0, none⟩) 1 1, .slice (some ⟨W.heap.size + 1 + 1, 0, none⟩) 3 3, .slice (some ⟨W.heap.size + 1 + 1 + 1, 0, none⟩) 2 2]) 28)).heap.size = W.heap.size + 1 + 1 + 1 + 1 + 1) := Lib.hid (by simp)
  generalize ((((W.alloc (.cells (#[.string ⟨#[97]⟩, .string ⟨#[98]⟩]) 9)).alloc (.cells (#[.string ⟨#[109]⟩]) 9)).alloc (.cells (#[.int .i64 1, .string ⟨#[]⟩, .int .i64 0, .int .i64 0, .int .i64 0, .int .i64 0, .bool false, .int .i64 3, .string ⟨#[]⟩, .int .i64 0, .int .i64 1, .int .i64 0, .int .i64 (-1), .bool false, .int .i64 2, .string ⟨#[]⟩, .int .i64 0, .int .i64 0, .int .i64 0, .int .i64 0, .bool false]) 62)).alloc (.cells (#[.int .i64 0, .int .i64 1, .int .i64 1, .int .i64 2]) 66)).alloc (.cells (#[.slice (some ⟨W.heap.size, 0, none⟩) 2 2, .slice (some ⟨W.heap.size + 1, 0, none⟩) 1 1, .slice (some ⟨W.heap.size + 1 + 1, 0, none⟩) 3 3, .slice (some ⟨W.heap.size + 1 + 1 + 1, 0, none⟩) 2 2]) 28) = w1 at *
  obtain ⟨X, hX⟩ : ∃ X, X = W.heap.size := ⟨_, rfl⟩
  rw [← hX] at HBw10 HBw11 HBw12 HBw13 HBw14 HSw1 ⊢
  have HXw1 := Lib.hid hX
  clear hX
  have FXw1 : Hid (∀ wq, Flow.Grow w1 wq → (∀ k, wq.frozen? ⟨X, k, none⟩ = false) ∧ (∀ k, wq.frozen? ⟨X + 1, k, none⟩ = false) ∧ (∀ k, wq.frozen? ⟨X + 1 + 1, k, none⟩ = false) ∧ (∀ k, wq.frozen? ⟨X + 1 + 1 + 1, k, none⟩ = false) ∧ (∀ k, wq.frozen? ⟨X + 1 + 1 + 1 + 1, k, none⟩ = false)) := Lib.hid (fun wq g => ⟨fun k => lay_frozen g HBw10.out k, fun k => lay_frozen g HBw11.out k, fun k => lay_frozen g HBw12.out k, fun k => lay_frozen g HBw13.out k, fun k => lay_frozen g HBw14.out k⟩)
  have HGA : Hid (Gr.GAt w1 (.slice (some ⟨X, 0, none⟩) 2 2) (.slice (some ⟨X + 1, 0, none⟩) 1 1) (.slice (some ⟨X + 1 + 1, 0, none⟩) 3 3) (.slice (some ⟨X + 1 + 1 + 1, 0, none⟩) 2 2) Gr.gA) := Lib.hid ⟨⟨_, _, rfl⟩, ⟨_, _, rfl⟩, recs_block Gr.Nd.cells_len HBw12.out rfl rfl, recs_block Gr.ecells_len HBw13.out rfl rfl⟩
  have g0 := (cell_of_row w1 (X + 1 + 1 + 1 + 1) 0 _ _ _ HBw14.out).trans rfl
  have g1 := (cell_of_row w1 (X + 1 + 1 + 1 + 1) 1 _ _ _ HBw14.out).trans rfl
  have g2 := (cell_of_row w1 (X + 1 + 1 + 1 + 1) 2 _ _ _ HBw14.out).trans rfl
  have g3 := (cell_of_row w1 (X + 1 + 1 + 1 + 1) 3 _ _ _ HBw14.out).trans rfl
  simp at g0 g1 g2 g3
  generalize (Value.slice (some ⟨X, 0, none⟩) 2 2) = v0 at *
  generalize (Value.slice (some ⟨X + 1, 0, none⟩) 1 1) = v1 at *
  generalize (Value.slice (some ⟨X + 1 + 1, 0, none⟩) 3 3) = v2 at *
  generalize (Value.slice (some ⟨X + 1 + 1 + 1, 0, none⟩) 2 2) = v3 at *
  have HOf : Hid (∀ w, Flow.Grow w1 w → Calls Try.prog 16 #[.agg #[v0, v1, v2, v3]] w fun e w' => (∃ Bs fa fc ma mc vs va vc, e = .returned (.tuple #[.agg #[.int .i64 1, .int .i64 0, .slice fa 3 fc, .slice ma 3 mc], .slice va 1 vc, .int .i64 0]) ∧ Rs.NS w' Bs (.slice fa 3 fc) (.slice ma 3 mc) [false, false, true] [[(0, 1)], [(-1, 2)], []] vs) ∧ Flow.Grow w w') := Lib.hid fun w hg => (reachOf_fine v0 v1 v2 v3 Gr.gA Rs.fA Rs.mA 3 w Gr.gA_few (by decide) Gr.gA_check (by decide) rfl rfl Rs.runA (by rw [Rs.stA3]; rfl) (by rw [Rs.stA3]; decide) (HGA.out.grow hg)).mono fun e w' ⟨⟨Bs, vf, vm, vs, va, vc, he, hn⟩, b⟩ => by
    rw [Rs.stA3] at hn
    simp only [Rs.ovA] at hn
    rw [Gr.gA_labels] at he
    obtain ⟨fa, fc, rfl⟩ := own_form hn.finals
    obtain ⟨ma, mc, rfl⟩ := own_form hn.moves
    exact ⟨⟨Bs, fa, fc, ma, mc, vs, va, vc, he, hn⟩, b⟩
  go_upto_region 3 with (go_at_call 16; refine (HOf.out _ (Flow.grow_refl _)).mono ?_; rintro e w2 ⟨⟨Bs, fa, fc, ma, mc, vs, va, vc, rfl, hn⟩, hg⟩; have HG2 := Lib.hid hg; have HN2 := Lib.hid hn; clear hg hn)
  clear g0 g1 g2 g3
  have HBw30 : Hid ((w2.alloc (.cells #[.int .i64 1, .int .i64 0, .slice fa 3 fc, .slice ma 3 mc] 51)).heap[w2.heap.size]? = some (.cells #[.int .i64 1, .int .i64 0, .slice fa 3 fc, .slice ma 3 mc] 51 (0, 0))) := Lib.hid (lay1_0 _ _)
  have HGw3 : Hid (Flow.Grow w2 (w2.alloc (.cells #[.int .i64 1, .int .i64 0, .slice fa 3 fc, .slice ma 3 mc] 51))) := Lib.hid (lay1_g _ _)
  have HSw3 : Hid ((w2.alloc (.cells #[.int .i64 1, .int .i64 0, .slice fa 3 fc, .slice ma 3 mc] 51)).heap.size = w2.heap.size + 1) := Lib.hid (by simp)
  generalize w2.alloc (.cells #[.int .i64 1, .int .i64 0, .slice fa 3 fc, .slice ma 3 mc] 51) = w3 at *
  obtain ⟨Y, hY⟩ : ∃ X, X = w2.heap.size := ⟨_, rfl⟩
  rw [← hY] at HBw30 HSw3 ⊢
  have HXw3 := Lib.hid hY
  clear hY
  have CXw3 : Hid (∀ wq, Flow.Grow w3 wq → wq.cell? ⟨Y, 0, none⟩ = some (.int .i64 1) ∧ wq.cell? ⟨Y, 1, none⟩ = some (.int .i64 0) ∧ wq.cell? ⟨Y, 2, none⟩ = some (.slice fa 3 fc) ∧ wq.cell? ⟨Y, 3, none⟩ = some (.slice ma 3 mc)) := Lib.hid (fun wq g => ⟨lay_cell g HBw30.out rfl, lay_cell g HBw30.out rfl, lay_cell g HBw30.out rfl, lay_cell g HBw30.out rfl⟩)
  have FXw3 : Hid (∀ wq, Flow.Grow w3 wq → (∀ k, wq.frozen? ⟨Y, k, none⟩ = false)) := Lib.hid (fun wq g => fun k => lay_frozen g HBw30.out k)
  have HN3 := Lib.hid (HN2.out.grow HGw3.out)
  obtain ⟨fb, rfl⟩ := own_at (n := 3) HN3.out.finals (by decide)
  have f0 : w3.cell? ⟨fb, 0, none⟩ = some (.bool false) := own_cell (n := 3) HN3.out.finals rfl
  have f2 : w3.cell? ⟨fb, 2, none⟩ = some (.bool true) := own_cell (n := 3) HN3.out.finals rfl
  have HMy : Hid (∀ w, Flow.Grow w3 w → Calls Try.prog 33 #[.agg #[.int .i64 1, .int .i64 0, .slice (some ⟨fb, 0, none⟩) 3 fc, .slice ma 3 mc]] w fun e w' => e = .returned (.bool true) ∧ Flow.Grow w w') := Lib.hid fun w hg => by
    have k := mayN_any (.slice (some ⟨fb, 0, none⟩) 3 fc) (.slice ma 3 mc) 1 0 3 [false, false, true] [[(0, 1)], [(-1, 2)], []] w (by decide) rfl rfl (by decide) (by decide) (by decide) (by decide) (by decide) (Seg.of_own (own_keep HN3.out.finals hg)) ((Pr.NS_rowsM HN3.out).grow hg)
    exact k
  obtain ⟨d00, d01, d02, d03⟩ := CXw3.out w3 (Flow.grow_refl _)
  go_wp2_with (go_at_call 33; refine (HMy.out _ (Flow.grow_refl _)).mono ?_; rintro e w4 ⟨rfl, hg⟩; have HG4 := Lib.hid hg; clear hg)
  go_ret
  exact ⟨rfl, HGw1.out.trans (HG2.out.trans (HGw3.out.trans HG4.out))⟩
end Go.Proofs.Ytcnmaplopbbmaaa
namespace Go.Proofs.Ytcnmaplopbbmaaa
open Go.RowKit
set_option maxRecDepth 100000 in
set_option maxHeartbeats 8000000 in
theorem reachAny_walk (a0 : Option Addr) (n0 c0 : Nat) (a1 : Option Addr) (n1 c1 : Nat) (zs es : List Int) (W : World) (hz : n0 ≤ 9223372036854775807) (hx : n1 ≤ 9223372036854775807) (hn : Ints W (.slice a0 n0 c0) zs) (he : Seg 2 W (.slice a1 n1 c1) n1 (es.map (Value.int .i64))) :
    Calls Try.prog 4 #[.slice a0 n0 c0, .slice a1 n1 c1] W fun e w' => e = .returned (.bool true) ∧ Flow.Grow W w' := by
  have HAny := Lib.hid (rany_any a0 n0 c0 a1 n1 c1 zs es W hz hx hn he)
  have HAw := Lib.hid awake17
  have HMn := Lib.hid marks_none
  clear hn he hz hx
  go_enter Try.func4, Try.ntmps4
  go_upto_region 2 with (go_at_call 6; refine HAny.out.mono ?_; rintro e w0 ⟨v0, v1, v2, v3, g, rfl, ha, hnp, hnm, hns, hes, hg⟩; obtain ⟨pa, pc, rfl⟩ := ha.parts; obtain ⟨ma, mc, rfl⟩ := ha.msgs; obtain ⟨na, nc, rfl⟩ := Gr.Recs.form ha.nodes; obtain ⟨ea, ec, rfl⟩ := Gr.Recs.form ha.edges; have HG0 := Lib.hid hg; have HA0 := Lib.hid ha; have Hsz := Lib.hid (And.intro hnp (And.intro hnm (And.intro hns hes))); clear hg ha hnp hnm hns hes)
  have HBw10 : Hid ((w0.alloc (.cells #[.slice pa g.np pc, .slice ma g.nm mc, .slice na g.ns.length nc, .slice ea g.es.length ec] 28)).heap[w0.heap.size]? = some (.cells #[.slice pa g.np pc, .slice ma g.nm mc, .slice na g.ns.length nc, .slice ea g.es.length ec] 28 (0, 0))) := Lib.hid (lay1_0 _ _)
  have HGw1 : Hid (Flow.Grow w0 (w0.alloc (.cells #[.slice pa g.np pc, .slice ma g.nm mc, .slice na g.ns.length nc, .slice ea g.es.length ec] 28))) := Lib.hid (lay1_g _ _)
  have HSw1 : Hid ((w0.alloc (.cells #[.slice pa g.np pc, .slice ma g.nm mc, .slice na g.ns.length nc, .slice ea g.es.length ec] 28)).heap.size = w0.heap.size + 1) := Lib.hid (by simp)
  generalize w0.alloc (.cells #[.slice pa g.np pc, .slice ma g.nm mc, .slice na g.ns.length nc, .slice ea g.es.length ec] 28) = w1 at *
  obtain ⟨X, hX⟩ : ∃ X, X = w0.heap.size := ⟨_, rfl⟩
  rw [← hX] at HBw10 HSw1 ⊢
  have HXw1 := Lib.hid hX
  clear hX
  have CXw1 : Hid (∀ wq, Flow.Grow w1 wq → wq.cell? ⟨X, 0, none⟩ = some (.slice pa g.np pc) ∧ wq.cell? ⟨X, 1, none⟩ = some (.slice ma g.nm mc) ∧ wq.cell? ⟨X, 2, none⟩ = some (.slice na g.ns.length nc) ∧ wq.cell? ⟨X, 3, none⟩ = some (.slice ea g.es.length ec)) := Lib.hid (fun wq g => ⟨lay_cell g HBw10.out rfl, lay_cell g HBw10.out rfl, lay_cell g HBw10.out rfl, lay_cell g HBw10.out rfl⟩)
  have FXw1 : Hid (∀ wq, Flow.Grow w1 wq → (∀ k, wq.frozen? ⟨X, k, none⟩ = false)) := Lib.hid (fun wq g => fun k => lay_frozen g HBw10.out k)
  have HA1 := Lib.hid (HA0.out.grow HGw1.out)
  have HGW1 : Hid (Flow.Grow W w1) := Lib.hid (HG0.out.trans HGw1.out)
  have HFew : Hid g.Few := Lib.hid ⟨by have := Hsz.out.1; omega, by have := Hsz.out.2.1; omega, by have := Hsz.out.2.2.1; omega, by have := Hsz.out.2.2.2; omega⟩
  have HCk := Lib.hid fun w (hg : Flow.Grow w1 w) => check_any _ _ _ _ g w HFew.out (HA1.out.grow hg)
  obtain ⟨c00, c01, c02, c03⟩ := CXw1.out w1 (Flow.grow_refl _)
  by_cases hck : g.check = 0
  · have HHo := Lib.hid fun w (hg : Flow.Grow w1 w) => holds_any _ _ _ _ g w HFew.out (by have := Hsz.out.2.2.1; omega) hck (by have := Hsz.out.2.1; omega) (HA1.out.grow hg)
    have Hck := Lib.hid hck
    clear hck
    go_upto_region 5 with (go_at_call 8; refine (HCk.out _ (Flow.grow_refl _)).mono ?_; rintro e w2 ⟨rfl, hg⟩; rw [Hck.out]; have HG2 := Lib.hid hg; clear hg)
    clear c00 c01 c02 c03
    go_upto_region 6 with (go_at_call 18; refine (HMn.out _).mono ?_; rintro e w3 ⟨rfl, hg⟩)
    have HG3 : Hid (Flow.Grow w1 w3) := Lib.hid (HG2.out.trans hg)
    clear hg
    have HBw40 : Hid ((w3.alloc (.cells #[.int .i64 0, .int .i64 0, .slice none 0 0, .slice none 0 0] 51)).heap[w3.heap.size]? = some (.cells #[.int .i64 0, .int .i64 0, .slice none 0 0, .slice none 0 0] 51 (0, 0))) := Lib.hid (lay1_0 _ _)
    have HGw4 : Hid (Flow.Grow w3 (w3.alloc (.cells #[.int .i64 0, .int .i64 0, .slice none 0 0, .slice none 0 0] 51))) := Lib.hid (lay1_g _ _)
    have HSw4 : Hid ((w3.alloc (.cells #[.int .i64 0, .int .i64 0, .slice none 0 0, .slice none 0 0] 51)).heap.size = w3.heap.size + 1) := Lib.hid (by simp)
    generalize w3.alloc (.cells #[.int .i64 0, .int .i64 0, .slice none 0 0, .slice none 0 0] 51) = w4 at *
    obtain ⟨Y, hY⟩ : ∃ X, X = w3.heap.size := ⟨_, rfl⟩
    rw [← hY] at HBw40 HSw4 ⊢
    have HXw4 := Lib.hid hY
    clear hY
    have CXw4 : Hid (∀ wq, Flow.Grow w4 wq → wq.cell? ⟨Y, 0, none⟩ = some (.int .i64 0) ∧ wq.cell? ⟨Y, 1, none⟩ = some (.int .i64 0) ∧ wq.cell? ⟨Y, 2, none⟩ = some (.slice none 0 0) ∧ wq.cell? ⟨Y, 3, none⟩ = some (.slice none 0 0)) := Lib.hid (fun wq g => ⟨lay_cell g HBw40.out rfl, lay_cell g HBw40.out rfl, lay_cell g HBw40.out rfl, lay_cell g HBw40.out rfl⟩)
    have FXw4 : Hid (∀ wq, Flow.Grow w4 wq → (∀ k, wq.frozen? ⟨Y, k, none⟩ = false)) := Lib.hid (fun wq g => fun k => lay_frozen g HBw40.out k)
    have HG4 : Hid (Flow.Grow w1 w4) := Lib.hid (HG3.out.trans HGw4.out)
    go_wp2_with (first
      | (go_at_call 17; refine (HAw.out _).mono ?_; rintro e w5 ⟨rfl, hg⟩; have HG5 := Lib.hid (HG4.out.trans hg); obtain ⟨d00, d01, d02, d03⟩ := CXw1.out w5 (HG5.out); clear hg)
      | (go_at_call 19; refine (HHo.out _ HG5.out).mono ?_; rintro e w6 ⟨rfl, hg⟩; have HG6 := Lib.hid (HG5.out.trans hg); clear hg))
    go_ret
    exact ⟨rfl, HGW1.out.trans HG6.out⟩
  · have HOf := Lib.hid fun w (hg : Flow.Grow w1 w) => reachOf_bad _ _ _ _ g w HFew.out (by have := Hsz.out.2.2.1; omega) hck (HA1.out.grow hg)
    generalize g.check = ck at *
    have d0 : (ck != 0) = true := by simp [hck]
    clear hck
    go_upto_region 3 with (go_at_call 8; refine (HCk.out _ (Flow.grow_refl _)).mono ?_; rintro e w2 ⟨rfl, hg⟩; have HG2 := Lib.hid hg; clear hg)
    clear c00 c01 c02 c03
    obtain ⟨d00, d01, d02, d03⟩ := CXw1.out w2 (HG2.out)
    go_upto_region 4 with (go_at_call 16; refine (HOf.out _ HG2.out).mono ?_; rintro e w3 ⟨rfl, hg⟩; have HG3 := Lib.hid (HG2.out.trans hg); clear hg)
    clear d00 d01 d02 d03
    have HBw40 : Hid ((w3.alloc (.cells #[.int .i64 0, .int .i64 0, .slice none 0 0, .slice none 0 0] 51)).heap[w3.heap.size]? = some (.cells #[.int .i64 0, .int .i64 0, .slice none 0 0, .slice none 0 0] 51 (0, 0))) := Lib.hid (lay1_0 _ _)
    have HGw4 : Hid (Flow.Grow w3 (w3.alloc (.cells #[.int .i64 0, .int .i64 0, .slice none 0 0, .slice none 0 0] 51))) := Lib.hid (lay1_g _ _)
    have HSw4 : Hid ((w3.alloc (.cells #[.int .i64 0, .int .i64 0, .slice none 0 0, .slice none 0 0] 51)).heap.size = w3.heap.size + 1) := Lib.hid (by simp)
    generalize w3.alloc (.cells #[.int .i64 0, .int .i64 0, .slice none 0 0, .slice none 0 0] 51) = w4 at *
    obtain ⟨Y, hY⟩ : ∃ X, X = w3.heap.size := ⟨_, rfl⟩
    rw [← hY] at HBw40 HSw4 ⊢
    have HXw4 := Lib.hid hY
    clear hY
    have CXw4 : Hid (∀ wq, Flow.Grow w4 wq → wq.cell? ⟨Y, 0, none⟩ = some (.int .i64 0) ∧ wq.cell? ⟨Y, 1, none⟩ = some (.int .i64 0) ∧ wq.cell? ⟨Y, 2, none⟩ = some (.slice none 0 0) ∧ wq.cell? ⟨Y, 3, none⟩ = some (.slice none 0 0)) := Lib.hid (fun wq g => ⟨lay_cell g HBw40.out rfl, lay_cell g HBw40.out rfl, lay_cell g HBw40.out rfl, lay_cell g HBw40.out rfl⟩)
    have FXw4 : Hid (∀ wq, Flow.Grow w4 wq → (∀ k, wq.frozen? ⟨Y, k, none⟩ = false)) := Lib.hid (fun wq g => fun k => lay_frozen g HBw40.out k)
    have HG4 : Hid (Flow.Grow w1 w4) := Lib.hid (HG3.out.trans HGw4.out)
    go_wp2_with (first
      | (go_at_call 17; refine (HAw.out _).mono ?_; rintro e w5 ⟨rfl, hg⟩; have HG45 := Lib.hid hg; have HG5 := Lib.hid (HG4.out.trans hg); obtain ⟨d00, d01, d02, d03⟩ := CXw1.out w5 (HG5.out); clear hg)
      | (go_at_call 8; refine (HCk.out _ HG5.out).mono ?_; rintro e w6 ⟨rfl, hg⟩; have HG6 := Lib.hid (HG5.out.trans hg); have HG64 := Lib.hid (HG45.out.trans hg); obtain ⟨e00, e01, e02, e03⟩ := CXw4.out w6 (HG64.out); clear hg))
    go_ret
    exact ⟨rfl, HGW1.out.trans HG6.out⟩
end Go.Proofs.Ytcnmaplopbbmaaa

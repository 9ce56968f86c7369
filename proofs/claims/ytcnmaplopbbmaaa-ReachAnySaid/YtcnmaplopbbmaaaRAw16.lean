/- galliardlaw16.awake is true: by contracts, on its own small graph. -/
import Derived.Test.YtcnmaplopbbmaaaRPlay
namespace Go.Proofs.Ytcnmaplopbbmaaa
open Go.RowKit
theorem recs_block {α : Type} {k : Nat} {f : α → List Value} (hk : ∀ x, (f x).length = k) {w : World} {b c n : Nat} {cs : Array Value} {T : TypeId} {fr : Nat × Nat} {xs : List α} (h : w.heap[b]? = some (.cells cs T fr)) (e : cs.toList = xs.flatMap f) (hn : n = xs.length) : Gr.Recs k f w (.slice (some ⟨b, 0, none⟩) n c) xs := by
  subst hn
  refine ⟨_, c, rfl, Gr.flat_len hk xs, (fun h0 => by cases h0), fun j hj => ⟨b, 0, rfl, (Array.getElem?_eq_some_iff.1 h).1, ?_⟩⟩
  rw [cell_of_row w b _ _ _ _ h, Nat.zero_add, ← e]
  exact Array.getElem?_toList.symm
namespace Gr
def nE : ByteArray := ⟨#[]⟩
/-- the small graph of the laws' own tests -/
def gA : G := ⟨[⟨1, nE, 0, 0, 0, 0, false⟩, ⟨3, nE, 0, 1, 0, -1, false⟩, ⟨2, nE, 0, 0, 0, 0, false⟩], [(0, 1), (1, 2)], 2, 1⟩
theorem gA_few : gA.Few := ⟨by decide, by decide, by decide, by decide⟩
theorem gA_check : gA.check = 0 := by kernel_rfl
theorem gA_may : gA.May := G.check_may gA_check
theorem gA_labels : gA.labels = [(0, 1, 0)] := by kernel_rfl
def l1 : List Bool := true :: List.replicate 63 false
def l2 : List Bool := false :: true :: List.replicate 62 false
theorem gA_first : gA.firstL 2 = l1 := by kernel_rfl
theorem gA_turns : gA.turns [(0, 1, 0)] (l1, false) = [(0, (l2, false))] := by kernel_rfl
theorem l2_mark : Mark.ofBools l2 = 2 := by kernel_rfl
end Gr
set_option maxRecDepth 100000 in
set_option maxHeartbeats 4000000 in
theorem awake16 (W : World) : Calls Try.prog 9 #[] W fun e w' => e = .returned (.bool true) ∧ Flow.Grow W w' := by
  have HO2 : Hid (∀ w, Calls Try.prog 26 #[.int .u64 2] w fun e w' => e = .returned (.bool false) ∧ w = w') := Lib.hid fun w => over_any 2 (by decide) w
  have HO0 : Hid (∀ w, Calls Try.prog 26 #[.int .u64 0] w fun e w' => e = .returned (.bool true) ∧ w = w') := Lib.hid fun w => over_any 0 (by decide) w
  go_enter Try.func9, Try.ntmps9
  go_upto_region 2 with fail
  have HBw10 : Hid ((((((W.alloc (.cells (#[.string ⟨#[97]⟩, .string ⟨#[98]⟩]) 9)).alloc (.cells (#[.string ⟨#[109]⟩]) 9)).alloc (.cells (#[.int .i64 1, .string ⟨#[]⟩, .int .i64 0, .int .i64 0, .int .i64 0, .int .i64 0, .bool false, .int .i64 3, .string ⟨#[]⟩, .int .i64 0, .int .i64 1, .int .i64 0, .int .i64 (-1), .bool false, .int .i64 2, .string ⟨#[]⟩, .int .i64 0, .int .i64 0, .int .i64 0, .int .i64 0, .bool false]) 62)).alloc (.cells (#[.int .i64 0, .int .i64 1, .int .i64 1, .int .i64 2]) 66)).alloc (.cells (#[.slice (some ⟨W.heap.size, 0, none⟩) 2 2, .slice (some ⟨W.heap.size + 1, 0, none⟩) 1 1, .slice (some ⟨W.heap.size + 1 + 1, 0, none⟩) 3 3, .slice (some ⟨W.heap.size + 1 + 1 + 1, 0, none⟩) 2 2]) 28)).heap[W.heap.size]? = some (.cells (#[.string ⟨#[97]⟩, .string ⟨#[98]⟩]) 9 (0, 0))) := Lib.hid (lay5_0 _ _ _ _ _ _)
  have HBw11 : Hid ((((((W.alloc (.cells (#[.string ⟨#[97]⟩, .string ⟨#[98]⟩]) 9)).alloc (.cells (#[.string ⟨#[109]⟩]) 9)).alloc (.cells (#[.int .i64 1, .string ⟨#[]⟩, .int .i64 0, .int .i64 0, .int .i64 0, .int .i64 0, .bool false, .int .i64 3, .string ⟨#[]⟩, .int .i64 0, .int .i64 1, .int .i64 0, .int .i64 (-1), .bool false, .int .i64 2, .string ⟨#[]⟩, .int .i64 0, .int .i64 0, .int .i64 0, .int .i64 0, .bool false]) 62)).alloc (.cells (#[.int .i64 0, .int .i64 1, .int .i64 1, .int .i64 2]) 66)).alloc (.cells (#[.slice (some ⟨W.heap.size, 0, none⟩) 2 2, .slice (some ⟨W.heap.size + 1, 0, none⟩) 1 1, .slice (some ⟨W.heap.size + 1 + 1, 0, none⟩) 3 3, .slice (some ⟨W.heap.size + 1 + 1 + 1, 0, none⟩) 2 2]) 28)).heap[W.heap.size + 1]? = some (.cells (#[.string ⟨#[109]⟩]) 9 (0, 0))) := Lib.hid (lay5_1 _ _ _ _ _ _)
  have HBw12 : Hid ((((((W.alloc (.cells (#[.string ⟨#[97]⟩, .string ⟨#[98]⟩]) 9)).alloc (.cells (#[.string ⟨#[109]⟩]) 9)).alloc (.cells (#[.int .i64 1, .string ⟨#[]⟩, .int .i64 0, .int .i64 0, .int .i64 0, .int .i64 0, .bool false, .int .i64 3, .string ⟨#[]⟩, .int .i64 0, .int .i64 1, .int .i64 0, .int .i64 (-1), .bool false, .int .i64 2, .string ⟨#[]⟩, .int .i64 0, .int .i64 0, .int .i64 0, .int .i64 0, .bool false]) 62)).alloc (.cells (#[.int .i64 0, .int .i64 1, .int .i64 1, .int .i64 2]) 66)).alloc (.cells (#[.slice (some ⟨W.heap.size, 0, none⟩) 2 2, .slice (some ⟨W.heap.size + 1, 0, none⟩) 1 1, .slice (some ⟨W.heap.size + 1 + 1, 0, none⟩) 3 3, .slice (some ⟨W.heap.size + 1 + 1 + 1, 0, none⟩) 2 2]) 28)).heap[W.heap.size + 1 + 1]? = some (.cells (#[.int .i64 1, .string ⟨#[]⟩, .int .i64 0, .int .i64 0, .int .i64 0, .int .i64 0, .bool false, .int .i64 3, .string ⟨#[]⟩, .int .i64 0, .int .i64 1, .int .i64 0, .int .i64 (-1), .bool false, .int .i64 2, .string ⟨#[]⟩, .int .i64 0, .int .i64 0, .int .i64 0, .int .i64 0, .bool false]) 62 (0, 0))) := Lib.hid (lay5_2 _ _ _ _ _ _)
  have HBw13 : Hid ((((((W.alloc (.cells (#[.string ⟨#[97]⟩, .string ⟨#[98]⟩]) 9)).alloc (.cells (#[.string ⟨#[109]⟩]) 9)).alloc (.cells (#[.int .i64 1, .string ⟨#[]⟩, .int .i64 0, .int .i64 0, .int .i64 0, .int .i64 0, .bool false, .int .i64 3, .string ⟨#[]⟩, .int .i64 0, .int .i64 1, .int .i64 0, .int .i64 (-1), .bool false, .int .i64 2, .string ⟨#[]⟩, .int .i64 0, .int .i64 0, .int .i64 0, .int .i64 0, .bool false]) 62)).alloc (.cells (#[.int .i64 0, .int .i64 1, .int .i64 1, .int .i64 2]) 66)).alloc (.cells (#[.slice (some ⟨W.heap.size, 0, none⟩) 2 2, .slice (some ⟨W.heap.size + 1, 0, none⟩) 1 1, .slice (some ⟨W.heap.size + 1 + 1, 0, none⟩) 3 3, .slice (some ⟨W.heap.size + 1 + 1 + 1, 0, none⟩) 2 2]) 28)).heap[W.heap.size + 1 + 1 + 1]? = some (.cells (#[.int .i64 0, .int .i64 1, .int .i64 1, .int .i64 2]) 66 (0, 0))) := Lib.hid (lay5_3 _ _ _ _ _ _)
  have HBw14 : Hid ((((((W.alloc (.cells (#[.string ⟨#[97]⟩, .string ⟨#[98]⟩]) 9)).alloc (.cells (#[.string ⟨#[109]⟩]) 9)).alloc (.cells (#[.int .i64 1, .string ⟨#[]⟩, .int .i64 0, .int .i64 0, .int .i64 0, .int .i64 0, .bool false, .int .i64 3, .string ⟨#[]⟩, .int .i64 0, .int .i64 1, .int .i64 0, .int .i64 (-1), .bool false, .int .i64 2, .string ⟨#[]⟩, .int .i64 0, .int .i64 0, .int .i64 0, .int .i64 0, .bool false]) 62)).alloc (.cells (#[.int .i64 0, .int .i64 1, .int .i64 1, .int .i64 2]) 66)).alloc (.cells (#[.slice (some ⟨W.heap.size, 0, none⟩) 2 2, .slice (some ⟨W.heap.size + 1, 0, none⟩) 1 1, .slice (some ⟨W.heap.size + 1 + 1, 0, none⟩) 3 3, .slice (some ⟨W.heap.size + 1 + 1 + 1, 0, none⟩) 2 2]) 28)).heap[W.heap.size + 1 + 1 + 1 + 1]? = some (.cells (#[.slice (some ⟨W.heap.size, 0, none⟩) 2 2, .slice (some ⟨W.heap.size + 1, 0, none⟩) 1 1, .slice (some ⟨W.heap.size + 1 + 1, 0, none⟩) 3 3, .slice (some ⟨W.heap.size + 1 + 1 + 1, 0, none⟩) 2 2]) 28 (0, 0))) := Lib.hid (lay5_4 _ _ _ _ _ _)
  have HGw1 : Hid (Flow.Grow W (((((W.alloc (.cells (#[.string ⟨#[97]⟩, .string ⟨#[98]⟩]) 9)).alloc (.cells (#[.string ⟨#[109]⟩]) 9)).alloc (.cells (#[.int .i64 1, .string ⟨#[]⟩, .int .i64 0, .int .i64 0, .int .i64 0, .int .i64 0, .bool false, .int .i64 3, .string ⟨#[]⟩, .int .i64 0, .int .i64 1, .int .i64 0, .int .i64 (-1), .bool false, .int .i64 2, .string ⟨#[]⟩, .int .i64 0, .int .i64 0, .int .i64 0, .int .i64 0, .bool false]) 62)).alloc (.cells (#[.int .i64 0, .int .i64 1, .int .i64 1, .int .i64 2]) 66)).alloc (.cells (#[.slice (some ⟨W.heap.size, 0, none⟩) 2 2, .slice (some ⟨W.heap.size + 1, 0, none⟩) 1 1, .slice (some ⟨W.heap.size + 1 + 1, 0, none⟩) 3 3, .slice (some ⟨W.heap.size + 1 + 1 + 1, 0, none⟩) 2 2]) 28))) := Lib.hid (lay5_g _ _ _ _ _ _)
  have HSw1 : Hid ((((((W.alloc (.cells (#[.string ⟨#[97]⟩, .string ⟨#[98]⟩]) 9)).alloc (.cells (#[.string ⟨#[109]⟩]) 9)).alloc (.cells (#[.int .i64 1, .string ⟨#[]⟩, .int .i64 0, .int .i64 0, .int .i64 0, .int .i64 0, .bool false, .int .i64 3, .string ⟨#[]⟩, .int .i64 0, .int .i64 1, .int .i64 0, .int .i64 (-1), .bool false, .int .i64 2, .string ⟨#[]⟩, .int .i64 0, .int .i64 0, .int .i64 0, .int .i64 0, .bool false]) 62)).alloc (.cells (#[.int .i64 0, .int .i64 1, .int .i64 1, .int .i64 2]) 66)).alloc (.cells (#[.slice (some ⟨W.heap.size, 0, none⟩) 2 2, .slice (some ⟨W.heap.size + 1, 0, none⟩) 1 1, .slice (some ⟨W.heap.size + 1 + 1, 0, none⟩) 3 3, .slice (some ⟨W.heap.size + 1 + 1 + 1, 0, none⟩) 2 2]) 28)).heap.size = W.heap.size + 1 + 1 + 1 + 1 + 1) := Lib.hid (by simp)
  generalize ((((W.alloc (.cells (#[.string ⟨#[97]⟩, .string ⟨#[98]⟩]) 9)).alloc (.cells (#[.string ⟨#[109]⟩]) 9)).alloc (.cells (#[.int .i64 1, .string ⟨#[]⟩, .int .i64 0, .int .i64 0, .int .i64 0, .int .i64 0, .bool false, .int .i64 3, .string ⟨#[]⟩, .int .i64 0, .int .i64 1, .int .i64 0, .int .i64 (-1), .bool false, .int .i64 2, .string ⟨#[]⟩, .int .i64 0, .int .i64 0, .int .i64 0, .int .i64 0, .bool false]) 62)).alloc (.cells (#[.int .i64 0, .int .i64 1, .int .i64 1, .int .i64 2]) 66)).alloc (.cells (#[.slice (some ⟨W.heap.size, 0, none⟩) 2 2, .slice (some ⟨W.heap.size + 1, 0, none⟩) 1 1, .slice (some ⟨W.heap.size + 1 + 1, 0, none⟩) 3 3, .slice (some ⟨W.heap.size + 1 + 1 + 1, 0, none⟩) 2 2]) 28) = w1 at *
  obtain ⟨X, hX⟩ : ∃ X, X = W.heap.size := ⟨_, rfl⟩
  rw [← hX] at HBw10 HBw11 HBw12 HBw13 HBw14 HSw1 ⊢
  have HXw1 := Lib.hid hX
  clear hX
  have FXw1 : Hid (∀ wq, Flow.Grow w1 wq → (∀ k, wq.frozen? ⟨X, k, none⟩ = false) ∧ (∀ k, wq.frozen? ⟨X + 1, k, none⟩ = false) ∧ (∀ k, wq.frozen? ⟨X + 1 + 1, k, none⟩ = false) ∧ (∀ k, wq.frozen? ⟨X + 1 + 1 + 1, k, none⟩ = false) ∧ (∀ k, wq.frozen? ⟨X + 1 + 1 + 1 + 1, k, none⟩ = false)) := Lib.hid (fun wq g => ⟨fun k => lay_frozen g HBw10.out k, fun k => lay_frozen g HBw11.out k, fun k => lay_frozen g HBw12.out k, fun k => lay_frozen g HBw13.out k, fun k => lay_frozen g HBw14.out k⟩)
  have HGA : Hid (Gr.GAt w1 (.slice (some ⟨X, 0, none⟩) 2 2) (.slice (some ⟨X + 1, 0, none⟩) 1 1) (.slice (some ⟨X + 1 + 1, 0, none⟩) 3 3) (.slice (some ⟨X + 1 + 1 + 1, 0, none⟩) 2 2) Gr.gA) := Lib.hid ⟨⟨_, _, rfl⟩, ⟨_, _, rfl⟩, recs_block Gr.Nd.cells_len HBw12.out rfl rfl, recs_block Gr.ecells_len HBw13.out rfl rfl⟩
  have g0 := (cell_of_row w1 (X + 1 + 1 + 1 + 1) 0 _ _ _ HBw14.out).trans rfl
  have g1 := (cell_of_row w1 (X + 1 + 1 + 1 + 1) 1 _ _ _ HBw14.out).trans rfl
  have g2 := (cell_of_row w1 (X + 1 + 1 + 1 + 1) 2 _ _ _ HBw14.out).trans rfl
  have g3 := (cell_of_row w1 (X + 1 + 1 + 1 + 1) 3 _ _ _ HBw14.out).trans rfl
  simp at g0 g1 g2 g3
  generalize (Value.slice (some ⟨X, 0, none⟩) 2 2) = v0 at *
  generalize (Value.slice (some ⟨X + 1, 0, none⟩) 1 1) = v1 at *
  generalize (Value.slice (some ⟨X + 1 + 1, 0, none⟩) 3 3) = v2 at *
  generalize (Value.slice (some ⟨X + 1 + 1 + 1, 0, none⟩) 2 2) = v3 at *
  have hMay := Gr.gA_may
  have hF := hMay.fit Gr.gA_few
  have HNew : Hid (∀ w, Flow.Grow w1 w → Calls Try.prog 7 #[.agg #[v0, v1, v2, v3]] w fun e w' => (∃ B lv, e = .returned (.tuple #[.pointer (some ⟨B, 0, none⟩), .int .i64 0]) ∧ Gr.Gm w' B v0 v1 v2 v3 lv Gr.gA [(0, 1, 0)] 0 ∧ Gr.Srt [(0, 1, 0)] ∧ w.heap.size ≤ B) ∧ Flow.Grow w w') := Lib.hid fun w hg => (new_any v0 v1 v2 v3 Gr.gA w Gr.gA_few (by decide) (HGA.out.grow hg)).mono fun e w' ⟨a, b⟩ => by
    rcases a with ⟨hne, _⟩ | ⟨_, B, lv, L, he, h1, h2, h3⟩
    · exact absurd Gr.gA_check hne
    · have e1 := hMay.labels h2
      rw [Gr.gA_labels] at e1
      subst e1
      exact ⟨⟨B, lv, he, h1, h2.srt, h3⟩, b⟩
  have HFst : Hid (∀ w B lv e, Gr.Gm w B v0 v1 v2 v3 lv Gr.gA [(0, 1, 0)] e → Calls Try.prog 12 #[.pointer (some ⟨B, 0, none⟩)] w fun e w' => e = .returned (.int .u64 (Mark.ofBools Gr.l1 : Int)) ∧ Flow.Grow w w') := Lib.hid fun w B lv e hg => by
    have k := gfirst_any B v0 v1 v2 v3 lv Gr.gA [(0, 1, 0)] e w hF hg
    rw [hMay.firstL Gr.gA_few] at k
    exact k
  have HTu : Hid (∀ w B lv, Gr.Srt [(0, 1, 0)] → Gr.Gm w B v0 v1 v2 v3 lv Gr.gA [(0, 1, 0)] 0 → Calls Try.prog 10 #[.pointer (some ⟨B, 0, none⟩), .int .u64 (Mark.ofBools Gr.l1 : Int)] w fun e w' => (∃ out, e = .returned out ∧ w'.ownsRow w.heap.size 73 2 out 1 [.int .i64 0, .int .u64 2]) ∧ w.grownBy w' (some B)) := Lib.hid fun w B lv hs hg => (turns_any B v0 v1 v2 v3 lv Gr.gA [(0, 1, 0)] false Gr.l1 w rfl hF (by decide) hs (by have := hMay.zero; rwa [Gr.gA_labels] at this) hg).mono fun e w' ⟨out, he, ti⟩ => by
    have k := ti.own
    rw [Gr.gA_turns] at k
    simp only [Gr.tcells, List.flatMap_cons, List.flatMap_nil, List.append_nil, Gr.l2_mark] at k
    exact ⟨⟨out, he, k⟩, ti.by_⟩
  go_upto_region 3 with (go_at_call 7; refine (HNew.out _ (Flow.grow_refl _)).mono ?_; rintro e w2 ⟨⟨B, lv, rfl, hgm, hs, hB⟩, hg⟩; have HG2 := Lib.hid hg; have HGm := Lib.hid hgm; have HB := Lib.hid hB; have HS := Lib.hid hs; clear hg hgm hB hs)
  clear g0 g1 g2 g3
  go_upto_region 4 with (first
    | (go_at_call 12; refine (HFst.out _ B _ _ HGm.out).mono ?_; rintro e w3 ⟨rfl, hg⟩; have HG3 := Lib.hid hg; have HGm3 := Lib.hid (HGm.out.grow hg); clear hg)
    | (go_at_call 10; refine (HTu.out _ B _ HS.out HGm3.out).mono ?_; rintro e w4 ⟨⟨out, rfl, ho⟩, hb⟩; have HO4 := Lib.hid ho; have HB4 := Lib.hid hb; obtain ⟨oa, oc, rfl⟩ := own_form ho; clear ho hb))
  obtain ⟨ob, rfl⟩ : ∃ b, oa = some ⟨b, 0, none⟩ := own_at (xs := [.int .i64 0, .int .u64 2]) (n := 1) HO4.out (by decide)
  have o0 : w4.cell? ⟨ob, 0, none⟩ = some (.int .i64 0) := by
    have k := HO4.out.cells (g := ob) rfl 0 _ rfl
    exact k
  have o1 : w4.cell? ⟨ob, 1, none⟩ = some (.int .u64 2) := by
    have k := HO4.out.cells (g := ob) rfl 1 _ rfl
    exact k
  have HGW : Hid (Flow.Grow W w4) := Lib.hid (by
    have hp := by_trans (by_grow (r := some B) (HG2.out.trans HG3.out)) HB4.out
    exact ⟨hp.os.trans HGw1.out.os, hp.tape.trans HGw1.out.tape, hp.output.trans HGw1.out.output, Nat.le_trans HGw1.out.size hp.size, fun b hb _ => (hp.block b (Nat.lt_of_lt_of_le hb HGw1.out.size) (by have := HB.out; have := HGw1.out.size; intro e; cases e; omega)).trans (HGw1.out.block b hb (by simp))⟩)
  go_wp2_with (go_at_call 26; first | (refine (HO2.out _).mono ?_; rintro e w' ⟨rfl, rfl⟩) | (refine (HO0.out _).mono ?_; rintro e w' ⟨rfl, rfl⟩))
  go_ret
  exact ⟨rfl, HGW.out⟩
end Go.Proofs.Ytcnmaplopbbmaaa

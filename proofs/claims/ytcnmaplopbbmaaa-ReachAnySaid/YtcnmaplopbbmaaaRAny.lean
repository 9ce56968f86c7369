/- galliardref13.Any by its contract: some graph of at most 8 nodes and 14 edges. -/
import Derived.Test.YtcnmaplopbbmaaaRMk
import Derived.Test.YtcnmaplopbbmaaaMAa
namespace Go.Proofs.Ytcnmaplopbbmaaa
open Go.RowKit
theorem Seg.two {w : World} {a : Option Addr} {n c : Nat} {zs : List Int} (h : Seg 2 w (.slice a n c) n (zs.map (Value.int .i64))) {j : Nat} (hj : j < n) : ∃ b off, a = some ⟨b, off, none⟩ ∧ w.cell? ⟨b, off + j * 2, none⟩ = some (.int .i64 (zs.getD (j * 2) 0)) ∧ w.cell? ⟨b, off + j * 2 + 1, none⟩ = some (.int .i64 (zs.getD (j * 2 + 1) 0)) := by
  obtain ⟨a', cap', e, hl, _, hc⟩ := h
  cases e
  rw [List.length_map] at hl
  obtain ⟨b, off, rfl, _, c0⟩ := hc (j * 2) (by simp; omega)
  obtain ⟨b', off', e', _, c1⟩ := hc (j * 2 + 1) (by simp; omega)
  cases e'
  refine ⟨b, off, rfl, ?_, ?_⟩
  · rw [c0]; simp [show j * 2 < zs.length by omega]
  · rw [Nat.add_assoc, c1]; simp [show j * 2 + 1 < zs.length by omega]
/-- the graph that Any makes, in memory -/
structure RA (W w : World) (B : Nat) (vp vm vn ve : Value) (ns : List Gr.Nd) (es : List Gr.Ed) : Prop where
  row : w.heap[B]? = some (.cells #[vp, vm, vn, ve] 28 (0, 0))
  no : w.ownsRow W.heap.size 62 7 vn ns.length (ns.flatMap Gr.Nd.cells)
  eo : w.ownsRow W.heap.size 66 2 ve es.length (es.flatMap Gr.ecells)
  grow : Flow.Grow W w
theorem RA.keep {W w w' : World} {B : Nat} {vp vm vn ve : Value} {ns : List Gr.Nd} {es : List Gr.Ed} (h : RA W w B vp vm vn ve ns es) (k : Flow.Grow w w') : RA W w' B vp vm vn ve ns es := ⟨heap_keep k h.row, own_keep h.no k, own_keep h.eo k, h.grow.trans k⟩
theorem own_setO {w : World} {bs e sz n : Nat} {v : Value} {xs : List Value} (h : w.ownsRow bs e sz v n xs) {B : Nat} {cs : Array Value} {T : TypeId} {fr : Nat × Nat} (hB : w.heap[B]? = some (.cells cs T fr)) (hT : T ≠ e) (q : Nat) (u : Value) : (w.setCell ⟨B, q, none⟩ u).ownsRow bs e sz v n xs :=
  h.kept (by_set w B q u) (by
    rcases h.2 with ⟨e1, e2⟩ | ⟨g, cap, cur, e1, _, hg, _⟩
    · exact .inl (by rw [e1]; rfl)
    · refine .inr fun hv => ?_
      rw [e1] at hv
      simp [Value.ownBlock] at hv
      subst hv
      rw [hg] at hB
      cases hB
      exact hT rfl)
theorem own_liftBy {w w' : World} {bs e sz n : Nat} {v : Value} {xs : List Value} {bs' e' sz' n' : Nat} {v' : Value} {xs' : List Value} (h : w.ownsRow bs e sz v n xs) (o : w.ownsRow bs' e' sz' v' n' xs') (hT : e ≠ e') (k : w.grownBy w' v'.ownBlock) : w'.ownsRow bs e sz v n xs := by
  refine ⟨h.1, ?_⟩
  rcases h.2 with h0 | ⟨g, cap, cur, h1, h2, h3, h4⟩
  · exact .inl h0
  · exact .inr ⟨g, cap, cur, h1, h2, own_otherR o h3 hT k, h4⟩
theorem RA.node {W w w' : World} {B : Nat} {vp vm vn ve v' : Value} {ns : List Gr.Nd} {es : List Gr.Ed} (h : RA W w B vp vm vn ve ns es) (nd : Gr.Nd) (o : w'.ownsRow W.heap.size 62 7 v' (ns.length + 1) (ns.flatMap Gr.Nd.cells ++ nd.cells)) (hG : Flow.Grow W w') (hby : w.grownBy w' vn.ownBlock) (hB : W.heap.size ≤ B) : RA W (w'.setCell ⟨B, 2, none⟩ v') B vp vm v' ve (ns ++ [nd]) es := by
  have hr := own_otherR h.no h.row (by decide) hby
  refine ⟨(set_cells hr 2 v').trans rfl, ?_, own_setO (own_liftBy h.eo h.no (by decide) hby) hr (by decide) _ _, set_grow hG hB _ _⟩
  rw [List.length_append, List.flatMap_append]
  exact own_setO (by simpa using o) hr (by decide) _ _
theorem RA.edge {W w w' : World} {B : Nat} {vp vm vn ve v' : Value} {ns : List Gr.Nd} {es : List Gr.Ed} (h : RA W w B vp vm vn ve ns es) (ed : Gr.Ed) (o : w'.ownsRow W.heap.size 66 2 v' (es.length + 1) (es.flatMap Gr.ecells ++ Gr.ecells ed)) (hG : Flow.Grow W w') (hby : w.grownBy w' ve.ownBlock) (hB : W.heap.size ≤ B) : RA W (w'.setCell ⟨B, 3, none⟩ v') B vp vm vn v' ns (es ++ [ed]) := by
  have hr := own_otherR h.eo h.row (by decide) hby
  refine ⟨(set_cells hr 3 v').trans rfl, own_setO (own_liftBy h.no h.eo (by decide) hby) hr (by decide) _ _, ?_, set_grow hG hB _ _⟩
  rw [List.length_append, List.flatMap_append]
  exact own_setO (by simpa using o) hr (by decide) _ _
theorem RA.set {W w0 w : World} {B : Nat} {vp vm vn ve : Value} {ns : List Gr.Nd} {es : List Gr.Ed} (h0 : RA W w0 B vp vm vn ve ns es) (h : RA W w B vp vm vn ve ns es) {Y : Nat} (hY : w0.heap.size ≤ Y) (q : Nat) (u : Value) : RA W (w.setCell ⟨Y, q, none⟩ u) B vp vm vn ve ns es :=
  ⟨set_other h.row (by have := (Array.getElem?_eq_some_iff.1 h0.row).1; omega), h.no.kept (by_set _ _ _ _) (.inr fun e => by have := (h0.no.lt _ e).2; omega), h.eo.kept (by_set _ _ _ _) (.inr fun e => by have := (h0.eo.lt _ e).2; omega), set_grow h.grow (Nat.le_trans h0.grow.size hY) _ _⟩
theorem RA.same {W w : World} {B : Nat} {vp vm vn ve : Value} {ns : List Gr.Nd} {es : List Gr.Ed} (h : RA W w B vp vm vn ve ns es) (hB : W.heap.size ≤ B) : RA W ((((w.setCell ⟨B, 0, none⟩ vp).setCell ⟨B, 1, none⟩ vm).setCell ⟨B, 2, none⟩ vn).setCell ⟨B, 3, none⟩ ve) B vp vm vn ve ns es := by
  have h1 : (w.setCell ⟨B, 0, none⟩ vp).heap[B]? = some (.cells #[vp, vm, vn, ve] 28 (0, 0)) := (set_cells h.row 0 _).trans rfl
  have h2 : ((w.setCell ⟨B, 0, none⟩ vp).setCell ⟨B, 1, none⟩ vm).heap[B]? = some (.cells #[vp, vm, vn, ve] 28 (0, 0)) := (set_cells h1 1 _).trans rfl
  have h3 : (((w.setCell ⟨B, 0, none⟩ vp).setCell ⟨B, 1, none⟩ vm).setCell ⟨B, 2, none⟩ vn).heap[B]? = some (.cells #[vp, vm, vn, ve] 28 (0, 0)) := (set_cells h2 2 _).trans rfl
  exact ⟨(set_cells h3 3 _).trans rfl, own_setO (own_setO (own_setO (own_setO h.no h.row (by decide) _ _) h1 (by decide) _ _) h2 (by decide) _ _) h3 (by decide) _ _, own_setO (own_setO (own_setO (own_setO h.eo h.row (by decide) _ _) h1 (by decide) _ _) h2 (by decide) _ _) h3 (by decide) _ _, set_grow (set_grow (set_grow (set_grow h.grow hB _ _) hB _ _) hB _ _) hB _ _⟩
theorem RA.gat {W w : World} {B : Nat} {pa ma : Option Addr} {pc mc : Nat} {vn ve : Value} {ns : List Gr.Nd} {es : List Gr.Ed} (h : RA W w B (.slice pa 3 pc) (.slice ma 2 mc) vn ve ns es) : Gr.GAt w (.slice pa 3 pc) (.slice ma 2 mc) vn ve ⟨ns, es, 3, 2⟩ := ⟨⟨_, _, rfl⟩, ⟨_, _, rfl⟩, Seg.of_own h.no, Seg.of_own h.eo⟩
theorem info_edge13 : (Try.prog.info? 66).map (fun i => (i.zero, i.size, i.bytes)) = some (some (.agg #[.int .i64 0, .int .i64 0]), 2, 16) := by kernel_rfl
set_option maxRecDepth 100000 in
set_option maxHeartbeats 8000000 in
theorem rany_any (a0 : Option Addr) (n0 c0 : Nat) (a1 : Option Addr) (n1 c1 : Nat) (zs es : List Int) (W : World) (hz : n0 ≤ 9223372036854775807) (hx : n1 ≤ 9223372036854775807) (hn : Ints W (.slice a0 n0 c0) zs) (he : Seg 2 W (.slice a1 n1 c1) n1 (es.map (Value.int .i64))) :
    Calls Try.prog 6 #[.slice a0 n0 c0, .slice a1 n1 c1, .int .i64 0] W fun e w' => ∃ v0 v1 v2 v3 g, e = .returned (.agg #[v0, v1, v2, v3]) ∧ Gr.GAt w' v0 v1 v2 v3 g ∧ g.np = 3 ∧ g.nm = 2 ∧ g.ns.length ≤ 8 ∧ g.es.length ≤ 14 ∧ Flow.Grow W w' := by
  have HN := Lib.hid hn
  have HE := Lib.hid he
  have hn0 : n0 = zs.length := by obtain ⟨a, c, e, _⟩ := hn; cases e; rfl
  have Hn0 := Lib.hid hn0
  clear hn he hn0
  obtain ⟨i0, hi0, hz0, hz1, hz2⟩ := info_parts info_node
  have HI := Lib.hid (And.intro hi0 (And.intro hz0 (And.intro hz1 hz2)))
  clear hi0 hz0 hz1 hz2
  obtain ⟨n, h1, h2, h3⟩ : ∃ n : Nat, n ≤ 8 ∧ n ≤ n0 ∧ (n = 8 ∨ n = n0) := ⟨min n0 8, by omega, by omega, by omega⟩
  have hmin : min (n0 : Int) 8 = (n : Int) := by omega
  clear h3
  go_enter Try.func6, Try.ntmps6
  go_upto_region 2 with fail
  have HBw10 : Hid ((((W.alloc (.cells (#[.slice (some ⟨W.heap.size + 1, 0, none⟩) 3 3, .slice (some ⟨W.heap.size + 1 + 1, 0, none⟩) 2 2, .slice none 0 0, .slice none 0 0]) 28)).alloc (.cells (#[.string ⟨#[112, 97]⟩, .string ⟨#[112, 98]⟩, .string ⟨#[112, 99]⟩]) 9)).alloc (.cells (#[.string ⟨#[109, 97]⟩, .string ⟨#[109, 98]⟩]) 9)).heap[W.heap.size]? = some (.cells (#[.slice (some ⟨W.heap.size + 1, 0, none⟩) 3 3, .slice (some ⟨W.heap.size + 1 + 1, 0, none⟩) 2 2, .slice none 0 0, .slice none 0 0]) 28 (0, 0))) := Lib.hid (lay3_0 _ _ _ _)
  have HBw11 : Hid ((((W.alloc (.cells (#[.slice (some ⟨W.heap.size + 1, 0, none⟩) 3 3, .slice (some ⟨W.heap.size + 1 + 1, 0, none⟩) 2 2, .slice none 0 0, .slice none 0 0]) 28)).alloc (.cells (#[.string ⟨#[112, 97]⟩, .string ⟨#[112, 98]⟩, .string ⟨#[112, 99]⟩]) 9)).alloc (.cells (#[.string ⟨#[109, 97]⟩, .string ⟨#[109, 98]⟩]) 9)).heap[W.heap.size + 1]? = some (.cells (#[.string ⟨#[112, 97]⟩, .string ⟨#[112, 98]⟩, .string ⟨#[112, 99]⟩]) 9 (0, 0))) := Lib.hid (lay3_1 _ _ _ _)
  have HBw12 : Hid ((((W.alloc (.cells (#[.slice (some ⟨W.heap.size + 1, 0, none⟩) 3 3, .slice (some ⟨W.heap.size + 1 + 1, 0, none⟩) 2 2, .slice none 0 0, .slice none 0 0]) 28)).alloc (.cells (#[.string ⟨#[112, 97]⟩, .string ⟨#[112, 98]⟩, .string ⟨#[112, 99]⟩]) 9)).alloc (.cells (#[.string ⟨#[109, 97]⟩, .string ⟨#[109, 98]⟩]) 9)).heap[W.heap.size + 1 + 1]? = some (.cells (#[.string ⟨#[109, 97]⟩, .string ⟨#[109, 98]⟩]) 9 (0, 0))) := Lib.hid (lay3_2 _ _ _ _)
  have HGw1 : Hid (Flow.Grow W (((W.alloc (.cells (#[.slice (some ⟨W.heap.size + 1, 0, none⟩) 3 3, .slice (some ⟨W.heap.size + 1 + 1, 0, none⟩) 2 2, .slice none 0 0, .slice none 0 0]) 28)).alloc (.cells (#[.string ⟨#[112, 97]⟩, .string ⟨#[112, 98]⟩, .string ⟨#[112, 99]⟩]) 9)).alloc (.cells (#[.string ⟨#[109, 97]⟩, .string ⟨#[109, 98]⟩]) 9))) := Lib.hid (lay3_g _ _ _ _)
  have HSw1 : Hid ((((W.alloc (.cells (#[.slice (some ⟨W.heap.size + 1, 0, none⟩) 3 3, .slice (some ⟨W.heap.size + 1 + 1, 0, none⟩) 2 2, .slice none 0 0, .slice none 0 0]) 28)).alloc (.cells (#[.string ⟨#[112, 97]⟩, .string ⟨#[112, 98]⟩, .string ⟨#[112, 99]⟩]) 9)).alloc (.cells (#[.string ⟨#[109, 97]⟩, .string ⟨#[109, 98]⟩]) 9)).heap.size = W.heap.size + 1 + 1 + 1) := Lib.hid (by simp)
  generalize ((W.alloc (.cells (#[.slice (some ⟨W.heap.size + 1, 0, none⟩) 3 3, .slice (some ⟨W.heap.size + 1 + 1, 0, none⟩) 2 2, .slice none 0 0, .slice none 0 0]) 28)).alloc (.cells (#[.string ⟨#[112, 97]⟩, .string ⟨#[112, 98]⟩, .string ⟨#[112, 99]⟩]) 9)).alloc (.cells (#[.string ⟨#[109, 97]⟩, .string ⟨#[109, 98]⟩]) 9) = w1 at *
  obtain ⟨B, hB⟩ : ∃ X, X = W.heap.size := ⟨_, rfl⟩
  rw [← hB] at HBw10 HBw11 HBw12 HSw1 ⊢
  have HXw1 := Lib.hid hB
  clear hB
  have FXw1 : Hid (∀ wq, Flow.Grow w1 wq → (∀ k, wq.frozen? ⟨B, k, none⟩ = false) ∧ (∀ k, wq.frozen? ⟨B + 1, k, none⟩ = false) ∧ (∀ k, wq.frozen? ⟨B + 1 + 1, k, none⟩ = false)) := Lib.hid (fun wq g => ⟨fun k => lay_frozen g HBw10.out k, fun k => lay_frozen g HBw11.out k, fun k => lay_frozen g HBw12.out k⟩)
  have HR1 : Hid (RA W w1 B (.slice (some ⟨B + 1, 0, none⟩) 3 3) (.slice (some ⟨B + 1 + 1, 0, none⟩) 2 2) (.slice none 0 0) (.slice none 0 0) [] []) := Lib.hid ⟨HBw10.out, World.ownsRow_nil _ _ _ _, World.ownsRow_nil _ _ _ _, HGw1.out⟩
  clear HBw10 HBw11 HBw12 FXw1
  have HVp : Hid (∃ a c, Value.slice (some ⟨B + 1, 0, none⟩) 3 3 = .slice a 3 c) := Lib.hid ⟨_, _, rfl⟩
  have HVm : Hid (∃ a c, Value.slice (some ⟨B + 1 + 1, 0, none⟩) 2 2 = .slice a 2 c) := Lib.hid ⟨_, _, rfl⟩
  generalize (Value.slice (some ⟨B + 1, 0, none⟩) 3 3) = vp at *
  generalize (Value.slice (some ⟨B + 1 + 1, 0, none⟩) 2 2) = vm at *
  go_wp2_with fail
  go_loopw [8] (fun vi wr => ∃ (j : Nat) (vn : Value) (ns : List Gr.Nd), j ≤ n ∧ vi = .int .i64 j ∧ ns.length = j ∧ Hid (RA W wr B vp vm vn (.slice none 0 0) ns [])) (fun vi _ => n - (intOf vi).toNat)
  case atStart => exact ⟨0, _, [], by omega, rfl, rfl, HR1⟩
  case round =>
    obtain ⟨j, vn, ns, hj, rfl, hnl, HR⟩ := hrel
    rename World => wr
    by_cases hjn : j < n
    · obtain ⟨xb, xo, rfl, q⟩ := Ints.at1 HN.out (k := j) (by rw [← Hn0.out]; omega)
      have c := Xm2.cell_grow HR.out.grow q
      clear q
      generalize zs.getD j 0 = z at c
      have hm := Bits.i64_mask z 16 (by omega) 65535 (by decide)
      have hX : 0 ≤ z % 2 ^ 16 ∧ z % 2 ^ 16 < 65536 := by omega
      generalize z % 2 ^ 16 = X at hm hX
      obtain ⟨hX0, hX1⟩ := hX
      have hK0 : 0 ≤ X % 6 := by omega
      have hK1 : X % 6 < 6 := by omega
      obtain ⟨s, hcv⟩ : ∃ s, ∀ w : World, w.cell? ⟨wr.heap.size, 0, none⟩ = some (.int .u8 (97 + (j : Int))) → (convert 60 9 (.slice (some ⟨wr.heap.size, 0, none⟩) 1 1)).run Try.prog w = .ok (.string s) w := by
        refine ⟨_, fun w hw => run_convert_bytes_back w 60 9 5 ⟨wr.heap.size, 0, none⟩ 1 [UInt8.ofNat (97 + j)] Try.underlying60 Try.underlying5 Try.underlying9 fun i hi => ?_⟩
        obtain rfl : i = 0 := by simp at hi; omega
        rw [Addr.add_lit]
        refine hw.trans ?_
        simp only [List.getElem_cons_zero, UInt8.toNat_ofNat']
        rw [Nat.mod_eq_of_lt (by omega)]
        simp
      have hcw := hcv (wr.alloc (.cells #[.int .u8 (97 + (j : Int))] 5)) ((cell_of_row _ _ 0 _ _ _ (heap_alloc_new wr _)).trans rfl)
      clear hcv
      go_upto_region 8 with fail
      clear hcw c hm
      have HBw20 : Hid (((wr.alloc (.cells (#[.int .u8 (97 + (j : Int))]) 5)).alloc (.cells #[.int .i64 (X % 6 + 1), .string s, .int .i64 (-1), .int .i64 (-1), .int .i64 (-1), .int .i64 (-1), .bool false] 62)).heap[wr.heap.size]? = some (.cells (#[.int .u8 (97 + (j : Int))]) 5 (0, 0))) := Lib.hid (lay2_0 _ _ _)
      have HBw21 : Hid (((wr.alloc (.cells (#[.int .u8 (97 + (j : Int))]) 5)).alloc (.cells #[.int .i64 (X % 6 + 1), .string s, .int .i64 (-1), .int .i64 (-1), .int .i64 (-1), .int .i64 (-1), .bool false] 62)).heap[wr.heap.size + 1]? = some (.cells #[.int .i64 (X % 6 + 1), .string s, .int .i64 (-1), .int .i64 (-1), .int .i64 (-1), .int .i64 (-1), .bool false] 62 (0, 0))) := Lib.hid (lay2_1 _ _ _)
      have HGw2 : Hid (Flow.Grow wr ((wr.alloc (.cells (#[.int .u8 (97 + (j : Int))]) 5)).alloc (.cells #[.int .i64 (X % 6 + 1), .string s, .int .i64 (-1), .int .i64 (-1), .int .i64 (-1), .int .i64 (-1), .bool false] 62))) := Lib.hid (lay2_g _ _ _)
      have HSw2 : Hid (((wr.alloc (.cells (#[.int .u8 (97 + (j : Int))]) 5)).alloc (.cells #[.int .i64 (X % 6 + 1), .string s, .int .i64 (-1), .int .i64 (-1), .int .i64 (-1), .int .i64 (-1), .bool false] 62)).heap.size = wr.heap.size + 1 + 1) := Lib.hid (by simp)
      generalize (wr.alloc (.cells (#[.int .u8 (97 + (j : Int))]) 5)).alloc (.cells #[.int .i64 (X % 6 + 1), .string s, .int .i64 (-1), .int .i64 (-1), .int .i64 (-1), .int .i64 (-1), .bool false] 62) = w2 at *
      obtain ⟨N, hN⟩ : ∃ X, X = wr.heap.size := ⟨_, rfl⟩
      rw [← hN] at HBw20 HBw21 HSw2 ⊢
      have HXw2 := Lib.hid hN
      clear hN
      have CXw2 : Hid (∀ wq, Flow.Grow w2 wq → wq.cell? ⟨N + 1, 0, none⟩ = some (.int .i64 (X % 6 + 1)) ∧ wq.cell? ⟨N + 1, 1, none⟩ = some (.string s) ∧ wq.cell? ⟨N + 1, 2, none⟩ = some (.int .i64 (-1)) ∧ wq.cell? ⟨N + 1, 3, none⟩ = some (.int .i64 (-1)) ∧ wq.cell? ⟨N + 1, 4, none⟩ = some (.int .i64 (-1)) ∧ wq.cell? ⟨N + 1, 5, none⟩ = some (.int .i64 (-1)) ∧ wq.cell? ⟨N + 1, 6, none⟩ = some (.bool false)) := Lib.hid (fun wq g => ⟨lay_cell g HBw21.out rfl, lay_cell g HBw21.out rfl, lay_cell g HBw21.out rfl, lay_cell g HBw21.out rfl, lay_cell g HBw21.out rfl, lay_cell g HBw21.out rfl, lay_cell g HBw21.out rfl⟩)
      have FXw2 : Hid (∀ wq, Flow.Grow w2 wq → (∀ k, wq.frozen? ⟨N, k, none⟩ = false) ∧ (∀ k, wq.frozen? ⟨N + 1, k, none⟩ = false)) := Lib.hid (fun wq g => ⟨fun k => lay_frozen g HBw20.out k, fun k => lay_frozen g HBw21.out k⟩)
      obtain ⟨k10, k11, k12, k13, k14, k15, k16⟩ := CXw2.out w2 (Flow.grow_refl _)
      have fN : ∀ k, w2.frozen? ⟨N + 1, k, none⟩ = false := fun k => frozen_of_row w2 (N + 1) k _ _ HBw21.out
      have HR2 := Lib.hid (HR.out.keep HGw2.out)
      have HNn : Hid (wr.heap.size ≤ N + 1 ∧ W.heap.size ≤ B) := Lib.hid ⟨by have := HXw2.out; omega, by have := HXw1.out; omega⟩
      obtain ⟨oa, oc, rfl⟩ := own_form HR.out.no
      have hnl2 : ns.length ≤ 8 := by omega
      have Hnl := Lib.hid hnl
      clear hnl
      by_cases hj0 : j = 0
      · have d1 : decide (0 < (j : Int)) = false := by simp; omega
        have d2 : ((j : Int) == 0) = true := by simp; omega
        obtain ⟨w3, hw3⟩ : ∃ w3, w3 = w2.setCell ⟨N + 1, 0, none⟩ (.int .i64 1) := ⟨_, rfl⟩
        have HN3 : Hid (w3.heap[N + 1]? = some (.cells #[.int .i64 1, .string s, .int .i64 (-1), .int .i64 (-1), .int .i64 (-1), .int .i64 (-1), .bool false] 62 (0, 0))) := Lib.hid (by rw [hw3]; exact (set_cells HBw21.out 0 _).trans rfl)
        have HR3 : Hid (RA W w3 B vp vm (.slice oa ns.length oc) (.slice none 0 0) ns []) := Lib.hid (by rw [hw3]; exact HR.out.set HR2.out HNn.out.1 _ _)
        go_upto_region 12 with fail
        rw [← hw3]
        clear hw3 k10 k11 k12 k13 k14 k15 k16 fN
        have z0' := (cell_of_row w3 (N + 1) 0 _ _ _ HN3.out).trans rfl
        simp at z0'
        go_upto_region 22 with fail
        clear z0'
        have HRb := Lib.hid (HR3.out.row)
        have b2 := (cell_of_row w3 B 2 _ _ _ HR3.out.row).trans rfl
        have z0 := (cell_of_row w3 (N + 1) 0 _ _ _ HN3.out).trans rfl
        have z1 := (cell_of_row w3 (N + 1) 1 _ _ _ HN3.out).trans rfl
        have z2 := (cell_of_row w3 (N + 1) 2 _ _ _ HN3.out).trans rfl
        have z3 := (cell_of_row w3 (N + 1) 3 _ _ _ HN3.out).trans rfl
        have z4 := (cell_of_row w3 (N + 1) 4 _ _ _ HN3.out).trans rfl
        have z5 := (cell_of_row w3 (N + 1) 5 _ _ _ HN3.out).trans rfl
        have z6 := (cell_of_row w3 (N + 1) 6 _ _ _ HN3.out).trans rfl
        simp at b2 z0 z1 z2 z3 z4 z5 z6
        go_wp2_with (at_builtin; go_loud (refine wpList_app1 (W := W) rfl _ _ 25 rfl 62 i0 (.agg #[.int .i64 0, .string ⟨#[]⟩, .int .i64 0, .int .i64 0, .int .i64 0, .int .i64 0, .bool false]) 7 64 Try.underlying25 HI.out.1 HI.out.2.1 HI.out.2.2.1 HI.out.2.2.2 rfl (by decide) _ ns.length (ns.flatMap Gr.Nd.cells) rfl (own_keep HR3.out.no (Flow.grow_alloc _ _)) (HR3.out.grow.trans (Flow.grow_alloc _ _)) _ (Gr.Nd.cells ⟨1, s, -1, -1, -1, -1, false⟩).toArray 62 rfl (heap_alloc_new _ _) rfl (by intro u hu; simp [Gr.Nd.cells] at hu; rcases hu with rfl | rfl | rfl | rfl | rfl | rfl | rfl <;> rfl) (by omega) (by decide) ?_; intro v' w' hO hG hf hby; have HR4 := Lib.hid ((HR3.out.keep (Flow.grow_alloc _ _)).node (v' := v') ⟨1, s, -1, -1, -1, -1, false⟩ hO hG hby HNn.out.2); obtain ⟨g', c', rfl, _⟩ := hf; have y2 : ∃ u, w'.cell? ⟨B, 2, none⟩ = some u := ⟨_, (cell_of_row w' B 2 _ _ _ (own_otherR (own_keep HR3.out.no (Flow.grow_alloc _ _)) (heap_keep (Flow.grow_alloc _ _) HRb.out) (by decide) hby)).trans rfl⟩; obtain ⟨uu, y2⟩ := y2; have yf : w'.frozen? ⟨B, 2, none⟩ = false := frozen_of_row w' B 2 _ _ (own_otherR (own_keep HR3.out.no (Flow.grow_alloc _ _)) (heap_keep (Flow.grow_alloc _ _) HRb.out) (by decide) hby); clear hO hG hby))
        go_roundw
        case rel => exact ⟨j + 1, _, ns ++ [⟨1, s, -1, -1, -1, -1, false⟩], by omega, by go_num, by rw [List.length_append, Hnl.out]; rfl, HR4⟩
        case measure => simp [intOf]; omega
      · have d1 : decide (0 < (j : Int)) = true := by simp; omega
        have d2 : ((j : Int) == 0) = false := by simp; omega
        by_cases hk1 : X % 6 + 1 = 1
        · have d3 : (X % 6 + 1 == 1) = true := by simp; omega
          obtain ⟨w3, hw3⟩ : ∃ w3, w3 = w2.setCell ⟨N + 1, 0, none⟩ (.int .i64 4) := ⟨_, rfl⟩
          have HN3 : Hid (w3.heap[N + 1]? = some (.cells #[.int .i64 4, .string s, .int .i64 (-1), .int .i64 (-1), .int .i64 (-1), .int .i64 (-1), .bool false] 62 (0, 0))) := Lib.hid (by rw [hw3]; exact (set_cells HBw21.out 0 _).trans rfl)
          have HR3 : Hid (RA W w3 B vp vm (.slice oa ns.length oc) (.slice none 0 0) ns []) := Lib.hid (by rw [hw3]; exact HR.out.set HR2.out HNn.out.1 _ _)
          clear hk1
          go_upto_region 10 with fail
          rw [← hw3]
          clear hw3 k10 k11 k12 k13 k14 k15 k16 fN
          have z0' := (cell_of_row w3 (N + 1) 0 _ _ _ HN3.out).trans rfl
          simp at z0'
          go_upto_region 22 with fail
          clear z0'
          have HRb := Lib.hid (HR3.out.row)
          have b2 := (cell_of_row w3 B 2 _ _ _ HR3.out.row).trans rfl
          have z0 := (cell_of_row w3 (N + 1) 0 _ _ _ HN3.out).trans rfl
          have z1 := (cell_of_row w3 (N + 1) 1 _ _ _ HN3.out).trans rfl
          have z2 := (cell_of_row w3 (N + 1) 2 _ _ _ HN3.out).trans rfl
          have z3 := (cell_of_row w3 (N + 1) 3 _ _ _ HN3.out).trans rfl
          have z4 := (cell_of_row w3 (N + 1) 4 _ _ _ HN3.out).trans rfl
          have z5 := (cell_of_row w3 (N + 1) 5 _ _ _ HN3.out).trans rfl
          have z6 := (cell_of_row w3 (N + 1) 6 _ _ _ HN3.out).trans rfl
          simp at b2 z0 z1 z2 z3 z4 z5 z6
          go_wp2_with (at_builtin; go_loud (refine wpList_app1 (W := W) rfl _ _ 25 rfl 62 i0 (.agg #[.int .i64 0, .string ⟨#[]⟩, .int .i64 0, .int .i64 0, .int .i64 0, .int .i64 0, .bool false]) 7 64 Try.underlying25 HI.out.1 HI.out.2.1 HI.out.2.2.1 HI.out.2.2.2 rfl (by decide) _ ns.length (ns.flatMap Gr.Nd.cells) rfl (own_keep HR3.out.no (Flow.grow_alloc _ _)) (HR3.out.grow.trans (Flow.grow_alloc _ _)) _ (Gr.Nd.cells ⟨4, s, -1, -1, -1, -1, false⟩).toArray 62 rfl (heap_alloc_new _ _) rfl (by intro u hu; simp [Gr.Nd.cells] at hu; rcases hu with rfl | rfl | rfl | rfl | rfl | rfl | rfl <;> rfl) (by omega) (by decide) ?_; intro v' w' hO hG hf hby; have HR4 := Lib.hid ((HR3.out.keep (Flow.grow_alloc _ _)).node (v' := v') ⟨4, s, -1, -1, -1, -1, false⟩ hO hG hby HNn.out.2); obtain ⟨g', c', rfl, _⟩ := hf; have y2 : ∃ u, w'.cell? ⟨B, 2, none⟩ = some u := ⟨_, (cell_of_row w' B 2 _ _ _ (own_otherR (own_keep HR3.out.no (Flow.grow_alloc _ _)) (heap_keep (Flow.grow_alloc _ _) HRb.out) (by decide) hby)).trans rfl⟩; obtain ⟨uu, y2⟩ := y2; have yf : w'.frozen? ⟨B, 2, none⟩ = false := frozen_of_row w' B 2 _ _ (own_otherR (own_keep HR3.out.no (Flow.grow_alloc _ _)) (heap_keep (Flow.grow_alloc _ _) HRb.out) (by decide) hby); clear hO hG hby))
          go_roundw
          case rel => exact ⟨j + 1, _, ns ++ [⟨4, s, -1, -1, -1, -1, false⟩], by omega, by go_num, by rw [List.length_append, Hnl.out]; rfl, HR4⟩
          case measure => simp [intOf]; omega
        · have d3 : (X % 6 + 1 == 1) = false := by simp; omega
          by_cases hk3 : X % 6 + 1 = 3
          · rw [hk3] at k10 HBw21
            have m8 := Bits.i64_mask (X / 8) 4 (by omega) 15 (by decide)
            have m128 := Bits.i64_mask (X / 128) 1 (by omega) 1 (by decide)
            have m256 := Bits.i64_mask (X / 256) 1 (by omega) 1 (by decide)
            have m1024 := Bits.i64_mask (X / 1024) 2 (by omega) 3 (by decide)
            have m4096 := Bits.i64_mask (X / 4096) 1 (by omega) 1 (by decide)
            have m8192 := Bits.i64_mask (X / 8192) 1 (by omega) 1 (by decide)
            have b8 : 0 ≤ X / 8 % 2 ^ 4 ∧ X / 8 % 2 ^ 4 < 16 := by omega
            have b128 : 0 ≤ X / 128 % 2 ^ 1 ∧ X / 128 % 2 ^ 1 < 2 := by omega
            generalize X / 8 % 2 ^ 4 = x8 at m8 b8
            generalize X / 128 % 2 ^ 1 = x128 at m128 b128
            generalize X / 256 % 2 ^ 1 = x256 at m256
            generalize X / 1024 % 2 ^ 2 = x1024 at m1024
            generalize X / 4096 % 2 ^ 1 = x4096 at m4096
            generalize X / 8192 % 2 ^ 1 = x8192 at m8192
            obtain ⟨b80, b81⟩ := b8
            obtain ⟨b1280, b1281⟩ := b128
            go_upto_region 14 with fail
            clear k10 k11 k12 k13 k14 k15 k16 fN
            obtain ⟨wa, hwa⟩ : ∃ w, w = w2.setCell ⟨N + 1, 2, none⟩ (.int .i64 (x8 % 3)) := ⟨_, rfl⟩
            have HNwa : Hid (wa.heap[N + 1]? = some (.cells #[.int .i64 3, .string s, .int .i64 (x8 % 3), .int .i64 (-1), .int .i64 (-1), .int .i64 (-1), .bool false] 62 (0, 0))) := Lib.hid (by rw [hwa]; exact (set_cells HBw21.out 2 _).trans rfl)
            have HRwa : Hid (RA W wa B vp vm (.slice oa ns.length oc) (.slice none 0 0) ns []) := Lib.hid (by rw [hwa]; exact HR.out.set HR2.out HNn.out.1 _ _)
            rw [← hwa]
            clear hwa
            have p0 : 0 ≤ x8 % 3 := by omega
            have p1 : x8 % 3 < 3 := by omega
            generalize x8 % 3 = p at *
            have k10 : wa.cell? ⟨N + 1, 0, none⟩ = some (.int .i64 3) := (cell_of_row wa (N + 1) 0 _ _ _ HNwa.out).trans rfl
            have k11 : wa.cell? ⟨N + 1, 1, none⟩ = some (.string s) := (cell_of_row wa (N + 1) 1 _ _ _ HNwa.out).trans rfl
            have k12 : wa.cell? ⟨N + 1, 2, none⟩ = some (.int .i64 p) := (cell_of_row wa (N + 1) 2 _ _ _ HNwa.out).trans rfl
            have k13 : wa.cell? ⟨N + 1, 3, none⟩ = some (.int .i64 (-1)) := (cell_of_row wa (N + 1) 3 _ _ _ HNwa.out).trans rfl
            have k14 : wa.cell? ⟨N + 1, 4, none⟩ = some (.int .i64 (-1)) := (cell_of_row wa (N + 1) 4 _ _ _ HNwa.out).trans rfl
            have k15 : wa.cell? ⟨N + 1, 5, none⟩ = some (.int .i64 (-1)) := (cell_of_row wa (N + 1) 5 _ _ _ HNwa.out).trans rfl
            have k16 : wa.cell? ⟨N + 1, 6, none⟩ = some (.bool false) := (cell_of_row wa (N + 1) 6 _ _ _ HNwa.out).trans rfl
            have fN : ∀ k, wa.frozen? ⟨N + 1, k, none⟩ = false := fun k => frozen_of_row wa (N + 1) k _ _ HNwa.out
            go_upto_region 15 with fail
            clear k10 k11 k12 k13 k14 k15 k16 fN
            obtain ⟨wb, hwb⟩ : ∃ w, w = wa.setCell ⟨N + 1, 3, none⟩ (.int .i64 ((p + 1 + x128) % 3)) := ⟨_, rfl⟩
            have HNwb : Hid (wb.heap[N + 1]? = some (.cells #[.int .i64 3, .string s, .int .i64 p, .int .i64 ((p + 1 + x128) % 3), .int .i64 (-1), .int .i64 (-1), .bool false] 62 (0, 0))) := Lib.hid (by rw [hwb]; exact (set_cells HNwa.out 3 _).trans rfl)
            have HRwb : Hid (RA W wb B vp vm (.slice oa ns.length oc) (.slice none 0 0) ns []) := Lib.hid (by rw [hwb]; exact HR.out.set HRwa.out HNn.out.1 _ _)
            rw [← hwb]
            clear hwb
            generalize (p + 1 + x128) % 3 = q at *
            have k10 : wb.cell? ⟨N + 1, 0, none⟩ = some (.int .i64 3) := (cell_of_row wb (N + 1) 0 _ _ _ HNwb.out).trans rfl
            have k11 : wb.cell? ⟨N + 1, 1, none⟩ = some (.string s) := (cell_of_row wb (N + 1) 1 _ _ _ HNwb.out).trans rfl
            have k12 : wb.cell? ⟨N + 1, 2, none⟩ = some (.int .i64 p) := (cell_of_row wb (N + 1) 2 _ _ _ HNwb.out).trans rfl
            have k13 : wb.cell? ⟨N + 1, 3, none⟩ = some (.int .i64 q) := (cell_of_row wb (N + 1) 3 _ _ _ HNwb.out).trans rfl
            have k14 : wb.cell? ⟨N + 1, 4, none⟩ = some (.int .i64 (-1)) := (cell_of_row wb (N + 1) 4 _ _ _ HNwb.out).trans rfl
            have k15 : wb.cell? ⟨N + 1, 5, none⟩ = some (.int .i64 (-1)) := (cell_of_row wb (N + 1) 5 _ _ _ HNwb.out).trans rfl
            have k16 : wb.cell? ⟨N + 1, 6, none⟩ = some (.bool false) := (cell_of_row wb (N + 1) 6 _ _ _ HNwb.out).trans rfl
            have fN : ∀ k, wb.frozen? ⟨N + 1, k, none⟩ = false := fun k => frozen_of_row wb (N + 1) k _ _ HNwb.out
            obtain ⟨wc, hwc⟩ : ∃ w, w = wb.setCell ⟨N + 1, 4, none⟩ (.int .i64 x256) := ⟨_, rfl⟩
            have HNwc : Hid (wc.heap[N + 1]? = some (.cells #[.int .i64 3, .string s, .int .i64 p, .int .i64 q, .int .i64 x256, .int .i64 (-1), .bool false] 62 (0, 0))) := Lib.hid (by rw [hwc]; exact (set_cells HNwb.out 4 _).trans rfl)
            have HRwc : Hid (RA W wc B vp vm (.slice oa ns.length oc) (.slice none 0 0) ns []) := Lib.hid (by rw [hwc]; exact HR.out.set HRwb.out HNn.out.1 _ _)
            have l10 : wc.cell? ⟨N + 1, 0, none⟩ = some (.int .i64 3) := (cell_of_row wc (N + 1) 0 _ _ _ HNwc.out).trans rfl
            have l11 : wc.cell? ⟨N + 1, 1, none⟩ = some (.string s) := (cell_of_row wc (N + 1) 1 _ _ _ HNwc.out).trans rfl
            have l12 : wc.cell? ⟨N + 1, 2, none⟩ = some (.int .i64 p) := (cell_of_row wc (N + 1) 2 _ _ _ HNwc.out).trans rfl
            have l13 : wc.cell? ⟨N + 1, 3, none⟩ = some (.int .i64 q) := (cell_of_row wc (N + 1) 3 _ _ _ HNwc.out).trans rfl
            have l14 : wc.cell? ⟨N + 1, 4, none⟩ = some (.int .i64 x256) := (cell_of_row wc (N + 1) 4 _ _ _ HNwc.out).trans rfl
            have l15 : wc.cell? ⟨N + 1, 5, none⟩ = some (.int .i64 (-1)) := (cell_of_row wc (N + 1) 5 _ _ _ HNwc.out).trans rfl
            have l16 : wc.cell? ⟨N + 1, 6, none⟩ = some (.bool false) := (cell_of_row wc (N + 1) 6 _ _ _ HNwc.out).trans rfl
            have fM : ∀ k, wc.frozen? ⟨N + 1, k, none⟩ = false := fun k => frozen_of_row wc (N + 1) k _ _ HNwc.out
            obtain ⟨lo, hlo⟩ : ∃ lo : Bool, lo = (x1024 == 0) := ⟨_, rfl⟩
            obtain ⟨wd, hwd⟩ : ∃ w, w = wc.setCell ⟨N + 1, 6, none⟩ (.bool lo) := ⟨_, rfl⟩
            have HNwd : Hid (wd.heap[N + 1]? = some (.cells #[.int .i64 3, .string s, .int .i64 p, .int .i64 q, .int .i64 x256, .int .i64 (-1), .bool lo] 62 (0, 0))) := Lib.hid (by rw [hwd]; exact (set_cells HNwc.out 6 _).trans rfl)
            have HRwd : Hid (RA W wd B vp vm (.slice oa ns.length oc) (.slice none 0 0) ns []) := Lib.hid (by rw [hwd]; exact HR.out.set HRwc.out HNn.out.1 _ _)
            have Hhd : Hid (wb.setCell ⟨N + 1, 4, none⟩ (.int .i64 x256) = wc ∧ wc.setCell ⟨N + 1, 6, none⟩ (.bool lo) = wd) := Lib.hid ⟨hwc.symm, hwd.symm⟩
            have Hlo : Hid ((x1024 == 0) = lo) := Lib.hid hlo.symm
            clear hwc hwd hlo
            go_upto_region 16 with fail
            try rw [Hlo.out]
            rw [Hhd.out.1, Hhd.out.2]
            clear k10 k11 k12 k13 k14 k15 k16 fN
            clear l10 l11 l12 l13 l14 l15 l16 fM
            have k10 : wd.cell? ⟨N + 1, 0, none⟩ = some (.int .i64 3) := (cell_of_row wd (N + 1) 0 _ _ _ HNwd.out).trans rfl
            have k11 : wd.cell? ⟨N + 1, 1, none⟩ = some (.string s) := (cell_of_row wd (N + 1) 1 _ _ _ HNwd.out).trans rfl
            have k12 : wd.cell? ⟨N + 1, 2, none⟩ = some (.int .i64 p) := (cell_of_row wd (N + 1) 2 _ _ _ HNwd.out).trans rfl
            have k13 : wd.cell? ⟨N + 1, 3, none⟩ = some (.int .i64 q) := (cell_of_row wd (N + 1) 3 _ _ _ HNwd.out).trans rfl
            have k14 : wd.cell? ⟨N + 1, 4, none⟩ = some (.int .i64 x256) := (cell_of_row wd (N + 1) 4 _ _ _ HNwd.out).trans rfl
            have k15 : wd.cell? ⟨N + 1, 5, none⟩ = some (.int .i64 (-1)) := (cell_of_row wd (N + 1) 5 _ _ _ HNwd.out).trans rfl
            have k16 : wd.cell? ⟨N + 1, 6, none⟩ = some (.bool lo) := (cell_of_row wd (N + 1) 6 _ _ _ HNwd.out).trans rfl
            have fN : ∀ k, wd.frozen? ⟨N + 1, k, none⟩ = false := fun k => frozen_of_row wd (N + 1) k _ _ HNwd.out
            by_cases h4 : x4096 = 1
            · have d5 : (x4096 == 1) = true := by simp [h4]
              clear h4
              obtain ⟨w3, hw3⟩ : ∃ w, w = wd.setCell ⟨N + 1, 5, none⟩ (.int .i64 x8192) := ⟨_, rfl⟩
              have HNw3 : Hid (w3.heap[N + 1]? = some (.cells #[.int .i64 3, .string s, .int .i64 p, .int .i64 q, .int .i64 x256, .int .i64 x8192, .bool lo] 62 (0, 0))) := Lib.hid (by rw [hw3]; exact (set_cells HNwd.out 5 _).trans rfl)
              have HRw3 : Hid (RA W w3 B vp vm (.slice oa ns.length oc) (.slice none 0 0) ns []) := Lib.hid (by rw [hw3]; exact HR.out.set HRwd.out HNn.out.1 _ _)
              have HN3 := HNw3
              have HR3 := HRw3
              go_upto_region 22 with fail
              rw [← hw3]
              clear hw3 k10 k11 k12 k13 k14 k15 k16 fN
              have HRb := Lib.hid (HR3.out.row)
              have b2 := (cell_of_row w3 B 2 _ _ _ HR3.out.row).trans rfl
              have z0 := (cell_of_row w3 (N + 1) 0 _ _ _ HN3.out).trans rfl
              have z1 := (cell_of_row w3 (N + 1) 1 _ _ _ HN3.out).trans rfl
              have z2 := (cell_of_row w3 (N + 1) 2 _ _ _ HN3.out).trans rfl
              have z3 := (cell_of_row w3 (N + 1) 3 _ _ _ HN3.out).trans rfl
              have z4 := (cell_of_row w3 (N + 1) 4 _ _ _ HN3.out).trans rfl
              have z5 := (cell_of_row w3 (N + 1) 5 _ _ _ HN3.out).trans rfl
              have z6 := (cell_of_row w3 (N + 1) 6 _ _ _ HN3.out).trans rfl
              simp at b2 z0 z1 z2 z3 z4 z5 z6
              go_wp2_with (at_builtin; go_loud (refine wpList_app1 (W := W) rfl _ _ 25 rfl 62 i0 (.agg #[.int .i64 0, .string ⟨#[]⟩, .int .i64 0, .int .i64 0, .int .i64 0, .int .i64 0, .bool false]) 7 64 Try.underlying25 HI.out.1 HI.out.2.1 HI.out.2.2.1 HI.out.2.2.2 rfl (by decide) _ ns.length (ns.flatMap Gr.Nd.cells) rfl (own_keep HR3.out.no (Flow.grow_alloc _ _)) (HR3.out.grow.trans (Flow.grow_alloc _ _)) _ (Gr.Nd.cells ⟨3, s, p, q, x256, x8192, lo⟩).toArray 62 rfl (heap_alloc_new _ _) rfl (by intro u hu; simp [Gr.Nd.cells] at hu; rcases hu with rfl | rfl | rfl | rfl | rfl | rfl | rfl <;> rfl) (by omega) (by decide) ?_; intro v' w' hO hG hf hby; have HR4 := Lib.hid ((HR3.out.keep (Flow.grow_alloc _ _)).node (v' := v') ⟨3, s, p, q, x256, x8192, lo⟩ hO hG hby HNn.out.2); obtain ⟨g', c', rfl, _⟩ := hf; have y2 : ∃ u, w'.cell? ⟨B, 2, none⟩ = some u := ⟨_, (cell_of_row w' B 2 _ _ _ (own_otherR (own_keep HR3.out.no (Flow.grow_alloc _ _)) (heap_keep (Flow.grow_alloc _ _) HRb.out) (by decide) hby)).trans rfl⟩; obtain ⟨uu, y2⟩ := y2; have yf : w'.frozen? ⟨B, 2, none⟩ = false := frozen_of_row w' B 2 _ _ (own_otherR (own_keep HR3.out.no (Flow.grow_alloc _ _)) (heap_keep (Flow.grow_alloc _ _) HRb.out) (by decide) hby); clear hO hG hby))
              go_roundw
              case rel => exact ⟨j + 1, _, ns ++ [⟨3, s, p, q, x256, x8192, lo⟩], by omega, by go_num, by rw [List.length_append, Hnl.out]; rfl, HR4⟩
              case measure => simp [intOf]; omega
            · have d5 : (x4096 == 1) = false := by simp [h4]
              clear h4
              have HN3 := HNwd
              have HR3 := HRwd
              go_upto_region 22 with fail
              clear k10 k11 k12 k13 k14 k15 k16 fN
              generalize wd = w3 at *
              have HRb := Lib.hid (HR3.out.row)
              have b2 := (cell_of_row w3 B 2 _ _ _ HR3.out.row).trans rfl
              have z0 := (cell_of_row w3 (N + 1) 0 _ _ _ HN3.out).trans rfl
              have z1 := (cell_of_row w3 (N + 1) 1 _ _ _ HN3.out).trans rfl
              have z2 := (cell_of_row w3 (N + 1) 2 _ _ _ HN3.out).trans rfl
              have z3 := (cell_of_row w3 (N + 1) 3 _ _ _ HN3.out).trans rfl
              have z4 := (cell_of_row w3 (N + 1) 4 _ _ _ HN3.out).trans rfl
              have z5 := (cell_of_row w3 (N + 1) 5 _ _ _ HN3.out).trans rfl
              have z6 := (cell_of_row w3 (N + 1) 6 _ _ _ HN3.out).trans rfl
              simp at b2 z0 z1 z2 z3 z4 z5 z6
              go_wp2_with (at_builtin; go_loud (refine wpList_app1 (W := W) rfl _ _ 25 rfl 62 i0 (.agg #[.int .i64 0, .string ⟨#[]⟩, .int .i64 0, .int .i64 0, .int .i64 0, .int .i64 0, .bool false]) 7 64 Try.underlying25 HI.out.1 HI.out.2.1 HI.out.2.2.1 HI.out.2.2.2 rfl (by decide) _ ns.length (ns.flatMap Gr.Nd.cells) rfl (own_keep HR3.out.no (Flow.grow_alloc _ _)) (HR3.out.grow.trans (Flow.grow_alloc _ _)) _ (Gr.Nd.cells ⟨3, s, p, q, x256, -1, lo⟩).toArray 62 rfl (heap_alloc_new _ _) rfl (by intro u hu; simp [Gr.Nd.cells] at hu; rcases hu with rfl | rfl | rfl | rfl | rfl | rfl | rfl <;> rfl) (by omega) (by decide) ?_; intro v' w' hO hG hf hby; have HR4 := Lib.hid ((HR3.out.keep (Flow.grow_alloc _ _)).node (v' := v') ⟨3, s, p, q, x256, -1, lo⟩ hO hG hby HNn.out.2); obtain ⟨g', c', rfl, _⟩ := hf; have y2 : ∃ u, w'.cell? ⟨B, 2, none⟩ = some u := ⟨_, (cell_of_row w' B 2 _ _ _ (own_otherR (own_keep HR3.out.no (Flow.grow_alloc _ _)) (heap_keep (Flow.grow_alloc _ _) HRb.out) (by decide) hby)).trans rfl⟩; obtain ⟨uu, y2⟩ := y2; have yf : w'.frozen? ⟨B, 2, none⟩ = false := frozen_of_row w' B 2 _ _ (own_otherR (own_keep HR3.out.no (Flow.grow_alloc _ _)) (heap_keep (Flow.grow_alloc _ _) HRb.out) (by decide) hby); clear hO hG hby))
              go_roundw
              case rel => exact ⟨j + 1, _, ns ++ [⟨3, s, p, q, x256, -1, lo⟩], by omega, by go_num, by rw [List.length_append, Hnl.out]; rfl, HR4⟩
              case measure => simp [intOf]; omega
          · have d4 : (X % 6 + 1 == 3) = false := by simp; omega
            obtain ⟨w3, hw3⟩ : ∃ w3, w3 = w2 := ⟨_, rfl⟩
            have HN3 : Hid (w3.heap[N + 1]? = some (.cells #[.int .i64 (X % 6 + 1), .string s, .int .i64 (-1), .int .i64 (-1), .int .i64 (-1), .int .i64 (-1), .bool false] 62 (0, 0))) := Lib.hid (by rw [hw3]; exact HBw21.out)
            have HR3 : Hid (RA W w3 B vp vm (.slice oa ns.length oc) (.slice none 0 0) ns []) := Lib.hid (by rw [hw3]; exact HR2.out)
            go_upto_region 22 with fail
            rw [← hw3]
            clear hw3 k10 k11 k12 k13 k14 k15 k16 fN
            have HRb := Lib.hid (HR3.out.row)
            have b2 := (cell_of_row w3 B 2 _ _ _ HR3.out.row).trans rfl
            have z0 := (cell_of_row w3 (N + 1) 0 _ _ _ HN3.out).trans rfl
            have z1 := (cell_of_row w3 (N + 1) 1 _ _ _ HN3.out).trans rfl
            have z2 := (cell_of_row w3 (N + 1) 2 _ _ _ HN3.out).trans rfl
            have z3 := (cell_of_row w3 (N + 1) 3 _ _ _ HN3.out).trans rfl
            have z4 := (cell_of_row w3 (N + 1) 4 _ _ _ HN3.out).trans rfl
            have z5 := (cell_of_row w3 (N + 1) 5 _ _ _ HN3.out).trans rfl
            have z6 := (cell_of_row w3 (N + 1) 6 _ _ _ HN3.out).trans rfl
            simp at b2 z0 z1 z2 z3 z4 z5 z6
            go_wp2_with (at_builtin; go_loud (refine wpList_app1 (W := W) rfl _ _ 25 rfl 62 i0 (.agg #[.int .i64 0, .string ⟨#[]⟩, .int .i64 0, .int .i64 0, .int .i64 0, .int .i64 0, .bool false]) 7 64 Try.underlying25 HI.out.1 HI.out.2.1 HI.out.2.2.1 HI.out.2.2.2 rfl (by decide) _ ns.length (ns.flatMap Gr.Nd.cells) rfl (own_keep HR3.out.no (Flow.grow_alloc _ _)) (HR3.out.grow.trans (Flow.grow_alloc _ _)) _ (Gr.Nd.cells ⟨X % 6 + 1, s, -1, -1, -1, -1, false⟩).toArray 62 rfl (heap_alloc_new _ _) rfl (by intro u hu; simp [Gr.Nd.cells] at hu; rcases hu with rfl | rfl | rfl | rfl | rfl | rfl | rfl <;> rfl) (by omega) (by decide) ?_; intro v' w' hO hG hf hby; have HR4 := Lib.hid ((HR3.out.keep (Flow.grow_alloc _ _)).node (v' := v') ⟨X % 6 + 1, s, -1, -1, -1, -1, false⟩ hO hG hby HNn.out.2); obtain ⟨g', c', rfl, _⟩ := hf; have y2 : ∃ u, w'.cell? ⟨B, 2, none⟩ = some u := ⟨_, (cell_of_row w' B 2 _ _ _ (own_otherR (own_keep HR3.out.no (Flow.grow_alloc _ _)) (heap_keep (Flow.grow_alloc _ _) HRb.out) (by decide) hby)).trans rfl⟩; obtain ⟨uu, y2⟩ := y2; have yf : w'.frozen? ⟨B, 2, none⟩ = false := frozen_of_row w' B 2 _ _ (own_otherR (own_keep HR3.out.no (Flow.grow_alloc _ _)) (heap_keep (Flow.grow_alloc _ _) HRb.out) (by decide) hby); clear hO hG hby))
            go_roundw
            case rel => exact ⟨j + 1, _, ns ++ [⟨X % 6 + 1, s, -1, -1, -1, -1, false⟩], by omega, by go_num, by rw [List.length_append, Hnl.out]; rfl, HR4⟩
            case measure => simp [intOf]; omega
    · obtain rfl : j = n := by omega
      go_wp2_with fail
      have Hnl := Lib.hid hnl
      clear hnl
      obtain ⟨iE, hiE, hzE, hsE, hbE⟩ := info_parts info_edge13
      have HIE := Lib.hid (And.intro hiE (And.intro hzE (And.intro hsE hbE)))
      clear hiE hzE hsE hbE
      go_loopw [11] (fun vi wz => ∃ (k : Nat) (ve : Value) (ed : List Gr.Ed), k ≤ n1 ∧ k ≤ 14 ∧ vi = .int .i64 k ∧ ed.length = k ∧ Hid (RA W wz B vp vm vn ve ns ed)) (fun vi _ => 14 - (intOf vi).toNat)
      case atStart => exact ⟨0, _, [], by omega, by omega, rfl, rfl, HR⟩
      case round =>
        clear HR
        obtain ⟨k, ve, ed, hk, hk14, rfl, hel, HR⟩ := hrel
        rename World => wz
        have HBW : Hid (W.heap.size ≤ B) := Lib.hid (by have := HXw1.out; omega)
        have hbr := HR.out.row
        have e0 := (cell_of_row wz B 0 _ _ _ hbr).trans rfl
        have e1 := (cell_of_row wz B 1 _ _ _ hbr).trans rfl
        have e2 := (cell_of_row wz B 2 _ _ _ hbr).trans rfl
        have e3 := (cell_of_row wz B 3 _ _ _ hbr).trans rfl
        simp at e0 e1 e2 e3
        clear hbr
        by_cases hgo : k < n1 ∧ k < 14 ∧ 0 < j
        · obtain ⟨hk1, hk2, hj0⟩ := hgo
          obtain ⟨xb, xo, rfl, x0, x1⟩ := Seg.two HE.out (j := k) hk1
          generalize es.getD (k * 2) 0 = za at *
          generalize es.getD (k * 2 + 1) 0 = zb at *
          have m1 := Bits.i64_mask za 8 (by omega) 255 (by decide)
          have m2 := Bits.i64_mask zb 8 (by omega) 255 (by decide)
          have c1 : 0 ≤ za % 2 ^ 8 ∧ za % 2 ^ 8 < 256 := by omega
          have c2 : 0 ≤ zb % 2 ^ 8 ∧ zb % 2 ^ 8 < 256 := by omega
          generalize za % 2 ^ 8 = ya at m1 c1
          generalize zb % 2 ^ 8 = yb at m2 c2
          obtain ⟨c10, c11⟩ := c1
          obtain ⟨c20, c21⟩ := c2
          have d1 : decide ((k : Int) < (n1 : Int)) = true := by simp; omega
          have d2 : decide ((k : Int) < 14) = true := by simp; omega
          have d3 : decide (0 < (j : Int)) = true := by simp; omega
          obtain ⟨ea, ec, rfl⟩ := own_form HR.out.eo
          have HeL := Lib.hid hel
          have hel14 : ed.length ≤ 14 := by omega
          clear hel
          go_upto_region 26 with fail
          clear e0 e1 e2 e3
          refine Flow.region_tail3 (R := Flow.Grow) (C := fun wq => Flow.Grow wz wq) (Fs := [.inl ((.pointer (some ⟨B, 3, none⟩))), .inl ((.slice ea ed.length ec)), .inl ((.slice (some ⟨xb, xo, none⟩) n1 c1)), .inl ((.int .i64 (k : Int))), .inl ((.pointer (some ⟨xb, xo + k * 2, none⟩))), .inl ((.pointer (some ⟨xb, xo + k * 2, none⟩))), .inl ((.int .i64 za)), .inl ((.int .i64 ya)), .inl ((.int .i64 (j : Int))), .inr (fun v _ => ∃ x, v = .int .i64 x), .inl ((.slice (some ⟨xb, xo, none⟩) n1 c1)), .inl ((.int .i64 (k : Int))), .inl ((.pointer (some ⟨xb, xo + k * 2, none⟩))), .inl ((.pointer (some ⟨xb, xo + k * 2 + 1, none⟩))), .inl ((.int .i64 zb)), .inl ((.int .i64 yb)), .inl ((.int .i64 (j : Int))), .inr (fun v _ => ∃ x, v = .int .i64 x), .inr (fun v _ => ∃ x y, v = .agg #[.int .i64 x, .int .i64 y]), .inr (fun v w => ∃ x y q, v = .slice (some ⟨q, 0, none⟩) 1 1 ∧ w.heap[q]? = some (.cells #[.int .i64 x, .int .i64 y] 66 (0, 0)))]) (T := fun v w' => ∃ x y g' c', v = .slice (some ⟨g', 0, none⟩) (ed.length + 1) c' ∧ Hid (RA W (w'.setCell ⟨B, 3, none⟩ v) B vp vm vn v ns (ed ++ [(x, y)])) ∧ Hid (∃ cs, w'.heap[B]? = some (.cells cs 28 (0, 0)) ∧ cs.size = 4)) (c := .pointer (some ⟨B, 3, none⟩))
            (S := [[], [0], [], [], [2, 3], [2, 3, 4], [2, 3, 4, 5], [2, 3, 4, 5, 6], [], [2, 3, 4, 5, 6, 7, 8], [], [], [10, 11], [10, 11, 12], [10, 11, 12, 13], [10, 11, 12, 13, 14], [], [10, 11, 12, 13, 14, 15, 16], [2, 3, 4, 5, 6, 7, 8, 9, 10, 11, 12, 13, 14, 15, 16, 17], [2, 3, 4, 5, 6, 7, 8, 9, 10, 11, 12, 13, 14, 15, 16, 17, 18], [0, 1, 2, 3, 4, 5, 6, 7, 8, 9, 10, 11, 12, 13, 14, 15, 16, 17, 18, 19]]) 20 (by kernel_rfl) rfl rfl rfl (by kernel_rfl) (by kernel_rfl) rfl ?stab26 Flow.grow_refl (fun _ _ h k => h.trans k) (Flow.grow_drew _) ?ones26 ?app26 ?place26 ?ends26
          case ones26 =>
            refine Flow.Ones.cons ?_ ?_
            · intro a w hC hoff _
              have e6 : a.eval (.tmp 6) = (.pointer (some ⟨B, 0, none⟩)) := hoff.at 6 (by kernel_rfl)
              refine .inl ⟨Flow.want_none rfl, ?_⟩
              refine Flow.run_same ?_ Flow.grow_refl
              have ec := Flow.eval_const a
              generalize a.eval = ρ at e6 ec ⊢
              simp [execOp, e6, go_sem]
            refine Flow.Ones.cons ?_ ?_
            · rintro a w hC hoff ⟨k0, -⟩
              have e123 : a.eval (.tmp 123) = (.pointer (some ⟨B, 3, none⟩)) := k0 123 rfl
              refine .inl ⟨Flow.want_none rfl, ?_⟩
              refine Flow.run_same ?_ Flow.grow_refl
              have ec := Flow.eval_const a
              generalize a.eval = ρ at e123 ec ⊢
              have h0 := (cell_of_row w B 3 _ _ _ (HR.out.keep hC).row).trans rfl
              simp at h0
              simp [execOp, e123, h0, go_sem]
            refine Flow.Ones.cons ?_ ?_
            · intro a w hC hoff _
              have e1 : a.eval (.tmp 1) = (.slice (some ⟨xb, xo, none⟩) n1 c1) := hoff.at 1 (by kernel_rfl)
              refine .inl ⟨Flow.want_none rfl, ?_⟩
              exact Flow.run_same (Flow.exec_move (.inl rfl) e1) Flow.grow_refl
            refine Flow.Ones.cons ?_ ?_
            · intro a w hC hoff _
              have e11 : a.eval (.tmp 11) = (.int .i64 (k : Int)) := hoff.at 11 (by kernel_rfl)
              refine .inl ⟨Flow.want_none rfl, ?_⟩
              exact Flow.run_same (Flow.exec_move (.inl rfl) e11) Flow.grow_refl
            refine Flow.Ones.cons ?_ ?_
            · rintro a w hC hoff ⟨k2, k3, -⟩
              have e125 : a.eval (.tmp 125) = (.slice (some ⟨xb, xo, none⟩) n1 c1) := k2 125 rfl
              have e126 : a.eval (.tmp 126) = (.int .i64 (k : Int)) := k3 126 rfl
              refine .inl ⟨Flow.want_none rfl, ?_⟩
              refine Flow.run_same ?_ Flow.grow_refl
              have ec := Flow.eval_const a
              generalize a.eval = ρ at e125 e126 ec ⊢
              simp [execOp, e125, e126, go_sem]; intro hh; omega
            refine Flow.Ones.cons ?_ ?_
            · rintro a w hC hoff ⟨_, _, k4, -⟩
              have e127 : a.eval (.tmp 127) = (.pointer (some ⟨xb, xo + k * 2, none⟩)) := k4 127 rfl
              refine .inl ⟨Flow.want_none rfl, ?_⟩
              refine Flow.run_same ?_ Flow.grow_refl
              have ec := Flow.eval_const a
              generalize a.eval = ρ at e127 ec ⊢
              simp [execOp, e127, ec, go_sem]
            refine Flow.Ones.cons ?_ ?_
            · rintro a w hC hoff ⟨_, _, _, k5, -⟩
              have e128 : a.eval (.tmp 128) = (.pointer (some ⟨xb, xo + k * 2, none⟩)) := k5 128 rfl
              refine .inl ⟨Flow.want_none rfl, ?_⟩
              refine Flow.run_same ?_ Flow.grow_refl
              have ec := Flow.eval_const a
              generalize a.eval = ρ at e128 ec ⊢
              have h0 := Xm2.cell_grow (HR.out.grow.trans hC) x0
              simp [execOp, e128, h0, go_sem]
            refine Flow.Ones.cons ?_ ?_
            · rintro a w hC hoff ⟨_, _, _, _, k6, -⟩
              have e129 : a.eval (.tmp 129) = (.int .i64 za) := k6 129 rfl
              refine .inl ⟨Flow.want_none rfl, ?_⟩
              refine Flow.run_same ?_ Flow.grow_refl
              have ec := Flow.eval_const a
              generalize a.eval = ρ at e129 ec ⊢
              simp [execOp, e129, ec, m1, go_sem]
            refine Flow.Ones.cons ?_ ?_
            · intro a w hC hoff _
              have e7 : a.eval (.tmp 7) = (.int .i64 (j : Int)) := hoff.at 7 (by kernel_rfl)
              refine .inl ⟨Flow.want_none rfl, ?_⟩
              exact Flow.run_same (Flow.exec_move (.inl rfl) e7) Flow.grow_refl
            refine Flow.Ones.cons ?_ ?_
            · rintro a w hC hoff ⟨_, _, _, _, _, k7, k8, -⟩
              have e130 : a.eval (.tmp 130) = (.int .i64 ya) := k7 130 rfl
              have e131 : a.eval (.tmp 131) = (.int .i64 (j : Int)) := k8 131 rfl
              refine .inl ⟨Flow.want_none rfl, ?_⟩
              refine Flow.run_val (v := .int .i64 (ya.tmod j)) (w' := w) ?_ (Flow.grow_refl _) ⟨_, rfl⟩
              generalize a.eval = ρ at e130 e131 ⊢
              simp [execOp, e130, e131, go_sem]; omega
            refine Flow.Ones.cons ?_ ?_
            · intro a w hC hoff _
              have e1 : a.eval (.tmp 1) = (.slice (some ⟨xb, xo, none⟩) n1 c1) := hoff.at 1 (by kernel_rfl)
              refine .inl ⟨Flow.want_none rfl, ?_⟩
              exact Flow.run_same (Flow.exec_move (.inl rfl) e1) Flow.grow_refl
            refine Flow.Ones.cons ?_ ?_
            · intro a w hC hoff _
              have e11 : a.eval (.tmp 11) = (.int .i64 (k : Int)) := hoff.at 11 (by kernel_rfl)
              refine .inl ⟨Flow.want_none rfl, ?_⟩
              exact Flow.run_same (Flow.exec_move (.inl rfl) e11) Flow.grow_refl
            refine Flow.Ones.cons ?_ ?_
            · rintro a w hC hoff ⟨k10, k11, -⟩
              have e133 : a.eval (.tmp 133) = (.slice (some ⟨xb, xo, none⟩) n1 c1) := k10 133 rfl
              have e134 : a.eval (.tmp 134) = (.int .i64 (k : Int)) := k11 134 rfl
              refine .inl ⟨Flow.want_none rfl, ?_⟩
              refine Flow.run_same ?_ Flow.grow_refl
              have ec := Flow.eval_const a
              generalize a.eval = ρ at e133 e134 ec ⊢
              simp [execOp, e133, e134, go_sem]; intro hh; omega
            refine Flow.Ones.cons ?_ ?_
            · rintro a w hC hoff ⟨_, _, k12, -⟩
              have e135 : a.eval (.tmp 135) = (.pointer (some ⟨xb, xo + k * 2, none⟩)) := k12 135 rfl
              refine .inl ⟨Flow.want_none rfl, ?_⟩
              refine Flow.run_same ?_ Flow.grow_refl
              have ec := Flow.eval_const a
              generalize a.eval = ρ at e135 ec ⊢
              simp [execOp, e135, ec, go_sem]
            refine Flow.Ones.cons ?_ ?_
            · rintro a w hC hoff ⟨_, _, _, k13, -⟩
              have e136 : a.eval (.tmp 136) = (.pointer (some ⟨xb, xo + k * 2 + 1, none⟩)) := k13 136 rfl
              refine .inl ⟨Flow.want_none rfl, ?_⟩
              refine Flow.run_same ?_ Flow.grow_refl
              have ec := Flow.eval_const a
              generalize a.eval = ρ at e136 ec ⊢
              have h0 := Xm2.cell_grow (HR.out.grow.trans hC) x1
              simp [execOp, e136, h0, go_sem]
            refine Flow.Ones.cons ?_ ?_
            · rintro a w hC hoff ⟨_, _, _, _, k14, -⟩
              have e137 : a.eval (.tmp 137) = (.int .i64 zb) := k14 137 rfl
              refine .inl ⟨Flow.want_none rfl, ?_⟩
              refine Flow.run_same ?_ Flow.grow_refl
              have ec := Flow.eval_const a
              generalize a.eval = ρ at e137 ec ⊢
              simp [execOp, e137, ec, m2, go_sem]
            refine Flow.Ones.cons ?_ ?_
            · intro a w hC hoff _
              have e7 : a.eval (.tmp 7) = (.int .i64 (j : Int)) := hoff.at 7 (by kernel_rfl)
              refine .inl ⟨Flow.want_none rfl, ?_⟩
              exact Flow.run_same (Flow.exec_move (.inl rfl) e7) Flow.grow_refl
            refine Flow.Ones.cons ?_ ?_
            · rintro a w hC hoff ⟨_, _, _, _, _, k15, k16, -⟩
              have e138 : a.eval (.tmp 138) = (.int .i64 yb) := k15 138 rfl
              have e139 : a.eval (.tmp 139) = (.int .i64 (j : Int)) := k16 139 rfl
              refine .inl ⟨Flow.want_none rfl, ?_⟩
              refine Flow.run_val (v := .int .i64 (yb.tmod j)) (w' := w) ?_ (Flow.grow_refl _) ⟨_, rfl⟩
              generalize a.eval = ρ at e138 e139 ⊢
              simp [execOp, e138, e139, go_sem]; omega
            refine Flow.Ones.cons ?_ ?_
            · rintro a w hC hoff ⟨_, _, _, _, _, _, _, k9, _, _, _, _, _, _, _, k17, -⟩
              have e132 : (fun v _ => ∃ x, v = .int .i64 x) (a.eval (.tmp 132)) w := k9 132 rfl
              have e140 : (fun v _ => ∃ x, v = .int .i64 x) (a.eval (.tmp 140)) w := k17 140 rfl
              refine .inl ⟨Flow.want_none rfl, ?_⟩
              obtain ⟨x, hx⟩ := e132
              obtain ⟨y, hy⟩ := e140
              refine Flow.run_val (v := .agg #[.int .i64 x, .int .i64 y]) (w' := w) ?_ (Flow.grow_refl _) ⟨x, y, rfl⟩
              generalize a.eval = ρ at hx hy ⊢
              simp [execOp, hx, hy, go_sem]
            refine Flow.Ones.cons ?_ ?_
            · rintro a w hC hoff ⟨_, _, _, _, _, _, _, _, _, _, _, _, _, _, _, _, k18, -⟩
              have e141 : (fun v _ => ∃ x y, v = .agg #[.int .i64 x, .int .i64 y]) (a.eval (.tmp 141)) w := k18 141 rfl
              refine .inl ⟨Flow.want_none rfl, ?_⟩
              obtain ⟨x, y, hx⟩ := e141
              refine Flow.run_val (v := .slice (some ⟨w.heap.size, 0, none⟩) 1 1) (w' := w.alloc (.cells #[.int .i64 x, .int .i64 y] 66)) ?_ (Flow.grow_alloc _ _) ⟨x, y, _, rfl, heap_alloc_new _ _⟩
              generalize a.eval = ρ at hx ⊢
              simp [execOp, hx, go_sem]
            exact trivial
          case place26 =>
            intro a w hoff
            have e6 : a.eval (.tmp 6) = (.pointer (some ⟨B, 0, none⟩)) := hoff.at 6 (by kernel_rfl)
            generalize a.eval = ρ at e6 ⊢
            simp [execOp, e6, go_sem]
          case app26 =>
            intro a w hC hoff hk
            have e124 : a.eval (.tmp 124) = (.slice ea ed.length ec) := hk 1 (by decide) 124 rfl
            have e142 : (fun v w => ∃ x y q, v = .slice (some ⟨q, 0, none⟩) 1 1 ∧ w.heap[q]? = some (.cells #[.int .i64 x, .int .i64 y] 66 (0, 0))) (a.eval (.tmp 142)) w := hk 19 (by decide) 142 rfl
            obtain ⟨x, y, q, hq, hrow⟩ := e142
            have hr := HR.out.keep hC
            have Q := HIE.out
            refine exec_append_T (P := Try.prog) (.tmp 124) (.tmp 142) 26 rfl 66 iE (.agg #[.int .i64 0, .int .i64 0]) 2 16 Try.underlying26 Q.1 Q.2.1 Q.2.2.1 Q.2.2.2 rfl (by decide) (.slice ea ed.length ec) ed.length (ed.flatMap Gr.ecells) e124 (ownsRow_zero hr.eo) ⟨q, 0, none⟩ 1 1 [.int .i64 x, .int .i64 y] hq rfl
              (by
                intro i u hi
                rw [Addr.add_lit, Nat.zero_add]
                exact cells_of hrow i u hi)
              (by intro u hu; simp at hu; rcases hu with rfl | rfl <;> rfl) (by unfold maxLen; omega) (by omega) (fun v' w' h2 h3 h4 => ?_)
            have h5 : w'.ownsRow W.heap.size 66 2 v' (ed.length + 1) (ed.flatMap Gr.ecells ++ Gr.ecells (x, y)) := ownsRow_base h2 (fun g hg => by
              rcases h4 with h4 | ⟨g', h4, h6⟩
              · rw [h4] at hg; exact (hr.eo.lt g hg).1
              · rw [h4] at hg; injection hg with hg; have := hr.grow.size; omega)
            have hG := grow_row hr.grow h3 (own_lo hr.eo)
            obtain ⟨gp, cp, hv'⟩ : ∃ g c, v' = .slice (some ⟨g, 0, none⟩) (ed.length + 1) c := by
              rcases h2.2 with ⟨h, h0⟩ | ⟨g, cap, cur, h, _⟩
              · omega
              · exact ⟨g, cap, h⟩
            exact ⟨x, y, gp, cp, hv', Lib.hid (hr.edge (x, y) h5 hG h3 HBW.out), Lib.hid ⟨_, own_otherR hr.eo hr.row (by decide) h3, rfl⟩⟩
          case stab26 => exact ⟨fun v w w' hR h => h, fun v w w' hR h => h, fun v w w' hR h => h, fun v w w' hR ⟨x, y, q, h1, h2⟩ => ⟨x, y, q, h1, (hR.block q (Array.getElem?_eq_some_iff.1 h2).1 (by simp)).trans h2⟩, trivial⟩
          case ends26 =>
            intro wy
            simp only [List.take_succ_cons, List.take_zero, List.replicate, List.cons_append, List.nil_append, Flow.ends]
            simp only [Act.put, List.setIfInBounds_toArray, List.set_cons_succ, List.set_cons_zero]
            iterate 20 (intro _ _)
            intro v143 h143
            obtain ⟨x, y, gp, cp, rfl, hT, hTb⟩ := h143
            obtain ⟨cs, hcb, hcs⟩ := hTb.out
            have y2 : ∃ u, wy.cell? ⟨B, 3, none⟩ = some u := ⟨_, (cell_of_row wy B 3 _ _ _ hcb).trans (Array.getElem?_eq_getElem (by omega))⟩
            obtain ⟨uu, y2⟩ := y2
            have yf := frozen_of_row wy B 3 _ _ hcb
            unfold Oper.wp
            simp [execOp, y2, yf, go_sem]
            clear hcb hcs y2 yf hTb HR x0 x1 m1 m2
            go_wp2_with fail
            go_roundw
            case rel => exact ⟨k + 1, _, ed ++ [(x, y)], by omega, by omega, by go_num, by rw [List.length_append, HeL.out]; rfl, hT⟩
            case measure => simp [intOf]; omega
        · have HeL := Lib.hid hel
          have hel14 : ed.length ≤ 14 := by omega
          have hnl8 : ns.length ≤ 8 := by have := Hnl.out; omega
          have Hle := Lib.hid (And.intro hnl8 hel14)
          clear hel hel14 hnl8
          obtain ⟨pa, pc, rfl⟩ := HVp.out
          obtain ⟨ma, mc, rfl⟩ := HVm.out
          obtain ⟨na, nc, rfl⟩ := own_form HR.out.no
          obtain ⟨ea, ec, rfl⟩ := own_form HR.out.eo
          have f4 : ∀ k, wz.frozen? ⟨B, k, none⟩ = false := fun k => frozen_of_row wz B k _ _ HR.out.row
          have HR5 := Lib.hid (HR.out.same HBW.out)
          have hnot := hgo
          clear hgo
          by_cases g1 : k < n1
          · by_cases g2 : k < 14
            · have g3 : ¬ 0 < j := fun h => hnot ⟨g1, g2, h⟩
              have d1 : decide ((k : Int) < (n1 : Int)) = true := by simp; omega
              have d2 : decide ((k : Int) < 14) = true := by simp; omega
              have d3 : decide (0 < (j : Int)) = false := by simp; omega
              have d3' : decide (0 < j) = false := by simp; omega
              have d1' : decide (k < n1) = true := by simp; omega
              have d2' : decide (k < 14) = true := by simp; omega
              clear g3 hnot
              go_wp2_with fail
              refine bodyPost_ret (results_cell_row rfl _ _ B _ _ _ _ rfl HR5.out.row Try.underlying28 rfl (by kernel_rfl)) rfl ⟨_, _, _, _, ⟨ns, ed, 3, 2⟩, rfl, HR5.out.gat, rfl, rfl, Hle.out.1, Hle.out.2, HR5.out.grow⟩
            · have d1 : decide ((k : Int) < (n1 : Int)) = true := by simp; omega
              have d2 : decide ((k : Int) < 14) = false := by simp; omega
              have d2' : decide (k < 14) = false := by simp; omega
              have d1' : decide (k < n1) = true := by simp; omega
              clear hnot
              go_wp2_with fail
              refine bodyPost_ret (results_cell_row rfl _ _ B _ _ _ _ rfl HR5.out.row Try.underlying28 rfl (by kernel_rfl)) rfl ⟨_, _, _, _, ⟨ns, ed, 3, 2⟩, rfl, HR5.out.gat, rfl, rfl, Hle.out.1, Hle.out.2, HR5.out.grow⟩
          · have d1 : decide ((k : Int) < (n1 : Int)) = false := by simp; omega
            have d1' : decide (k < n1) = false := by simp; omega
            clear hnot
            go_wp2_with fail
            refine bodyPost_ret (results_cell_row rfl _ _ B _ _ _ _ rfl HR5.out.row Try.underlying28 rfl (by kernel_rfl)) rfl ⟨_, _, _, _, ⟨ns, ed, 3, 2⟩, rfl, HR5.out.gat, rfl, rfl, Hle.out.1, Hle.out.2, HR5.out.grow⟩
end Go.Proofs.Ytcnmaplopbbmaaa

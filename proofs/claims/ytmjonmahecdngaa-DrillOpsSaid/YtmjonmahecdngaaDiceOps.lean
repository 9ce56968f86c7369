/- drill.Dice.Ops by its contract. -/
import Derived.Test.YtmjonmahecdngaaDice
import Derived.Test.YtmjonmahecdngaaFlowTail
import Derived.Great.BuildSlice
import Derived.Laws.CopyRow
import Derived.Deep.DeepCutAuto
namespace Go.Proofs.Ytmjonmahecdngaa
open Go.RowKit

theorem info_op : (Try.prog.info? 28).map (fun i => (i.zero, i.size, i.bytes)) = some (some (.agg #[.int .i64 0, .int .i64 0, .int .i64 0, .int .i64 0]), 4, 32) := by kernel_rfl
theorem info_int' : (Try.prog.info? 3).map (fun i => (i.zero, i.size, i.bytes)) = some (some (.int .i64 0), 1, 8) := by kernel_rfl
theorem cell_new (w : World) (cs : Array Value) (e : TypeId) (j : Nat) : (w.alloc (.cells cs e)).cell? ⟨w.heap.size, j, none⟩ = cs[j]? := by
  unfold World.cell?
  rw [heap_alloc_new]
  rfl
theorem heap_setRow_ne (w : World) (b i : Nat) (cs : Array Value) (h : b ≠ i) : (w.setRow b cs).heap[i]? = w.heap[i]? := by
  simp [World.setRow, Array.getElem?_modify, h]
theorem Dice.rel_setRow {g b : Nat} {w w1 : World} (h : Dice.Rel g w w1) (hb : w.heap.size ≤ b) (hg : b ≠ g) (cs : Array Value) : Dice.Rel g w (w1.setRow b cs) := by
  refine ⟨⟨h.1.os, h.1.tape, h.1.output, by rw [size_setRow]; exact h.1.size, fun i hi hne => ?_⟩, fun h0 => ?_⟩
  · rw [heap_setRow_ne _ _ _ _ (by omega)]; exact h.1.block i hi hne
  · obtain ⟨x, t, hx, h1, h2⟩ := h.2 h0
    exact ⟨x, t, by rw [heap_setRow_ne _ _ _ _ hg]; exact hx, h1, h2⟩
theorem Dice.rel_setCell {g b : Nat} {w w1 : World} (h : Dice.Rel g w w1) (hb : w.heap.size ≤ b) (hg : b ≠ g) (j : Nat) (v : Value) : Dice.Rel g w (w1.setCell ⟨b, j, none⟩ v) := by
  have hne : ∀ i, b ≠ i → (w1.setCell ⟨b, j, none⟩ v).heap[i]? = w1.heap[i]? := fun i hi => by simp [World.setCell, Array.getElem?_modify, hi]
  refine ⟨⟨h.1.os, h.1.tape, h.1.output, by simpa [World.setCell] using h.1.size, fun i hi hn => ?_⟩, fun h0 => ?_⟩
  · rw [hne _ (by omega)]; exact h.1.block i hi hn
  · obtain ⟨x, t, hx, h1, h2⟩ := h.2 h0
    exact ⟨x, t, by rw [hne _ hg]; exact hx, h1, h2⟩
namespace DOps
/-- what is drawn is as it should be -/
structure Ok (parts : Int) (x : Int × Int × Int × Int) : Prop where
  k1 : 1 ≤ x.1
  k5 : x.1 ≤ 5
  p0 : 0 ≤ x.2.1
  pn : x.2.1 < parts
  a0 : 0 ≤ x.2.2.1
  c0 : 0 ≤ x.2.2.2
def cells (x : Int × Int × Int × Int) : List Value := [.int .i64 x.1, .int .i64 x.2.1, .int .i64 x.2.2.1, .int .i64 x.2.2.2]
def flat (l : List (Int × Int × Int × Int)) : List Value := l.flatMap cells
theorem flat_snoc (l : List (Int × Int × Int × Int)) (x : Int × Int × Int × Int) : flat (l ++ [x]) = flat l ++ cells x := by simp [flat]
/-- the cells of one that was drawn -/
def Box (b : Nat) (x : Int × Int × Int × Int) (w : World) : Prop := w.heap[b]? = some (.cells #[.int .i64 x.1, .int .i64 x.2.1, .int .i64 x.2.2.1, .int .i64 x.2.2.2] 28 (0, 0))
theorem box_set {b : Nat} {k p a c : Int} {w : World} (h : Box b (k, p, a, c) w) (c' : Int) : Box b (k, p, a, c') (w.setCell ⟨b, 3, none⟩ (.int .i64 c')) := by
  unfold Box at h ⊢
  obtain ⟨hlt, hk⟩ := Array.getElem?_eq_some_iff.1 h
  show (w.heap.modify b _)[b]? = _
  rw [Array.getElem?_eq_getElem (by rw [Array.size_modify]; exact hlt), Array.getElem_modify_self, hk]
  rfl
def count (many : Int) : Nat := min (max many 0).toNat 500
end DOps
theorem four_new {w : World} {x : Int × Int × Int × Int} {e : TypeId} : ∀ ad, some (⟨w.heap.size, 0, none⟩ : Addr) = some ad → ∀ j u, (DOps.cells x)[j]? = some u → (w.alloc (.cells #[.int .i64 x.1, .int .i64 x.2.1, .int .i64 x.2.2.1, .int .i64 x.2.2.2] e)).cell? (ad.add j) = some u := by
  intro ad had j u hj
  cases had
  rw [Addr.add_lit, Nat.zero_add, cell_new]
  simpa [DOps.cells] using hj
theorem dice_step {g : Nat} {w wr w1 : World} {b v' : Value} {o : Obj} {n : Nat} (h : Dice.Rel g w wr) (hb : b = .slice none 0 0 ∨ Fresh w b) (hg : g < w.heap.size) (k : (wr.alloc o).grownBy w1 b.ownBlock) (mv : Moved (wr.alloc o) b v')
    (hF : Full b n → (wr.alloc o).grownBy w1 none ∧ Fresh (wr.alloc o) v') : Dice.Rel g w w1 ∧ (v' = .slice none 0 0 ∨ Fresh w v') := by
  have ha : Dice.Rel g w (wr.alloc o) := Dice.rel_trans h (Dice.rel_grow (Flow.grow_alloc _ _))
  rcases hb with hb | hb
  · obtain ⟨h1, gg, h2, h3⟩ := hF (.inl hb)
    exact ⟨Dice.rel_trans ha (Dice.rel_grow h1), .inr ⟨gg, h2, Nat.le_trans ha.1.size h3⟩⟩
  · obtain ⟨gg, hgg, hs⟩ := hb
    rw [hgg] at k
    refine ⟨⟨⟨k.os.trans ha.1.os, k.tape.trans ha.1.tape, k.output.trans ha.1.output, Nat.le_trans ha.1.size k.size, fun i hi hne => ?_⟩, fun h0 => ?_⟩, .inr ?_⟩
    · rw [k.block i (Nat.lt_of_lt_of_le hi ha.1.size) (by simp; omega)]; exact ha.1.block i hi hne
    · obtain ⟨x, t, hx, h1, h2⟩ := ha.2 h0
      exact ⟨x, t, by rw [k.block g (Nat.lt_of_lt_of_le hg ha.1.size) (by simp; omega)]; exact hx, h1, h2⟩
    · rcases mv with e | ⟨g2, h2, h3⟩
      · exact ⟨gg, e.trans hgg, hs⟩
      · exact ⟨g2, h2, Nat.le_trans ha.1.size h3⟩
def OpsPost (g : Nat) (parts many : Int) (w : World) (e : Ending) (w' : World) : Prop :=
  ∃ v l, e = .returned v ∧ l.length = DOps.count many ∧ (∀ x ∈ l, DOps.Ok parts x) ∧ w'.ownsRow 0 28 4 v l.length (DOps.flat l) ∧ (v = .slice none 0 0 ∨ Fresh w v) ∧ Dice.Rel g w w'

set_option maxRecDepth 100000 in
set_option maxHeartbeats 4000000 in
theorem ops_any (g : Nat) (parts many : Int) (hp1 : 1 ≤ parts) (hp2 : parts ≤ 8) (w : World) (h0 : Dice.At g w) :
    Calls Try.prog 8 #[.pointer (some ⟨g, 0, none⟩), .int .i64 parts, .int .i64 many] w (OpsPost g parts many w) := by
  obtain ⟨i0, hi, hz0, hz1, hz2⟩ := info_parts info_op
  obtain ⟨j0, hj, hjz0, hjz1, hjz2⟩ := info_parts info_int'
  obtain ⟨N, hN⟩ : ∃ N, N = DOps.count many := ⟨_, rfl⟩
  have hN1 : (many < 0 ∧ N = 0) ∨ (0 ≤ many ∧ many ≤ 500 ∧ (N : Int) = many) ∨ (500 < many ∧ N = 500) := by
    rw [hN]; unfold DOps.count; omega
  have HN := Lib.hid hN
  have H0 := Lib.hid h0
  have HB : Hid (∀ n w, 1 ≤ n → n ≤ 100000 → Dice.At g w → Calls Try.prog 23 #[.pointer (some ⟨g, 0, none⟩), .int .i64 n] w fun e w' => ∃ r : Int, e = .returned (.int .i64 r) ∧ 0 ≤ r ∧ r < n ∧ Dice.Rel g w w') :=
    Lib.hid fun n w h1 h2 h3 => below_any g n h1 h2 w h3
  clear hN h0
  go_enter Try.func8, Try.ntmps8
  rcases hN1 with ⟨q1, q2⟩ | ⟨q1, q2, q3⟩ | ⟨q1, q2⟩
  all_goals
    go_wp2_with fail
    go_loopw [7, 12] (fun b i wr => ∃ l : List (Int × Int × Int × Int), l.length ≤ N ∧ i = .int .i64 l.length ∧ Hid (∀ x ∈ l, DOps.Ok parts x) ∧ wr.ownsRow 0 28 4 b l.length (DOps.flat l) ∧ Hid (Dice.Rel g w wr ∧ Dice.At g wr ∧ (b = .slice none 0 0 ∨ Fresh w b))) (fun _ i _ => N - (intOf i).toNat)
    case atStart => exact ⟨[], by simp, rfl, Lib.hid (by simp), World.ownsRow_nil _ _ _ _, Lib.hid ⟨Dice.rel_refl _ _, H0.out, .inl rfl⟩⟩
    case round =>
      obtain ⟨l, hl, rfl, Hok, hown, HR⟩ := hrel
      obtain ⟨n, hn⟩ : ∃ n, n = l.length := ⟨_, rfl⟩
      rw [← hn] at hl hown ⊢
      have Hn := Lib.hid hn
      clear hn
      by_cases hlt : n < N
      · (try (exfalso; omega))
        all_goals
          go_upto_region 4 with fail
          have Hlt : Hid (∀ gg, u7.ownBlock = some gg → gg < wr.heap.size) := Lib.hid fun gg hg => (hown.lt gg hg).2
          go_cut [8] (fun v wx => ∃ (b : Nat) (x : Int × Int × Int × Int), v = .pointer (some ⟨b, 0, none⟩) ∧ Hid (DOps.Ok parts x) ∧ Hid (DOps.Box b x wx ∧ wr.heap.size ≤ b ∧ x.2.2.2 = 0 ∧ Dice.Rel g wr wx))
          case first =>
            have hgw : g < wr.heap.size := by
              obtain ⟨x, t, hx, _⟩ := HR.out.2.1
              exact (Array.getElem?_eq_some_iff.1 hx).1
            have hu38 : Try.prog.underlying 38 = some (.slice 3) := by kernel_rfl
            refine Flow.region_tail2 (R := Dice.Rel g) (C := fun w' => Dice.Rel g wr w' ∧ Dice.At g w')
              (Fs := [.inr (fun v w' => ∃ b, v = .slice (some ⟨b, 0, none⟩) 9 9 ∧ b ≠ g ∧ ∀ j, j < 9 → ∃ k : Int, w'.cell? ⟨b, j, none⟩ = some (.int .i64 k) ∧ 1 ≤ k ∧ k ≤ 5),
                .inl (.pointer (some ⟨g, 0, none⟩)),
                .inr (fun v _ => ∃ r : Nat, v = .int .i64 r ∧ r < 9),
                .inr (fun v w' => ∃ (b j : Nat) (k : Int), v = .pointer (some ⟨b, j, none⟩) ∧ b ≠ g ∧ w'.cell? ⟨b, j, none⟩ = some (.int .i64 k) ∧ 1 ≤ k ∧ k ≤ 5),
                .inr (fun v _ => ∃ k : Int, v = .int .i64 k ∧ 1 ≤ k ∧ k ≤ 5),
                .inl (.pointer (some ⟨g, 0, none⟩)),
                .inl (.int .i64 parts),
                .inr (fun v _ => ∃ r : Int, v = .int .i64 r ∧ 0 ≤ r ∧ r < parts),
                .inl (.pointer (some ⟨g, 0, none⟩)),
                .inr (fun v _ => ∃ r : Int, v = .int .i64 r ∧ 0 ≤ r ∧ r < 4),
                .inr (fun v _ => ∃ x : Int × Int × Int × Int, v = .agg #[.int .i64 x.1, .int .i64 x.2.1, .int .i64 x.2.2.1, .int .i64 x.2.2.2] ∧ DOps.Ok parts x ∧ x.2.2.2 = 0),
                .inr (fun v w' => ∃ b, v = .pointer (some ⟨b, 0, none⟩) ∧ wr.heap.size ≤ b ∧ DOps.Box b (0, 0, 0, 0) w')])
              (S := [[], [], [1], [0, 2, 1], [3, 0, 2, 1], [], [], [5, 6], [], [8], [4, 7, 9, 3, 0, 2, 1, 5, 6, 8], [], [0, 1, 2, 3, 4, 5, 6, 7, 8, 9, 10, 11]])
              12 (by kernel_rfl) (by kernel_rfl) (by kernel_rfl) (by kernel_rfl) rfl ?stab (Dice.rel_refl g) (fun _ _ h k => ⟨Dice.rel_trans h.1 k, k.2 h.2⟩) ⟨Dice.rel_grow (Flow.grow_drew _), (Dice.rel_grow (Flow.grow_drew _)).2 HR.out.2.1⟩ ?ones ?ends
            case stab =>
              refine ⟨fun v w1 w2 hR ⟨b, h1, h2, h3⟩ => ⟨b, h1, h2, fun j hj => ?_⟩, fun v w1 w2 _ h => h, fun v w1 w2 hR ⟨b, j, k, h1, h2, h3, h4⟩ => ⟨b, j, k, h1, h2, Dice.rel_cell hR h2 h3, h4⟩, fun v w1 w2 _ h => h, fun v w1 w2 _ h => h, fun v w1 w2 _ h => h, fun v w1 w2 _ h => h, fun v w1 w2 hR ⟨b, h1, h2, h3⟩ => ⟨b, h1, h2, Dice.rel_heap hR (by omega) h3⟩, trivial⟩
              obtain ⟨k, h4, h5⟩ := h3 j hj
              exact ⟨k, Dice.rel_cell hR h2 h4, h5⟩
            case ones =>
              refine Flow.Ones.cons ?_ ?_
              · intro a w1 hC hoff _
                refine .inl ⟨Flow.want_none rfl, ?_⟩
                refine wp_buildSlice 38 3 9 _ rfl #[.int .i64 1, .int .i64 1, .int .i64 1, .int .i64 1, .int .i64 2, .int .i64 3, .int .i64 4, .int .i64 4, .int .i64 5] j0 (.int .i64 0) (by kernel_rfl) hj hjz0 (by rw [hjz1]; decide) (by rw [hjz1]; decide) (by rw [hjz1]; refine (congrArg (Instr.fill _ _) (parts_eval a _ .i64 [1, 1, 1, 1, 2, 3, 4, 4, 5] (by rfl))).trans ?_; exact Great.fill_flat _ _ (fun v hv => by obtain ⟨n, _, rfl⟩ := List.mem_map.1 hv; rfl) (by simp)) ?_
                refine ⟨_, rfl, Dice.rel_grow (Flow.grow_alloc _ _), w1.heap.size, rfl, ?_, ?_⟩
                · have := hC.1.1.size; omega
                · intro j hj9
                  have : j = 0 ∨ j = 1 ∨ j = 2 ∨ j = 3 ∨ j = 4 ∨ j = 5 ∨ j = 6 ∨ j = 7 ∨ j = 8 := by omega
                  rw [cell_new]
                  refine ⟨([1, 1, 1, 1, 2, 3, 4, 4, 5] : List Int).getD j 1, ?_, ?_, ?_⟩ <;> rcases this with rfl | rfl | rfl | rfl | rfl | rfl | rfl | rfl | rfl <;> simp
              refine Flow.Ones.cons ?_ ?_
              · intro a w1 hC hoff _
                have e0 : a.eval (.tmp 0) = .pointer (some ⟨g, 0, none⟩) := hoff.at 0 (by kernel_rfl)
                exact .inl ⟨Flow.want_none rfl, Flow.run_same (Flow.exec_move (.inl rfl) e0) (Dice.rel_refl g)⟩
              refine Flow.Ones.cons ?_ ?_
              · rintro a w1 hC hoff ⟨k1, -⟩
                have e15 : a.eval (.tmp 15) = .pointer (some ⟨g, 0, none⟩) := k1 15 rfl
                refine .inl ⟨Flow.want_none rfl, ?_⟩
                exact Flow.run_call (Flow.exec_call (args := #[.pointer (some ⟨g, 0, none⟩), .int .i64 9]) rfl Try.func23 (by kernel_rfl) (by kernel_rfl) (by simp only [List.map_toArray, List.map_cons, List.map_nil, e15] <;> rfl))
                  ((HB.out 9 w1 (by omega) (by omega) hC.2).mono fun e w' ⟨r, he, h1, h2, h3⟩ => ⟨_, he, h3, r.toNat, by rw [Int.toNat_of_nonneg h1], by omega⟩)
              refine Flow.Ones.cons ?_ ?_
              · rintro a w1 hC hoff ⟨k0, k2, k1, -⟩
                obtain ⟨b, e14, hb, hcs⟩ := k0 14 rfl
                obtain ⟨r, e16, hr⟩ := k2 16 rfl
                obtain ⟨k, hc, hk⟩ := hcs r hr
                refine .inl ⟨Flow.want_none rfl, ?_⟩
                refine Flow.run_val (v := .pointer (some ⟨b, r, none⟩)) (w' := w1) ?_ (Dice.rel_refl _ _) ⟨b, r, k, rfl, hb, hc, hk⟩
                simp [execOp, e14, e16, Instr.indexAt, asIntOf, run_underlying hu38, sizeOf, typeInfo, hj, hjz1, Addr.add_lit, hr]
              refine Flow.Ones.cons ?_ ?_
              · rintro a w1 hC hoff ⟨k3, -⟩
                obtain ⟨b, j, k, e17, hb, hc, hk⟩ := k3 17 rfl
                refine .inl ⟨Flow.want_none rfl, ?_⟩
                refine Flow.run_val (v := .int .i64 k) (w' := w1) ?_ (Dice.rel_refl _ _) ⟨k, rfl, hk⟩
                generalize a.eval = ρ at e17 ⊢
                simp [execOp, e17, go_sem, hc]
              refine Flow.Ones.cons ?_ ?_
              · intro a w1 hC hoff _
                have e0 : a.eval (.tmp 0) = .pointer (some ⟨g, 0, none⟩) := hoff.at 0 (by kernel_rfl)
                exact .inl ⟨Flow.want_none rfl, Flow.run_same (Flow.exec_move (.inl rfl) e0) (Dice.rel_refl g)⟩
              refine Flow.Ones.cons ?_ ?_
              · intro a w1 hC hoff _
                have e0 : a.eval (.tmp 1) = .int .i64 parts := hoff.at 1 (by kernel_rfl)
                exact .inl ⟨Flow.want_none rfl, Flow.run_same (Flow.exec_move (.inl rfl) e0) (Dice.rel_refl g)⟩
              refine Flow.Ones.cons ?_ ?_
              · rintro a w1 hC hoff ⟨k5, k6, -⟩
                have e19 : a.eval (.tmp 19) = .pointer (some ⟨g, 0, none⟩) := k5 19 rfl
                have e20 : a.eval (.tmp 20) = .int .i64 parts := k6 20 rfl
                refine .inl ⟨Flow.want_none rfl, ?_⟩
                exact Flow.run_call (Flow.exec_call (args := #[.pointer (some ⟨g, 0, none⟩), .int .i64 parts]) rfl Try.func23 (by kernel_rfl) (by kernel_rfl) (by simp only [List.map_toArray, List.map_cons, List.map_nil, e19, e20] <;> rfl))
                  ((HB.out parts w1 (by omega) (by omega) hC.2).mono fun e w' ⟨r, he, h1, h2, h3⟩ => ⟨_, he, h3, r, rfl, h1, h2⟩)
              refine Flow.Ones.cons ?_ ?_
              · intro a w1 hC hoff _
                have e0 : a.eval (.tmp 0) = .pointer (some ⟨g, 0, none⟩) := hoff.at 0 (by kernel_rfl)
                exact .inl ⟨Flow.want_none rfl, Flow.run_same (Flow.exec_move (.inl rfl) e0) (Dice.rel_refl g)⟩
              refine Flow.Ones.cons ?_ ?_
              · rintro a w1 hC hoff ⟨k8, -⟩
                have e22 : a.eval (.tmp 22) = .pointer (some ⟨g, 0, none⟩) := k8 22 rfl
                refine .inl ⟨Flow.want_none rfl, ?_⟩
                exact Flow.run_call (Flow.exec_call (args := #[.pointer (some ⟨g, 0, none⟩), .int .i64 4]) rfl Try.func23 (by kernel_rfl) (by kernel_rfl) (by simp only [List.map_toArray, List.map_cons, List.map_nil, e22] <;> rfl))
                  ((HB.out 4 w1 (by omega) (by omega) hC.2).mono fun e w' ⟨r, he, h1, h2, h3⟩ => ⟨_, he, h3, r, rfl, h1, h2⟩)
              refine Flow.Ones.cons ?_ ?_
              · rintro a w1 hC hoff ⟨k4, k7, k9, -⟩
                obtain ⟨k, e18, hk1, hk2⟩ := k4 18 rfl
                obtain ⟨p, e21, hp1, hp2⟩ := k7 21 rfl
                obtain ⟨c, e23, hc1, hc2⟩ := k9 23 rfl
                refine .inl ⟨Flow.want_none rfl, ?_⟩
                refine Flow.run_val (v := .agg #[.int .i64 k, .int .i64 p, .int .i64 c, .int .i64 0]) (w' := w1) ?_ (Dice.rel_refl _ _) ⟨(k, p, c, 0), rfl, ⟨hk1, hk2, hp1, hp2, hc1, Int.le_refl 0⟩, rfl⟩
                simp only [execOp, Sem.run_bind]
                rw [run_build (P := Try.prog) w1 28 _ #[.int .i64 k, .int .i64 p, .int .i64 c, .int .i64 0] (by simp only [List.map_toArray, List.map_cons, List.map_nil, e18, e21, e23]; kernel_rfl)]
                rfl
              refine Flow.Ones.cons ?_ ?_
              · intro a w1 hC hoff _
                refine .inl ⟨Flow.want_none rfl, ?_⟩
                refine Flow.run_val (v := .pointer (some ⟨w1.heap.size, 0, none⟩)) (w' := w1.alloc (.cells #[.int .i64 0, .int .i64 0, .int .i64 0, .int .i64 0] 28)) ?_ (Dice.rel_grow (Flow.grow_alloc _ _)) ⟨w1.heap.size, rfl, hC.1.1.size, heap_alloc_new _ _⟩
                simp [execOp, Instr.alloc, zeroValue, typeInfo, hi, hz0, newVar, newRow, Value.cells]
              exact trivial
            case ends =>
              intro w1 o ho hC
              have hop : o.op = .store 28 (.tmp 8) (.tmp 24) := by cases ho; rfl
              have hdst : o.dst = none := by cases ho; rfl
              clear ho
              simp only [List.take_succ_cons, List.take_zero, Flow.ends]
              simp only [Act.put, List.setIfInBounds_toArray, List.set_cons_succ, List.set_cons_zero]
              intro v14 _ v16 _ v17 _ v18 _ v21 _ v23 _ v24 h24 v8 h8
              obtain ⟨x, rfl, hx1, hx2⟩ := h24
              obtain ⟨b, rfl, hb, hbx⟩ := h8
              have hst := run_storeCells_at (P := Try.prog) b 0 28 (DOps.cells x) 0 _ w1 hbx (by simp [DOps.cells]) (by intro v hv; simp [DOps.cells] at hv; rcases hv with rfl | rfl | rfl | rfl <;> rfl)
              simp [DOps.cells] at hst
              unfold Oper.wp
              simp only [execOp, hop, Act.eval]
              simp [Instr.storeAt, Instr.sureAddr, storeVar, sizeOf, typeInfo, hi, hz1, Value.cells, hst]
              simp only [Oper.upon, hdst, Act.put]
              go_wp2_with fail
              go_meet
              case rel =>
                refine ⟨b, x, rfl, Lib.hid hx1, Lib.hid ⟨setRow_heap w1 b _ _ _ _ hbx, hb, hx2, ?_⟩⟩
                exact Dice.rel_setRow hC.1 hb (by omega) _
          case rest =>
            obtain ⟨b, ⟨k, p, ac, c⟩, rfl, Hx, HX⟩ := hcut
            have hgw : g < w.heap.size := by
              obtain ⟨y, t, hy, _⟩ := H0.out
              exact (Array.getElem?_eq_some_iff.1 hy).1
            have hbg : b ≠ g := by
              have h1 := HX.out.2.1
              have h2 := HR.out.1.1.size
              omega
            have hu7 : u7.ownBlock ≠ some g := by
              rcases HR.out.2.2 with h | ⟨gg, h, hs⟩
              · rw [h]; simp [Value.ownBlock]
              · rw [h]; simp; omega
            have Hcells : Hid (∀ (c : Int) (w : World), DOps.Box b (k, p, ac, c) w → w.cell? ⟨b, 0, none⟩ = some (.int .i64 k) ∧ w.cell? ⟨b, 1, none⟩ = some (.int .i64 p) ∧ w.cell? ⟨b, 2, none⟩ = some (.int .i64 ac) ∧ w.cell? ⟨b, 3, none⟩ = some (.int .i64 c) ∧ w.frozen? ⟨b, 3, none⟩ = false) :=
              Lib.hid fun c w h => by
                unfold DOps.Box at h
                simp [World.cell?, World.frozen?, h]
            obtain ⟨c0, c1, c2, c3, f3⟩ := Hcells.out c wc HX.out.1
            have hk1 := Hx.out.k1
            have hk5 := Hx.out.k5
            simp only at hk1 hk5
            have HB1 : Hid (DOps.Box b (k, p, ac, c) wc ∧ 0 ≤ c ∧ Dice.Rel g wr wc) := Lib.hid ⟨HX.out.1, Hx.out.c0, HX.out.2.2.2⟩
            have hbw := HX.out.2.1
            go_upto_if 27 with fail
            go_cut [8] from 25 to 41 (fun v wx => v = .pointer (some ⟨b, 0, none⟩) ∧ ∃ c : Int, Hid (DOps.Box b (k, p, ac, c) wx ∧ 0 ≤ c ∧ Dice.Rel g wr wx))
            case first =>
              by_cases h2 : k = 2
              · go_wp2_with fail
                refine (HB.out 100 wc (by omega) (by omega) (HB1.out.2.2.2 HR.out.2.1)).mono ?_
                rintro e w2 ⟨r, rfl, r1, r2, hR2⟩
                have Hb2 : Hid (DOps.Box b (k, p, ac, c) w2) := Lib.hid (Dice.rel_heap hR2 hbg HB1.out.1)
                obtain ⟨d0, d1, d2, d3, g3⟩ := Hcells.out c w2 Hb2.out
                go_wp2_with fail
                go_meet
                case rel => exact ⟨rfl, r, Lib.hid ⟨DOps.box_set Hb2.out r, r1, Dice.rel_setCell (Dice.rel_trans HB1.out.2.2 hR2) hbw hbg _ _⟩⟩
              · go_wp2_with fail
                go_meet
                case rel => exact ⟨rfl, c, HB1⟩
            case rest =>
              obtain ⟨rfl, c', HB2⟩ := hcut
              clear c0 c1 c2 c3 f3 HB1
              obtain ⟨c0, c1, c2, c3, f3⟩ := Hcells.out c' wc HB2.out.1
              go_upto_if 33 with fail
              go_cut [8] from 31 to 41 (fun v wx => v = .pointer (some ⟨b, 0, none⟩) ∧ ∃ c : Int, Hid (DOps.Box b (k, p, ac, c) wx ∧ 0 ≤ c ∧ Dice.Rel g wr wx))
              case first =>
                by_cases h2 : k = 5
                · go_wp2_with fail
                  refine (HB.out 1200 wc (by omega) (by omega) (HB2.out.2.2.2 HR.out.2.1)).mono ?_
                  rintro e w2 ⟨r, rfl, r1, r2, hR2⟩
                  have Hb2 : Hid (DOps.Box b (k, p, ac, c') w2) := Lib.hid (Dice.rel_heap hR2 hbg HB2.out.1)
                  obtain ⟨d0, d1, d2, d3, g3⟩ := Hcells.out c' w2 Hb2.out
                  go_wp2_with fail
                  go_meet
                  case rel => exact ⟨rfl, r, Lib.hid ⟨DOps.box_set Hb2.out r, r1, Dice.rel_setCell (Dice.rel_trans HB2.out.2.2 hR2) hbw hbg _ _⟩⟩
                · go_wp2_with fail
                  go_meet
                  case rel => exact ⟨rfl, c', HB2⟩
              case rest =>
                obtain ⟨rfl, c9, HB3⟩ := hcut
                clear c0 c1 c2 c3 f3 HB2
                obtain ⟨c0, c1, c2, c3, f3⟩ := Hcells.out c9 wc HB3.out.1
                have hown3 := hown.kept HB3.out.2.2.1 (.inr hu7)
                clear hown
                go_wp2_with (at_builtin; refine wpList_append_base _ rfl _ _ _ rfl 28 i0 (.agg #[.int .i64 0, .int .i64 0, .int .i64 0, .int .i64 0]) 4 32 (by kernel_rfl) hi hz0 hz1 hz2 rfl (by decide) _ _ _ rfl (.inl (hown3.alloc _)) ⟨_, 0, none⟩ 1 1 (by decide) (DOps.cells (k, p, ac, c9)) rfl rfl four_new ?c1 ?c2 ?c3 ?_)
                case c1 => intro u hu; simp [DOps.cells] at hu; rcases hu with rfl | rfl | rfl | rfl <;> rfl
                case c2 => unfold maxLen; omega
                case c3 => omega
                intro v' w1 hown2 hg2 hm2 hf2
                have HG' : Hid (_ ∧ _) := Lib.hid (dice_step (Dice.rel_trans HR.out.1 HB3.out.2.2) HR.out.2.2 hgw hg2 hm2 hf2)
                clear hown3 hg2 hm2 hf2
                go_wp2_with fail
                go_roundw
                case rel =>
                  refine ⟨l ++ [(k, p, ac, c9)], ?_, ?_, Lib.hid ?_, ?_, Lib.hid ⟨HG'.out.1, HG'.out.1.2 H0.out, HG'.out.2⟩⟩
                  · simp [← Hn.out]; omega
                  · simp [← Hn.out]
                  · intro y hy
                    rcases List.mem_append.1 hy with h | h
                    · exact Hok.out y h
                    · simp at h
                      subst h
                      exact ⟨Hx.out.k1, Hx.out.k5, Hx.out.p0, Hx.out.pn, Hx.out.a0, HB3.out.2.1⟩
                  · rw [DOps.flat_snoc]
                    simpa [← Hn.out] using hown2
                case measure => simp [intOf]; omega
      · have Hc : Hid (n = N) := Lib.hid (by omega)
        go_wp2_with fail
        go_ret
        refine ⟨_, l, rfl, ?_, Hok.out, ?_, HR.out.2.2, HR.out.1⟩
        · rw [← Hn.out, Hc.out, HN.out]
        · rw [← Hn.out]; exact hown
end Go.Proofs.Ytmjonmahecdngaa

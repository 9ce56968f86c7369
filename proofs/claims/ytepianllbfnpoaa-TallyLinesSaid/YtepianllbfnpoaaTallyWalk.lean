/- TallyLines: the walk. -/
import Derived.Test.YtepianllbfnpoaaLines
import Derived.Test.YtepianllbfnpoaaTris
import Derived.Deep.RegionHeld3
import Derived.Deep.AppendLies
namespace Go.Proofs.Ytepianllbfnpoaa
open Go.RowKit
set_option maxRecDepth 100000 in
set_option maxHeartbeats 1000000 in
theorem lines_bad (vp vm vf vd : Value) (a : Option Addr) (n cap L : Nat) (hn : n ≠ L) (start : Int) (fin : List Bool) (rows : List (List Int)) (W : World) (hd : DfaAt W #[.int .i64 L, .int .i64 start, vf, vd] L start fin rows) (hmay : Det.may L start fin.length rows = true) :
    Calls Try.prog 12 #[.agg #[vp, vm, .slice none 0 0, .slice none 0 0], .slice a n cap, .agg #[.int .i64 L, .int .i64 start, vf, vd]] W fun e w' => e = .returned (.string (str [])) ∧ Flow.Grow W w' := by
  have HD := Lib.hid hd
  have HY := Lib.hid hmay
  have HMAY := Lib.hid (may_any #[.int .i64 L, .int .i64 start, vf, vd] L start fin rows)
  obtain ⟨⟨vf', vd', hv, ⟨fa, fc, hfv, _⟩, hvd⟩, _, _, _⟩ := hd
  injection hv with hv
  simp only [List.cons.injEq, true_and, and_true] at hv
  obtain ⟨rfl, rfl⟩ := hv
  obtain ⟨da, dc, hdv⟩ := hvd.val
  have HFV := Lib.hid hfv
  have HDV := Lib.hid hdv
  have g1 : ((L : Int) != (n : Int)) = true := by simp; omega
  clear hfv hdv hvd hmay
  go_enter Try.func12, Try.ntmps12
  go_upto_region 2 with fail
  obtain ⟨X, hX⟩ : ∃ X, X = W.heap.size := ⟨_, rfl⟩
  have RD : Hid (((((W.alloc (.cells #[vp, vm, .slice none 0 0, .slice none 0 0] 35)).alloc (.cells #[.int .i64 L, .int .i64 start, vf, vd] 27)).alloc (.cells #[.pointer none, .slice none 0 0] 114))).heap[W.heap.size + 1]? = some (.cells #[.int .i64 L, .int .i64 start, vf, vd] 27 (0, 0))) := Lib.hid (by
    rw [Below.heap_alloc _ _ _ (by simp)]
    simpa using heap_alloc_new (W.alloc (.cells #[vp, vm, .slice none 0 0, .slice none 0 0] 35)) (.cells #[.int .i64 L, .int .i64 start, vf, vd] 27))
  have G3 : Hid (Flow.Grow W (((W.alloc (.cells #[vp, vm, .slice none 0 0, .slice none 0 0] 35)).alloc (.cells #[.int .i64 L, .int .i64 start, vf, vd] 27)).alloc (.cells #[.pointer none, .slice none 0 0] 114))) := Lib.hid (((Flow.grow_alloc _ _).trans (Flow.grow_alloc _ _)).trans (Flow.grow_alloc _ _))
  rw [← hX] at RD ⊢
  clear hX
  generalize ((W.alloc (.cells #[vp, vm, .slice none 0 0, .slice none 0 0] 35)).alloc (.cells #[.int .i64 L, .int .i64 start, vf, vd] 27)).alloc (.cells #[.pointer none, .slice none 0 0] 114) = w3 at *
  have c0 : w3.cell? ⟨X + 1, 0, none⟩ = some (.int .i64 L) := (cell_of_row w3 _ 0 _ _ _ RD.out).trans rfl
  have c1 : w3.cell? ⟨X + 1, 1, none⟩ = some (.int .i64 start) := (cell_of_row w3 _ 1 _ _ _ RD.out).trans rfl
  have c2 : w3.cell? ⟨X + 1, 2, none⟩ = some vf := (cell_of_row w3 _ 2 _ _ _ RD.out).trans rfl
  have c3 : w3.cell? ⟨X + 1, 3, none⟩ = some vd := (cell_of_row w3 _ 3 _ _ _ RD.out).trans rfl
  have hMay : Hid (Calls Try.prog 43 #[.agg #[.int .i64 L, .int .i64 start, vf, vd]] w3 fun e w' => e = .returned (.bool true) ∧ Flow.Grow w3 w') := Lib.hid ((HMAY.out w3 (HD.out.grow G3.out)).mono fun e w' ⟨h1, h2⟩ => ⟨by rw [h1, HY.out], by rw [h2]; exact Flow.grow_alloc _ _⟩)
  clear HMAY
  go_wp2_with (go_at_call 43; refine hMay.out.mono ?_; rintro e w4 ⟨rfl, hg4⟩; have d0 := (Xm2.cell_grow hg4 c0))
  go_ret
  exact ⟨rfl, G3.out.trans hg4⟩
set_option maxRecDepth 100000 in
set_option maxHeartbeats 1000000 in
theorem longest_zero (W : World) : Calls Try.prog 13 #[.agg #[.int .i64 0, .int .i64 0, .slice none 0 0, .slice none 0 0]] W fun e w' => e = .returned (.int .i64 (-1)) ∧ Flow.Grow W w' := by
  have hMay : Hid (∀ w, Calls Try.prog 43 #[.agg #[.int .i64 0, .int .i64 0, .slice none 0 0, .slice none 0 0]] w fun e w' => e = .returned (.bool false) ∧ Flow.Grow w w') := Lib.hid (fun w => (may_any #[.int .i64 0, .int .i64 0, .slice none 0 0, .slice none 0 0] 0 0 [] [] w ⟨⟨_, _, rfl, Seg.nil 1 w, [], Seg.nil 1 w, fun i hi => by simp at hi⟩, by simp, by simp, fun l hl => by simp at hl⟩).mono fun e w' ⟨h1, h2⟩ => ⟨h1, by rw [h2]; exact Flow.grow_alloc _ _⟩)
  go_enter Try.func13, Try.ntmps13
  go_wp2_with (go_at_call 43; refine (hMay.out _).mono ?_; rintro e w4 ⟨rfl, hg4⟩)
  go_ret
  exact ⟨rfl, (Flow.grow_alloc _ _).trans hg4⟩
/-- nothing is appended -/
theorem wp_append_none {P : Program} {w : World} {o : Oper} {a : Act} {K : Act → World → Prop} {Q : Exit → Act → World → Prop} (s x : Operand) (t e : TypeId)
    (ho : o.op = .call { callee := .builtin .append, args := #[s, x], argTypes := #[t, t] }) (ht : P.underlying t = some (.slice e)) (sz : Nat) (hsz : (sizeOf e).run P w = .ok sz w)
    (b : Addr) (xa : Option Addr) (cx : Nat) (hs : a.eval s = .slice (some b) 0 0) (hx : a.eval x = .slice xa 0 cx) (h : K (a.put o.dst (.slice (some b) 0 0)) w) : Oper.wp P o a w K Q := by
  have hr : (Builtin.append_ #[t, t] o.type #[.slice (some b) 0 0, .slice xa 0 cx]).run P w = .ok (.slice (some b) 0 0) w := by
    cases xa <;> simp [Builtin.append_, run_underlying ht, Sem.run_bind, hsz, Builtin.lenOf, Builtin.firstCells, loadCells, storeCells, go_sem]
  unfold Oper.wp execOp
  simp only [ho, resolve, invoke, builtin, Sem.run_bind, Sem.run_pure, Result.andThen_ok, List.map_toArray, List.map_cons, List.map_nil, hs, hx, hr]
  exact h
namespace Tal
theorem nexts_few {k L : Nat} {zs : List Int} (hk : 0 < k) (hk8 : k ≤ 8) (hL : L ≤ 4) (fin : List Bool) (hf : fin.length = k) : ∀ i, i = 0 ∨ 0 < L → Few L fin (Ref18.nexts k L zs i)
  | 0, _ => ⟨hL, by simp [Ref18.nexts]; exact hk8, by simp [Ref18.nexts]; exact hf, fun l hl => by
      rw [Ref18.nexts] at hl
      have := List.eq_of_mem_replicate hl
      subst this
      refine ⟨by simp, fun z hz => ?_⟩
      have := List.eq_of_mem_replicate hz
      omega⟩
  | i + 1, h => by
    have hL0 : 0 < L := by omega
    have ih := nexts_few (zs := zs) hk hk8 hL fin hf i (.inr hL0)
    have hlen := Ref18.nexts_len k L zs i
    rw [Ref18.nexts, Ref18.step]
    generalize zs.getD (i * 3) 0 = m0
    generalize zs.getD (i * 3 + 1) 0 = m1
    generalize zs.getD (i * 3 + 2) 0 = m2
    have hA : Ref18.low m0 k < k := Ref18.low_lt hk
    have hC : Ref18.low m1 k < k := Ref18.low_lt hk
    refine ⟨hL, by simp; omega, by simp; omega, fun l hl => ?_⟩
    rcases List.mem_or_eq_of_mem_set hl with hl | hl
    · exact ih.hr l hl
    · subst hl
      obtain ⟨r1, r2⟩ := ih.at (s := Ref18.low m0 k) (by omega)
      refine ⟨by rw [List.length_set]; exact r1, fun z hz => ?_⟩
      rcases List.mem_or_eq_of_mem_set hz with hz | hz
      · obtain ⟨j, hj, rfl⟩ := List.mem_iff_getElem.1 hz
        have := r2 j
        rw [List.getD_eq_getElem?_getD, List.getElem?_eq_getElem hj] at this
        exact this
      · omega
theorem few_may {k L : Nat} {fin : List Bool} {rows : List (List Int)} {S : Nat} (h : Few L fin rows) (hk : rows.length = k) (hk0 : 0 < k) (hS : S < k) (hz : ∀ l ∈ rows, ∀ z ∈ l, z < k) : Det.may L S fin.length rows = true := by
  have h8 := h.hk
  have hf := h.hf
  unfold Det.may
  have hb : rows.any (Det.badRow L rows.length) = false := by
    rw [List.any_eq_false]
    intro l hl
    obtain ⟨h1, h2⟩ := h.hr l hl
    unfold Det.badRow
    have hs : l.any (Det.badStep rows.length) = false := by
      rw [List.any_eq_false]
      intro z hzl
      have := h2 z hzl
      have := hz l hl z hzl
      unfold Det.badStep
      simp
      omega
    rw [hs]
    simp [h1]
  rw [hb, hf, hk]
  simp
  omega
theorem nexts_lt {k L : Nat} {zs : List Int} (hk : 0 < k) : ∀ i, ∀ l ∈ Ref18.nexts k L zs i, ∀ z ∈ l, z < (k : Int)
  | 0, l, hl, z, hz => by
    rw [Ref18.nexts] at hl
    have := List.eq_of_mem_replicate hl
    subst this
    have := List.eq_of_mem_replicate hz
    omega
  | i + 1, l, hl, z, hz => by
    have ih := nexts_lt (L := L) (zs := zs) hk i
    have hlen := Ref18.nexts_len k L zs i
    rw [Ref18.nexts, Ref18.step] at hl
    rcases List.mem_or_eq_of_mem_set hl with hl | hl
    · exact ih l hl z hz
    · subst hl
      rcases List.mem_or_eq_of_mem_set hz with hz | hz
      · have hA : Ref18.low (zs.getD (i * 3) 0) k < k := Ref18.low_lt hk
        have e : (Ref18.nexts k L zs i).getD (Ref18.low (zs.getD (i * 3) 0) k) [] = (Ref18.nexts k L zs i)[Ref18.low (zs.getD (i * 3) 0) k]'(by omega) := by rw [List.getD_eq_getElem?_getD, List.getElem?_eq_getElem (by omega), Option.getD_some]
        rw [e] at hz
        exact ih _ (List.getElem_mem _) z hz
      · have hC : Ref18.low (zs.getD (i * 3 + 1) 0) k < k := Ref18.low_lt hk
        omega
/-- what the law's automaton is -/
theorem any_few (zs : List Int) (fin s0 s1 : Int) (n : Nat) : Few (Ref18.labels s0) (Ref18.finals fin (Ref18.states s1)) (Ref18.nexts (Ref18.states s1) (Ref18.labels s0) zs (Ref18.moves (Ref18.labels s0) n)) ∧
    Det.may (Ref18.labels s0) (Ref18.start s1 (Ref18.states s1)) (Ref18.finals fin (Ref18.states s1)).length (Ref18.nexts (Ref18.states s1) (Ref18.labels s0) zs (Ref18.moves (Ref18.labels s0) n)) = true := by
  have hk : 0 < Ref18.states s1 := by rw [Ref18.states]; omega
  have hk8 : Ref18.states s1 ≤ 8 := by rw [Ref18.states]; omega
  have hL : Ref18.labels s0 ≤ 4 := by rw [Ref18.labels]; omega
  have hf : (Ref18.finals fin (Ref18.states s1)).length = Ref18.states s1 := by simp [Ref18.finals]
  have h := nexts_few (zs := zs) hk hk8 hL _ hf (Ref18.moves (Ref18.labels s0) n) (by unfold Ref18.moves; split <;> omega)
  exact ⟨h, few_may h (Ref18.nexts_len _ _ _ _) hk (Ref18.low_lt hk) (nexts_lt hk _)⟩
end Tal
theorem tal_blocks (w : World) (L S k : Nat) (fa : Option Addr) (fc : Nat) (na : Option Addr) (nc : Nat) :
    Flow.Grow w ((((w.alloc (.cells #[.int .i64 L, .int .i64 S, .slice fa k fc, .slice na k nc] 27)).alloc (.cells #[.string ⟨#[112, 97]⟩, .string ⟨#[112, 98]⟩, .string ⟨#[112, 99]⟩] 9)).alloc (.cells #[.string ⟨#[109]⟩, .string ⟨#[110]⟩] 9)).alloc (.cells #[.slice (some ⟨w.heap.size + 1, 0, none⟩) 3 3, .slice (some ⟨w.heap.size + 1 + 1, 0, none⟩) 2 2, .slice none 0 0, .slice none 0 0] 35)) ∧
    Strs ((((w.alloc (.cells #[.int .i64 L, .int .i64 S, .slice fa k fc, .slice na k nc] 27)).alloc (.cells #[.string ⟨#[112, 97]⟩, .string ⟨#[112, 98]⟩, .string ⟨#[112, 99]⟩] 9)).alloc (.cells #[.string ⟨#[109]⟩, .string ⟨#[110]⟩] 9)).alloc (.cells #[.slice (some ⟨w.heap.size + 1, 0, none⟩) 3 3, .slice (some ⟨w.heap.size + 1 + 1, 0, none⟩) 2 2, .slice none 0 0, .slice none 0 0] 35)) (.slice (some ⟨w.heap.size + 1, 0, none⟩) 3 3) Tal.pas ∧
    Strs ((((w.alloc (.cells #[.int .i64 L, .int .i64 S, .slice fa k fc, .slice na k nc] 27)).alloc (.cells #[.string ⟨#[112, 97]⟩, .string ⟨#[112, 98]⟩, .string ⟨#[112, 99]⟩] 9)).alloc (.cells #[.string ⟨#[109]⟩, .string ⟨#[110]⟩] 9)).alloc (.cells #[.slice (some ⟨w.heap.size + 1, 0, none⟩) 3 3, .slice (some ⟨w.heap.size + 1 + 1, 0, none⟩) 2 2, .slice none 0 0, .slice none 0 0] 35)) (.slice (some ⟨w.heap.size + 1 + 1, 0, none⟩) 2 2) Tal.mss ∧
    ((((w.alloc (.cells #[.int .i64 L, .int .i64 S, .slice fa k fc, .slice na k nc] 27)).alloc (.cells #[.string ⟨#[112, 97]⟩, .string ⟨#[112, 98]⟩, .string ⟨#[112, 99]⟩] 9)).alloc (.cells #[.string ⟨#[109]⟩, .string ⟨#[110]⟩] 9)).alloc (.cells #[.slice (some ⟨w.heap.size + 1, 0, none⟩) 3 3, .slice (some ⟨w.heap.size + 1 + 1, 0, none⟩) 2 2, .slice none 0 0, .slice none 0 0] 35)).heap[w.heap.size]? = some (.cells #[.int .i64 L, .int .i64 S, .slice fa k fc, .slice na k nc] 27 (0, 0)) ∧
    ((((w.alloc (.cells #[.int .i64 L, .int .i64 S, .slice fa k fc, .slice na k nc] 27)).alloc (.cells #[.string ⟨#[112, 97]⟩, .string ⟨#[112, 98]⟩, .string ⟨#[112, 99]⟩] 9)).alloc (.cells #[.string ⟨#[109]⟩, .string ⟨#[110]⟩] 9)).alloc (.cells #[.slice (some ⟨w.heap.size + 1, 0, none⟩) 3 3, .slice (some ⟨w.heap.size + 1 + 1, 0, none⟩) 2 2, .slice none 0 0, .slice none 0 0] 35)).heap[w.heap.size + 1 + 1 + 1]? = some (.cells #[.slice (some ⟨w.heap.size + 1, 0, none⟩) 3 3, .slice (some ⟨w.heap.size + 1 + 1, 0, none⟩) 2 2, .slice none 0 0, .slice none 0 0] 35 (0, 0)) := by
  generalize hA : w.alloc (.cells #[.int .i64 L, .int .i64 S, .slice fa k fc, .slice na k nc] 27) = wa
  have sa : wa.heap.size = w.heap.size + 1 := by rw [← hA]; simp
  have ra : wa.heap[w.heap.size]? = some (.cells #[.int .i64 L, .int .i64 S, .slice fa k fc, .slice na k nc] 27 (0, 0)) := by rw [← hA]; exact heap_alloc_new _ _
  have ga : Flow.Grow w wa := by rw [← hA]; exact Flow.grow_alloc _ _
  generalize hB : wa.alloc (.cells #[.string ⟨#[112, 97]⟩, .string ⟨#[112, 98]⟩, .string ⟨#[112, 99]⟩] 9) = wb
  have sb : wb.heap.size = w.heap.size + 1 + 1 := by rw [← hB]; simp; exact sa
  have rb : wb.heap[w.heap.size + 1]? = some (.cells #[.string ⟨#[112, 97]⟩, .string ⟨#[112, 98]⟩, .string ⟨#[112, 99]⟩] 9 (0, 0)) := by rw [← hB, ← sa]; exact heap_alloc_new _ _
  have gb : Flow.Grow wa wb := by rw [← hB]; exact Flow.grow_alloc _ _
  generalize hC : wb.alloc (.cells #[.string ⟨#[109]⟩, .string ⟨#[110]⟩] 9) = wc
  have sc : wc.heap.size = w.heap.size + 1 + 1 + 1 := by rw [← hC]; simp; exact sb
  have rc : wc.heap[w.heap.size + 1 + 1]? = some (.cells #[.string ⟨#[109]⟩, .string ⟨#[110]⟩] 9 (0, 0)) := by rw [← hC, ← sb]; exact heap_alloc_new _ _
  have gc : Flow.Grow wb wc := by rw [← hC]; exact Flow.grow_alloc _ _
  have gd := Flow.grow_alloc wc (.cells #[.slice (some ⟨w.heap.size + 1, 0, none⟩) 3 3, .slice (some ⟨w.heap.size + 1 + 1, 0, none⟩) 2 2, .slice none 0 0, .slice none 0 0] 35)
  have rd := heap_alloc_new wc (.cells #[.slice (some ⟨w.heap.size + 1, 0, none⟩) 3 3, .slice (some ⟨w.heap.size + 1 + 1, 0, none⟩) 2 2, .slice none 0 0, .slice none 0 0] 35)
  generalize wc.alloc (.cells #[.slice (some ⟨w.heap.size + 1, 0, none⟩) 3 3, .slice (some ⟨w.heap.size + 1 + 1, 0, none⟩) 2 2, .slice none 0 0, .slice none 0 0] 35) = wd at *
  rw [sc] at rd
  have rb' := ((gc.trans gd).block _ (by omega) (by simp)).trans rb
  have rc' := (gd.block _ (by omega) (by simp)).trans rc
  refine ⟨((ga.trans gb).trans gc).trans gd, ?_, ?_, (((gb.trans gc).trans gd).block _ (by omega) (by simp)).trans ra, rd⟩
  · refine ⟨_, 3, rfl, rfl, by simp, fun q hq => ⟨_, _, rfl, (Array.getElem?_eq_some_iff.1 rb').1, ?_⟩⟩
    rw [cell_of_row wd _ _ _ _ _ rb', Nat.zero_add]
    have : q = 0 ∨ q = 1 ∨ q = 2 := by have hq : q < 3 := hq; omega
    rcases this with rfl | rfl | rfl <;> rfl
  · refine ⟨_, 2, rfl, rfl, by simp, fun q hq => ⟨_, _, rfl, (Array.getElem?_eq_some_iff.1 rc').1, ?_⟩⟩
    rw [cell_of_row wd _ _ _ _ _ rc', Nat.zero_add]
    have : q = 0 ∨ q = 1 := by have hq : q < 2 := hq; omega
    rcases this with rfl | rfl <;> rfl
theorem info_label : (Try.prog.info? 40).map (fun i => (i.zero, i.size, i.bytes)) = some (some (.agg #[.int .i64 0, .int .i64 0, .int .i64 0]), 3, 24) := by kernel_rfl
theorem size_label (w : World) : (sizeOf 40).run Try.prog w = .ok 3 w := Try.sizeOf40 w
section
variable {w4 w : World} {o : Oper} {a : Act} {K : Act → World → Prop} {Q : Exit → Act → World → Prop}
theorem app_first (s x : Operand) (ho : o.op = .call { callee := .builtin .append, args := #[s, x], argTypes := #[28, 28] })
    (g0 L : Nat) (hL0 : 0 < L) (hL : L ≤ 4) (la : Option Addr) (lc : Nat) (hs : a.eval s = .slice (some ⟨g0, 0, none⟩) 0 0) (hx : a.eval x = .slice la L lc)
    (hg : w.heap[g0]? = some (.cells #[] 40 (0, 0))) (hB : w4.heap.size ≤ g0) (hgr : Flow.Grow w4 w) (hl : Ref23.LabAt w4 (.slice la L lc) L)
    (h : ∀ g cap w', w4.heap.size ≤ g → w'.ownsRow 0 40 3 (.slice (some ⟨g, 0, none⟩) L cap) L (Ref23.labV.take (L * 3)) → Flow.Grow w4 w' → w.grownBy w' (some g0) → (g = g0 ∨ g = w.heap.size) → K (a.put o.dst (.slice (some ⟨g, 0, none⟩) L cap)) w') : Oper.wp Try.prog o a w K Q := by
  obtain ⟨i0, hi, hz0, hz1, hz2⟩ := info_parts info_label
  have hlen : (Ref23.labV.take (L * 3)).length = L * 3 := by rw [List.length_take]; show min (L * 3) 15 = L * 3; omega
  obtain ⟨ad, rfl⟩ : ∃ ad, la = some ad := by
    obtain ⟨b, off, e, _⟩ := Tal.lab_cells hl (by omega) hL0
    exact ⟨_, e⟩
  have hown : w.ownsRow 0 40 3 (.slice (some ⟨g0, 0, none⟩) 0 0) 0 [] := ⟨rfl, .inr ⟨g0, 0, #[], rfl, Nat.zero_le _, hg, Nat.le_refl _, Nat.zero_le _, rfl, rfl⟩⟩
  refine wp_append_lies (P := Try.prog) w s x 28 ho 0 40 i0 (.agg #[.int .i64 0, .int .i64 0, .int .i64 0]) 3 24 Try.underlying28 hi hz0 hz1 hz2 rfl (by decide) _ 0 [] hs hown ad L lc (Ref23.labV.take (L * 3)) hx hlen
    (fun j u hj => Xm2.cell_grow hgr (Seg.cells hl ad rfl j u hj)) ?_ hL0 (by unfold maxLen; omega) (by omega) (Nat.zero_le _) _ rfl fun g cap w' h2 h3 h4 h5 => ?_
  · intro u hu
    have := List.mem_of_mem_take hu
    have key : ∀ u ∈ Ref23.labV, u.oneCell' = true := by decide +kernel
    exact key u this
  · rw [Nat.zero_add] at h2
    have hg4 : w4.heap.size ≤ g := by
      rcases h4 with h4 | h4
      · injection h4 with h4
        have : g0 = g := h4
        omega
      · have := hgr.size; omega
    have h6 := h g cap w' hg4 (by simpa using h2) (grow_row hgr h3 (fun b e => by injection e with e; have : g0 = b := e; omega)) h3 (by
      rcases h4 with h4 | h4
      · injection h4 with h4; left; exact h4.symm
      · exact .inr h4)
    rw [Nat.zero_add]
    exact h6
theorem app_next (s x : Operand) (ho : o.op = .call { callee := .builtin .append, args := #[s, x], argTypes := #[28, 28] })
    (g L cap q : Nat) (xs : List Value) (hL : L ≤ 4) (hs : a.eval s = .slice (some ⟨g, 0, none⟩) L cap) (hx : a.eval x = .slice (some ⟨q, 0, none⟩) 1 1)
    (hown : w.ownsRow 0 40 3 (.slice (some ⟨g, 0, none⟩) L cap) L xs) (hq : w.heap[q]? = some (.cells #[.int .i64 0, .int .i64 0, .int .i64 0] 40 (0, 0))) (hB : w4.heap.size ≤ g) (hgr : Flow.Grow w4 w)
    (h : ∀ g' cap' w', Flow.Grow w4 w' → K (a.put o.dst (.slice (some ⟨g', 0, none⟩) (L + 1) cap')) w') : Oper.wp Try.prog o a w K Q := by
  obtain ⟨i0, hi, hz0, hz1, hz2⟩ := info_parts info_label
  refine wp_append_lies (P := Try.prog) w s x 28 ho 0 40 i0 (.agg #[.int .i64 0, .int .i64 0, .int .i64 0]) 3 24 Try.underlying28 hi hz0 hz1 hz2 rfl (by decide) _ L xs hs hown ⟨q, 0, none⟩ 1 1 [.int .i64 0, .int .i64 0, .int .i64 0] hx rfl
    (fun j u hj => ?_) (by decide +kernel) (by decide) (by unfold maxLen; omega) (by omega) (Nat.zero_le _) _ rfl fun g' cap' w' h2 h3 h4 h5 => ?_
  · rw [Addr.add_lit, cell_of_row w q _ _ _ _ hq, Nat.zero_add]
    rw [← hj]
    simp
  · exact h g' cap' w' (grow_row hgr h3 (fun b e => by injection e with e; have : g = b := e; omega))
end
theorem own0 {w : World} {g : Nat} (hg : w.heap[g]? = some (.cells #[] 40 (0, 0))) : w.ownsRow 0 40 3 (.slice (some ⟨g, 0, none⟩) 0 0) 0 [] := ⟨rfl, .inr ⟨g, 0, #[], rfl, Nat.zero_le _, hg, Nat.le_refl _, Nat.zero_le _, rfl, rfl⟩⟩
theorem heap_new2 (w : World) (p r : Obj) : ((w.alloc p).alloc r).heap[w.heap.size + 1]? = some r := by simpa using heap_alloc_new (w.alloc p) r
theorem heap_old2 (w : World) (p r : Obj) : ((w.alloc p).alloc r).heap[w.heap.size]? = some p := by rw [Below.heap_alloc _ _ _ (by simp)]; exact heap_alloc_new _ _
set_option maxRecDepth 100000 in
set_option maxHeartbeats 8000000 in
theorem tallyLines_walk (v : Value) (zs : List Int) (fin s0 s1 : Int) (n : Nat) (W : World) (hn : n ≤ 9223372036854775807) (h : Seg 3 W v n (zs.map (Value.int .i64))) (HAW : ∀ w, Calls Try.prog 11 #[] w fun e w' => e = .returned (.bool true) ∧ Flow.Grow w w') :
    Calls Try.prog 3 #[v, .int .i64 fin, .agg #[.int .i64 s0, .int .i64 s1]] W fun e w' => e = .returned (.bool true) ∧ Flow.Grow W w' := by
  have H := Lib.hid h
  have HAw := Lib.hid HAW
  clear h HAW
  obtain ⟨hfew, hmay⟩ := Tal.any_few zs fin s0 s1 n
  go_enter Try.func3, Try.ntmps3
  go_upto_region 1 with fail
  have A1 : Hid ((W.alloc (.cells #[.int .i64 s0, .int .i64 s1] 23)).heap[W.heap.size]? = some (.cells #[.int .i64 s0, .int .i64 s1] 23 (0, 0))) := Lib.hid (heap_alloc_new _ _)
  have G1 := Lib.hid (Flow.grow_alloc W (.cells #[.int .i64 s0, .int .i64 s1] 23))
  generalize W.alloc (.cells #[.int .i64 s0, .int .i64 s1] 23) = w1 at *
  have a0 : w1.cell? ⟨W.heap.size, 0, none⟩ = some (.int .i64 s0) := (cell_of_row w1 _ 0 _ _ _ A1.out).trans rfl
  have a1 : w1.cell? ⟨W.heap.size, 1, none⟩ = some (.int .i64 s1) := (cell_of_row w1 _ 1 _ _ _ A1.out).trans rfl
  have HANY := Lib.hid (any23 v zs fin s0 s1 n w1 hn (H.out.grow G1.out))
  unfold Ref23.AnyPost at HANY
  obtain ⟨L, hL⟩ : ∃ L, L = Ref18.labels s0 := ⟨_, rfl⟩
  obtain ⟨S, hS⟩ : ∃ S, S = Ref18.start s1 (Ref18.states s1) := ⟨_, rfl⟩
  obtain ⟨F, hF⟩ : ∃ F, F = Ref18.finals fin (Ref18.states s1) := ⟨_, rfl⟩
  obtain ⟨N, hN⟩ : ∃ N, N = Ref18.nexts (Ref18.states s1) (Ref18.labels s0) zs (Ref18.moves (Ref18.labels s0) n) := ⟨_, rfl⟩
  rw [← hN, ← hL, ← hS, ← hF] at HANY hmay
  rw [← hN, ← hL, ← hF] at hfew
  have HFEW := Lib.hid hfew
  have HMAY := Lib.hid hmay
  clear hL hS hF hN hn hfew hmay H
  go_upto_region 2 with (go_at_call 8; refine HANY.out.mono ?_; rintro e w3 ⟨⟨vf, vn, rs, G, vl, rfl, hGW, hD, hLb⟩, hg3⟩; obtain ⟨fa, fc, rfl⟩ := own_slice hD.finals; obtain ⟨na, nc, rfl⟩ := own_slice hD.nexts; obtain ⟨la, lc, rfl⟩ : ∃ la lc, vl = .slice la L lc := (by obtain ⟨a, c, e, _⟩ := id hLb; exact ⟨a, c, e⟩))
  have HD3 := Lib.hid hD
  have HL3 := Lib.hid hLb
  have HDF : Hid (DfaAt w3 #[.int .i64 L, .int .i64 S, .slice fa F.length fc, .slice na N.length nc] L S F N) := Lib.hid (hD.dfa (by have := HFEW.out.hL; omega) (by have := HFEW.out.hk; have := HFEW.out.hf; omega) (by have := HFEW.out.hk; omega))
  have G3 := Lib.hid (G1.out.trans hg3)
  obtain ⟨k, hk⟩ : ∃ k, k = N.length := ⟨_, rfl⟩
  have HK := Lib.hid hk
  have hFk : F.length = k := by rw [hk]; exact HFEW.out.hf
  have HFk := Lib.hid hFk
  have hk8 : k ≤ 8 := by rw [hk]; exact HFEW.out.hk
  have hL4 := HFEW.out.hL
  rw [hFk, ← hk] at HDF HD3 ⊢
  rw [hFk] at HMAY
  clear hk hFk hD hLb hg3 a0 a1 HANY hGW
  go_upto_region 3 with fail
  obtain ⟨Y, hY⟩ : ∃ Y, Y = w3.heap.size := ⟨_, rfl⟩
  have RR := Lib.hid (tal_blocks w3 L S k fa fc na nc)
  rw [← hY] at RR ⊢
  have HY := Lib.hid hY
  clear hY
  generalize (((w3.alloc (.cells #[.int .i64 L, .int .i64 S, .slice fa k fc, .slice na k nc] 27)).alloc (.cells #[.string ⟨#[112, 97]⟩, .string ⟨#[112, 98]⟩, .string ⟨#[112, 99]⟩] 9)).alloc (.cells #[.string ⟨#[109]⟩, .string ⟨#[110]⟩] 9)).alloc (.cells #[.slice (some ⟨Y + 1, 0, none⟩) 3 3, .slice (some ⟨Y + 1 + 1, 0, none⟩) 2 2, .slice none 0 0, .slice none 0 0] 35) = w4 at *
  have G4 := Lib.hid (G3.out.trans RR.out.1)
  have HP4 := Lib.hid RR.out.2.1
  have HM4 := Lib.hid RR.out.2.2.1
  have HL4 := Lib.hid (HL3.out.grow RR.out.1)
  have HSH : Hid (∀ (c : Nat) (wq : World), c < L → Flow.Grow w4 wq → Calls Try.prog 10 #[.agg #[.slice (some ⟨Y + 1, 0, none⟩) 3 3, .slice (some ⟨Y + 1 + 1, 0, none⟩) 2 2, .slice none 0 0, .slice none 0 0], .agg #[.int .i64 (Tal.lab c).1, .int .i64 (Tal.lab c).2.1, .int .i64 (Tal.lab c).2.2]] wq fun e w' => e = .returned (.string (str (Tal.sho c))) ∧ Flow.Grow wq w') := Lib.hid (fun c wq hc hg =>
    show_any _ _ _ _ Tal.pas Tal.mss _ _ _ wq (HP4.out.grow hg) (HM4.out.grow hg) (by have := Tal.sho_len c (by omega); unfold Tal.sho at this; omega))
  have CY : Hid (∀ wq, Flow.Grow w4 wq → wq.cell? ⟨Y, 0, none⟩ = some (.int .i64 L) ∧ wq.cell? ⟨Y, 1, none⟩ = some (.int .i64 S) ∧ wq.cell? ⟨Y, 2, none⟩ = some (.slice fa k fc) ∧ wq.cell? ⟨Y, 3, none⟩ = some (.slice na k nc) ∧
      wq.cell? ⟨Y + 1 + 1 + 1, 0, none⟩ = some (.slice (some ⟨Y + 1, 0, none⟩) 3 3) ∧ wq.cell? ⟨Y + 1 + 1 + 1, 1, none⟩ = some (.slice (some ⟨Y + 1 + 1, 0, none⟩) 2 2) ∧ wq.cell? ⟨Y + 1 + 1 + 1, 2, none⟩ = some (.slice none 0 0) ∧ wq.cell? ⟨Y + 1 + 1 + 1, 3, none⟩ = some (.slice none 0 0)) := Lib.hid (fun wq g => by
    have y := (g.block Y (Array.getElem?_eq_some_iff.1 RR.out.2.2.2.1).1 (by simp)).trans RR.out.2.2.2.1
    have x := (g.block (Y + 1 + 1 + 1) (Array.getElem?_eq_some_iff.1 RR.out.2.2.2.2).1 (by simp)).trans RR.out.2.2.2.2
    exact ⟨(cell_of_row wq _ 0 _ _ _ y).trans rfl, (cell_of_row wq _ 1 _ _ _ y).trans rfl, (cell_of_row wq _ 2 _ _ _ y).trans rfl, (cell_of_row wq _ 3 _ _ _ y).trans rfl, (cell_of_row wq _ 0 _ _ _ x).trans rfl, (cell_of_row wq _ 1 _ _ _ x).trans rfl, (cell_of_row wq _ 2 _ _ _ x).trans rfl, (cell_of_row wq _ 3 _ _ _ x).trans rfl⟩)
  have G34 := Lib.hid RR.out.1
  clear RR
  obtain ⟨⟨vf', vd', hv, hvf, hvd⟩, _, _, _⟩ := HDF.out
  injection hv with hv
  simp only [List.cons.injEq, true_and, and_true] at hv
  obtain ⟨rfl, rfl⟩ := hv
  have HVF := Lib.hid hvf
  have HVD := Lib.hid hvd
  clear hvf hvd
  go_wp2_with fail
  go_loopw [11, 10] (fun i s wr => ∃ j : Nat, j ≤ k ∧ i = .int .i64 j ∧ s = .string (str (Tal.lines L F N j)) ∧ Hid (Flow.Grow w4 wr)) (fun i _ _ => k - (intOf i).toNat)
  case atStart => exact ⟨0, by omega, rfl, rfl, Lib.hid (Flow.grow_refl _)⟩
  case round =>
    obtain ⟨j, hj, rfl, rfl, HGr⟩ := hrel
    rename World => wr
    obtain ⟨y0, y1, y2, y3, x0, x1, x2, x3⟩ := CY.out wr HGr.out
    by_cases hjk : j < k
    · have hrow := HFEW.out.at (s := j) (by rw [← HK.out]; exact hjk)
      obtain ⟨b, off, cp, hdv, _, hcell⟩ := HVD.out.shape (by intro e; have := HK.out; rw [e] at this; simp at this; omega)
      rw [← HK.out] at hcell hdv
      injection hdv with hd1 hd2 hd3
      subst hd1
      obtain ⟨u, hu, hui⟩ := hcell j hjk
      obtain ⟨row, hrw⟩ : ∃ row, row = N.getD j [] := ⟨_, rfl⟩
      rw [← hrw] at hrow hui
      have Hrow := Lib.hid hrow
      have Hrw := Lib.hid hrw
      obtain ⟨ua, uc, rfl, _⟩ := id hui
      rw [hrow.1] at hu
      have HU : Hid (Ints w3 (.slice ua L uc) row) := Lib.hid (by rw [hrow.1] at hui; exact hui)
      obtain ⟨b2, off2, cp2, hfv, _, hfin⟩ := HVF.out.shape (by intro e; have := HFk.out; rw [e] at this; simp at this; omega)
      rw [HFk.out] at hfin hfv
      injection hfv with hf1 hf2 hf3
      subst hf1
      have hfj := hfin j hjk
      obtain ⟨x, hx⟩ : ∃ x, x = F.getD j false := ⟨_, rfl⟩
      rw [← hx] at hfj
      have Hx := Lib.hid hx
      have HFJ := Lib.hid (Xm2.cell_grow G34.out hfj)
      have HUJ := Lib.hid (Xm2.cell_grow G34.out hu)
      clear hu hfj hrw hx hfin hcell hui hrow hd2 hd3 hf2 hf3
      obtain ⟨acc, hacc⟩ : ∃ acc, acc = Tal.lines L F N j := ⟨_, rfl⟩
      have Hacc := Lib.hid hacc
      have Hal : Hid (acc.length ≤ 400) := Lib.hid (by rw [hacc]; have := Tal.lines_len HFEW.out j (by rw [← HK.out]; omega); omega)
      rw [← hacc]
      clear hacc
      obtain ⟨dj, hdj⟩ : ∃ dj, dj = Dec.dec j := ⟨_, rfl⟩
      have Hdl : Hid (dj.length = 1) := Lib.hid (by rw [hdj, Dec.dec_lo (by omega)]; rfl)
      have HDJ : Hid (∀ wq, Calls Try.prog 9 #[.int .i64 j] wq fun e w' => e = .returned (.string (str dj)) ∧ Flow.Grow wq w') := Lib.hid (fun wq => by rw [hdj]; exact num50_any 18 j (by omega) (by omega) wq)
      have Hdj := Lib.hid hdj
      clear hdj
      have s1 := str_size acc
      have s2 := str_size dj
      have hn1 : ¬ 9223372036854775807 < acc.length + dj.length := by have := Hal.out; have := Hdl.out; omega
      have hap := str_append acc dj
      go_upto_region 7 with (go_at_call 9; refine (HDJ.out _).mono ?_; rintro e w5 ⟨rfl, hg5⟩)
      have HG5 := Lib.hid (HGr.out.trans hg5)
      clear hg5 y0 y1 y2 y3 x0 x1 x2 x3 s1 s2 hn1 hap
      obtain ⟨ac1, hac1⟩ : ∃ ac1, ac1 = acc ++ dj := ⟨_, rfl⟩
      rw [← hac1]
      have Hac1 := Lib.hid hac1
      have Hal1 : Hid (ac1.length ≤ 401) := Lib.hid (by have := Hal.out; have := Hdl.out; rw [hac1]; simp; omega)
      clear hac1
      obtain ⟨ac2, hac2⟩ : ∃ ac2, ac2 = ac1 ++ (if x then [42] else []) := ⟨_, rfl⟩
      have Hac2 := Lib.hid hac2
      have Hal2 : Hid (ac2.length ≤ 402) := Lib.hid (by
        have := Hal1.out
        rw [hac2]
        cases x <;> simp <;> omega)
      clear hac2
      obtain ⟨y0, y1, y2, y3, x0, x1, x2, x3⟩ := CY.out w5 HG5.out
      have rf := Xm2.cell_grow HG5.out HFJ.out
      go_upto_if 38 with fail
      go_cut [10] from 23 to 77 (fun v10 wx => v10 = .string (str ac2) ∧ Hid (Flow.Grow w4 wx))
      case first =>
        cases x with
        | true =>
          have s1 := str_size ac1
          have hn1 : ¬ 9223372036854775807 < ac1.length + 1 := by have := Hal1.out; omega
          have hap : str ac1 ++ ⟨#[42]⟩ = str (ac1 ++ [42]) := str_append ac1 [42]
          go_wp2_with fail
          go_meet
          case rel => exact ⟨by rw [Hac2.out]; rfl, HG5⟩
        | false =>
          go_wp2_with fail
          go_meet
          case rel => exact ⟨by rw [Hac2.out]; simp, HG5⟩
      case rest =>
        obtain ⟨rfl, HG7⟩ := hcut
        rename World => w7
        clear HG5 y0 y1 y2 y3 x0 x1 x2 x3 rf HFJ
        go_wp2_with fail
        go_loopw [10, 12] (fun s v wx => ∃ c : Nat, c ≤ L ∧ v = .int .i64 c ∧ s = .string (str (ac2 ++ Tal.cells row c)) ∧ Hid (Flow.Grow w4 wx)) (fun _ v _ => L - (intOf v).toNat)
        case atStart => exact ⟨0, by omega, rfl, by simp [Tal.cells], HG7⟩
        case round =>
          obtain ⟨c, hc, rfl, rfl, HGi⟩ := hrel
          rename World => wi
          obtain ⟨ac3, hac3⟩ : ∃ ac3, ac3 = ac2 ++ Tal.cells row c := ⟨_, rfl⟩
          have Hac3 := Lib.hid hac3
          have Hal3 : Hid (ac3.length ≤ 450) := Lib.hid (by
            rw [hac3, List.length_append]
            have h1 := Hal2.out
            have h2 := Tal.cells_len (row := row) (fun i => (Hrow.out.2 i).2) c (by omega)
            omega)
          rw [← hac3]
          clear hac3 HG7
          obtain ⟨y0, y1, y2, y3, x0, x1, x2, x3⟩ := CY.out wi HGi.out
          by_cases hcL : c < L
          · obtain ⟨rb, ro, rcap, hv, _, hrc⟩ := HU.out.shape (by intro e; have := Hrow.out.1; rw [e] at this; simp at this; omega)
            rw [Hrow.out.1] at hv hrc
            injection hv with h1 h2 h3
            subst h1
            obtain ⟨z, hz⟩ : ∃ z, z = row.getD c 0 := ⟨_, rfl⟩
            have hz3 := hrc c hcL
            rw [← hz] at hz3
            have Hz3 := Lib.hid (Xm2.cell_grow G34.out hz3)
            have Hz : Hid (-1 ≤ z ∧ z < 8) := Lib.hid (by rw [hz]; exact Hrow.out.2 c)
            have HCS : Hid (Tal.cells row (c + 1) = Tal.cells row c ++ Tal.cell z c) := Lib.hid (by rw [Tal.cells, hz])
            obtain ⟨lb, lo, hla, _, _, q0, q1, q2⟩ := Tal.lab_cells HL4.out (by omega) hcL
            subst hla
            have Q := Lib.hid (And.intro q0 (And.intro q1 q2))
            have hz0 := Xm2.cell_grow HGi.out Hz3.out
            have hu0 := Xm2.cell_grow HGi.out HUJ.out
            have HSHc : Hid (∀ wq, Flow.Grow w4 wq → Calls Try.prog 10 #[.agg #[.slice (some ⟨Y + 1, 0, none⟩) 3 3, .slice (some ⟨Y + 1 + 1, 0, none⟩) 2 2, .slice none 0 0, .slice none 0 0], .agg #[.int .i64 (Tal.lab c).1, .int .i64 (Tal.lab c).2.1, .int .i64 (Tal.lab c).2.2]] wq fun e w' => e = .returned (.string (str (Tal.sho c))) ∧ Flow.Grow wq w') := Lib.hid (fun wq => HSH.out c wq hcL)
            clear q0 q1 q2 hrc hz h2 h3 hz3
            generalize (Tal.lab c).1 = t0 at *
            generalize (Tal.lab c).2.1 = t1 at *
            generalize (Tal.lab c).2.2 = t2 at *
            by_cases hz1 : 0 ≤ z
            · have HCE : Hid (Tal.cell z c = 32 :: (Tal.sho c ++ 61 :: Dec.dec z.toNat)) := Lib.hid (by rw [Tal.cell, if_pos hz1])
              obtain ⟨sb, hsb⟩ : ∃ sb, sb = str (Tal.sho c) := ⟨_, rfl⟩
              have hsz : sb.size = 7 := by rw [hsb, str_size, Tal.sho_len c (by omega)]
              obtain ⟨db, hdb⟩ : ∃ db, db = str (Dec.dec z.toNat) := ⟨_, rfl⟩
              have hdz : db.size = 1 := by rw [hdb, str_size, Tal.dec_one Hz.out.2]
              obtain ⟨tb, htb⟩ : ∃ tb, tb = str ac3 := ⟨_, rfl⟩
              have htz : ¬ 9223372036854775807 < tb.size + (1 + 7 + 1 + 1) := by rw [htb, str_size]; have := Hal3.out; omega
              have htz2 : ¬ 9223372036854775807 < tb.size + 10 := htz
              have HDZ : Hid (∀ wq, Calls Try.prog 9 #[.int .i64 z] wq fun e w' => e = .returned (.string db) ∧ Flow.Grow wq w') := Lib.hid (fun wq => by
                have := num50_any 18 z.toNat (by have := Hz.out.2; omega) (by have := Hz.out.2; omega) wq
                rw [Int.toNat_of_nonneg hz1] at this
                rw [hdb]; exact this)
              rw [← hsb] at HSHc
              have HTX : Hid (tb ++ ((⟨#[32]⟩ : ByteArray) ++ sb ++ ⟨#[61]⟩ ++ db) = str (ac2 ++ Tal.cells row (c + 1))) := Lib.hid (by
                rw [HCS.out, HCE.out, hsb, hdb, htb, Hac3.out]
                show str _ ++ (str [32] ++ str (Tal.sho c) ++ str [61] ++ str _) = _
                rw [str_append, str_append, str_append, str_append]
                simp)
              have CZ : Hid (∀ wq, Flow.Grow wi wq → wq.cell? ⟨Y + 1 + 1 + 1, 0, none⟩ = some (.slice (some ⟨Y + 1, 0, none⟩) 3 3) ∧ wq.cell? ⟨Y + 1 + 1 + 1, 1, none⟩ = some (.slice (some ⟨Y + 1 + 1, 0, none⟩) 2 2) ∧ wq.cell? ⟨Y + 1 + 1 + 1, 2, none⟩ = some (.slice none 0 0) ∧ wq.cell? ⟨Y + 1 + 1 + 1, 3, none⟩ = some (.slice none 0 0) ∧
                  wq.cell? ⟨lb, lo + c * 3, none⟩ = some (.int .i64 t0) ∧ wq.cell? ⟨lb, lo + c * 3 + 1, none⟩ = some (.int .i64 t1) ∧ wq.cell? ⟨lb, lo + c * 3 + 2, none⟩ = some (.int .i64 t2) ∧
                  wq.cell? ⟨Y, 3, none⟩ = some (.slice (some ⟨b, off, none⟩) k nc) ∧ wq.cell? ⟨b, off + j, none⟩ = some (.slice (some ⟨rb, ro, none⟩) L uc) ∧ wq.cell? ⟨rb, ro + c, none⟩ = some (.int .i64 z)) := Lib.hid (fun wq g => by
                obtain ⟨_, _, _, y3, x0, x1, x2, x3⟩ := CY.out wq (HGi.out.trans g)
                exact ⟨x0, x1, x2, x3, Xm2.cell_grow (HGi.out.trans g) Q.out.1, Xm2.cell_grow (HGi.out.trans g) Q.out.2.1, Xm2.cell_grow (HGi.out.trans g) Q.out.2.2, y3, Xm2.cell_grow (HGi.out.trans g) HUJ.out, Xm2.cell_grow (HGi.out.trans g) Hz3.out⟩)
              rw [← htb]
              clear hsb hdb htb HSH
              go_upto_region 13 with fail
              go_region_held3 (fun w' => w'.cell? ⟨Y + 1 + 1 + 1, 0, none⟩ = some (.slice (some ⟨Y + 1, 0, none⟩) 3 3) ∧ w'.cell? ⟨Y + 1 + 1 + 1, 1, none⟩ = some (.slice (some ⟨Y + 1 + 1, 0, none⟩) 2 2) ∧ w'.cell? ⟨Y + 1 + 1 + 1, 2, none⟩ = some (.slice none 0 0) ∧ w'.cell? ⟨Y + 1 + 1 + 1, 3, none⟩ = some (.slice none 0 0) ∧
                  w'.cell? ⟨lb, lo + c * 3, none⟩ = some (.int .i64 t0) ∧ w'.cell? ⟨lb, lo + c * 3 + 1, none⟩ = some (.int .i64 t1) ∧ w'.cell? ⟨lb, lo + c * 3 + 2, none⟩ = some (.int .i64 t2) ∧
                  w'.cell? ⟨Y, 3, none⟩ = some (.slice (some ⟨b, off, none⟩) k nc) ∧ w'.cell? ⟨b, off + j, none⟩ = some (.slice (some ⟨rb, ro, none⟩) L uc) ∧ w'.cell? ⟨rb, ro + c, none⟩ = some (.int .i64 z))
                (first
                  | exact CZ.out _ (Flow.grow_refl _)
                  | exact CZ.out _ (Flow.grow_drew _)
                  | exact CZ.out _ ((Flow.grow_drew _).trans hgs)
                  | exact CZ.out _ ((Flow.grow_drew _).trans hgd)
                  | exact CZ.out _ (((Flow.grow_drew _).trans hgs).trans hgd)
                  | exact CZ.out _ (((Flow.grow_drew _).trans hgd).trans hgs))
                (first
                  | (go_at_call 9; refine (HDZ.out _).mono ?_; rintro e wd ⟨rfl, hgd⟩)
                  | (go_at_call 10; refine (HSHc.out _ (by first | exact HGi.out.trans (Flow.grow_drew _) | exact (HGi.out.trans (Flow.grow_drew _)).trans hgd)).mono ?_; rintro e ws ⟨rfl, hgs⟩))
              all_goals
                have HGZ : Hid (Flow.Grow w4 _) := Lib.hid (by first
                  | exact HGi.out.trans (((Flow.grow_drew _).trans hgs).trans hgd)
                  | exact HGi.out.trans (((Flow.grow_drew _).trans hgd).trans hgs))
                clear hgs hgd
                go_wp2_with fail
                go_roundw
                case rel => exact ⟨c + 1, by omega, by go_num, by rw [← HTX.out], HGZ⟩
                case measure => simp [intOf]; omega
            · have HCE : Hid (Tal.cell z c = []) := Lib.hid (by rw [Tal.cell, if_neg hz1])
              clear HSH HSHc
              go_wp2_with fail
              go_roundw
              case rel => exact ⟨c + 1, by omega, by go_num, by rw [HCS.out, HCE.out, List.append_nil, ← Hac3.out], HGi⟩
              case measure => simp [intOf]; omega
          · have ec : c = L := by omega
            subst ec
            have HLN : Hid (Tal.lines c F N (j + 1) = ac3 ++ [10]) := Lib.hid (by
              rw [Tal.lines, Tal.line, Hac3.out, Hac2.out, Hac1.out, ← Hacc.out, ← Hdj.out, ← Hx.out, ← Hrw.out]
              simp)
            have s1 := str_size ac3
            have hn1 : ¬ 9223372036854775807 < ac3.length + 1 := by have := Hal3.out; omega
            have hap : str ac3 ++ ⟨#[10]⟩ = str (ac3 ++ [10]) := str_append ac3 [10]
            clear HSH
            go_wp2_with fail
            go_roundw
            case rel => exact ⟨j + 1, by omega, by go_num, by rw [HLN.out], HGi⟩
            case measure => simp [intOf]; omega
    · have ej : j = k := by omega
      subst ej
      clear HSH
      obtain ⟨T, hT⟩ : ∃ T, T = str (Tal.lines L F N j) := ⟨_, rfl⟩
      have HT := Lib.hid hT
      rw [← hT]
      clear hT
      have HLX : Hid (∀ (va : Value) (wq : World), (va = .slice la L lc ∨ ∃ a cap, va = .slice a (L + 1) cap) → Flow.Grow w4 wq → Calls Try.prog 12 #[.agg #[.slice (some ⟨Y + 1, 0, none⟩) 3 3, .slice (some ⟨Y + 1 + 1, 0, none⟩) 2 2, .slice none 0 0, .slice none 0 0], va, .agg #[.int .i64 L, .int .i64 S, .slice fa j fc, .slice na j nc]] wq fun e w' => (∃ s, e = .returned (.string s) ∧ (va = .slice la L lc → s = T) ∧ ((∃ a cap, va = .slice a (L + 1) cap) → s = ⟨#[]⟩)) ∧ Flow.Grow wq w') := Lib.hid (fun va wq hva hg => by
        rcases hva with rfl | ⟨a, cap, rfl⟩
        · refine (lines_any _ _ _ _ _ L S F N wq (HP4.out.grow hg) (HM4.out.grow hg) (HL4.out.grow hg) HFEW.out (HDF.out.grow (G34.out.trans hg)) (by rw [HFk.out]; exact HMAY.out)).mono ?_
          rintro e w' ⟨rfl, hg'⟩
          exact ⟨⟨_, rfl, fun _ => by rw [HT.out, HK.out], fun ⟨a, c, h⟩ => by injection h with _ h _; omega⟩, hg'⟩
        · refine (lines_bad _ _ _ _ a (L + 1) cap L (by omega) S F N wq (HDF.out.grow (G34.out.trans hg)) (by rw [HFk.out]; exact HMAY.out)).mono ?_
          rintro e w' ⟨rfl, hg'⟩
          exact ⟨⟨_, rfl, fun h => (by injection h with _ h _; omega), fun _ => rfl⟩, hg'⟩)
      have HLW : Hid (∀ (wq : World), Flow.Grow w4 wq → Flow.Grow W wq) := Lib.hid (fun wq h => G4.out.trans h)
      rcases Nat.eq_zero_or_pos L with hL0 | hL0
      · have HL0 := Lib.hid hL0
        clear hL0
        go_upto_region 15 with fail
        go_region_held3 (fun w' => w'.cell? ⟨Y, 0, none⟩ = some (.int .i64 L) ∧ w'.cell? ⟨Y, 1, none⟩ = some (.int .i64 S) ∧ w'.cell? ⟨Y, 2, none⟩ = some (.slice fa j fc) ∧ w'.cell? ⟨Y, 3, none⟩ = some (.slice na j nc) ∧
            w'.cell? ⟨Y + 1 + 1 + 1, 0, none⟩ = some (.slice (some ⟨Y + 1, 0, none⟩) 3 3) ∧ w'.cell? ⟨Y + 1 + 1 + 1, 1, none⟩ = some (.slice (some ⟨Y + 1 + 1, 0, none⟩) 2 2) ∧ w'.cell? ⟨Y + 1 + 1 + 1, 2, none⟩ = some (.slice none 0 0) ∧ w'.cell? ⟨Y + 1 + 1 + 1, 3, none⟩ = some (.slice none 0 0))
          (first
            | exact CY.out _ HGr.out
            | exact CY.out _ (HGr.out.trans (Flow.grow_drew _))
            | exact CY.out _ ha.out
            | exact CY.out _ hl.out
            | exact CY.out _ (hl.out.trans (Flow.grow_alloc _ _))
            | exact CY.out _ ((hl.out.trans (Flow.grow_alloc _ _)).trans (Flow.grow_alloc _ _))
            | exact CY.out _ hB.out
            | exact CY.out _ hl2.out
            | exact CY.out _ hm.out)
          (first
            | (go_at_call 11; refine (HAw.out _).mono ?_; rintro e wa ⟨rfl, hx⟩; have ha := Lib.hid (HGr.out.trans ((Flow.grow_drew _).trans hx)); clear hx)
            | (go_at_call 13; refine (longest_zero _).mono ?_; rintro e wm ⟨rfl, hx⟩; have hm := Lib.hid (hl2.out.trans hx); clear hx)
            | (go_at_call 12; refine (HLX.out _ _ (by first | exact .inl rfl | exact .inr ⟨some ⟨g', 0, none⟩, cap', by rw [HL0.out]⟩) (by first | exact ha.out | exact hB.out)).mono ?_; rintro e wl ⟨⟨s, rfl, hs1, hs2⟩, hx⟩; first
                | (have hl2 := Lib.hid (hB.out.trans hx); obtain rfl := hs2 ⟨some ⟨g', 0, none⟩, cap', by rw [HL0.out]⟩; clear hs1 hs2 hx)
                | (have hl := Lib.hid (ha.out.trans hx); obtain rfl := hs1 rfl; clear hs1 hs2 hx))
            | (rw [if_pos (by rfl)]; refine wp_append_none _ _ 28 40 rfl Try.underlying28 3 (size_label _) _ la lc rfl (by rw [← HL0.out]; rfl) ?_)
            | (rw [if_pos (by rfl)]; refine app_next (w4 := w4) _ _ rfl _ 0 _ _ [] (by decide) rfl rfl (by first | exact own0 (heap_old2 _ _ _) | exact own0 (heap_new2 _ _ _)) (by first | exact heap_new2 _ _ _ | exact heap_old2 _ _ _) (by have := hl.out.size; simp <;> omega) ((hl.out.trans (Flow.grow_alloc _ _)).trans (Flow.grow_alloc _ _)) ?_; intro g' cap' wB h1; have hB := Lib.hid h1; clear h1))
        all_goals
          have HE := Lib.hid (HLW.out _ hm.out)
          go_wp2_with fail
          go_ret
          exact ⟨rfl, HE.out⟩
      · go_upto_region 15 with fail
        go_region_held3 (fun w' => w'.cell? ⟨Y, 0, none⟩ = some (.int .i64 L) ∧ w'.cell? ⟨Y, 1, none⟩ = some (.int .i64 S) ∧ w'.cell? ⟨Y, 2, none⟩ = some (.slice fa j fc) ∧ w'.cell? ⟨Y, 3, none⟩ = some (.slice na j nc) ∧
            w'.cell? ⟨Y + 1 + 1 + 1, 0, none⟩ = some (.slice (some ⟨Y + 1, 0, none⟩) 3 3) ∧ w'.cell? ⟨Y + 1 + 1 + 1, 1, none⟩ = some (.slice (some ⟨Y + 1 + 1, 0, none⟩) 2 2) ∧ w'.cell? ⟨Y + 1 + 1 + 1, 2, none⟩ = some (.slice none 0 0) ∧ w'.cell? ⟨Y + 1 + 1 + 1, 3, none⟩ = some (.slice none 0 0))
          (first
            | exact CY.out _ HGr.out
            | exact CY.out _ (HGr.out.trans (Flow.grow_drew _))
            | exact CY.out _ ha.out
            | exact CY.out _ hl.out
            | exact CY.out _ (hl.out.trans (Flow.grow_alloc _ _))
            | exact CY.out _ ((hl.out.trans (Flow.grow_alloc _ _)).trans (Flow.grow_alloc _ _))
            | exact CY.out _ hA.out
            | exact CY.out _ (hA.out.trans (Flow.grow_alloc _ _))
            | exact CY.out _ hB.out
            | exact CY.out _ hl2.out
            | exact CY.out _ hm.out)
          (first
            | (go_at_call 11; refine (HAw.out _).mono ?_; rintro e wa ⟨rfl, hx⟩; have ha := Lib.hid (HGr.out.trans ((Flow.grow_drew _).trans hx)); clear hx)
            | (go_at_call 13; refine (longest_zero _).mono ?_; rintro e wm ⟨rfl, hx⟩; have hm := Lib.hid (hl2.out.trans hx); clear hx)
            | (go_at_call 12; refine (HLX.out _ _ (by first | exact .inl rfl | exact .inr ⟨_, _, rfl⟩) (by first | exact ha.out | exact hB.out)).mono ?_; rintro e wl ⟨⟨s, rfl, hs1, hs2⟩, hx⟩; first
                | (have hl2 := Lib.hid (hB.out.trans hx); obtain rfl := hs2 ⟨_, _, rfl⟩; clear hs1 hs2 hx)
                | (have hl := Lib.hid (ha.out.trans hx); obtain rfl := hs1 rfl; clear hs1 hs2 hx))
            | (rw [if_pos (by rfl)]; refine app_first (w4 := w4) _ _ rfl _ L hL0 hL4 la lc rfl rfl (by first | exact heap_alloc_new _ _ | exact heap_new2 _ _ _ | exact heap_old2 _ _ _) (by have := hl.out.size; simp; try omega) (by first | exact hl.out.trans (Flow.grow_alloc _ _) | exact (hl.out.trans (Flow.grow_alloc _ _)).trans (Flow.grow_alloc _ _)) HL4.out ?_; intro g cap wA h1 h2 h3 h4 h5; have hA := Lib.hid h3; have hO := Lib.hid h2; have hO1 := Lib.hid h1; have hK := Lib.hid h4; clear h1 h2 h3 h4)
            | (rw [if_pos (by rfl)]; refine app_next (w4 := w4) _ _ rfl _ L _ _ (Ref23.labV.take (L * 3)) hL4 rfl rfl (by first | exact hO.out | exact hO.out.kept (row := none) (Flow.grow_alloc _ _) (.inr (by simp [Value.ownBlock]))) (by first | exact heap_alloc_new _ _ | exact (hK.out.block _ (by simp <;> omega) (by simp <;> omega)).trans (heap_old2 _ _ _) | exact (hK.out.block _ (by simp <;> omega) (by simp <;> omega)).trans (heap_new2 _ _ _)) hO1.out (by first | exact hA.out | exact hA.out.trans (Flow.grow_alloc _ _)) ?_; intro g' cap' wB h1; have hB := Lib.hid h1; clear h1))
        all_goals
          have HE := Lib.hid (HLW.out _ hm.out)
          go_wp2_with fail
          go_ret
          exact ⟨rfl, HE.out⟩
end Go.Proofs.Ytepianllbfnpoaa

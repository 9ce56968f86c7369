/- graph.In, Out, Tasks by their contracts. -/
import Derived.Test.YtcnmaplopbbmaaaMAf
import Derived.Test.YtcnmaplopbbmaaaMAe
import Derived.Test.YtcnmaplopbbmaaaMAd
import Derived.Deep.DeepCutAuto
import Derived.BigRegion
import Derived.Deep.RegionWith
namespace Go.Proofs.Ytcnmaplopbbmaaa
open Go.RowKit
theorem info_intG : (Try.prog.info? 3).map (fun i => (i.zero, i.size, i.bytes)) = some (some (.int .i64 0), 1, 8) := by kernel_rfl
set_option maxRecDepth 100000 in
set_option maxHeartbeats 2000000 in
theorem graphIn_any (vp vm vn ve : Value) (n : Int) (xs : List Gr.Ed) (W : World) (hn : xs.length ≤ 1000000) (h : Gr.EsAt W ve xs) :
    Calls Try.prog 24 #[.agg #[vp, vm, vn, ve], .int .i64 n] W fun e w' => (∃ va, e = .returned va ∧ w'.ownsRow W.heap.size 3 1 va (Gr.inE xs n xs.length).length ((Gr.inE xs n xs.length).map (Value.int .i64))) ∧ Flow.Grow W w' := by
  have H := Lib.hid h
  obtain ⟨ao, ac, rfl⟩ := h.form
  clear h
  obtain ⟨k, hK⟩ : ∃ k, k = xs.length := ⟨_, rfl⟩
  have HK := Lib.hid hK
  rw [← hK] at hn H ⊢
  clear hK
  obtain ⟨i0, hi, hz0, hz1, hz2⟩ := info_parts info_intG
  have HI := Lib.hid (And.intro hi (And.intro hz0 (And.intro hz1 hz2)))
  clear hi hz0 hz1 hz2
  go_enter Try.func24, Try.ntmps24
  go_wp2_with fail
  go_loopw [5, 11] (fun va i wr => ∃ j : Nat, j ≤ k ∧ i = .int .i64 j ∧ Hid (wr.ownsRow W.heap.size 3 1 va (Gr.inE xs n j).length ((Gr.inE xs n j).map (Value.int .i64))) ∧ Hid (Flow.Grow W wr)) (fun _ i _ => k - (intOf i).toNat)
  case atStart => exact ⟨0, by omega, rfl, Lib.hid (World.ownsRow_nil _ _ _ _), Lib.hid (Flow.grow_alloc _ _)⟩
  case round =>
    obtain ⟨j, hj, rfl, HO, HG⟩ := hrel
    rename World => wr
    obtain ⟨va, hva⟩ : ∃ va, va = u5 := ⟨_, rfl⟩
    obtain ⟨oa, oc, hoa⟩ := own_form HO.out
    subst hoa
    clear hva
    by_cases hjn : j < k
    · obtain ⟨b, off, rfl, q0, q1⟩ := H.out.at (j := j) (by rw [← HK.out]; exact hjn)
      have c0 := Xm2.cell_grow HG.out q0
      have c1 := Xm2.cell_grow HG.out q1
      have HA : Hid (Gr.inE xs n (j + 1) = Gr.inE xs n j ++ if (xs.getD j (0, 0)).2 = n then [(j : Int)] else []) := Lib.hid rfl
      clear q0 q1
      have hal := Gr.inE_len xs n j
      have Hal := Lib.hid hal
      clear hal
      generalize xs.getD j (0, 0) = x at *
      obtain ⟨x0, x1⟩ := x
      simp only at c0 c1 HA
      generalize Gr.inE xs n j = L at *
      generalize hLl : L.length = m at *
      have HLl := Lib.hid hLl
      clear hLl
      by_cases h0 : x1 = n
      · have d0 : (x1 == n) = true := by simp [h0]
        have HE : Hid (Gr.inE xs n (j + 1) = L ++ [(j : Int)]) := Lib.hid (by rw [HA.out, if_pos h0])
        clear h0
        go_wp2_with (at_builtin; refine wpList_app1 (W := W) rfl _ _ 22 rfl 3 i0 (.int .i64 0) 1 8 Try.underlying22 HI.out.1 HI.out.2.1 HI.out.2.2.1 HI.out.2.2.2 rfl (by decide) _ m (L.map (Value.int .i64)) rfl (own_keep HO.out ((Flow.grow_alloc _ _).trans (Flow.grow_alloc _ _))) (HG.out.trans ((Flow.grow_alloc _ _).trans (Flow.grow_alloc _ _))) _ #[.int .i64 j] 3 rfl (hp_new2 _ _ _) rfl (by intro u hu; simp at hu; subst hu; rfl) (by have := Hal.out; omega) (by decide) ?_; intro v' w' hO hG hf _; have HO2 := Lib.hid hO; have HG2 := Lib.hid hG; obtain ⟨g', c', rfl, _⟩ := hf; clear hO hG)
        go_roundw
        case rel => exact ⟨j + 1, by omega, by go_num, Lib.hid (by rw [HE.out, List.length_append, HLl.out, List.map_append]; exact HO2.out), HG2⟩
        case measure => simp [intOf]; omega
      · have d0 : (x1 == n) = false := by simp [h0]
        have HE : Hid (Gr.inE xs n (j + 1) = L) := Lib.hid (by rw [HA.out, if_neg h0, List.append_nil])
        clear h0
        go_wp2_with fail
        go_roundw
        case rel => exact ⟨j + 1, by omega, by go_num, Lib.hid (by rw [HE.out, HLl.out]; exact own_keep HO.out (Flow.grow_alloc _ _)), Lib.hid (HG.out.trans (Flow.grow_alloc _ _))⟩
        case measure => simp [intOf]; omega
    · have ej : j = k := by omega
      subst ej
      go_wp2_with fail
      go_ret
      exact ⟨⟨_, rfl, HO.out⟩, HG.out⟩
set_option maxRecDepth 100000 in
set_option maxHeartbeats 2000000 in
theorem graphOut_any (vp vm vn ve : Value) (n : Int) (xs : List Gr.Ed) (W : World) (hn : xs.length ≤ 1000000) (h : Gr.EsAt W ve xs) :
    Calls Try.prog 25 #[.agg #[vp, vm, vn, ve], .int .i64 n] W fun e w' => (∃ va, e = .returned va ∧ w'.ownsRow W.heap.size 3 1 va (Gr.outE xs n xs.length).length ((Gr.outE xs n xs.length).map (Value.int .i64))) ∧ Flow.Grow W w' := by
  have H := Lib.hid h
  obtain ⟨ao, ac, rfl⟩ := h.form
  clear h
  obtain ⟨k, hK⟩ : ∃ k, k = xs.length := ⟨_, rfl⟩
  have HK := Lib.hid hK
  rw [← hK] at hn H ⊢
  clear hK
  obtain ⟨i0, hi, hz0, hz1, hz2⟩ := info_parts info_intG
  have HI := Lib.hid (And.intro hi (And.intro hz0 (And.intro hz1 hz2)))
  clear hi hz0 hz1 hz2
  go_enter Try.func25, Try.ntmps25
  go_wp2_with fail
  go_loopw [5, 11] (fun va i wr => ∃ j : Nat, j ≤ k ∧ i = .int .i64 j ∧ Hid (wr.ownsRow W.heap.size 3 1 va (Gr.outE xs n j).length ((Gr.outE xs n j).map (Value.int .i64))) ∧ Hid (Flow.Grow W wr)) (fun _ i _ => k - (intOf i).toNat)
  case atStart => exact ⟨0, by omega, rfl, Lib.hid (World.ownsRow_nil _ _ _ _), Lib.hid (Flow.grow_alloc _ _)⟩
  case round =>
    obtain ⟨j, hj, rfl, HO, HG⟩ := hrel
    rename World => wr
    obtain ⟨va, hva⟩ : ∃ va, va = u5 := ⟨_, rfl⟩
    obtain ⟨oa, oc, hoa⟩ := own_form HO.out
    subst hoa
    clear hva
    by_cases hjn : j < k
    · obtain ⟨b, off, rfl, q0, q1⟩ := H.out.at (j := j) (by rw [← HK.out]; exact hjn)
      have c0 := Xm2.cell_grow HG.out q0
      have c1 := Xm2.cell_grow HG.out q1
      have HA : Hid (Gr.outE xs n (j + 1) = Gr.outE xs n j ++ if (xs.getD j (0, 0)).1 = n then [(j : Int)] else []) := Lib.hid rfl
      clear q0 q1
      have hal := Gr.outE_len xs n j
      have Hal := Lib.hid hal
      clear hal
      generalize xs.getD j (0, 0) = x at *
      obtain ⟨x0, x1⟩ := x
      simp only at c0 c1 HA
      generalize Gr.outE xs n j = L at *
      generalize hLl : L.length = m at *
      have HLl := Lib.hid hLl
      clear hLl
      by_cases h0 : x0 = n
      · have d0 : (x0 == n) = true := by simp [h0]
        have HE : Hid (Gr.outE xs n (j + 1) = L ++ [(j : Int)]) := Lib.hid (by rw [HA.out, if_pos h0])
        clear h0
        go_wp2_with (at_builtin; refine wpList_app1 (W := W) rfl _ _ 22 rfl 3 i0 (.int .i64 0) 1 8 Try.underlying22 HI.out.1 HI.out.2.1 HI.out.2.2.1 HI.out.2.2.2 rfl (by decide) _ m (L.map (Value.int .i64)) rfl (own_keep HO.out ((Flow.grow_alloc _ _).trans (Flow.grow_alloc _ _))) (HG.out.trans ((Flow.grow_alloc _ _).trans (Flow.grow_alloc _ _))) _ #[.int .i64 j] 3 rfl (hp_new2 _ _ _) rfl (by intro u hu; simp at hu; subst hu; rfl) (by have := Hal.out; omega) (by decide) ?_; intro v' w' hO hG hf _; have HO2 := Lib.hid hO; have HG2 := Lib.hid hG; obtain ⟨g', c', rfl, _⟩ := hf; clear hO hG)
        go_roundw
        case rel => exact ⟨j + 1, by omega, by go_num, Lib.hid (by rw [HE.out, List.length_append, HLl.out, List.map_append]; exact HO2.out), HG2⟩
        case measure => simp [intOf]; omega
      · have d0 : (x0 == n) = false := by simp [h0]
        have HE : Hid (Gr.outE xs n (j + 1) = L) := Lib.hid (by rw [HA.out, if_neg h0, List.append_nil])
        clear h0
        go_wp2_with fail
        go_roundw
        case rel => exact ⟨j + 1, by omega, by go_num, Lib.hid (by rw [HE.out, HLl.out]; exact own_keep HO.out (Flow.grow_alloc _ _)), Lib.hid (HG.out.trans (Flow.grow_alloc _ _))⟩
        case measure => simp [intOf]; omega
    · have ej : j = k := by omega
      subst ej
      go_wp2_with fail
      go_ret
      exact ⟨⟨_, rfl, HO.out⟩, HG.out⟩
set_option maxRecDepth 100000 in
set_option maxHeartbeats 2000000 in
theorem graphTasks_any (vp vm vn ve : Value) (xs : List Gr.Nd) (W : World) (hn : xs.length ≤ 1000000) (h : Gr.NdsAt W vn xs) :
    Calls Try.prog 42 #[.agg #[vp, vm, vn, ve]] W fun e w' => (∃ va, e = .returned va ∧ w'.ownsRow W.heap.size 3 1 va (Gr.tasks xs xs.length).length ((Gr.tasks xs xs.length).map (Value.int .i64))) ∧ Flow.Grow W w' := by
  have H := Lib.hid h
  obtain ⟨ao, ac, rfl⟩ := h.form
  clear h
  obtain ⟨k, hK⟩ : ∃ k, k = xs.length := ⟨_, rfl⟩
  have HK := Lib.hid hK
  rw [← hK] at hn H ⊢
  clear hK
  obtain ⟨i0, hi, hz0, hz1, hz2⟩ := info_parts info_intG
  have HI := Lib.hid (And.intro hi (And.intro hz0 (And.intro hz1 hz2)))
  clear hi hz0 hz1 hz2
  go_enter Try.func42, Try.ntmps42
  go_wp2_with fail
  go_loopw [3, 9] (fun va i wr => ∃ j : Nat, j ≤ k ∧ i = .int .i64 j ∧ Hid (wr.ownsRow W.heap.size 3 1 va (Gr.tasks xs j).length ((Gr.tasks xs j).map (Value.int .i64))) ∧ Hid (Flow.Grow W wr)) (fun _ i _ => k - (intOf i).toNat)
  case atStart => exact ⟨0, by omega, rfl, Lib.hid (World.ownsRow_nil _ _ _ _), Lib.hid (Flow.grow_alloc _ _)⟩
  case round =>
    obtain ⟨j, hj, rfl, HO, HG⟩ := hrel
    rename World => wr
    obtain ⟨va, hva⟩ : ∃ va, va = u3 := ⟨_, rfl⟩
    obtain ⟨oa, oc, hoa⟩ := own_form HO.out
    subst hoa
    clear hva
    by_cases hjn : j < k
    · obtain ⟨b, off, rfl, q0, q1, q2, q3, q4, q5, q6⟩ := H.out.at (j := j) (by rw [← HK.out]; exact hjn)
      have c0 := Xm2.cell_grow HG.out q0
      have c1 := Xm2.cell_grow HG.out q1
      have c2 := Xm2.cell_grow HG.out q2
      have c3 := Xm2.cell_grow HG.out q3
      have c4 := Xm2.cell_grow HG.out q4
      have c5 := Xm2.cell_grow HG.out q5
      have c6 := Xm2.cell_grow HG.out q6
      have HA : Hid (Gr.tasks xs (j + 1) = Gr.tasks xs j ++ if (xs.getD j Gr.nd0).kind = 3 then [(j : Int)] else []) := Lib.hid rfl
      clear q0 q1 q2 q3 q4 q5 q6
      have hal := Gr.tasks_len xs j
      have Hal := Lib.hid hal
      clear hal
      generalize xs.getD j Gr.nd0 = x at *
      obtain ⟨x0, x1, x2, x3, x4, x5, x6⟩ := x
      simp only at c0 c1 c2 c3 c4 c5 c6 HA
      generalize Gr.tasks xs j = L at *
      generalize hLl : L.length = m at *
      have HLl := Lib.hid hLl
      clear hLl
      by_cases h0 : x0 = 3
      · have d0 : (x0 == 3) = true := by simp [h0]
        have HE : Hid (Gr.tasks xs (j + 1) = L ++ [(j : Int)]) := Lib.hid (by rw [HA.out, if_pos h0])
        clear h0
        go_wp2_with (at_builtin; refine wpList_app1 (W := W) rfl _ _ 22 rfl 3 i0 (.int .i64 0) 1 8 Try.underlying22 HI.out.1 HI.out.2.1 HI.out.2.2.1 HI.out.2.2.2 rfl (by decide) _ m (L.map (Value.int .i64)) rfl (own_keep HO.out ((Flow.grow_alloc _ _).trans (Flow.grow_alloc _ _))) (HG.out.trans ((Flow.grow_alloc _ _).trans (Flow.grow_alloc _ _))) _ #[.int .i64 j] 3 rfl (hp_new2 _ _ _) rfl (by intro u hu; simp at hu; subst hu; rfl) (by have := Hal.out; omega) (by decide) ?_; intro v' w' hO hG hf _; have HO2 := Lib.hid hO; have HG2 := Lib.hid hG; obtain ⟨g', c', rfl, _⟩ := hf; clear hO hG)
        go_roundw
        case rel => exact ⟨j + 1, by omega, by go_num, Lib.hid (by rw [HE.out, List.length_append, HLl.out, List.map_append]; exact HO2.out), HG2⟩
        case measure => simp [intOf]; omega
      · have d0 : (x0 == 3) = false := by simp [h0]
        have HE : Hid (Gr.tasks xs (j + 1) = L) := Lib.hid (by rw [HA.out, if_neg h0, List.append_nil])
        clear h0
        go_wp2_with fail
        go_roundw
        case rel => exact ⟨j + 1, by omega, by go_num, Lib.hid (by rw [HE.out, HLl.out]; exact own_keep HO.out (Flow.grow_alloc _ _)), Lib.hid (HG.out.trans (Flow.grow_alloc _ _))⟩
        case measure => simp [intOf]; omega
    · have ej : j = k := by omega
      subst ej
      go_wp2_with fail
      go_ret
      exact ⟨⟨_, rfl, HO.out⟩, HG.out⟩
end Go.Proofs.Ytcnmaplopbbmaaa

/- guide.Ops by its contract. -/
import Derived.Test.YtepianllbfnpoaaGreatMFnd
import Derived.Deep.RegionHeld3
namespace Go.Proofs.YtepianllbfnpoaaGreat
open Go.RowKit Go.Maps
namespace Pr
/-- the two steps of an interaction -/
def op2 (ls : List Lb) (z : Int) : List Value :=
  let x := ls.getD z.toNat (0, 0, 0)
  [.int .i64 1, .int .i64 x.1, .int .i64 (find (1, z) (acts x.1 ls ls.length)), .int .i64 0, .int .i64 1, .int .i64 x.2.1, .int .i64 (find (2, z) (acts x.2.1 ls ls.length)), .int .i64 0]
def opsOf (ls : List Lb) (ws : List Int) : List Value := ws.flatMap (op2 ls)
theorem opsOf_snoc (ls : List Lb) (ws : List Int) (z : Int) : opsOf ls (ws ++ [z]) = opsOf ls ws ++ op2 ls z := by simp [opsOf]
def OpsRes (w' : World) (B : Nat) (ls : List Lb) (ws : List Int) (e : Ending) : Prop :=
  ((∃ z ∈ ws, (ls.length : Int) ≤ z) ∧ e = .returned (.tuple #[.slice none 0 0, .bool false])) ∨
  ((∀ z ∈ ws, z < ls.length) ∧ ∃ v, e = .returned (.tuple #[v, .bool true]) ∧ w'.ownsRow B 95 4 v (2 * ws.length) (opsOf ls ws))
end Pr
theorem info_op : (Tryz.prog.info? 95).map (fun i => (i.zero, i.size, i.bytes)) = some (some (.agg #[.int .i64 0, .int .i64 0, .int .i64 0, .int .i64 0]), 4, 32) := by kernel_rfl
set_option maxRecDepth 100000 in
set_option maxHeartbeats 4000000 in
theorem gops_any (L : Nat) (vp vl vw : Value) (css : List (List Value)) (ps : List Pr.Pd) (ws : List Int) (W : World) (hL : L ≤ 4) (hP : Pr.PeersAt W vp (Pr.labsL L) css ps) (hLs : Pr.LsAt W vl (Pr.labsL L)) (hw : Ints W vw ws) (hw0 : ∀ z ∈ ws, 0 ≤ z) (hwn : ws.length ≤ 9) :
    Calls Tryz.prog 39 #[vp, vl, vw] W fun e w' => Pr.OpsRes w' W.heap.size (Pr.labsL L) ws e ∧ Flow.Grow W w' := by
  have HP := Lib.hid hP
  have HLs := Lib.hid hLs
  have HW := Lib.hid hw
  have HW0 := Lib.hid hw0
  obtain ⟨pb, po, pc, rfl, _, hpa⟩ := hP.at_
  have HPA := Lib.hid hpa
  clear hpa
  have hll := Pr.labsL_len hL
  obtain ⟨al, cl, rfl, _⟩ := id hLs
  obtain ⟨aw, cw, rfl, _⟩ := id hw
  rw [hll] at HLs ⊢
  have Hll := Lib.hid hll
  obtain ⟨n, hn⟩ : ∃ n, n = ws.length := ⟨_, rfl⟩
  have Hn := Lib.hid hn
  rw [← hn] at HW hwn ⊢
  clear hP hLs hw hw0 hll hn
  obtain ⟨i0, hi, hz0, hz1, hz2⟩ := info_parts info_op
  go_enter Tryz.func39, Tryz.ntmps39
  go_wp2_with fail
  go_loopw [8, 16] (fun ov i wr => ∃ j : Nat, j ≤ n ∧ i = .int .i64 j ∧ Hid (∀ z ∈ ws.take j, z < L) ∧ Hid (wr.ownsRow W.heap.size 95 4 ov (2 * j) (Pr.opsOf (Pr.labsL L) (ws.take j))) ∧ Hid (Flow.Grow W wr)) (fun _ i _ => n - (intOf i).toNat)
  case atStart => exact ⟨0, by omega, rfl, Lib.hid (by simp), Lib.hid (World.ownsRow_nil _ _ _ _), Lib.hid (Flow.grow_refl _)⟩
  case round =>
    obtain ⟨j, hj, rfl, HA, HO, HG⟩ := hrel
    rename World => wo
    obtain ⟨vq, hvq⟩ : ∃ v, v = u8 := ⟨_, rfl⟩
    obtain ⟨oa, oc, hoa⟩ := own_form HO.out
    subst hoa
    clear hvq
    by_cases hjn : j < n
    · have hjw : j < ws.length := by rw [← Hn.out]; exact hjn
      obtain ⟨wb, wf, rfl, q0⟩ := ints_at (HW.out.grow HG.out) (j := j) hjw
      have hz := HW0.out (ws.getD j 0) (getD_mem hjw)
      obtain ⟨z, hzz⟩ : ∃ z, z = ws.getD j 0 := ⟨_, rfl⟩
      have Hz : Hid (ws.take (j + 1) = ws.take j ++ [z] ∧ z ∈ ws) := Lib.hid ⟨by rw [hzz, List.take_add_one, List.getD_eq_getElem?_getD, List.getElem?_eq_getElem hjw]; rfl, by rw [hzz]; exact getD_mem hjw⟩
      rw [← hzz] at q0 hz
      clear hzz hjw
      obtain ⟨q, rfl⟩ : ∃ q : Nat, z = (q : Int) := ⟨z.toNat, by omega⟩
      clear hz
      by_cases hqL : L ≤ q
      · have d1 : decide ((q : Int) ≥ (L : Int)) = true := by simp; omega
        have d1n : decide (L ≤ q) = true := by simp; omega
        go_wp2_with fail
        go_ret2
        exact ⟨.inl ⟨⟨(q : Int), Hz.out.2, by rw [Hll.out]; omega⟩, rfl⟩, HG.out⟩
      · have d1 : decide ((q : Int) ≥ (L : Int)) = false := by simp; omega
        have d1n : decide (L ≤ q) = false := by simp; omega
        have hq : q < L := by omega
        obtain ⟨f, t, m, hl, hf3, ht3, hft⟩ := Pr.labsL_parts L q hL hq
        obtain ⟨lb, lo, rfl, y0, y1, y2⟩ := (HLs.out.grow HG.out).at (j := q) (by rw [Hll.out]; exact hq)
        rw [hl] at y0 y1 y2
        simp only at y0 y1 y2
        obtain ⟨fi, hfi1, hfi2, hfi3⟩ := Pr.find_send (by rw [Hll.out]; exact hq) hl
        obtain ⟨ti, hti1, hti2, hti3⟩ := Pr.find_take (by rw [Hll.out]; exact hq) hl hft
        have HOp2 : Hid (Pr.op2 (Pr.labsL L) (q : Int) = [.int .i64 1, .int .i64 (f : Int), .int .i64 (fi : Int), .int .i64 0, .int .i64 1, .int .i64 (t : Int), .int .i64 (ti : Int), .int .i64 0]) := Lib.hid (by
          simp only [Pr.op2, Int.toNat_natCast]
          rw [hl]
          simp only
          rw [hfi2, hti2])
        have a1 : decide ((f : Int) < 0) = false := by simp
        have a2 : decide ((f : Int) ≥ 3) = false := by simp; omega
        have a2n : decide (3 ≤ f) = false := by simp; omega
        have b1 : decide ((t : Int) < 0) = false := by simp
        have b2 : decide ((t : Int) ≥ 3) = false := by simp; omega
        have b2n : decide (3 ≤ t) = false := by simp; omega
        go_upto_region 10 with fail
        have HY : Hid (Flow.Grow wo (wo.alloc (.cells #[.int .i64 (f : Int), .int .i64 (t : Int), .int .i64 m] 97))) := Lib.hid (Flow.grow_alloc _ _)
        have HYb : Hid ((wo.alloc (.cells #[.int .i64 (f : Int), .int .i64 (t : Int), .int .i64 m] 97)).heap[wo.heap.size]? = some (.cells #[.int .i64 (f : Int), .int .i64 (t : Int), .int .i64 m] 97 (0, 0))) := Lib.hid (heap_alloc_new _ _)
        generalize wo.alloc (.cells #[.int .i64 (f : Int), .int .i64 (t : Int), .int .i64 m] 97) = w3 at *
        obtain ⟨Y, hY⟩ : ∃ Y, Y = wo.heap.size := ⟨_, rfl⟩
        rw [← hY] at HYb ⊢
        clear hY y0 y1 y2
        have HGw : Hid (Flow.Grow W w3) := Lib.hid (HG.out.trans HY.out)
        obtain ⟨fva, fvf, fvn, fp, hfp, f0, f1, f2, f3, f4, f5, f6, f7, f8, f9⟩ := HPA.out f hf3
        obtain ⟨tva, tvf, tvn, tp, htp, t0, t1, t2, t3, t4, t5, t6, t7, t8, t9⟩ := HPA.out t ht3
        have hfl : fp.acts.length ≤ 1000000 := by rw [f9.acts]; have := Pr.acts_len f (Pr.labsL L) (Pr.labsL L).length; have := Hll.out; omega
        have htl : tp.acts.length ≤ 1000000 := by rw [t9.acts]; have := Pr.acts_len t (Pr.labsL L) (Pr.labsL L).length; have := Hll.out; omega
        have HFf : Hid (∀ wq, Flow.Grow w3 wq → Calls Tryz.prog 87 #[.agg #[.int .i64 (f : Int), fva, .int .i64 (fp.acts.length : Nat), .int .i64 0, fvf, fvn], .agg #[.int .i64 1, .int .i64 (q : Int)]] wq fun e w' => e = .returned (.int .i64 (fi : Int)) ∧ Flow.Grow wq w') := Lib.hid (fun wq g => by
          obtain ⟨a, c, e, _⟩ := id f7
          have h := find_any (f : Int) (fp.acts.length : Nat) fva fvf fvn fp.acts 1 (q : Int) wq hfl ⟨a, _, c, e⟩ f8.form3 (Seg.grow f6 (HGw.out.trans g))
          rw [show Pr.find (1, (q : Int)) fp.acts = (fi : Int) by rw [f9.acts]; exact hfi2] at h
          exact h)
        have HTt : Hid (∀ wq, Flow.Grow w3 wq → Calls Tryz.prog 87 #[.agg #[.int .i64 (t : Int), tva, .int .i64 (tp.acts.length : Nat), .int .i64 0, tvf, tvn], .agg #[.int .i64 2, .int .i64 (q : Int)]] wq fun e w' => e = .returned (.int .i64 (ti : Int)) ∧ Flow.Grow wq w') := Lib.hid (fun wq g => by
          obtain ⟨a, c, e, _⟩ := id t7
          have h := find_any (t : Int) (tp.acts.length : Nat) tva tvf tvn tp.acts 2 (q : Int) wq htl ⟨a, _, c, e⟩ t8.form3 (Seg.grow t6 (HGw.out.trans g))
          rw [show Pr.find (2, (q : Int)) tp.acts = (ti : Int) by rw [t9.acts]; exact hti2] at h
          exact h)
        obtain ⟨a3, c3', hfva, _⟩ := id f6
        obtain ⟨a4, c4', hfvf, _⟩ := id f7
        obtain ⟨a5, c5', hfvn⟩ := f8.val
        obtain ⟨b3, e3', htva, _⟩ := id t6
        obtain ⟨b4, e4', htvf, _⟩ := id t7
        obtain ⟨b5, e5', htvn⟩ := t8.val
        subst hfva hfvf hfvn htva htvf htvn
        have HK : Hid (∀ wq, Flow.Grow w3 wq → wq.cell? ⟨Y, 0, none⟩ = some (.int .i64 (f : Int)) ∧ wq.cell? ⟨Y, 1, none⟩ = some (.int .i64 (t : Int))) := Lib.hid (fun wq g => by
          have hb : wq.heap[Y]? = _ := (g.block _ (Array.getElem?_eq_some_iff.1 HYb.out).1 (by simp)).trans HYb.out
          exact ⟨(cell_of_row wq _ 0 _ _ _ hb).trans rfl, (cell_of_row wq _ 1 _ _ _ hb).trans rfl⟩)
        generalize fp.acts.length = fK at *
        generalize fp.fin.length = fF at *
        generalize fp.rows.length = fN at *
        generalize tp.acts.length = tK at *
        generalize tp.fin.length = tF at *
        generalize tp.rows.length = tN at *
        have HS : Hid (∀ wq, Flow.Grow w3 wq → wq.cell? ⟨pb, po + f * 6, none⟩ = some (.int .i64 (f : Int)) ∧ wq.cell? ⟨pb, po + f * 6 + 1, none⟩ = some (.slice a3 fK c3') ∧ wq.cell? ⟨pb, po + f * 6 + 2, none⟩ = some (.int .i64 (fK : Nat)) ∧ wq.cell? ⟨pb, po + f * 6 + 3, none⟩ = some (.int .i64 0) ∧ wq.cell? ⟨pb, po + f * 6 + 4, none⟩ = some (.slice a4 fF c4') ∧ wq.cell? ⟨pb, po + f * 6 + 5, none⟩ = some (.slice a5 fN c5') ∧ wq.cell? ⟨pb, po + t * 6, none⟩ = some (.int .i64 (t : Int)) ∧ wq.cell? ⟨pb, po + t * 6 + 1, none⟩ = some (.slice b3 tK e3') ∧ wq.cell? ⟨pb, po + t * 6 + 2, none⟩ = some (.int .i64 (tK : Nat)) ∧ wq.cell? ⟨pb, po + t * 6 + 3, none⟩ = some (.int .i64 0) ∧ wq.cell? ⟨pb, po + t * 6 + 4, none⟩ = some (.slice b4 tF e4') ∧ wq.cell? ⟨pb, po + t * 6 + 5, none⟩ = some (.slice b5 tN e5') ∧ wq.cell? ⟨Y, 0, none⟩ = some (.int .i64 (f : Int)) ∧ wq.cell? ⟨Y, 1, none⟩ = some (.int .i64 (t : Int))) := Lib.hid (fun wq g => by
          have gg := HGw.out.trans g
          exact ⟨Xm2.cell_grow gg f0, Xm2.cell_grow gg f1, Xm2.cell_grow gg f2, Xm2.cell_grow gg f3, Xm2.cell_grow gg f4, Xm2.cell_grow gg f5, Xm2.cell_grow gg t0, Xm2.cell_grow gg t1, Xm2.cell_grow gg t2, Xm2.cell_grow gg t3, Xm2.cell_grow gg t4, Xm2.cell_grow gg t5, (HK.out wq g).1, (HK.out wq g).2⟩)
        have Hq1 := Lib.hid hfi1
        have Hq2 := Lib.hid hti1
        have Hl := Lib.hid hl
        clear f0 f1 f2 f3 f4 f5 f6 f7 f8 f9 t0 t1 t2 t3 t4 t5 t6 t7 t8 t9 hfp htp hfl htl hfi1 hti1 hfi2 hti2 hfi3 hti3 hl q0
        have g1 : (0 : Int) ≤ (f : Int) := by omega
        have g2 : (f : Int) < 3 := by omega
        have g3 : (f : Int) < ((3 : Nat) : Int) := by omega
        have g4 : ¬ (3 : Int) ≤ (f : Int) := by omega
        have g5 : (0 : Int) ≤ (t : Int) := by omega
        have g6 : (t : Int) < 3 := by omega
        have g7 : (t : Int) < ((3 : Nat) : Int) := by omega
        have g8 : ¬ (3 : Int) ≤ (t : Int) := by omega
        go_region_held3 (fun wq => wq.cell? ⟨pb, po + f * 6, none⟩ = some (.int .i64 (f : Int)) ∧ wq.cell? ⟨pb, po + f * 6 + 1, none⟩ = some (.slice a3 fK c3') ∧ wq.cell? ⟨pb, po + f * 6 + 2, none⟩ = some (.int .i64 (fK : Nat)) ∧ wq.cell? ⟨pb, po + f * 6 + 3, none⟩ = some (.int .i64 0) ∧ wq.cell? ⟨pb, po + f * 6 + 4, none⟩ = some (.slice a4 fF c4') ∧ wq.cell? ⟨pb, po + f * 6 + 5, none⟩ = some (.slice a5 fN c5') ∧ wq.cell? ⟨pb, po + t * 6, none⟩ = some (.int .i64 (t : Int)) ∧ wq.cell? ⟨pb, po + t * 6 + 1, none⟩ = some (.slice b3 tK e3') ∧ wq.cell? ⟨pb, po + t * 6 + 2, none⟩ = some (.int .i64 (tK : Nat)) ∧ wq.cell? ⟨pb, po + t * 6 + 3, none⟩ = some (.int .i64 0) ∧ wq.cell? ⟨pb, po + t * 6 + 4, none⟩ = some (.slice b4 tF e4') ∧ wq.cell? ⟨pb, po + t * 6 + 5, none⟩ = some (.slice b5 tN e5') ∧ wq.cell? ⟨Y, 0, none⟩ = some (.int .i64 (f : Int)) ∧ wq.cell? ⟨Y, 1, none⟩ = some (.int .i64 (t : Int)))
          (first
            | (with_reducible exact HS.out _ (Flow.grow_refl _))
            | (with_reducible exact HS.out _ (Flow.grow_drew _))
            | (with_reducible exact HS.out _ ((Flow.grow_drew _).trans Ga.out))
            | (with_reducible exact HS.out _ ((Flow.grow_drew _).trans Gb.out))
            | (with_reducible exact HS.out _ (((Flow.grow_drew _).trans Ga.out).trans Gc.out))
            | (with_reducible exact HS.out _ (((Flow.grow_drew _).trans Gb.out).trans Gc.out)))
          (first
            | (have hm := Ga; clear hm; go_at_call 87; refine (HTt.out _ ((Flow.grow_drew _).trans Ga.out)).mono ?_; rintro e wc ⟨rfl, hg⟩; have Gc := Lib.hid hg; clear hg)
            | (have hm := Gb; clear hm; go_at_call 87; refine (HFf.out _ ((Flow.grow_drew _).trans Gb.out)).mono ?_; rintro e wc ⟨rfl, hg⟩; have Gc := Lib.hid hg; clear hg)
            | (go_at_call 87; refine (HFf.out _ (Flow.grow_drew _)).mono ?_; rintro e wa ⟨rfl, hg⟩; have Ga := Lib.hid hg; clear hg)
            | (go_at_call 87; refine (HTt.out _ (Flow.grow_drew _)).mono ?_; rintro e wa ⟨rfl, hg⟩; have Gb := Lib.hid hg; clear hg))
        all_goals
          first
            | (have Gd : Hid (Flow.Grow w3 wc) := Lib.hid (((Flow.grow_drew _).trans Ga.out).trans Gc.out))
            | (have Gd : Hid (Flow.Grow w3 wc) := Lib.hid (((Flow.grow_drew _).trans Gb.out).trans Gc.out))
          try clear Ga
          try clear Gb
          clear Gc
          obtain ⟨_, _, _, _, _, _, _, _, _, _, _, _, x0, x1⟩ := HS.out wc Gd.out
          have x2 : decide ((fi : Int) < 0) = false := by simp
          have x3 : decide ((ti : Int) < 0) = false := by simp
          have HOw : Hid (wc.ownsRow W.heap.size 95 4 (.slice oa (2 * j) oc) (2 * j) (Pr.opsOf (Pr.labsL L) (ws.take j))) := Lib.hid (own_keep HO.out (HY.out.trans Gd.out))
          go_wp2_with (at_builtin; refine wpList_append_lies (P := Tryz.prog) _ rfl _ _ 89 rfl W.heap.size 95 i0 _ 4 32 Tryz.underlying89 hi hz0 hz1 hz2 rfl (by decide) (.slice oa (2 * j) oc) (2 * j) (Pr.opsOf (Pr.labsL L) (ws.take j)) rfl (own_keep HOw.out (Flow.grow_alloc _ _)) ⟨wc.heap.size, 0, none⟩ 2 2 [.int .i64 1, .int .i64 (f : Int), .int .i64 (fi : Int), .int .i64 0, .int .i64 1, .int .i64 (t : Int), .int .i64 (ti : Int), .int .i64 0] rfl rfl ?n1 ?n2 (by decide) (by unfold maxLen; omega) (by omega) (by have h1 := (HGw.out.trans Gd.out).size; simp; omega) _ rfl ?n3)
          case n1 =>
            intro k u hk
            have hb := heap_alloc_new wc (.cells #[.int .i64 1, .int .i64 (f : Int), .int .i64 (fi : Int), .int .i64 0, .int .i64 1, .int .i64 (t : Int), .int .i64 (ti : Int), .int .i64 0] 95)
            rw [Addr.add_lit, Nat.zero_add]
            exact (cell_of_row _ _ k _ _ _ hb).trans (by rw [← hk]; exact Array.getElem?_toList.symm)
          case n2 => intro u hu; simp at hu; rcases hu with rfl | rfl | rfl | rfl | rfl | rfl | rfl | rfl <;> rfl
          intro g cap w5 h2 h3 h4 h5
          have HO5 := Lib.hid h2
          have HG5 : Hid (Flow.Grow W w5) := Lib.hid (grow_row ((HGw.out.trans Gd.out).trans (Flow.grow_alloc _ _)) h3 (fun b e => (HOw.out.lt b e).1))
          clear h2 h3 h4 h5 HOw HO x0 x1
          go_wp2_with fail
          go_roundw
          case rel => exact ⟨j + 1, by omega, by go_num, Lib.hid (by
              rw [Hz.out.1]
              intro z hz
              rcases List.mem_append.1 hz with h | h
              · exact HA.out z h
              · simp only [List.mem_singleton] at h; subst h; omega), Lib.hid (by
              rw [Hz.out.1, Pr.opsOf_snoc, HOp2.out]
              exact HO5.out), HG5⟩
          case measure => simp [intOf]; omega
    · obtain rfl : n = j := by omega
      go_wp2_with fail
      go_ret2
      have e : ws.take n = ws := by rw [Hn.out]; exact List.take_length
      refine ⟨.inr ⟨fun z hz => by rw [Hll.out]; exact HA.out z (by rw [e]; exact hz), _, rfl, ?_⟩, HG.out⟩
      have := HO.out
      rw [e] at this
      rw [← Hn.out]
      exact this
end Go.Proofs.YtepianllbfnpoaaGreat

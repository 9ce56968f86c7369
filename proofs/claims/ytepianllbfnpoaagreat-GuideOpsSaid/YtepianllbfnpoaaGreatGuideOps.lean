/- galliardlaw45.GuideOps returns true. -/
import Derived.Test.YtepianllbfnpoaaGreatGOps
import Derived.Test.YtepianllbfnpoaaGreatAwake45
import Derived.Test.YtepianllbfnpoaaGreatMBase
import Derived.Test.YtepianllbfnpoaaGreatMFlow
import Derived.Deep.DeepCutAuto
namespace Go.Proofs.YtepianllbfnpoaaGreat
open Go.RowKit Go.Maps
theorem hp3_0 (w : World) (x y z : Obj) : (((w.alloc x).alloc y).alloc z).drew.heap[w.heap.size]? = some x := by
  show (((w.alloc x).alloc y).alloc z).heap[w.heap.size]? = some x
  rw [Below.heap_alloc _ _ _ (by simp; omega), Below.heap_alloc _ _ _ (by simp)]
  exact heap_alloc_new _ _
theorem hp3_1 (w : World) (x y z : Obj) : (((w.alloc x).alloc y).alloc z).drew.heap[w.heap.size + 1]? = some y := by
  show (((w.alloc x).alloc y).alloc z).heap[w.heap.size + 1]? = some y
  rw [Below.heap_alloc _ _ _ (by simp)]
  exact hp_new2 _ _ _
theorem hp3_2 (w : World) (x y z : Obj) : (((w.alloc x).alloc y).alloc z).drew.heap[w.heap.size + 1 + 1]? = some z := by
  show (((w.alloc x).alloc y).alloc z).heap[w.heap.size + 1 + 1]? = some z
  have h := heap_alloc_new ((w.alloc x).alloc y) z
  simpa using h
/-- a pointer to an object's head leads to one that is there -/
def Pr.OldV (w : World) (v : Value) : Prop := ∀ A, v = Flow.pt A → A < w.heap.size
theorem Pr.oldV_of {w w' : World} {A : Nat} {o : Obj} (h : w.heap[A]? = some o) (g : Flow.Grow w w') : Pr.OldV w' (.pointer (some ⟨A, 0, none⟩)) := fun B e => by
  have := Flow.pt_inj (show Flow.pt A = Flow.pt B from e)
  have h1 := (Array.getElem?_eq_some_iff.1 h).1
  have := g.size
  omega
theorem info_label : (Tryz.prog.info? 97).map (fun i => (i.zero, i.size, i.bytes)) = some (some (.agg #[.int .i64 0, .int .i64 0, .int .i64 0]), 3, 24) := by kernel_rfl
theorem ends_v {Q : Exit → Act → World → Prop} {o : Oper} {l : List Oper} {c : Value} {F : List Flow.Fact} {a : Act} {w : World} (h : Flow.ends Q l F (a.put o.dst c) w) : Flow.ends Q (o :: l) (.inl c :: F) a w := h
theorem ends_nil {Q : Exit → Act → World → Prop} {F : List Flow.Fact} {a : Act} {w : World} (h : Q .normal a w) : Flow.ends Q [] F a w := by
  cases F <;> exact h
namespace Pr
/-- the word's first letters, and whether they are letters -/
def w7 (ws : List Int) (j : Nat) : List Int := (ws.take j).map (· % 8)
def mayB (L : Nat) (ws : List Int) (j : Nat) : Bool := (w7 ws j).all fun z => decide (z < L)
theorem w7_snoc {ws : List Int} {j : Nat} (h : j < ws.length) : w7 ws (j + 1) = w7 ws j ++ [ws.getD j 0 % 8] := by
  rw [w7, w7, List.take_add_one, List.getD_eq_getElem?_getD, List.getElem?_eq_getElem h, List.map_append]
  rfl
theorem mayB_snoc {L : Nat} {ws : List Int} {j : Nat} (h : j < ws.length) : mayB L ws (j + 1) = (mayB L ws j && decide (ws.getD j 0 % 8 < L)) := by
  rw [mayB, w7_snoc h]
  simp [mayB]
theorem op2_len (ls : List Lb) (z : Int) : (op2 ls z).length = 8 := rfl
theorem opsOf_get {ls : List Lb} {us : List Int} {i k : Nat} (hi : i < us.length) (hk : k < 8) : (opsOf ls us)[i * 8 + k]? = (op2 ls (us.getD i 0))[k]? := by
  have h := flatten_get (n := 8) (us.map (op2 ls)) (fun c hc => by obtain ⟨z, _, rfl⟩ := List.mem_map.1 hc; exact op2_len ls z) i k (by simpa using hi) hk
  rw [opsOf, List.flatMap_def, h]
  simp [List.getD_eq_getElem?_getD, hi]
theorem w7_len {ws : List Int} {j : Nat} (h : j ≤ ws.length) : (w7 ws j).length = j := by simp [w7]; omega
theorem w7_nn (ws : List Int) (j : Nat) : ∀ z ∈ w7 ws j, 0 ≤ z := by
  intro z hz
  simp only [w7, List.mem_map] at hz
  obtain ⟨x, _, rfl⟩ := hz
  omega
end Pr
theorem any_P (v : Value) (zs : List Int) (fin s0 s1 : Int) (n : Nat) (W : World) (hn : n ≤ 9223372036854775807) (h : Seg 3 W v n (zs.map (Value.int .i64))) :
    Calls Tryz.prog 10 #[v, .int .i64 fin, .agg #[.int .i64 s0, .int .i64 s1]] W (Pr.AnyP (Ref18.labels s0) W) := (any23 v zs fin s0 s1 n W hn h).mono fun _ _ h => Pr.any_peers h
set_option maxRecDepth 100000 in
set_option maxHeartbeats 4000000 in
theorem guideOps_walk (v : Value) (zs : List Int) (n : Nat) (n0 n1 n2 : Int) (vw : Value) (ws : List Int) (W : World) (hn : n ≤ 9223372036854775807) (h : Seg 3 W v n (zs.map (Value.int .i64))) (hw : Ints W vw ws) (hwn : ws.length ≤ 9223372036854775807) :
    Calls Tryz.prog 9 #[v, .agg #[.int .i64 n0, .int .i64 n1, .int .i64 n2], vw] W fun e w' => e = .returned (.bool true) ∧ Flow.Grow W w' := by
  have HZ := Lib.hid h
  have HW := Lib.hid hw
  obtain ⟨av, cv, rfl, _⟩ := id h
  obtain ⟨aw, cw, rfl, _⟩ := id hw
  clear h hw
  obtain ⟨p, hp⟩ : ∃ p, p = ws.length := ⟨_, rfl⟩
  have Hp := Lib.hid hp
  rw [← hp] at HW hwn ⊢
  clear hp
  have hand : ∀ x : Int, bits .and .i64 x 7 = x % 8 := fun x => by
    have := Bits.i64_mask x 3 (by omega) 7 (by decide)
    rwa [show (2 : Int) ^ 3 = 8 by decide] at this
  obtain ⟨i2, hi2, hx0, hx1, hx2⟩ := info_parts info_int
  obtain ⟨io, hio, oz0, oz1, _⟩ := info_parts info_op
  obtain ⟨ib, hib, bz0, bz1, _⟩ := info_parts info_label
  go_enter Tryz.func9, Tryz.ntmps9
  go_upto_region 1 with fail
  have HB0 : Hid ((W.alloc (.cells #[.int .i64 n0, .int .i64 n1, .int .i64 n2] 38)).heap[W.heap.size]? = some (.cells #[.int .i64 n0, .int .i64 n1, .int .i64 n2] 38 (0, 0))) := Lib.hid (heap_alloc_new _ _)
  have HG0 : Hid (Flow.Grow W (W.alloc (.cells #[.int .i64 n0, .int .i64 n1, .int .i64 n2] 38))) := Lib.hid (Flow.grow_alloc _ _)
  generalize W.alloc (.cells #[.int .i64 n0, .int .i64 n1, .int .i64 n2] 38) = w1 at *
  obtain ⟨X, hX⟩ : ∃ X, X = W.heap.size := ⟨_, rfl⟩
  rw [← hX] at HB0 ⊢
  clear hX
  have c0 := (cell_of_row w1 X 0 _ _ _ HB0.out).trans rfl
  have c1 := (cell_of_row w1 X 1 _ _ _ HB0.out).trans rfl
  have HAny : Hid (∀ fin, Calls Tryz.prog 10 #[.slice av n cv, .int .i64 fin, .agg #[.int .i64 n0, .int .i64 n1]] w1 (Pr.AnyP (Ref18.labels n0) w1)) := Lib.hid (fun fin => any_P _ zs fin n0 n1 n w1 hn (Seg.grow HZ.out HG0.out))
  generalize Ref18.labels n0 = L at *
  go_upto_region 2 with (go_at_call 10; refine (HAny.out _).mono ?_; rintro e w2 ⟨S, af, an, al, k, cf, cn, cl, rfl, hL, hls, hg, hpe⟩; have HLs := Lib.hid hls; have HG2 := Lib.hid hg; have HPe := Lib.hid hpe; clear hls hg hpe)
  have HGa : Hid (Flow.Grow w2 (w2.alloc (.cells #[.int .i64 (L : Int), .int .i64 (S : Int), .slice af k cf, .slice an k cn] 27))) := Lib.hid (Flow.grow_alloc _ _)
  have HDb : Hid ((w2.alloc (.cells #[.int .i64 (L : Int), .int .i64 (S : Int), .slice af k cf, .slice an k cn] 27)).heap[w2.heap.size]? = some (.cells #[.int .i64 (L : Int), .int .i64 (S : Int), .slice af k cf, .slice an k cn] 27 (0, 0))) := Lib.hid (heap_alloc_new _ _)
  generalize w2.alloc (.cells #[.int .i64 (L : Int), .int .i64 (S : Int), .slice af k cf, .slice an k cn] 27) = w3 at *
  have d0 := (cell_of_row w3 _ 0 _ _ _ HDb.out).trans rfl
  have d1 := (cell_of_row w3 _ 1 _ _ _ HDb.out).trans rfl
  have d2 := (cell_of_row w3 _ 2 _ _ _ HDb.out).trans rfl
  have d3 := (cell_of_row w3 _ 3 _ _ _ HDb.out).trans rfl
  have HPw := Lib.hid (HPe.out w3 HGa.out)
  go_upto_region 3 with (go_at_call 11; refine HPw.out.mono ?_; rintro e w4 ⟨hr, hg⟩; have HG4 := Lib.hid (HGa.out.trans hg); clear hg; rcases hr with rfl | ⟨vp, css, ps, rfl, hpa⟩)
  · clear c0 c1 d0 d1 d2 d3
    go_wp2_with (go_at_call 38; refine (awake45 _).mono ?_; rintro e w5 ⟨rfl, hg⟩; have HG5 := Lib.hid hg; clear hg)
    go_ret
    exact ⟨rfl, HG0.out.trans (HG2.out.trans (HG4.out.trans HG5.out))⟩
  · have HPa := Lib.hid hpa
    obtain ⟨pb, po, pc, rfl, _, _⟩ := hpa.at_
    clear hpa c0 c1 d0 d1 d2 d3
    have HGw : Hid (Flow.Grow W w4) := Lib.hid (HG0.out.trans (HG2.out.trans HG4.out))
    have HLs4 := Lib.hid (HLs.out.grow HG4.out)
    go_upto_region 6 with fail
    have HE : Hid ((w4.alloc (.cells #[] 3)).heap[w4.heap.size]? = some (.cells #[] 3 (0, 0))) := Lib.hid (heap_alloc_new _ _)
    have HO0 : Hid ((w4.alloc (.cells #[] 3)).ownsRow w4.heap.size 3 1 (.slice (some ⟨w4.heap.size, 0, none⟩) 0 0) 0 []) := Lib.hid ⟨rfl, .inr ⟨w4.heap.size, 0, #[], rfl, Nat.le_refl _, HE.out, Nat.le_refl _, by decide, rfl, rfl⟩⟩
    have HGe : Hid (Flow.Grow w4 (w4.alloc (.cells #[] 3))) := Lib.hid (Flow.grow_alloc _ _)
    generalize w4.alloc (.cells #[] 3) = w5 at *
    clear HE
    go_wp2_with fail
    go_loopw [11, 12, 13] (fun ov mv i wr => ∃ j : Nat, j ≤ p ∧ j ≤ 9 ∧ i = .int .i64 j ∧ mv = .bool (Pr.mayB L ws j) ∧ Hid (wr.ownsRow w4.heap.size 3 1 ov j ((Pr.w7 ws j).map (Value.int .i64))) ∧ Hid (Flow.Grow w4 wr)) (fun _ _ i _ => 10 - (intOf i).toNat)
    case atStart => exact ⟨0, by omega, by omega, rfl, rfl, HO0, HGe⟩
    case round =>
      clear HO0 HGe
      obtain ⟨j, hjp, hj9, rfl, rfl, HO, HG⟩ := hrel
      rename World => wr
      obtain ⟨vq, hvq⟩ : ∃ v, v = u11 := ⟨_, rfl⟩
      obtain ⟨oa, oc, hoa⟩ := own_form HO.out
      subst hoa
      clear hvq
      go_upto_region 7 with fail
      go_cut [50] from 43 to 71 (fun v50 wx => v50 = .bool (decide (j < p ∧ j < 9)) ∧ wx = wr)
      case first =>
        by_cases h1 : j < p
        · have hd1 : decide ((j : Int) < (p : Int)) = true := by simp; omega
          by_cases h9 : j < 9
          · have hd2 : decide ((j : Int) < 9) = true := by simp; omega
            go_wp2_with fail
            go_meet
            case rel => exact ⟨by rw [decide_eq_true (⟨h1, h9⟩ : j < p ∧ j < 9)], rfl⟩
          · have hd2 : decide ((j : Int) < 9) = false := by simp; omega
            go_wp2_with fail
            go_meet
            case rel => exact ⟨by rw [decide_eq_false (fun h : j < p ∧ j < 9 => h9 h.2)], rfl⟩
        · have hd1 : decide ((j : Int) < (p : Int)) = false := by simp; omega
          go_wp2_with fail
          go_meet
          case rel => exact ⟨by rw [decide_eq_false (fun h : j < p ∧ j < 9 => h1 h.1)], rfl⟩
      case rest =>
        obtain ⟨rfl, hwx⟩ := hcut
        have hwx := hwx.symm
        subst hwx
        by_cases hlt : j < p ∧ j < 9
        · have hd : decide (j < p ∧ j < 9) = true := decide_eq_true hlt
          rw [hd]
          obtain ⟨hjp', hj9'⟩ := hlt
          have hjl : j < ws.length := by rw [← Hp.out]; exact hjp'
          obtain ⟨wb, wf, rfl, q4⟩ := ints_at (HW.out.grow HGw.out) (j := j) hjl
          have HQ : Hid (∀ wq, Flow.Grow w4 wq → wq.cell? ⟨wb, wf + j, none⟩ = some (.int .i64 (ws.getD j 0))) := Lib.hid (fun wq g => Xm2.cell_grow g q4)
          have q0 := HQ.out wr HG.out
          clear q4
          have HS := Lib.hid (Pr.w7_snoc hjl)
          have HM := Lib.hid (Pr.mayB_snoc (L := L) hjl)
          clear hjl
          generalize ws.getD j 0 = z at *
          have hand' := hand z
          have hw4 : w4.heap.size ≤ wr.heap.size := HG.out.size
          cases hm : Pr.mayB L ws j with
          | true =>
            rw [hm] at HM
            clear hm
            go_upto_region 10 with (at_builtin; refine wpList_app1 (W := w4) rfl _ _ 49 rfl 3 i2 _ 1 8 Tryz.underlying49 hi2 hx0 hx1 hx2 rfl (by decide) (.slice oa j oc) j _ rfl (own_keep HO.out (Flow.grow_alloc _ _)) (HG.out.trans (Flow.grow_alloc _ _)) _ #[.int .i64 (z % 8)] 3 rfl (heap_alloc_new _ _) rfl (by intro u hu; simp at hu; subst hu; rfl) (by omega) (by decide) ?_; intro v' w' hO hGw hf hk; have HO2 := Lib.hid hO; have HG5 := Lib.hid hGw; obtain ⟨g, c', rfl, _⟩ := hf; clear hO hGw hk)
            clear q0
            have q0 := HQ.out w' HG5.out
            go_wp2_with fail
            go_roundw
            case rel => exact ⟨j + 1, by omega, by omega, by go_num, by rw [HM.out]; simp, Lib.hid (by rw [HS.out, List.map_append]; exact HO2.out), HG5⟩
            case measure => simp [intOf]; omega
          | false =>
            rw [hm] at HM
            clear hm
            go_upto_region 10 with (at_builtin; refine wpList_app1 (W := w4) rfl _ _ 49 rfl 3 i2 _ 1 8 Tryz.underlying49 hi2 hx0 hx1 hx2 rfl (by decide) (.slice oa j oc) j _ rfl (own_keep HO.out (Flow.grow_alloc _ _)) (HG.out.trans (Flow.grow_alloc _ _)) _ #[.int .i64 (z % 8)] 3 rfl (heap_alloc_new _ _) rfl (by intro u hu; simp at hu; subst hu; rfl) (by omega) (by decide) ?_; intro v' w' hO hGw hf hk; have HO2 := Lib.hid hO; have HG5 := Lib.hid hGw; obtain ⟨g, c', rfl, _⟩ := hf; clear hO hGw hk)
            clear q0
            have q0 := HQ.out w' HG5.out
            clear q0
            go_wp2_with fail
            go_roundw
            case rel => exact ⟨j + 1, by omega, by omega, by go_num, by rw [HM.out]; simp, Lib.hid (by rw [HS.out, List.map_append]; exact HO2.out), HG5⟩
            case measure => simp [intOf]; omega
        · have hd : decide (j < p ∧ j < 9) = false := decide_eq_false hlt
          rw [hd]
          have hwl := Pr.w7_len (ws := ws) (j := j) (by rw [← Hp.out]; exact hjp)
          have hnn := Pr.w7_nn ws j
          have HMy : Hid (Pr.mayB L ws j = (Pr.w7 ws j).all fun z => decide (z < L)) := Lib.hid rfl
          generalize Pr.w7 ws j = us at *
          have Hwl := Lib.hid hwl
          have Hnn := Lib.hid hnn
          obtain ⟨ol, hol, hll⟩ : ∃ ol, ol = (Pr.labsL L).length ∧ ol = L := ⟨_, rfl, Pr.labsL_len hL⟩
          have Hll := Lib.hid (hol.symm.trans hll)
          clear hol hll ol
          have HIw : Hid (Ints wr (.slice oa j oc) us) := Lib.hid (own_ints HO.out hwl.symm)
          have HGo : Hid (Calls Tryz.prog 39 #[.slice (some ⟨pb, po, none⟩) 3 pc, .slice al L cl, .slice oa j oc] wr fun e w' => Pr.OpsRes w' wr.heap.size (Pr.labsL L) us e ∧ Flow.Grow wr w') := Lib.hid
            (gops_any L _ _ _ css ps us wr hL (HPa.out.grow HG.out) (HLs4.out.grow HG.out) HIw.out hnn (by omega))
          clear hwl hnn
          cases hm : Pr.mayB L ws j with
          | false =>
            rw [hm] at HMy
            clear hm
            have HBd : Hid (¬ ∀ z ∈ us, z < (Pr.labsL L).length) := Lib.hid (fun h => by
              have h2 := HMy.out
              have : (us.all fun z => decide (z < (L : Int))) = true := List.all_eq_true.2 fun z hz => by
                have := h z hz
                rw [Hll.out] at this
                simpa using this
              rw [this] at h2
              cases h2)
            have HBe : Hid (∀ w' e, Pr.OpsRes w' wr.heap.size (Pr.labsL L) us e → e = .returned (.tuple #[.slice none 0 0, .bool false])) := Lib.hid (fun w' e h => by
              rcases h with ⟨_, h⟩ | ⟨h, _⟩
              · exact h
              · exact (HBd.out h).elim)
            go_wp2_with (first
              | (go_at_call 39; refine HGo.out.mono ?_; rintro e w6 ⟨hr, hg⟩; have HG6 := Lib.hid hg; clear hg; obtain rfl := HBe.out _ _ hr; clear hr)
              | (go_at_call 38; refine (awake45 _).mono ?_; rintro e w7 ⟨rfl, hg⟩; have HG7 := Lib.hid hg; clear hg))
            go_ret
            exact ⟨rfl, HGw.out.trans (HG.out.trans (HG6.out.trans HG7.out))⟩
          | true =>
            rw [hm] at HMy
            clear hm
            have HGd : Hid (∀ z ∈ us, z < (L : Int)) := Lib.hid (fun z hz => by
              have h2 := List.all_eq_true.1 HMy.out.symm z hz
              simpa using h2)
            have HGe : Hid (∀ w' e, Pr.OpsRes w' wr.heap.size (Pr.labsL L) us e → ∃ (ga : Option Addr) (gc : Nat), e = .returned (.tuple #[.slice ga (2 * j) gc, .bool true]) ∧ w'.ownsRow wr.heap.size 95 4 (.slice ga (2 * j) gc) (2 * j) (Pr.opsOf (Pr.labsL L) us)) := Lib.hid (fun w' e h => by
              rcases h with ⟨⟨z, hz, h⟩, _⟩ | ⟨_, v, h, h2⟩
              · have := HGd.out z hz
                rw [Hll.out] at h
                omega
              · rw [Hwl.out] at h2
                obtain ⟨ga, gc, rfl⟩ := own_form h2
                exact ⟨ga, gc, h, h2⟩)
            have t0 : IntKind.i64.wrap (2 * (j : Int)) = 2 * (j : Int) := IntWalk.i64_in _ (by omega)
            have t1 : (((2 * j : Nat) : Int) != 2 * (j : Int)) = false := by simp
            go_upto_region 16 with (go_at_call 39; refine HGo.out.mono ?_; rintro e w6 ⟨hr, hg⟩; have HG6 := Lib.hid hg; clear hg; obtain ⟨ga, gc, rfl, ho⟩ := HGe.out _ _ hr; have HO6 := Lib.hid ho; clear hr ho)
            go_wp2_with fail
            go_loopw [16, 17, 18, 19] (fun i v17 v18 v19 wq => ∃ c : Nat, c ≤ j ∧ i = .int .i64 c ∧ Hid (Flow.Grow w6 wq) ∧ Hid (Pr.OldV wq v17) ∧ Hid (Pr.OldV wq v18) ∧ Hid (Pr.OldV wq v19)) (fun i _ _ _ _ => j - (intOf i).toNat)
            case atStart => exact ⟨0, by omega, rfl, Lib.hid (Flow.grow_refl _), Lib.hid (fun _ h => by cases h), Lib.hid (fun _ h => by cases h), Lib.hid (fun _ h => by cases h)⟩
            case round =>
              obtain ⟨c, hcj, rfl, HGr, HV17, HV18, HV19⟩ := hrel
              rename World => wo
              by_cases hc : c < j
              · have hcl : c < us.length := by rw [Hwl.out]; exact hc
                obtain ⟨ob, oo, rfl, q0⟩ := ints_at (HIw.out.grow (HG6.out.trans HGr.out)) (j := c) hcl
                have hq0 := Hnn.out (us.getD c 0) (getD_mem hcl)
                have hq1 := HGd.out (us.getD c 0) (getD_mem hcl)
                have hog : ∀ x, x < 8 → (Pr.opsOf (Pr.labsL L) us)[c * 8 + x]? = (Pr.op2 (Pr.labsL L) (us.getD c 0))[x]? := fun x hx => Pr.opsOf_get hcl hx
                obtain ⟨gb, hgb⟩ : ∃ g, ga = some ⟨g, 0, none⟩ := by
                  rcases HO6.out.2 with ⟨h1, h2⟩ | ⟨g, cap, cur, h1, _⟩
                  · omega
                  · injection h1 with h1; exact ⟨g, h1⟩
                subst hgb
                have hoc : ∀ x, x < 8 → wo.cell? ⟨gb, c * 8 + x, none⟩ = (Pr.op2 (Pr.labsL L) (us.getD c 0))[x]? := fun x hx => by
                  rw [← hog x hx]
                  exact (own_keep HO6.out HGr.out).cellAt (c * 8 + x) (by omega)
                generalize us.getD c 0 = z at *
                obtain ⟨q, rfl⟩ : ∃ q : Nat, z = (q : Int) := ⟨z.toNat, by omega⟩
                have hq : q < L := by omega
                obtain ⟨f, t, m, hl, hf3, ht3, hft⟩ := Pr.labsL_parts L q hL hq
                obtain ⟨lb, lo, rfl, y0, y1, y2⟩ := (HLs4.out.grow (HG.out.trans (HG6.out.trans HGr.out))).at (j := q) (by rw [Hll.out]; exact hq)
                rw [hl] at y0 y1 y2
                simp only at y0 y1 y2
                obtain ⟨fi, hfi1, hfi2, hfi3⟩ := Pr.find_send (by rw [Hll.out]; exact hq) hl
                obtain ⟨ti, hti1, hti2, hti3⟩ := Pr.find_take (by rw [Hll.out]; exact hq) hl hft
                have HOp2 : Pr.op2 (Pr.labsL L) (q : Int) = [.int .i64 1, .int .i64 (f : Int), .int .i64 (fi : Int), .int .i64 0, .int .i64 1, .int .i64 (t : Int), .int .i64 (ti : Int), .int .i64 0] := by
                  simp only [Pr.op2, Int.toNat_natCast]
                  rw [hl]
                  simp only
                  rw [hfi2, hti2]
                rw [HOp2] at hoc
                have o0 := (hoc 0 (by omega)).trans rfl
                have o1 := (hoc 1 (by omega)).trans rfl
                have o2 := (hoc 2 (by omega)).trans rfl
                have o3 := (hoc 3 (by omega)).trans rfl
                have o4 := (hoc 4 (by omega)).trans rfl
                have o5 := (hoc 5 (by omega)).trans rfl
                have o6 := (hoc 6 (by omega)).trans rfl
                have o7 := (hoc 7 (by omega)).trans rfl
                obtain ⟨pb', po', pc', hpe, _, hpa⟩ := (HPa.out.grow (HG.out.trans (HG6.out.trans HGr.out))).at_
                cases hpe
                obtain ⟨fva, fvf, fvn, fp, hfp, _, f1, _, _, _, _, f6, _, _, f9⟩ := hpa f hf3
                obtain ⟨tva, tvf, tvn, tp, htp, _, t1', _, _, _, _, t6, _, _, t9⟩ := hpa t ht3
                obtain ⟨a3, c3', hfva, _⟩ := id f6
                obtain ⟨b3, e3', htva, _⟩ := id t6
                subst hfva htva
                rw [f9.acts] at f1 f6
                rw [t9.acts] at t1' t6
                obtain ⟨fb, fo, rfl, x0, x1⟩ := Pr.Acts_at f6 hfi1
                obtain ⟨tb, tof, rfl, z0, z1⟩ := Pr.Acts_at t6 hti1
                rw [hfi3] at x0 x1
                rw [hti3] at z0 z1
                simp only at x0 x1 z0 z1
                generalize (Pr.acts f (Pr.labsL L) (Pr.labsL L).length).length = fK at *
                generalize (Pr.acts t (Pr.labsL L) (Pr.labsL L).length).length = tK at *
                clear f6 t6 f9 t9 hfp htp hfi2 hti2 hfi3 hti3 hl hog hoc HOp2 hpa
                have u0 : IntKind.i64.wrap (2 * (c : Int)) = 2 * (c : Int) := IntWalk.i64_in _ (by omega)
                have u1 : IntKind.i64.wrap (2 * (c : Int) + 1) = 2 * (c : Int) + 1 := IntWalk.i64_in _ (by omega)
                go_upto_region 19 with fail
                have n1 : (2 * (c : Int)).toNat = 2 * c := by omega
                have n2 : (2 * (c : Int) + 1).toNat = 2 * c + 1 := by omega
                have n3 : (0 : Int) ≤ 2 * (c : Int) := by omega
                have n4 : 2 * (c : Int) < ((2 * j : Nat) : Int) := by omega
                have n5 : (0 : Int) ≤ 2 * (c : Int) + 1 := by omega
                have n6 : 2 * (c : Int) + 1 < ((2 * j : Nat) : Int) := by omega
                have n7 : 2 * (c : Int) < 2 * (j : Int) := by omega
                have n8 : 2 * (c : Int) + 1 < 2 * (j : Int) := by omega
                have HEnd : Hid (Flow.Grow w6 wo) := HGr
                rw [show c * 8 + 0 = 2 * c * 4 by omega] at o0
                rw [show c * 8 = 2 * c * 4 by omega] at o1 o2 o3
                rw [show c * 8 + 4 = (2 * c + 1) * 4 by omega] at o4
                rw [show c * 8 + 5 = (2 * c + 1) * 4 + 1 by omega] at o5
                rw [show c * 8 + 6 = (2 * c + 1) * 4 + 2 by omega] at o6
                rw [show c * 8 + 7 = (2 * c + 1) * 4 + 3 by omega] at o7
                clear hand hi2 hx0 hx1 hx2
                go_cut [17, 18, 19] from 101 to 206 (fun v17 v18 v19 wx => ∃ A B C : Nat, v17 = .pointer (some ⟨A, 0, none⟩) ∧ v18 = .pointer (some ⟨B, 0, none⟩) ∧ v19 = .pointer (some ⟨C, 0, none⟩) ∧ Hid (wx.heap[A]? = some (.cells #[.int .i64 1, .int .i64 (f : Int), .int .i64 (fi : Int), .int .i64 0] 95 (0, 0))) ∧ Hid (wx.heap[B]? = some (.cells #[.int .i64 1, .int .i64 (t : Int), .int .i64 (ti : Int), .int .i64 0] 95 (0, 0))) ∧ Hid (wx.heap[C]? = some (.cells #[.int .i64 (f : Int), .int .i64 (t : Int), .int .i64 m] 97 (0, 0))) ∧ Hid (Flow.Grow wo wx))
                case first =>
                  refine Flow.region_st [17, 18, 19] [.v ((.slice (some ⟨gb, 0, none⟩) (2 * j) gc)), .v ((.int .i64 (c : Int))), .v ((.int .i64 (2 * (c : Int)))), .v ((.pointer (some ⟨gb, 2 * c * 4, none⟩))), .v ((.agg #[.int .i64 1, .int .i64 (f : Int), .int .i64 (fi : Int), .int .i64 0])), .v ((.slice (some ⟨gb, 0, none⟩) (2 * j) gc)), .v ((.int .i64 (c : Int))), .v ((.int .i64 (2 * (c : Int)))), .v ((.int .i64 (2 * (c : Int) + 1))), .v ((.pointer (some ⟨gb, (2 * c + 1) * 4, none⟩))), .v ((.agg #[.int .i64 1, .int .i64 (t : Int), .int .i64 (ti : Int), .int .i64 0])), .v ((.slice (some ⟨lb, lo, none⟩) L cl)), .v ((.slice (some ⟨ob, oo, none⟩) j oc)), .v ((.int .i64 (c : Int))), .v ((.pointer (some ⟨ob, oo + c, none⟩))), .v ((.int .i64 (q : Int))), .v ((.pointer (some ⟨lb, lo + q * 3, none⟩))), .v ((.agg #[.int .i64 (f : Int), .int .i64 (t : Int), .int .i64 m])), .a 95 4, .a 95 4, .a 97 3, .s 95 #[.int .i64 1, .int .i64 (f : Int), .int .i64 (fi : Int), .int .i64 0], .s 95 #[.int .i64 1, .int .i64 (t : Int), .int .i64 (ti : Int), .int .i64 0], .s 97 #[.int .i64 (f : Int), .int .i64 (t : Int), .int .i64 m]]
                    (S := [[], [], [1], [0, 2], [3], [], [], [6], [7], [5, 8], [9], [], [], [], [12, 13], [14], [11, 15], [16], [], [], [], [4, 18], [10, 19], [17, 20]]) (by kernel_rfl) (by kernel_rfl) (by kernel_rfl) rfl ?old19 ?ones19 ?ends19
                  case ones19 =>
                    refine Flow.OnesS.cons ?_ ?_
                    · refine Flow.OneS.q rfl (by decide) ?_
                      intro a w hC hoff _
                      have e14 : a.eval (.tmp 14) = (.slice (some ⟨gb, 0, none⟩) (2 * j) gc) := hoff.at 14 (by kernel_rfl)
                      refine ⟨Flow.want_none rfl, ?_⟩
                      exact Flow.run_same (Flow.exec_move (.inl rfl) e14) Flow.grow_refl
                    refine Flow.OnesS.cons ?_ ?_
                    · refine Flow.OneS.q rfl (by decide) ?_
                      intro a w hC hoff _
                      have e16 : a.eval (.tmp 16) = (.int .i64 (c : Int)) := hoff.at 16 (by kernel_rfl)
                      refine ⟨Flow.want_none rfl, ?_⟩
                      exact Flow.run_same (Flow.exec_move (.inl rfl) e16) Flow.grow_refl
                    refine Flow.OnesS.cons ?_ ?_
                    · refine Flow.OneS.q rfl (by decide) ?_
                      rintro a w hC hoff ⟨k1, -⟩
                      have e108 : a.eval (.tmp 108) = (.int .i64 (c : Int)) := k1 108 rfl
                      refine ⟨Flow.want_none rfl, ?_⟩
                      refine Flow.run_same ?_ Flow.grow_refl
                      have ec := Flow.eval_const a
                      generalize a.eval = ρ at e108 ec ⊢
                      simp [execOp, e108, ec, u0, go_sem]
                    refine Flow.OnesS.cons ?_ ?_
                    · refine Flow.OneS.q rfl (by decide) ?_
                      rintro a w hC hoff ⟨k0, k2, -⟩
                      have e107 : a.eval (.tmp 107) = (.slice (some ⟨gb, 0, none⟩) (2 * j) gc) := k0 107 rfl
                      have e109 : a.eval (.tmp 109) = (.int .i64 (2 * (c : Int))) := k2 109 rfl
                      refine ⟨Flow.want_none rfl, ?_⟩
                      refine Flow.run_same ?_ Flow.grow_refl
                      have ec := Flow.eval_const a
                      generalize a.eval = ρ at e107 e109 ec ⊢
                      simp [execOp, e107, e109, n1, n3, n4, n7, go_sem]; intro hh; omega
                    refine Flow.OnesS.cons ?_ ?_
                    · refine Flow.OneS.q rfl (by decide) ?_
                      rintro a w hC hoff ⟨k3, -⟩
                      have e110 : a.eval (.tmp 110) = (.pointer (some ⟨gb, 2 * c * 4, none⟩)) := k3 110 rfl
                      refine ⟨Flow.want_none rfl, ?_⟩
                      refine Flow.run_same ?_ Flow.grow_refl
                      have ec := Flow.eval_const a
                      generalize a.eval = ρ at e110 ec ⊢
                      have h0 := Xm2.cell_grow hC o0
                      have h1 := Xm2.cell_grow hC o1
                      have h2 := Xm2.cell_grow hC o2
                      have h3 := Xm2.cell_grow hC o3
                      simp [execOp, e110, h0, h1, h2, h3, go_sem]
                    refine Flow.OnesS.cons ?_ ?_
                    · refine Flow.OneS.q rfl (by decide) ?_
                      intro a w hC hoff _
                      have e14 : a.eval (.tmp 14) = (.slice (some ⟨gb, 0, none⟩) (2 * j) gc) := hoff.at 14 (by kernel_rfl)
                      refine ⟨Flow.want_none rfl, ?_⟩
                      exact Flow.run_same (Flow.exec_move (.inl rfl) e14) Flow.grow_refl
                    refine Flow.OnesS.cons ?_ ?_
                    · refine Flow.OneS.q rfl (by decide) ?_
                      intro a w hC hoff _
                      have e16 : a.eval (.tmp 16) = (.int .i64 (c : Int)) := hoff.at 16 (by kernel_rfl)
                      refine ⟨Flow.want_none rfl, ?_⟩
                      exact Flow.run_same (Flow.exec_move (.inl rfl) e16) Flow.grow_refl
                    refine Flow.OnesS.cons ?_ ?_
                    · refine Flow.OneS.q rfl (by decide) ?_
                      rintro a w hC hoff ⟨k6, -⟩
                      have e113 : a.eval (.tmp 113) = (.int .i64 (c : Int)) := k6 113 rfl
                      refine ⟨Flow.want_none rfl, ?_⟩
                      refine Flow.run_same ?_ Flow.grow_refl
                      have ec := Flow.eval_const a
                      generalize a.eval = ρ at e113 ec ⊢
                      simp [execOp, e113, ec, u0, go_sem]
                    refine Flow.OnesS.cons ?_ ?_
                    · refine Flow.OneS.q rfl (by decide) ?_
                      rintro a w hC hoff ⟨k7, -⟩
                      have e114 : a.eval (.tmp 114) = (.int .i64 (2 * (c : Int))) := k7 114 rfl
                      refine ⟨Flow.want_none rfl, ?_⟩
                      refine Flow.run_same ?_ Flow.grow_refl
                      have ec := Flow.eval_const a
                      generalize a.eval = ρ at e114 ec ⊢
                      simp [execOp, e114, ec, u1, go_sem]
                    refine Flow.OnesS.cons ?_ ?_
                    · refine Flow.OneS.q rfl (by decide) ?_
                      rintro a w hC hoff ⟨k5, k8, -⟩
                      have e112 : a.eval (.tmp 112) = (.slice (some ⟨gb, 0, none⟩) (2 * j) gc) := k5 112 rfl
                      have e115 : a.eval (.tmp 115) = (.int .i64 (2 * (c : Int) + 1)) := k8 115 rfl
                      refine ⟨Flow.want_none rfl, ?_⟩
                      refine Flow.run_same ?_ Flow.grow_refl
                      have ec := Flow.eval_const a
                      generalize a.eval = ρ at e112 e115 ec ⊢
                      simp [execOp, e112, e115, n2, n5, n6, n8, go_sem]
                    refine Flow.OnesS.cons ?_ ?_
                    · refine Flow.OneS.q rfl (by decide) ?_
                      rintro a w hC hoff ⟨k9, -⟩
                      have e116 : a.eval (.tmp 116) = (.pointer (some ⟨gb, (2 * c + 1) * 4, none⟩)) := k9 116 rfl
                      refine ⟨Flow.want_none rfl, ?_⟩
                      refine Flow.run_same ?_ Flow.grow_refl
                      have ec := Flow.eval_const a
                      generalize a.eval = ρ at e116 ec ⊢
                      have h0 := Xm2.cell_grow hC o4
                      have h1 := Xm2.cell_grow hC o5
                      have h2 := Xm2.cell_grow hC o6
                      have h3 := Xm2.cell_grow hC o7
                      simp [execOp, e116, h0, h1, h2, h3, go_sem]
                    refine Flow.OnesS.cons ?_ ?_
                    · refine Flow.OneS.q rfl (by decide) ?_
                      intro a w hC hoff _
                      have e8 : a.eval (.tmp 8) = (.slice (some ⟨lb, lo, none⟩) L cl) := hoff.at 8 (by kernel_rfl)
                      refine ⟨Flow.want_none rfl, ?_⟩
                      exact Flow.run_same (Flow.exec_move (.inl rfl) e8) Flow.grow_refl
                    refine Flow.OnesS.cons ?_ ?_
                    · refine Flow.OneS.q rfl (by decide) ?_
                      intro a w hC hoff _
                      have e11 : a.eval (.tmp 11) = (.slice (some ⟨ob, oo, none⟩) j oc) := hoff.at 11 (by kernel_rfl)
                      refine ⟨Flow.want_none rfl, ?_⟩
                      exact Flow.run_same (Flow.exec_move (.inl rfl) e11) Flow.grow_refl
                    refine Flow.OnesS.cons ?_ ?_
                    · refine Flow.OneS.q rfl (by decide) ?_
                      intro a w hC hoff _
                      have e16 : a.eval (.tmp 16) = (.int .i64 (c : Int)) := hoff.at 16 (by kernel_rfl)
                      refine ⟨Flow.want_none rfl, ?_⟩
                      exact Flow.run_same (Flow.exec_move (.inl rfl) e16) Flow.grow_refl
                    refine Flow.OnesS.cons ?_ ?_
                    · refine Flow.OneS.q rfl (by decide) ?_
                      rintro a w hC hoff ⟨k12, k13, -⟩
                      have e119 : a.eval (.tmp 119) = (.slice (some ⟨ob, oo, none⟩) j oc) := k12 119 rfl
                      have e120 : a.eval (.tmp 120) = (.int .i64 (c : Int)) := k13 120 rfl
                      refine ⟨Flow.want_none rfl, ?_⟩
                      refine Flow.run_same ?_ Flow.grow_refl
                      have ec := Flow.eval_const a
                      generalize a.eval = ρ at e119 e120 ec ⊢
                      simp [execOp, e119, e120, go_sem]; intro hh; omega
                    refine Flow.OnesS.cons ?_ ?_
                    · refine Flow.OneS.q rfl (by decide) ?_
                      rintro a w hC hoff ⟨k14, -⟩
                      have e121 : a.eval (.tmp 121) = (.pointer (some ⟨ob, oo + c, none⟩)) := k14 121 rfl
                      refine ⟨Flow.want_none rfl, ?_⟩
                      refine Flow.run_same ?_ Flow.grow_refl
                      have ec := Flow.eval_const a
                      generalize a.eval = ρ at e121 ec ⊢
                      have h0 := Xm2.cell_grow hC q0
                      simp [execOp, e121, h0, go_sem]
                    refine Flow.OnesS.cons ?_ ?_
                    · refine Flow.OneS.q rfl (by decide) ?_
                      rintro a w hC hoff ⟨k11, k15, -⟩
                      have e118 : a.eval (.tmp 118) = (.slice (some ⟨lb, lo, none⟩) L cl) := k11 118 rfl
                      have e122 : a.eval (.tmp 122) = (.int .i64 (q : Int)) := k15 122 rfl
                      refine ⟨Flow.want_none rfl, ?_⟩
                      refine Flow.run_same ?_ Flow.grow_refl
                      have ec := Flow.eval_const a
                      generalize a.eval = ρ at e118 e122 ec ⊢
                      simp [execOp, e118, e122, go_sem]; intro hh; omega
                    refine Flow.OnesS.cons ?_ ?_
                    · refine Flow.OneS.q rfl (by decide) ?_
                      rintro a w hC hoff ⟨k16, -⟩
                      have e123 : a.eval (.tmp 123) = (.pointer (some ⟨lb, lo + q * 3, none⟩)) := k16 123 rfl
                      refine ⟨Flow.want_none rfl, ?_⟩
                      refine Flow.run_same ?_ Flow.grow_refl
                      have ec := Flow.eval_const a
                      generalize a.eval = ρ at e123 ec ⊢
                      have h0 := Xm2.cell_grow hC y0
                      have h1 := Xm2.cell_grow hC y1
                      have h2 := Xm2.cell_grow hC y2
                      simp [execOp, e123, h0, h1, h2, go_sem]
                    refine Flow.OnesS.cons ?_ ?_
                    · exact Flow.OneS.alloc rfl (by kernel_rfl) rfl rfl (Flow.alloc_run rfl hio oz0)
                    refine Flow.OnesS.cons ?_ ?_
                    · exact Flow.OneS.alloc rfl (by kernel_rfl) rfl rfl (Flow.alloc_run rfl hio oz0)
                    refine Flow.OnesS.cons ?_ ?_
                    · exact Flow.OneS.alloc rfl (by kernel_rfl) rfl rfl (Flow.alloc_run rfl hib bz0)
                    refine Flow.OnesS.cons ?_ ?_
                    · refine Flow.OneS.store (s := 17) (x := 111) (cs := #[.int .i64 1, .int .i64 (f : Int), .int .i64 (fi : Int), .int .i64 0]) rfl rfl rfl (by decide) (by kernel_rfl) (fun _ _ _ _ hg hA hs hx hb ho => Flow.store_run (cs := #[.int .i64 1, .int .i64 (f : Int), .int .i64 (fi : Int), .int .i64 0]) rfl hio oz1 rfl (by intro v hv; simp at hv; rcases hv with rfl | rfl | rfl | rfl <;> rfl) _ _ _ _ hg hA hs hx hb ho) ?_
                      rintro a w _ _ ⟨kx, ka, -⟩
                      exact ⟨ka 17 rfl, kx 111 rfl⟩
                    refine Flow.OnesS.cons ?_ ?_
                    · refine Flow.OneS.store (s := 18) (x := 117) (cs := #[.int .i64 1, .int .i64 (t : Int), .int .i64 (ti : Int), .int .i64 0]) rfl rfl rfl (by decide) (by kernel_rfl) (fun _ _ _ _ hg hA hs hx hb ho => Flow.store_run (cs := #[.int .i64 1, .int .i64 (t : Int), .int .i64 (ti : Int), .int .i64 0]) rfl hio oz1 rfl (by intro v hv; simp at hv; rcases hv with rfl | rfl | rfl | rfl <;> rfl) _ _ _ _ hg hA hs hx hb ho) ?_
                      rintro a w _ _ ⟨kx, ka, -⟩
                      exact ⟨ka 18 rfl, kx 117 rfl⟩
                    refine Flow.OnesS.cons ?_ ?_
                    · refine Flow.OneS.store (s := 19) (x := 124) (cs := #[.int .i64 (f : Int), .int .i64 (t : Int), .int .i64 m]) rfl rfl rfl (by decide) (by kernel_rfl) (fun _ _ _ _ hg hA hs hx hb ho => Flow.store_run (cs := #[.int .i64 (f : Int), .int .i64 (t : Int), .int .i64 m]) rfl hib bz1 rfl (by intro v hv; simp at hv; rcases hv with rfl | rfl | rfl <;> rfl) _ _ _ _ hg hA hs hx hb ho) ?_
                      rintro a w _ _ ⟨kx, ka, -⟩
                      exact ⟨ka 19 rfl, kx 124 rfl⟩
                    exact trivial
                  case old19 =>
                    intro s hs A he
                    simp only [List.mem_cons, List.not_mem_nil, or_false] at hs
                    rcases hs with rfl | rfl | rfl
                    · exact HV17.out A he
                    · exact HV18.out A he
                    · exact HV19.out A he
                  case ends19 =>
                    intro av wx hCn
                    iterate 18 refine Flow.endsS_v rfl ?_
                    refine Flow.endsS_r rfl ?_
                    rintro _ ⟨A, ca, rfl, hA1, hA2, hA3⟩
                    refine Flow.endsS_r rfl ?_
                    rintro _ ⟨B, cb, rfl, hB1, hB2, hB3⟩
                    refine Flow.endsS_r rfl ?_
                    rintro _ ⟨C, cc, rfl, hC1, hC2, hC3⟩
                    refine Flow.endsS_s rfl rfl ?_
                    rintro ⟨A', hA4, _, hA5⟩
                    obtain rfl := Flow.pt_inj (hA4.symm.trans (by kernel_rfl : _ = Flow.pt A))
                    refine Flow.endsS_s rfl rfl ?_
                    rintro ⟨B', hB4, _, hB5⟩
                    obtain rfl := Flow.pt_inj (hB4.symm.trans (by kernel_rfl : _ = Flow.pt B))
                    refine Flow.endsS_s rfl rfl ?_
                    rintro ⟨C', hC4, _, hC5⟩
                    obtain rfl := Flow.pt_inj (hC4.symm.trans (by kernel_rfl : _ = Flow.pt C))
                    refine Flow.endsS_nil ?_
                    have HA := Lib.hid hA5
                    have HB := Lib.hid hB5
                    have HC := Lib.hid hC5
                    have HGx := Lib.hid hCn.grow
                    clear hA1 hA2 hA3 hA4 hA5 hB1 hB2 hB3 hB4 hB5 hC1 hC2 hC3 hC4 hC5 hCn
                    simp only [Flow.pt, Act.put, List.setIfInBounds_toArray, List.set_cons_succ, List.set_cons_zero]
                    go_wp2_with fail
                    go_meet
                    case rel => exact ⟨_, _, _, rfl, rfl, rfl, HA, HB, HC, HGx⟩
                case rest =>
                  obtain ⟨A, B, C, rfl, rfl, rfl, HA, HB, HC, HGx⟩ := hcut
                  rename World => wc
                  clear o0 o1 o2 o3 o4 o5 o6 o7 y0 y1 y2
                  have q0w := Xm2.cell_grow HGx.out q0
                  have f1w := Xm2.cell_grow HGx.out f1
                  have t1pw := Xm2.cell_grow HGx.out t1'
                  have x0w := Xm2.cell_grow HGx.out x0
                  have x1w := Xm2.cell_grow HGx.out x1
                  have z0w := Xm2.cell_grow HGx.out z0
                  have z1w := Xm2.cell_grow HGx.out z1
                  clear q0 f1 t1' x0 x1 z0 z1
                  have a0w := (cell_of_row wc A 0 _ _ _ HA.out).trans rfl
                  have a1w := (cell_of_row wc A 1 _ _ _ HA.out).trans rfl
                  have a2w := (cell_of_row wc A 2 _ _ _ HA.out).trans rfl
                  have a3w := (cell_of_row wc A 3 _ _ _ HA.out).trans rfl
                  have b0w := (cell_of_row wc B 0 _ _ _ HB.out).trans rfl
                  have b1w := (cell_of_row wc B 1 _ _ _ HB.out).trans rfl
                  have b2w := (cell_of_row wc B 2 _ _ _ HB.out).trans rfl
                  have b3w := (cell_of_row wc B 3 _ _ _ HB.out).trans rfl
                  have c0w := (cell_of_row wc C 0 _ _ _ HC.out).trans rfl
                  have c1w := (cell_of_row wc C 1 _ _ _ HC.out).trans rfl
                  have c2w := (cell_of_row wc C 2 _ _ _ HC.out).trans rfl
                  have e0 : ((f : Int) != (f : Int)) = false := by simp
                  have e1 : ((t : Int) != (t : Int)) = false := by simp
                  have e2 : decide ((fi : Int) ≥ (fK : Int)) = false := by simp; omega
                  have e3 : decide ((fK : Int) ≤ (fi : Int)) = false := by simp; omega
                  have e4 : decide ((ti : Int) ≥ (tK : Int)) = false := by simp; omega
                  have e5 : decide ((tK : Int) ≤ (ti : Int)) = false := by simp; omega
                  have e6 : (0 : Int) ≤ (f : Int) := by omega
                  have e7 : (f : Int) < 3 := by omega
                  have e8 : (0 : Int) ≤ (t : Int) := by omega
                  have e9 : (t : Int) < 3 := by omega
                  have e10 : (0 : Int) ≤ (fi : Int) := by omega
                  have e11 : (fi : Int) < (fK : Int) := by omega
                  have e12 : (0 : Int) ≤ (ti : Int) := by omega
                  have e13 : (ti : Int) < (tK : Int) := by omega
                  have e14 : decide ((fi : Int) < 0) = false := by simp
                  have e15 : decide ((ti : Int) < 0) = false := by simp
                  have s1 : Tryz.prog.eqGuardType Tryz.prog.depth 99 = false := by as_aux_lemma => kernel_rfl
                  have s2 : Tryz.prog.stoodInHeld 99 = false := by as_aux_lemma => kernel_rfl
                  go_upto_region 20 with fail
                  refine Flow.region_grown (Fs := [.inl ((.pointer (some ⟨A, 0, none⟩))), .inl ((.int .i64 1)), .inl ((.bool false)), .inl ((.bool false)), .inl ((.pointer (some ⟨B, 0, none⟩))), .inl ((.int .i64 1)), .inl ((.bool false)), .inl ((.bool false)), .inl ((.bool false)), .inl ((.pointer (some ⟨A, 1, none⟩))), .inl ((.int .i64 (f : Int))), .inl ((.pointer (some ⟨C, 0, none⟩))), .inl ((.int .i64 (f : Int))), .inl ((.bool false)), .inl ((.bool false)), .inl ((.bool false)), .inl ((.pointer (some ⟨B, 1, none⟩))), .inl ((.int .i64 (t : Int))), .inl ((.pointer (some ⟨C, 1, none⟩))), .inl ((.int .i64 (t : Int))), .inl ((.bool false)), .inl ((.bool false)), .inl ((.bool false)), .inl ((.pointer (some ⟨A, 2, none⟩))), .inl ((.int .i64 (fi : Int))), .inl ((.slice (some ⟨pb, po, none⟩) 3 pc)), .inl ((.pointer (some ⟨C, 0, none⟩))), .inl ((.int .i64 (f : Int))), .inl ((.pointer (some ⟨pb, po + f * 6, none⟩))), .inl ((.pointer (some ⟨pb, po + f * 6 + 1, none⟩))), .inl ((.slice (some ⟨fb, fo, none⟩) fK c3')), .inl ((.int .i64 (fK : Int))), .inl ((.bool false)), .inl ((.bool false)), .inl ((.bool false)), .inl ((.pointer (some ⟨B, 2, none⟩))), .inl ((.int .i64 (ti : Int))), .inl ((.slice (some ⟨pb, po, none⟩) 3 pc)), .inl ((.pointer (some ⟨C, 1, none⟩))), .inl ((.int .i64 (t : Int))), .inl ((.pointer (some ⟨pb, po + t * 6, none⟩))), .inl ((.pointer (some ⟨pb, po + t * 6 + 1, none⟩))), .inl ((.slice (some ⟨tb, tof, none⟩) tK e3')), .inl ((.int .i64 (tK : Int))), .inl ((.bool false)), .inl ((.bool false)), .inl ((.bool false)), .inl ((.slice (some ⟨pb, po, none⟩) 3 pc)), .inl ((.pointer (some ⟨C, 0, none⟩))), .inl ((.int .i64 (f : Int))), .inl ((.pointer (some ⟨pb, po + f * 6, none⟩))), .inl ((.pointer (some ⟨pb, po + f * 6 + 1, none⟩))), .inl ((.slice (some ⟨fb, fo, none⟩) fK c3')), .inl ((.pointer (some ⟨A, 2, none⟩))), .inl ((.int .i64 (fi : Int))), .inl ((.pointer (some ⟨fb, fo + fi * 2, none⟩))), .inl ((.agg #[.int .i64 1, .int .i64 (q : Int)])), .inl ((.slice (some ⟨ob, oo, none⟩) j oc)), .inl ((.int .i64 (c : Int))), .inl ((.pointer (some ⟨ob, oo + c, none⟩))), .inl ((.int .i64 (q : Int))), .inl ((.agg #[.int .i64 1, .int .i64 (q : Int)])), .inl ((.bool false)), .inl ((.bool false)), .inl ((.bool false)), .inl ((.slice (some ⟨pb, po, none⟩) 3 pc)), .inl ((.pointer (some ⟨C, 1, none⟩))), .inl ((.int .i64 (t : Int))), .inl ((.pointer (some ⟨pb, po + t * 6, none⟩))), .inl ((.pointer (some ⟨pb, po + t * 6 + 1, none⟩))), .inl ((.slice (some ⟨tb, tof, none⟩) tK e3')), .inl ((.pointer (some ⟨B, 2, none⟩))), .inl ((.int .i64 (ti : Int))), .inl ((.pointer (some ⟨tb, tof + ti * 2, none⟩))), .inl ((.agg #[.int .i64 2, .int .i64 (q : Int)])), .inl ((.slice (some ⟨ob, oo, none⟩) j oc)), .inl ((.int .i64 (c : Int))), .inl ((.pointer (some ⟨ob, oo + c, none⟩))), .inl ((.int .i64 (q : Int))), .inl ((.agg #[.int .i64 2, .int .i64 (q : Int)])), .inl ((.bool false)), .inl ((.bool false))])
                    (S := [[], [0], [1], [2], [3], [4, 3], [5, 3], [3, 6], [7], [8], [9, 8], [8], [11, 8], [10, 12, 8], [8, 13], [14], [15], [16, 15], [15], [18, 15], [17, 19, 15], [15, 20], [21], [22], [23, 22], [22], [22], [26, 22], [25, 27, 22], [28, 22], [29, 22], [30, 22], [24, 31, 22], [22, 32], [33], [34], [35, 34], [34], [34], [38, 34], [37, 39, 34], [40, 34], [41, 34], [42, 34], [36, 43, 34], [34, 44], [45], [46], [46], [48, 46], [47, 49, 46], [50, 46], [51, 46], [46], [53, 46], [52, 54, 46], [55, 46], [46], [46], [57, 58, 46], [59, 46], [60, 46], [56, 61, 46], [46, 62], [63], [64], [64], [66, 64], [65, 67, 64], [68, 64], [69, 64], [64], [71, 64], [70, 72, 64], [73, 64], [64], [64], [75, 76, 64], [77, 64], [78, 64], [74, 79, 64], [64, 80]]) (by kernel_rfl) (by kernel_rfl) (by kernel_rfl) rfl ?stab20 ?ones20 ?ends20
                  case ones20 =>
                    refine Flow.Ones.cons ?_ ?_
                    · intro a w hC hoff _
                      have e17 : a.eval (.tmp 17) = (.pointer (some ⟨A, 0, none⟩)) := hoff.at 17 (by kernel_rfl)
                      refine .inl ⟨Flow.want_none rfl, ?_⟩
                      refine Flow.run_same ?_ Flow.grow_refl
                      have ec := Flow.eval_const a
                      generalize a.eval = ρ at e17 ec ⊢
                      simp [execOp, e17, go_sem]
                    refine Flow.Ones.cons ?_ ?_
                    · rintro a w hC hoff ⟨k0, -⟩
                      have e125 : a.eval (.tmp 125) = (.pointer (some ⟨A, 0, none⟩)) := k0 125 rfl
                      refine .inl ⟨Flow.want_none rfl, ?_⟩
                      refine Flow.run_same ?_ Flow.grow_refl
                      have ec := Flow.eval_const a
                      generalize a.eval = ρ at e125 ec ⊢
                      have hc0 := Xm2.cell_grow hC a0w
                      simp [execOp, e125, hc0, go_sem]
                    refine Flow.Ones.cons ?_ ?_
                    · rintro a w hC hoff ⟨k1, -⟩
                      have e126 : a.eval (.tmp 126) = (.int .i64 1) := k1 126 rfl
                      refine .inl ⟨Flow.want_none rfl, ?_⟩
                      refine Flow.run_same ?_ Flow.grow_refl
                      have ec := Flow.eval_const a
                      generalize a.eval = ρ at e126 ec ⊢
                      simp [execOp, e126, ec, go_sem]
                    refine Flow.Ones.cons ?_ ?_
                    · rintro a w hC hoff ⟨k2, -⟩
                      have e127 : a.eval (.tmp 127) = (.bool false) := k2 127 rfl
                      refine .inl ⟨Flow.want_none rfl, ?_⟩
                      exact Flow.run_same (Flow.exec_move (.inl rfl) e127) Flow.grow_refl
                    refine Flow.Ones.cons ?_ ?_
                    · rintro a w hC hoff ⟨k3, -⟩
                      have e128 : a.eval (.tmp 128) = (.bool false) := k3 128 rfl
                      have e18 : a.eval (.tmp 18) = (.pointer (some ⟨B, 0, none⟩)) := hoff.at 18 (by kernel_rfl)
                      refine .inl ⟨Flow.want_yes rfl rfl e128, ?_⟩
                      refine Flow.run_same ?_ Flow.grow_refl
                      have ec := Flow.eval_const a
                      generalize a.eval = ρ at e18 ec ⊢
                      simp [execOp, e18, go_sem]
                    refine Flow.Ones.cons ?_ ?_
                    · rintro a w hC hoff ⟨k4, k3, -⟩
                      have e129 : a.eval (.tmp 129) = (.pointer (some ⟨B, 0, none⟩)) := k4 129 rfl
                      have e128 : a.eval (.tmp 128) = (.bool false) := k3 128 rfl
                      refine .inl ⟨Flow.want_yes rfl rfl e128, ?_⟩
                      refine Flow.run_same ?_ Flow.grow_refl
                      have ec := Flow.eval_const a
                      generalize a.eval = ρ at e129 ec ⊢
                      have hc0 := Xm2.cell_grow hC b0w
                      simp [execOp, e129, hc0, go_sem]
                    refine Flow.Ones.cons ?_ ?_
                    · rintro a w hC hoff ⟨k5, k3, -⟩
                      have e130 : a.eval (.tmp 130) = (.int .i64 1) := k5 130 rfl
                      have e128 : a.eval (.tmp 128) = (.bool false) := k3 128 rfl
                      refine .inl ⟨Flow.want_yes rfl rfl e128, ?_⟩
                      refine Flow.run_same ?_ Flow.grow_refl
                      have ec := Flow.eval_const a
                      generalize a.eval = ρ at e130 ec ⊢
                      simp [execOp, e130, ec, go_sem]
                    refine Flow.Ones.cons ?_ ?_
                    · rintro a w hC hoff ⟨k3, k6, -⟩
                      have e128 : a.eval (.tmp 128) = (.bool false) := k3 128 rfl
                      have e131 : a.eval (.tmp 131) = (.bool false) := k6 131 rfl
                      refine .inl ⟨Flow.want_none rfl, ?_⟩
                      exact Flow.run_same (Flow.exec_pick_no rfl e128 e131) Flow.grow_refl
                    refine Flow.Ones.cons ?_ ?_
                    · rintro a w hC hoff ⟨k7, -⟩
                      have e132 : a.eval (.tmp 132) = (.bool false) := k7 132 rfl
                      refine .inl ⟨Flow.want_none rfl, ?_⟩
                      exact Flow.run_same (Flow.exec_move (.inl rfl) e132) Flow.grow_refl
                    refine Flow.Ones.cons ?_ ?_
                    · rintro a w hC hoff ⟨k8, -⟩
                      have e133 : a.eval (.tmp 133) = (.bool false) := k8 133 rfl
                      have e17 : a.eval (.tmp 17) = (.pointer (some ⟨A, 0, none⟩)) := hoff.at 17 (by kernel_rfl)
                      refine .inl ⟨Flow.want_yes rfl rfl e133, ?_⟩
                      refine Flow.run_same ?_ Flow.grow_refl
                      have ec := Flow.eval_const a
                      generalize a.eval = ρ at e17 ec ⊢
                      simp [execOp, e17, go_sem]
                    refine Flow.Ones.cons ?_ ?_
                    · rintro a w hC hoff ⟨k9, k8, -⟩
                      have e134 : a.eval (.tmp 134) = (.pointer (some ⟨A, 1, none⟩)) := k9 134 rfl
                      have e133 : a.eval (.tmp 133) = (.bool false) := k8 133 rfl
                      refine .inl ⟨Flow.want_yes rfl rfl e133, ?_⟩
                      refine Flow.run_same ?_ Flow.grow_refl
                      have ec := Flow.eval_const a
                      generalize a.eval = ρ at e134 ec ⊢
                      have hc0 := Xm2.cell_grow hC a1w
                      simp [execOp, e134, hc0, go_sem]
                    refine Flow.Ones.cons ?_ ?_
                    · rintro a w hC hoff ⟨k8, -⟩
                      have e133 : a.eval (.tmp 133) = (.bool false) := k8 133 rfl
                      have e19 : a.eval (.tmp 19) = (.pointer (some ⟨C, 0, none⟩)) := hoff.at 19 (by kernel_rfl)
                      refine .inl ⟨Flow.want_yes rfl rfl e133, ?_⟩
                      refine Flow.run_same ?_ Flow.grow_refl
                      have ec := Flow.eval_const a
                      generalize a.eval = ρ at e19 ec ⊢
                      simp [execOp, e19, go_sem]
                    refine Flow.Ones.cons ?_ ?_
                    · rintro a w hC hoff ⟨k11, k8, -⟩
                      have e136 : a.eval (.tmp 136) = (.pointer (some ⟨C, 0, none⟩)) := k11 136 rfl
                      have e133 : a.eval (.tmp 133) = (.bool false) := k8 133 rfl
                      refine .inl ⟨Flow.want_yes rfl rfl e133, ?_⟩
                      refine Flow.run_same ?_ Flow.grow_refl
                      have ec := Flow.eval_const a
                      generalize a.eval = ρ at e136 ec ⊢
                      have hc0 := Xm2.cell_grow hC c0w
                      simp [execOp, e136, hc0, go_sem]
                    refine Flow.Ones.cons ?_ ?_
                    · rintro a w hC hoff ⟨k10, k12, k8, -⟩
                      have e135 : a.eval (.tmp 135) = (.int .i64 (f : Int)) := k10 135 rfl
                      have e137 : a.eval (.tmp 137) = (.int .i64 (f : Int)) := k12 137 rfl
                      have e133 : a.eval (.tmp 133) = (.bool false) := k8 133 rfl
                      refine .inl ⟨Flow.want_yes rfl rfl e133, ?_⟩
                      refine Flow.run_same ?_ Flow.grow_refl
                      have ec := Flow.eval_const a
                      generalize a.eval = ρ at e135 e137 ec ⊢
                      simp [execOp, e135, e137, go_sem]
                    refine Flow.Ones.cons ?_ ?_
                    · rintro a w hC hoff ⟨k8, k13, -⟩
                      have e133 : a.eval (.tmp 133) = (.bool false) := k8 133 rfl
                      have e138 : a.eval (.tmp 138) = (.bool false) := k13 138 rfl
                      refine .inl ⟨Flow.want_none rfl, ?_⟩
                      exact Flow.run_same (Flow.exec_pick_no rfl e133 e138) Flow.grow_refl
                    refine Flow.Ones.cons ?_ ?_
                    · rintro a w hC hoff ⟨k14, -⟩
                      have e139 : a.eval (.tmp 139) = (.bool false) := k14 139 rfl
                      refine .inl ⟨Flow.want_none rfl, ?_⟩
                      exact Flow.run_same (Flow.exec_move (.inl rfl) e139) Flow.grow_refl
                    refine Flow.Ones.cons ?_ ?_
                    · rintro a w hC hoff ⟨k15, -⟩
                      have e140 : a.eval (.tmp 140) = (.bool false) := k15 140 rfl
                      have e18 : a.eval (.tmp 18) = (.pointer (some ⟨B, 0, none⟩)) := hoff.at 18 (by kernel_rfl)
                      refine .inl ⟨Flow.want_yes rfl rfl e140, ?_⟩
                      refine Flow.run_same ?_ Flow.grow_refl
                      have ec := Flow.eval_const a
                      generalize a.eval = ρ at e18 ec ⊢
                      simp [execOp, e18, go_sem]
                    refine Flow.Ones.cons ?_ ?_
                    · rintro a w hC hoff ⟨k16, k15, -⟩
                      have e141 : a.eval (.tmp 141) = (.pointer (some ⟨B, 1, none⟩)) := k16 141 rfl
                      have e140 : a.eval (.tmp 140) = (.bool false) := k15 140 rfl
                      refine .inl ⟨Flow.want_yes rfl rfl e140, ?_⟩
                      refine Flow.run_same ?_ Flow.grow_refl
                      have ec := Flow.eval_const a
                      generalize a.eval = ρ at e141 ec ⊢
                      have hc0 := Xm2.cell_grow hC b1w
                      simp [execOp, e141, hc0, go_sem]
                    refine Flow.Ones.cons ?_ ?_
                    · rintro a w hC hoff ⟨k15, -⟩
                      have e140 : a.eval (.tmp 140) = (.bool false) := k15 140 rfl
                      have e19 : a.eval (.tmp 19) = (.pointer (some ⟨C, 0, none⟩)) := hoff.at 19 (by kernel_rfl)
                      refine .inl ⟨Flow.want_yes rfl rfl e140, ?_⟩
                      refine Flow.run_same ?_ Flow.grow_refl
                      have ec := Flow.eval_const a
                      generalize a.eval = ρ at e19 ec ⊢
                      simp [execOp, e19, go_sem]
                    refine Flow.Ones.cons ?_ ?_
                    · rintro a w hC hoff ⟨k18, k15, -⟩
                      have e143 : a.eval (.tmp 143) = (.pointer (some ⟨C, 1, none⟩)) := k18 143 rfl
                      have e140 : a.eval (.tmp 140) = (.bool false) := k15 140 rfl
                      refine .inl ⟨Flow.want_yes rfl rfl e140, ?_⟩
                      refine Flow.run_same ?_ Flow.grow_refl
                      have ec := Flow.eval_const a
                      generalize a.eval = ρ at e143 ec ⊢
                      have hc0 := Xm2.cell_grow hC c1w
                      simp [execOp, e143, hc0, go_sem]
                    refine Flow.Ones.cons ?_ ?_
                    · rintro a w hC hoff ⟨k17, k19, k15, -⟩
                      have e142 : a.eval (.tmp 142) = (.int .i64 (t : Int)) := k17 142 rfl
                      have e144 : a.eval (.tmp 144) = (.int .i64 (t : Int)) := k19 144 rfl
                      have e140 : a.eval (.tmp 140) = (.bool false) := k15 140 rfl
                      refine .inl ⟨Flow.want_yes rfl rfl e140, ?_⟩
                      refine Flow.run_same ?_ Flow.grow_refl
                      have ec := Flow.eval_const a
                      generalize a.eval = ρ at e142 e144 ec ⊢
                      simp [execOp, e142, e144, go_sem]
                    refine Flow.Ones.cons ?_ ?_
                    · rintro a w hC hoff ⟨k15, k20, -⟩
                      have e140 : a.eval (.tmp 140) = (.bool false) := k15 140 rfl
                      have e145 : a.eval (.tmp 145) = (.bool false) := k20 145 rfl
                      refine .inl ⟨Flow.want_none rfl, ?_⟩
                      exact Flow.run_same (Flow.exec_pick_no rfl e140 e145) Flow.grow_refl
                    refine Flow.Ones.cons ?_ ?_
                    · rintro a w hC hoff ⟨k21, -⟩
                      have e146 : a.eval (.tmp 146) = (.bool false) := k21 146 rfl
                      refine .inl ⟨Flow.want_none rfl, ?_⟩
                      exact Flow.run_same (Flow.exec_move (.inl rfl) e146) Flow.grow_refl
                    refine Flow.Ones.cons ?_ ?_
                    · rintro a w hC hoff ⟨k22, -⟩
                      have e147 : a.eval (.tmp 147) = (.bool false) := k22 147 rfl
                      have e17 : a.eval (.tmp 17) = (.pointer (some ⟨A, 0, none⟩)) := hoff.at 17 (by kernel_rfl)
                      refine .inl ⟨Flow.want_yes rfl rfl e147, ?_⟩
                      refine Flow.run_same ?_ Flow.grow_refl
                      have ec := Flow.eval_const a
                      generalize a.eval = ρ at e17 ec ⊢
                      simp [execOp, e17, go_sem]
                    refine Flow.Ones.cons ?_ ?_
                    · rintro a w hC hoff ⟨k23, k22, -⟩
                      have e148 : a.eval (.tmp 148) = (.pointer (some ⟨A, 2, none⟩)) := k23 148 rfl
                      have e147 : a.eval (.tmp 147) = (.bool false) := k22 147 rfl
                      refine .inl ⟨Flow.want_yes rfl rfl e147, ?_⟩
                      refine Flow.run_same ?_ Flow.grow_refl
                      have ec := Flow.eval_const a
                      generalize a.eval = ρ at e148 ec ⊢
                      have hc0 := Xm2.cell_grow hC a2w
                      simp [execOp, e148, hc0, go_sem]
                    refine Flow.Ones.cons ?_ ?_
                    · rintro a w hC hoff ⟨k22, -⟩
                      have e147 : a.eval (.tmp 147) = (.bool false) := k22 147 rfl
                      have e9 : a.eval (.tmp 9) = (.slice (some ⟨pb, po, none⟩) 3 pc) := hoff.at 9 (by kernel_rfl)
                      refine .inl ⟨Flow.want_yes rfl rfl e147, ?_⟩
                      exact Flow.run_same (Flow.exec_move (.inl rfl) e9) Flow.grow_refl
                    refine Flow.Ones.cons ?_ ?_
                    · rintro a w hC hoff ⟨k22, -⟩
                      have e147 : a.eval (.tmp 147) = (.bool false) := k22 147 rfl
                      have e19 : a.eval (.tmp 19) = (.pointer (some ⟨C, 0, none⟩)) := hoff.at 19 (by kernel_rfl)
                      refine .inl ⟨Flow.want_yes rfl rfl e147, ?_⟩
                      refine Flow.run_same ?_ Flow.grow_refl
                      have ec := Flow.eval_const a
                      generalize a.eval = ρ at e19 ec ⊢
                      simp [execOp, e19, go_sem]
                    refine Flow.Ones.cons ?_ ?_
                    · rintro a w hC hoff ⟨k26, k22, -⟩
                      have e151 : a.eval (.tmp 151) = (.pointer (some ⟨C, 0, none⟩)) := k26 151 rfl
                      have e147 : a.eval (.tmp 147) = (.bool false) := k22 147 rfl
                      refine .inl ⟨Flow.want_yes rfl rfl e147, ?_⟩
                      refine Flow.run_same ?_ Flow.grow_refl
                      have ec := Flow.eval_const a
                      generalize a.eval = ρ at e151 ec ⊢
                      have hc0 := Xm2.cell_grow hC c0w
                      simp [execOp, e151, hc0, go_sem]
                    refine Flow.Ones.cons ?_ ?_
                    · rintro a w hC hoff ⟨k25, k27, k22, -⟩
                      have e150 : a.eval (.tmp 150) = (.slice (some ⟨pb, po, none⟩) 3 pc) := k25 150 rfl
                      have e152 : a.eval (.tmp 152) = (.int .i64 (f : Int)) := k27 152 rfl
                      have e147 : a.eval (.tmp 147) = (.bool false) := k22 147 rfl
                      refine .inl ⟨Flow.want_yes rfl rfl e147, ?_⟩
                      refine Flow.run_same ?_ Flow.grow_refl
                      have ec := Flow.eval_const a
                      generalize a.eval = ρ at e150 e152 ec ⊢
                      simp [execOp, e150, e152, go_sem]; intro hh; omega
                    refine Flow.Ones.cons ?_ ?_
                    · rintro a w hC hoff ⟨k28, k22, -⟩
                      have e153 : a.eval (.tmp 153) = (.pointer (some ⟨pb, po + f * 6, none⟩)) := k28 153 rfl
                      have e147 : a.eval (.tmp 147) = (.bool false) := k22 147 rfl
                      refine .inl ⟨Flow.want_yes rfl rfl e147, ?_⟩
                      refine Flow.run_same ?_ Flow.grow_refl
                      have ec := Flow.eval_const a
                      generalize a.eval = ρ at e153 ec ⊢
                      simp [execOp, e153, go_sem]
                    refine Flow.Ones.cons ?_ ?_
                    · rintro a w hC hoff ⟨k29, k22, -⟩
                      have e154 : a.eval (.tmp 154) = (.pointer (some ⟨pb, po + f * 6 + 1, none⟩)) := k29 154 rfl
                      have e147 : a.eval (.tmp 147) = (.bool false) := k22 147 rfl
                      refine .inl ⟨Flow.want_yes rfl rfl e147, ?_⟩
                      refine Flow.run_same ?_ Flow.grow_refl
                      have ec := Flow.eval_const a
                      generalize a.eval = ρ at e154 ec ⊢
                      have hc0 := Xm2.cell_grow hC f1w
                      simp [execOp, e154, hc0, go_sem]
                    refine Flow.Ones.cons ?_ ?_
                    · rintro a w hC hoff ⟨k30, k22, -⟩
                      have e155 : a.eval (.tmp 155) = (.slice (some ⟨fb, fo, none⟩) fK c3') := k30 155 rfl
                      have e147 : a.eval (.tmp 147) = (.bool false) := k22 147 rfl
                      refine .inl ⟨Flow.want_yes rfl rfl e147, ?_⟩
                      refine Flow.run_same ?_ Flow.grow_refl
                      have ec := Flow.eval_const a
                      generalize a.eval = ρ at e155 ec ⊢
                      simp [execOp, e155, go_sem]
                    refine Flow.Ones.cons ?_ ?_
                    · rintro a w hC hoff ⟨k24, k31, k22, -⟩
                      have e149 : a.eval (.tmp 149) = (.int .i64 (fi : Int)) := k24 149 rfl
                      have e156 : a.eval (.tmp 156) = (.int .i64 (fK : Int)) := k31 156 rfl
                      have e147 : a.eval (.tmp 147) = (.bool false) := k22 147 rfl
                      refine .inl ⟨Flow.want_yes rfl rfl e147, ?_⟩
                      refine Flow.run_same ?_ Flow.grow_refl
                      have ec := Flow.eval_const a
                      generalize a.eval = ρ at e149 e156 ec ⊢
                      simp [execOp, e149, e156, go_sem]; omega
                    refine Flow.Ones.cons ?_ ?_
                    · rintro a w hC hoff ⟨k22, k32, -⟩
                      have e147 : a.eval (.tmp 147) = (.bool false) := k22 147 rfl
                      have e157 : a.eval (.tmp 157) = (.bool false) := k32 157 rfl
                      refine .inl ⟨Flow.want_none rfl, ?_⟩
                      exact Flow.run_same (Flow.exec_pick_no rfl e147 e157) Flow.grow_refl
                    refine Flow.Ones.cons ?_ ?_
                    · rintro a w hC hoff ⟨k33, -⟩
                      have e158 : a.eval (.tmp 158) = (.bool false) := k33 158 rfl
                      refine .inl ⟨Flow.want_none rfl, ?_⟩
                      exact Flow.run_same (Flow.exec_move (.inl rfl) e158) Flow.grow_refl
                    refine Flow.Ones.cons ?_ ?_
                    · rintro a w hC hoff ⟨k34, -⟩
                      have e159 : a.eval (.tmp 159) = (.bool false) := k34 159 rfl
                      have e18 : a.eval (.tmp 18) = (.pointer (some ⟨B, 0, none⟩)) := hoff.at 18 (by kernel_rfl)
                      refine .inl ⟨Flow.want_yes rfl rfl e159, ?_⟩
                      refine Flow.run_same ?_ Flow.grow_refl
                      have ec := Flow.eval_const a
                      generalize a.eval = ρ at e18 ec ⊢
                      simp [execOp, e18, go_sem]
                    refine Flow.Ones.cons ?_ ?_
                    · rintro a w hC hoff ⟨k35, k34, -⟩
                      have e160 : a.eval (.tmp 160) = (.pointer (some ⟨B, 2, none⟩)) := k35 160 rfl
                      have e159 : a.eval (.tmp 159) = (.bool false) := k34 159 rfl
                      refine .inl ⟨Flow.want_yes rfl rfl e159, ?_⟩
                      refine Flow.run_same ?_ Flow.grow_refl
                      have ec := Flow.eval_const a
                      generalize a.eval = ρ at e160 ec ⊢
                      have hc0 := Xm2.cell_grow hC b2w
                      simp [execOp, e160, hc0, go_sem]
                    refine Flow.Ones.cons ?_ ?_
                    · rintro a w hC hoff ⟨k34, -⟩
                      have e159 : a.eval (.tmp 159) = (.bool false) := k34 159 rfl
                      have e9 : a.eval (.tmp 9) = (.slice (some ⟨pb, po, none⟩) 3 pc) := hoff.at 9 (by kernel_rfl)
                      refine .inl ⟨Flow.want_yes rfl rfl e159, ?_⟩
                      exact Flow.run_same (Flow.exec_move (.inl rfl) e9) Flow.grow_refl
                    refine Flow.Ones.cons ?_ ?_
                    · rintro a w hC hoff ⟨k34, -⟩
                      have e159 : a.eval (.tmp 159) = (.bool false) := k34 159 rfl
                      have e19 : a.eval (.tmp 19) = (.pointer (some ⟨C, 0, none⟩)) := hoff.at 19 (by kernel_rfl)
                      refine .inl ⟨Flow.want_yes rfl rfl e159, ?_⟩
                      refine Flow.run_same ?_ Flow.grow_refl
                      have ec := Flow.eval_const a
                      generalize a.eval = ρ at e19 ec ⊢
                      simp [execOp, e19, go_sem]
                    refine Flow.Ones.cons ?_ ?_
                    · rintro a w hC hoff ⟨k38, k34, -⟩
                      have e163 : a.eval (.tmp 163) = (.pointer (some ⟨C, 1, none⟩)) := k38 163 rfl
                      have e159 : a.eval (.tmp 159) = (.bool false) := k34 159 rfl
                      refine .inl ⟨Flow.want_yes rfl rfl e159, ?_⟩
                      refine Flow.run_same ?_ Flow.grow_refl
                      have ec := Flow.eval_const a
                      generalize a.eval = ρ at e163 ec ⊢
                      have hc0 := Xm2.cell_grow hC c1w
                      simp [execOp, e163, hc0, go_sem]
                    refine Flow.Ones.cons ?_ ?_
                    · rintro a w hC hoff ⟨k37, k39, k34, -⟩
                      have e162 : a.eval (.tmp 162) = (.slice (some ⟨pb, po, none⟩) 3 pc) := k37 162 rfl
                      have e164 : a.eval (.tmp 164) = (.int .i64 (t : Int)) := k39 164 rfl
                      have e159 : a.eval (.tmp 159) = (.bool false) := k34 159 rfl
                      refine .inl ⟨Flow.want_yes rfl rfl e159, ?_⟩
                      refine Flow.run_same ?_ Flow.grow_refl
                      have ec := Flow.eval_const a
                      generalize a.eval = ρ at e162 e164 ec ⊢
                      simp [execOp, e162, e164, go_sem]; intro hh; omega
                    refine Flow.Ones.cons ?_ ?_
                    · rintro a w hC hoff ⟨k40, k34, -⟩
                      have e165 : a.eval (.tmp 165) = (.pointer (some ⟨pb, po + t * 6, none⟩)) := k40 165 rfl
                      have e159 : a.eval (.tmp 159) = (.bool false) := k34 159 rfl
                      refine .inl ⟨Flow.want_yes rfl rfl e159, ?_⟩
                      refine Flow.run_same ?_ Flow.grow_refl
                      have ec := Flow.eval_const a
                      generalize a.eval = ρ at e165 ec ⊢
                      simp [execOp, e165, go_sem]
                    refine Flow.Ones.cons ?_ ?_
                    · rintro a w hC hoff ⟨k41, k34, -⟩
                      have e166 : a.eval (.tmp 166) = (.pointer (some ⟨pb, po + t * 6 + 1, none⟩)) := k41 166 rfl
                      have e159 : a.eval (.tmp 159) = (.bool false) := k34 159 rfl
                      refine .inl ⟨Flow.want_yes rfl rfl e159, ?_⟩
                      refine Flow.run_same ?_ Flow.grow_refl
                      have ec := Flow.eval_const a
                      generalize a.eval = ρ at e166 ec ⊢
                      have hc0 := Xm2.cell_grow hC t1pw
                      simp [execOp, e166, hc0, go_sem]
                    refine Flow.Ones.cons ?_ ?_
                    · rintro a w hC hoff ⟨k42, k34, -⟩
                      have e167 : a.eval (.tmp 167) = (.slice (some ⟨tb, tof, none⟩) tK e3') := k42 167 rfl
                      have e159 : a.eval (.tmp 159) = (.bool false) := k34 159 rfl
                      refine .inl ⟨Flow.want_yes rfl rfl e159, ?_⟩
                      refine Flow.run_same ?_ Flow.grow_refl
                      have ec := Flow.eval_const a
                      generalize a.eval = ρ at e167 ec ⊢
                      simp [execOp, e167, go_sem]
                    refine Flow.Ones.cons ?_ ?_
                    · rintro a w hC hoff ⟨k36, k43, k34, -⟩
                      have e161 : a.eval (.tmp 161) = (.int .i64 (ti : Int)) := k36 161 rfl
                      have e168 : a.eval (.tmp 168) = (.int .i64 (tK : Int)) := k43 168 rfl
                      have e159 : a.eval (.tmp 159) = (.bool false) := k34 159 rfl
                      refine .inl ⟨Flow.want_yes rfl rfl e159, ?_⟩
                      refine Flow.run_same ?_ Flow.grow_refl
                      have ec := Flow.eval_const a
                      generalize a.eval = ρ at e161 e168 ec ⊢
                      simp [execOp, e161, e168, go_sem]; omega
                    refine Flow.Ones.cons ?_ ?_
                    · rintro a w hC hoff ⟨k34, k44, -⟩
                      have e159 : a.eval (.tmp 159) = (.bool false) := k34 159 rfl
                      have e169 : a.eval (.tmp 169) = (.bool false) := k44 169 rfl
                      refine .inl ⟨Flow.want_none rfl, ?_⟩
                      exact Flow.run_same (Flow.exec_pick_no rfl e159 e169) Flow.grow_refl
                    refine Flow.Ones.cons ?_ ?_
                    · rintro a w hC hoff ⟨k45, -⟩
                      have e170 : a.eval (.tmp 170) = (.bool false) := k45 170 rfl
                      refine .inl ⟨Flow.want_none rfl, ?_⟩
                      exact Flow.run_same (Flow.exec_move (.inl rfl) e170) Flow.grow_refl
                    refine Flow.Ones.cons ?_ ?_
                    · rintro a w hC hoff ⟨k46, -⟩
                      have e171 : a.eval (.tmp 171) = (.bool false) := k46 171 rfl
                      have e9 : a.eval (.tmp 9) = (.slice (some ⟨pb, po, none⟩) 3 pc) := hoff.at 9 (by kernel_rfl)
                      refine .inl ⟨Flow.want_yes rfl rfl e171, ?_⟩
                      exact Flow.run_same (Flow.exec_move (.inl rfl) e9) Flow.grow_refl
                    refine Flow.Ones.cons ?_ ?_
                    · rintro a w hC hoff ⟨k46, -⟩
                      have e171 : a.eval (.tmp 171) = (.bool false) := k46 171 rfl
                      have e19 : a.eval (.tmp 19) = (.pointer (some ⟨C, 0, none⟩)) := hoff.at 19 (by kernel_rfl)
                      refine .inl ⟨Flow.want_yes rfl rfl e171, ?_⟩
                      refine Flow.run_same ?_ Flow.grow_refl
                      have ec := Flow.eval_const a
                      generalize a.eval = ρ at e19 ec ⊢
                      simp [execOp, e19, go_sem]
                    refine Flow.Ones.cons ?_ ?_
                    · rintro a w hC hoff ⟨k48, k46, -⟩
                      have e173 : a.eval (.tmp 173) = (.pointer (some ⟨C, 0, none⟩)) := k48 173 rfl
                      have e171 : a.eval (.tmp 171) = (.bool false) := k46 171 rfl
                      refine .inl ⟨Flow.want_yes rfl rfl e171, ?_⟩
                      refine Flow.run_same ?_ Flow.grow_refl
                      have ec := Flow.eval_const a
                      generalize a.eval = ρ at e173 ec ⊢
                      have hc0 := Xm2.cell_grow hC c0w
                      simp [execOp, e173, hc0, go_sem]
                    refine Flow.Ones.cons ?_ ?_
                    · rintro a w hC hoff ⟨k47, k49, k46, -⟩
                      have e172 : a.eval (.tmp 172) = (.slice (some ⟨pb, po, none⟩) 3 pc) := k47 172 rfl
                      have e174 : a.eval (.tmp 174) = (.int .i64 (f : Int)) := k49 174 rfl
                      have e171 : a.eval (.tmp 171) = (.bool false) := k46 171 rfl
                      refine .inl ⟨Flow.want_yes rfl rfl e171, ?_⟩
                      refine Flow.run_same ?_ Flow.grow_refl
                      have ec := Flow.eval_const a
                      generalize a.eval = ρ at e172 e174 ec ⊢
                      simp [execOp, e172, e174, go_sem]; intro hh; omega
                    refine Flow.Ones.cons ?_ ?_
                    · rintro a w hC hoff ⟨k50, k46, -⟩
                      have e175 : a.eval (.tmp 175) = (.pointer (some ⟨pb, po + f * 6, none⟩)) := k50 175 rfl
                      have e171 : a.eval (.tmp 171) = (.bool false) := k46 171 rfl
                      refine .inl ⟨Flow.want_yes rfl rfl e171, ?_⟩
                      refine Flow.run_same ?_ Flow.grow_refl
                      have ec := Flow.eval_const a
                      generalize a.eval = ρ at e175 ec ⊢
                      simp [execOp, e175, go_sem]
                    refine Flow.Ones.cons ?_ ?_
                    · rintro a w hC hoff ⟨k51, k46, -⟩
                      have e176 : a.eval (.tmp 176) = (.pointer (some ⟨pb, po + f * 6 + 1, none⟩)) := k51 176 rfl
                      have e171 : a.eval (.tmp 171) = (.bool false) := k46 171 rfl
                      refine .inl ⟨Flow.want_yes rfl rfl e171, ?_⟩
                      refine Flow.run_same ?_ Flow.grow_refl
                      have ec := Flow.eval_const a
                      generalize a.eval = ρ at e176 ec ⊢
                      have hc0 := Xm2.cell_grow hC f1w
                      simp [execOp, e176, hc0, go_sem]
                    refine Flow.Ones.cons ?_ ?_
                    · rintro a w hC hoff ⟨k46, -⟩
                      have e171 : a.eval (.tmp 171) = (.bool false) := k46 171 rfl
                      have e17 : a.eval (.tmp 17) = (.pointer (some ⟨A, 0, none⟩)) := hoff.at 17 (by kernel_rfl)
                      refine .inl ⟨Flow.want_yes rfl rfl e171, ?_⟩
                      refine Flow.run_same ?_ Flow.grow_refl
                      have ec := Flow.eval_const a
                      generalize a.eval = ρ at e17 ec ⊢
                      simp [execOp, e17, go_sem]
                    refine Flow.Ones.cons ?_ ?_
                    · rintro a w hC hoff ⟨k53, k46, -⟩
                      have e178 : a.eval (.tmp 178) = (.pointer (some ⟨A, 2, none⟩)) := k53 178 rfl
                      have e171 : a.eval (.tmp 171) = (.bool false) := k46 171 rfl
                      refine .inl ⟨Flow.want_yes rfl rfl e171, ?_⟩
                      refine Flow.run_same ?_ Flow.grow_refl
                      have ec := Flow.eval_const a
                      generalize a.eval = ρ at e178 ec ⊢
                      have hc0 := Xm2.cell_grow hC a2w
                      simp [execOp, e178, hc0, go_sem]
                    refine Flow.Ones.cons ?_ ?_
                    · rintro a w hC hoff ⟨k52, k54, k46, -⟩
                      have e177 : a.eval (.tmp 177) = (.slice (some ⟨fb, fo, none⟩) fK c3') := k52 177 rfl
                      have e179 : a.eval (.tmp 179) = (.int .i64 (fi : Int)) := k54 179 rfl
                      have e171 : a.eval (.tmp 171) = (.bool false) := k46 171 rfl
                      refine .inl ⟨Flow.want_yes rfl rfl e171, ?_⟩
                      refine Flow.run_same ?_ Flow.grow_refl
                      have ec := Flow.eval_const a
                      generalize a.eval = ρ at e177 e179 ec ⊢
                      simp [execOp, e177, e179, go_sem]; intro hh; omega
                    refine Flow.Ones.cons ?_ ?_
                    · rintro a w hC hoff ⟨k55, k46, -⟩
                      have e180 : a.eval (.tmp 180) = (.pointer (some ⟨fb, fo + fi * 2, none⟩)) := k55 180 rfl
                      have e171 : a.eval (.tmp 171) = (.bool false) := k46 171 rfl
                      refine .inl ⟨Flow.want_yes rfl rfl e171, ?_⟩
                      refine Flow.run_same ?_ Flow.grow_refl
                      have ec := Flow.eval_const a
                      generalize a.eval = ρ at e180 ec ⊢
                      have hc0 := Xm2.cell_grow hC x0w
                      have hc1 := Xm2.cell_grow hC x1w
                      simp [execOp, e180, hc0, hc1, go_sem]
                    refine Flow.Ones.cons ?_ ?_
                    · rintro a w hC hoff ⟨k46, -⟩
                      have e171 : a.eval (.tmp 171) = (.bool false) := k46 171 rfl
                      have e11 : a.eval (.tmp 11) = (.slice (some ⟨ob, oo, none⟩) j oc) := hoff.at 11 (by kernel_rfl)
                      refine .inl ⟨Flow.want_yes rfl rfl e171, ?_⟩
                      exact Flow.run_same (Flow.exec_move (.inl rfl) e11) Flow.grow_refl
                    refine Flow.Ones.cons ?_ ?_
                    · rintro a w hC hoff ⟨k46, -⟩
                      have e171 : a.eval (.tmp 171) = (.bool false) := k46 171 rfl
                      have e16 : a.eval (.tmp 16) = (.int .i64 (c : Int)) := hoff.at 16 (by kernel_rfl)
                      refine .inl ⟨Flow.want_yes rfl rfl e171, ?_⟩
                      exact Flow.run_same (Flow.exec_move (.inl rfl) e16) Flow.grow_refl
                    refine Flow.Ones.cons ?_ ?_
                    · rintro a w hC hoff ⟨k57, k58, k46, -⟩
                      have e182 : a.eval (.tmp 182) = (.slice (some ⟨ob, oo, none⟩) j oc) := k57 182 rfl
                      have e183 : a.eval (.tmp 183) = (.int .i64 (c : Int)) := k58 183 rfl
                      have e171 : a.eval (.tmp 171) = (.bool false) := k46 171 rfl
                      refine .inl ⟨Flow.want_yes rfl rfl e171, ?_⟩
                      refine Flow.run_same ?_ Flow.grow_refl
                      have ec := Flow.eval_const a
                      generalize a.eval = ρ at e182 e183 ec ⊢
                      simp [execOp, e182, e183, go_sem]; intro hh; omega
                    refine Flow.Ones.cons ?_ ?_
                    · rintro a w hC hoff ⟨k59, k46, -⟩
                      have e184 : a.eval (.tmp 184) = (.pointer (some ⟨ob, oo + c, none⟩)) := k59 184 rfl
                      have e171 : a.eval (.tmp 171) = (.bool false) := k46 171 rfl
                      refine .inl ⟨Flow.want_yes rfl rfl e171, ?_⟩
                      refine Flow.run_same ?_ Flow.grow_refl
                      have ec := Flow.eval_const a
                      generalize a.eval = ρ at e184 ec ⊢
                      have hc0 := Xm2.cell_grow hC q0w
                      simp [execOp, e184, hc0, go_sem]
                    refine Flow.Ones.cons ?_ ?_
                    · rintro a w hC hoff ⟨k60, k46, -⟩
                      have e185 : a.eval (.tmp 185) = (.int .i64 (q : Int)) := k60 185 rfl
                      have e171 : a.eval (.tmp 171) = (.bool false) := k46 171 rfl
                      refine .inl ⟨Flow.want_yes rfl rfl e171, ?_⟩
                      refine Flow.run_same ?_ Flow.grow_refl
                      have ec := Flow.eval_const a
                      generalize a.eval = ρ at e185 ec ⊢
                      simp [execOp, e185, ec, go_sem]
                    refine Flow.Ones.cons ?_ ?_
                    · rintro a w hC hoff ⟨k56, k61, k46, -⟩
                      have e181 : a.eval (.tmp 181) = (.agg #[.int .i64 1, .int .i64 (q : Int)]) := k56 181 rfl
                      have e186 : a.eval (.tmp 186) = (.agg #[.int .i64 1, .int .i64 (q : Int)]) := k61 186 rfl
                      have e171 : a.eval (.tmp 171) = (.bool false) := k46 171 rfl
                      refine .inl ⟨Flow.want_yes rfl rfl e171, ?_⟩
                      refine Flow.run_same ?_ Flow.grow_refl
                      have ec := Flow.eval_const a
                      generalize a.eval = ρ at e181 e186 ec ⊢
                      simp [execOp, e181, e186, s1, s2, go_sem]
                    refine Flow.Ones.cons ?_ ?_
                    · rintro a w hC hoff ⟨k46, k62, -⟩
                      have e171 : a.eval (.tmp 171) = (.bool false) := k46 171 rfl
                      have e187 : a.eval (.tmp 187) = (.bool false) := k62 187 rfl
                      refine .inl ⟨Flow.want_none rfl, ?_⟩
                      exact Flow.run_same (Flow.exec_pick_no rfl e171 e187) Flow.grow_refl
                    refine Flow.Ones.cons ?_ ?_
                    · rintro a w hC hoff ⟨k63, -⟩
                      have e188 : a.eval (.tmp 188) = (.bool false) := k63 188 rfl
                      refine .inl ⟨Flow.want_none rfl, ?_⟩
                      exact Flow.run_same (Flow.exec_move (.inl rfl) e188) Flow.grow_refl
                    refine Flow.Ones.cons ?_ ?_
                    · rintro a w hC hoff ⟨k64, -⟩
                      have e189 : a.eval (.tmp 189) = (.bool false) := k64 189 rfl
                      have e9 : a.eval (.tmp 9) = (.slice (some ⟨pb, po, none⟩) 3 pc) := hoff.at 9 (by kernel_rfl)
                      refine .inl ⟨Flow.want_yes rfl rfl e189, ?_⟩
                      exact Flow.run_same (Flow.exec_move (.inl rfl) e9) Flow.grow_refl
                    refine Flow.Ones.cons ?_ ?_
                    · rintro a w hC hoff ⟨k64, -⟩
                      have e189 : a.eval (.tmp 189) = (.bool false) := k64 189 rfl
                      have e19 : a.eval (.tmp 19) = (.pointer (some ⟨C, 0, none⟩)) := hoff.at 19 (by kernel_rfl)
                      refine .inl ⟨Flow.want_yes rfl rfl e189, ?_⟩
                      refine Flow.run_same ?_ Flow.grow_refl
                      have ec := Flow.eval_const a
                      generalize a.eval = ρ at e19 ec ⊢
                      simp [execOp, e19, go_sem]
                    refine Flow.Ones.cons ?_ ?_
                    · rintro a w hC hoff ⟨k66, k64, -⟩
                      have e191 : a.eval (.tmp 191) = (.pointer (some ⟨C, 1, none⟩)) := k66 191 rfl
                      have e189 : a.eval (.tmp 189) = (.bool false) := k64 189 rfl
                      refine .inl ⟨Flow.want_yes rfl rfl e189, ?_⟩
                      refine Flow.run_same ?_ Flow.grow_refl
                      have ec := Flow.eval_const a
                      generalize a.eval = ρ at e191 ec ⊢
                      have hc0 := Xm2.cell_grow hC c1w
                      simp [execOp, e191, hc0, go_sem]
                    refine Flow.Ones.cons ?_ ?_
                    · rintro a w hC hoff ⟨k65, k67, k64, -⟩
                      have e190 : a.eval (.tmp 190) = (.slice (some ⟨pb, po, none⟩) 3 pc) := k65 190 rfl
                      have e192 : a.eval (.tmp 192) = (.int .i64 (t : Int)) := k67 192 rfl
                      have e189 : a.eval (.tmp 189) = (.bool false) := k64 189 rfl
                      refine .inl ⟨Flow.want_yes rfl rfl e189, ?_⟩
                      refine Flow.run_same ?_ Flow.grow_refl
                      have ec := Flow.eval_const a
                      generalize a.eval = ρ at e190 e192 ec ⊢
                      simp [execOp, e190, e192, go_sem]; intro hh; omega
                    refine Flow.Ones.cons ?_ ?_
                    · rintro a w hC hoff ⟨k68, k64, -⟩
                      have e193 : a.eval (.tmp 193) = (.pointer (some ⟨pb, po + t * 6, none⟩)) := k68 193 rfl
                      have e189 : a.eval (.tmp 189) = (.bool false) := k64 189 rfl
                      refine .inl ⟨Flow.want_yes rfl rfl e189, ?_⟩
                      refine Flow.run_same ?_ Flow.grow_refl
                      have ec := Flow.eval_const a
                      generalize a.eval = ρ at e193 ec ⊢
                      simp [execOp, e193, go_sem]
                    refine Flow.Ones.cons ?_ ?_
                    · rintro a w hC hoff ⟨k69, k64, -⟩
                      have e194 : a.eval (.tmp 194) = (.pointer (some ⟨pb, po + t * 6 + 1, none⟩)) := k69 194 rfl
                      have e189 : a.eval (.tmp 189) = (.bool false) := k64 189 rfl
                      refine .inl ⟨Flow.want_yes rfl rfl e189, ?_⟩
                      refine Flow.run_same ?_ Flow.grow_refl
                      have ec := Flow.eval_const a
                      generalize a.eval = ρ at e194 ec ⊢
                      have hc0 := Xm2.cell_grow hC t1pw
                      simp [execOp, e194, hc0, go_sem]
                    refine Flow.Ones.cons ?_ ?_
                    · rintro a w hC hoff ⟨k64, -⟩
                      have e189 : a.eval (.tmp 189) = (.bool false) := k64 189 rfl
                      have e18 : a.eval (.tmp 18) = (.pointer (some ⟨B, 0, none⟩)) := hoff.at 18 (by kernel_rfl)
                      refine .inl ⟨Flow.want_yes rfl rfl e189, ?_⟩
                      refine Flow.run_same ?_ Flow.grow_refl
                      have ec := Flow.eval_const a
                      generalize a.eval = ρ at e18 ec ⊢
                      simp [execOp, e18, go_sem]
                    refine Flow.Ones.cons ?_ ?_
                    · rintro a w hC hoff ⟨k71, k64, -⟩
                      have e196 : a.eval (.tmp 196) = (.pointer (some ⟨B, 2, none⟩)) := k71 196 rfl
                      have e189 : a.eval (.tmp 189) = (.bool false) := k64 189 rfl
                      refine .inl ⟨Flow.want_yes rfl rfl e189, ?_⟩
                      refine Flow.run_same ?_ Flow.grow_refl
                      have ec := Flow.eval_const a
                      generalize a.eval = ρ at e196 ec ⊢
                      have hc0 := Xm2.cell_grow hC b2w
                      simp [execOp, e196, hc0, go_sem]
                    refine Flow.Ones.cons ?_ ?_
                    · rintro a w hC hoff ⟨k70, k72, k64, -⟩
                      have e195 : a.eval (.tmp 195) = (.slice (some ⟨tb, tof, none⟩) tK e3') := k70 195 rfl
                      have e197 : a.eval (.tmp 197) = (.int .i64 (ti : Int)) := k72 197 rfl
                      have e189 : a.eval (.tmp 189) = (.bool false) := k64 189 rfl
                      refine .inl ⟨Flow.want_yes rfl rfl e189, ?_⟩
                      refine Flow.run_same ?_ Flow.grow_refl
                      have ec := Flow.eval_const a
                      generalize a.eval = ρ at e195 e197 ec ⊢
                      simp [execOp, e195, e197, go_sem]; intro hh; omega
                    refine Flow.Ones.cons ?_ ?_
                    · rintro a w hC hoff ⟨k73, k64, -⟩
                      have e198 : a.eval (.tmp 198) = (.pointer (some ⟨tb, tof + ti * 2, none⟩)) := k73 198 rfl
                      have e189 : a.eval (.tmp 189) = (.bool false) := k64 189 rfl
                      refine .inl ⟨Flow.want_yes rfl rfl e189, ?_⟩
                      refine Flow.run_same ?_ Flow.grow_refl
                      have ec := Flow.eval_const a
                      generalize a.eval = ρ at e198 ec ⊢
                      have hc0 := Xm2.cell_grow hC z0w
                      have hc1 := Xm2.cell_grow hC z1w
                      simp [execOp, e198, hc0, hc1, go_sem]
                    refine Flow.Ones.cons ?_ ?_
                    · rintro a w hC hoff ⟨k64, -⟩
                      have e189 : a.eval (.tmp 189) = (.bool false) := k64 189 rfl
                      have e11 : a.eval (.tmp 11) = (.slice (some ⟨ob, oo, none⟩) j oc) := hoff.at 11 (by kernel_rfl)
                      refine .inl ⟨Flow.want_yes rfl rfl e189, ?_⟩
                      exact Flow.run_same (Flow.exec_move (.inl rfl) e11) Flow.grow_refl
                    refine Flow.Ones.cons ?_ ?_
                    · rintro a w hC hoff ⟨k64, -⟩
                      have e189 : a.eval (.tmp 189) = (.bool false) := k64 189 rfl
                      have e16 : a.eval (.tmp 16) = (.int .i64 (c : Int)) := hoff.at 16 (by kernel_rfl)
                      refine .inl ⟨Flow.want_yes rfl rfl e189, ?_⟩
                      exact Flow.run_same (Flow.exec_move (.inl rfl) e16) Flow.grow_refl
                    refine Flow.Ones.cons ?_ ?_
                    · rintro a w hC hoff ⟨k75, k76, k64, -⟩
                      have e200 : a.eval (.tmp 200) = (.slice (some ⟨ob, oo, none⟩) j oc) := k75 200 rfl
                      have e201 : a.eval (.tmp 201) = (.int .i64 (c : Int)) := k76 201 rfl
                      have e189 : a.eval (.tmp 189) = (.bool false) := k64 189 rfl
                      refine .inl ⟨Flow.want_yes rfl rfl e189, ?_⟩
                      refine Flow.run_same ?_ Flow.grow_refl
                      have ec := Flow.eval_const a
                      generalize a.eval = ρ at e200 e201 ec ⊢
                      simp [execOp, e200, e201, go_sem]; intro hh; omega
                    refine Flow.Ones.cons ?_ ?_
                    · rintro a w hC hoff ⟨k77, k64, -⟩
                      have e202 : a.eval (.tmp 202) = (.pointer (some ⟨ob, oo + c, none⟩)) := k77 202 rfl
                      have e189 : a.eval (.tmp 189) = (.bool false) := k64 189 rfl
                      refine .inl ⟨Flow.want_yes rfl rfl e189, ?_⟩
                      refine Flow.run_same ?_ Flow.grow_refl
                      have ec := Flow.eval_const a
                      generalize a.eval = ρ at e202 ec ⊢
                      have hc0 := Xm2.cell_grow hC q0w
                      simp [execOp, e202, hc0, go_sem]
                    refine Flow.Ones.cons ?_ ?_
                    · rintro a w hC hoff ⟨k78, k64, -⟩
                      have e203 : a.eval (.tmp 203) = (.int .i64 (q : Int)) := k78 203 rfl
                      have e189 : a.eval (.tmp 189) = (.bool false) := k64 189 rfl
                      refine .inl ⟨Flow.want_yes rfl rfl e189, ?_⟩
                      refine Flow.run_same ?_ Flow.grow_refl
                      have ec := Flow.eval_const a
                      generalize a.eval = ρ at e203 ec ⊢
                      simp [execOp, e203, ec, go_sem]
                    refine Flow.Ones.cons ?_ ?_
                    · rintro a w hC hoff ⟨k74, k79, k64, -⟩
                      have e199 : a.eval (.tmp 199) = (.agg #[.int .i64 2, .int .i64 (q : Int)]) := k74 199 rfl
                      have e204 : a.eval (.tmp 204) = (.agg #[.int .i64 2, .int .i64 (q : Int)]) := k79 204 rfl
                      have e189 : a.eval (.tmp 189) = (.bool false) := k64 189 rfl
                      refine .inl ⟨Flow.want_yes rfl rfl e189, ?_⟩
                      refine Flow.run_same ?_ Flow.grow_refl
                      have ec := Flow.eval_const a
                      generalize a.eval = ρ at e199 e204 ec ⊢
                      simp [execOp, e199, e204, s1, s2, go_sem]
                    refine Flow.Ones.cons ?_ ?_
                    · rintro a w hC hoff ⟨k64, k80, -⟩
                      have e189 : a.eval (.tmp 189) = (.bool false) := k64 189 rfl
                      have e205 : a.eval (.tmp 205) = (.bool false) := k80 205 rfl
                      refine .inl ⟨Flow.want_none rfl, ?_⟩
                      exact Flow.run_same (Flow.exec_pick_no rfl e189 e205) Flow.grow_refl
                    exact trivial
                  case stab20 => exact trivial
                  case ends20 =>
                    intro w' hg
                    iterate 82 refine ends_v ?_
                    refine ends_nil ?_
                    simp only [Act.put, List.setIfInBounds_toArray, List.set_cons_succ, List.set_cons_zero]
                    go_wp2_with fail
                    go_roundw
                    case rel => exact ⟨c + 1, by omega, by go_num, Lib.hid (HGr.out.trans (HGx.out.trans hg)), Lib.hid (Pr.oldV_of HA.out hg), Lib.hid (Pr.oldV_of HB.out hg), Lib.hid (Pr.oldV_of HC.out hg)⟩
                    case measure => simp [intOf]; omega
              · obtain rfl : j = c := by omega
                go_wp2_with (go_at_call 38; refine (awake45 _).mono ?_; rintro e w7 ⟨rfl, hg⟩; have HG7 := Lib.hid hg; clear hg)
                go_ret
                exact ⟨rfl, HGw.out.trans (HG.out.trans (HG6.out.trans (HGr.out.trans HG7.out)))⟩
end Go.Proofs.YtepianllbfnpoaaGreat

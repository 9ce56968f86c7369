/- galliardlaw16.GameAny returns true: the walk. -/
import Derived.Test.YtcnmaplopbbmaaaRAw16
namespace Go.Proofs.Ytcnmaplopbbmaaa
open Go.RowKit
set_option maxRecDepth 100000 in
set_option maxHeartbeats 8000000 in
theorem gameAny_walk (a0 : Option Addr) (n0 c0 : Nat) (a1 : Option Addr) (n1 c1 : Nat) (zs es : List Int) (W : World) (hz : n0 ≤ 9223372036854775807) (hx : n1 ≤ 9223372036854775807) (hn : Ints W (.slice a0 n0 c0) zs) (he : Seg 2 W (.slice a1 n1 c1) n1 (es.map (Value.int .i64))) :
    Calls Try.prog 3 #[.slice a0 n0 c0, .slice a1 n1 c1] W fun e w' => e = .returned (.bool true) ∧ Flow.Grow W w' := by
  have HAny := Lib.hid (rany_any a0 n0 c0 a1 n1 c1 zs es W hz hx hn he)
  have HAw := Lib.hid awake16
  clear hn he hz hx
  go_enter Try.func3, Try.ntmps3
  go_upto_region 2 with (go_at_call 6; refine HAny.out.mono ?_; rintro e w0 ⟨v0, v1, v2, v3, g, rfl, ha, hnp, hnm, hns, hes, hg⟩; obtain ⟨pa, pc, rfl⟩ := ha.parts; obtain ⟨ma, mc, rfl⟩ := ha.msgs; obtain ⟨na, nc, rfl⟩ := Gr.Recs.form ha.nodes; obtain ⟨ea, ec, rfl⟩ := Gr.Recs.form ha.edges; have HG0 := Lib.hid hg; have HA0 := Lib.hid ha; have Hsz := Lib.hid (And.intro hnp (And.intro hnm (And.intro hns hes))); clear hg ha hnp hnm hns hes)
  have HBw10 : Hid ((w0.alloc (.cells #[.slice pa g.np pc, .slice ma g.nm mc, .slice na g.ns.length nc, .slice ea g.es.length ec] 28)).heap[w0.heap.size]? = some (.cells #[.slice pa g.np pc, .slice ma g.nm mc, .slice na g.ns.length nc, .slice ea g.es.length ec] 28 (0, 0))) := Lib.hid (lay1_0 _ _)
  have HGw1 : Hid (Flow.Grow w0 (w0.alloc (.cells #[.slice pa g.np pc, .slice ma g.nm mc, .slice na g.ns.length nc, .slice ea g.es.length ec] 28))) := Lib.hid (lay1_g _ _)
  have HSw1 : Hid ((w0.alloc (.cells #[.slice pa g.np pc, .slice ma g.nm mc, .slice na g.ns.length nc, .slice ea g.es.length ec] 28)).heap.size = w0.heap.size + 1) := Lib.hid (by simp)
  generalize w0.alloc (.cells #[.slice pa g.np pc, .slice ma g.nm mc, .slice na g.ns.length nc, .slice ea g.es.length ec] 28) = w1 at *
  obtain ⟨X, hX⟩ : ∃ X, X = w0.heap.size := ⟨_, rfl⟩
  rw [← hX] at HBw10 HSw1 ⊢
  have HXw1 := Lib.hid hX
  clear hX
  have CXw1 : Hid (∀ wq, Flow.Grow w1 wq → wq.cell? ⟨X, 0, none⟩ = some (.slice pa g.np pc) ∧ wq.cell? ⟨X, 1, none⟩ = some (.slice ma g.nm mc) ∧ wq.cell? ⟨X, 2, none⟩ = some (.slice na g.ns.length nc) ∧ wq.cell? ⟨X, 3, none⟩ = some (.slice ea g.es.length ec)) := Lib.hid (fun wq g => ⟨lay_cell g HBw10.out rfl, lay_cell g HBw10.out rfl, lay_cell g HBw10.out rfl, lay_cell g HBw10.out rfl⟩)
  have FXw1 : Hid (∀ wq, Flow.Grow w1 wq → (∀ k, wq.frozen? ⟨X, k, none⟩ = false)) := Lib.hid (fun wq g => fun k => lay_frozen g HBw10.out k)
  have HA1 := Lib.hid (HA0.out.grow HGw1.out)
  have HGW1 : Hid (Flow.Grow W w1) := Lib.hid (HG0.out.trans HGw1.out)
  have HFew : Hid g.Few := Lib.hid ⟨by have := Hsz.out.1; omega, by have := Hsz.out.2.1; omega, by have := Hsz.out.2.2.1; omega, by have := Hsz.out.2.2.2; omega⟩
  have HCk := Lib.hid fun w (hg : Flow.Grow w1 w) => check_any _ _ _ _ g w HFew.out (HA1.out.grow hg)
  have HNew0 := Lib.hid fun w (hg : Flow.Grow w1 w) => new_any _ _ _ _ g w HFew.out (by have := Hsz.out.2.2.1; omega) (HA1.out.grow hg)
  have HRl := Lib.hid fun w (hg : Flow.Grow w1 w) => rlabels_any _ _ _ _ g w HFew.out (by have := Hsz.out.1; omega) (by have := Hsz.out.2.1; omega) (HA1.out.grow hg)
  obtain ⟨c00, c01, c02, c03⟩ := CXw1.out w1 (Flow.grow_refl _)
  by_cases hck : g.check = 0
  · have HNew : Hid (∀ w, Flow.Grow w1 w → Calls Try.prog 7 #[.agg #[.slice pa g.np pc, .slice ma g.nm mc, .slice na g.ns.length nc, .slice ea g.es.length ec]] w fun e w' => (∃ B lv, e = .returned (.tuple #[.pointer (some ⟨B, 0, none⟩), .int .i64 0]) ∧ Gr.Gm w' B (.slice pa g.np pc) (.slice ma g.nm mc) (.slice na g.ns.length nc) (.slice ea g.es.length ec) lv g g.labels 0) ∧ Flow.Grow w w') := Lib.hid fun w hg => (HNew0.out w hg).mono fun e w' ⟨a, b⟩ => by
      rcases a with ⟨hne, _⟩ | ⟨_, B, lv, L, he, h1, h2, h3⟩
      · exact absurd hck hne
      · have e1 := (Gr.G.check_may hck).labels h2
        subst e1
        exact ⟨⟨B, lv, he, h1⟩, b⟩
    have hLl : g.labels.length ≤ 1000000 := by
      refine Nat.le_trans (g.la_len g.np) ?_
      rw [Hsz.out.1, Hsz.out.2.1]
      decide
    have HGl := Lib.hid fun w B lv (hm : Gr.Gm w B (.slice pa g.np pc) (.slice ma g.nm mc) (.slice na g.ns.length nc) (.slice ea g.es.length ec) lv g g.labels 0) => glabels_any B _ _ _ _ lv g g.labels 0 w hLl hm
    have HPl := Lib.hid fun w (hg : Flow.Grow w1 w) => play_any _ _ _ _ g 25 w HFew.out (by have := Hsz.out.2.2.1; omega) hck (by decide) (by have := Hsz.out.2.1; omega) (HA1.out.grow hg)
    have Hck := Lib.hid hck
    clear hck
    generalize g.labels = L at *
    go_upto_region 7 with (first
      | (go_at_call 7; refine (HNew.out _ (Flow.grow_refl _)).mono ?_; rintro e w2 ⟨⟨B, lv, rfl, hgm⟩, hg⟩; have HG2 := Lib.hid hg; have HGm := Lib.hid hgm; obtain ⟨d00, d01, d02, d03⟩ := CXw1.out w2 (HG2.out); clear hg hgm)
      | (go_at_call 8; refine (HCk.out _ HG2.out).mono ?_; rintro e w3 ⟨rfl, hg⟩; rw [Hck.out]; have HG3 := Lib.hid (HG2.out.trans hg); have HGm3 := Lib.hid (HGm.out.grow hg); clear hg))
    clear c00 c01 c02 c03 d00 d01 d02 d03
    refine Flow.region_grown (Fs := [.inl ((.pointer (some ⟨B, 0, none⟩))), .inr (fun v w => w.ownsRow 0 45 3 v L.length (L.flatMap Gr.lcells)), .inl ((.agg #[.slice pa g.np pc, .slice ma g.nm mc, .slice na g.ns.length nc, .slice ea g.es.length ec])), .inr (fun v w => w.ownsRow 0 45 3 v L.length (L.flatMap Gr.lcells)), .inr (fun v w => w.ownsRow 0 45 3 v L.length (L.flatMap Gr.lcells)), .inr (fun v w => w.ownsRow 0 45 3 v L.length (L.flatMap Gr.lcells))])
      (S := [[], [0], [], [2], [1], [3]]) (by kernel_rfl) (by kernel_rfl) (by kernel_rfl) rfl ?stab7 ?ones7 ?ends7
    case ones7 =>
      refine Flow.Ones.cons ?_ ?_
      · intro a w hC hoff _
        have e6 : a.eval (.tmp 6) = (.pointer (some ⟨B, 0, none⟩)) := hoff.at 6 (by kernel_rfl)
        refine .inl ⟨Flow.want_none rfl, ?_⟩
        exact Flow.run_same (Flow.exec_move (.inl rfl) e6) Flow.grow_refl
      refine Flow.Ones.cons ?_ ?_
      · rintro a w hC hoff ⟨k0, -⟩
        have e55 : a.eval (.tmp 55) = (.pointer (some ⟨B, 0, none⟩)) := k0 55 rfl
        refine .inl ⟨Flow.want_none rfl, ?_⟩
        exact Flow.run_call (Flow.exec_call (args := #[((.pointer (some ⟨B, 0, none⟩)))]) rfl Try.func11 (by kernel_rfl) (by kernel_rfl) (by simp only [List.map_toArray, List.map_cons, List.map_nil, e55] <;> rfl)) ((HGl.out w B lv (HGm3.out.grow hC)).mono fun e w' ⟨⟨v, he, ho⟩, hg⟩ => ⟨_, he, hg, own_base ho (Nat.zero_le _)⟩)
      refine Flow.Ones.cons ?_ ?_
      · intro a w hC hoff _
        have e5 : a.eval (.tmp 5) = (.pointer (some ⟨X, 0, none⟩)) := hoff.at 5 (by kernel_rfl)
        refine .inl ⟨Flow.want_none rfl, ?_⟩
        refine Flow.run_same ?_ Flow.grow_refl
        have ec := Flow.eval_const a
        generalize a.eval = ρ at e5 ec ⊢
        obtain ⟨h0, h1, h2, h3⟩ := CXw1.out w (HG3.out.trans hC)
        simp [execOp, e5, h0, h1, h2, h3, go_sem]
      refine Flow.Ones.cons ?_ ?_
      · rintro a w hC hoff ⟨k2, -⟩
        have e57 : a.eval (.tmp 57) = (.agg #[.slice pa g.np pc, .slice ma g.nm mc, .slice na g.ns.length nc, .slice ea g.es.length ec]) := k2 57 rfl
        refine .inl ⟨Flow.want_none rfl, ?_⟩
        exact Flow.run_call (Flow.exec_call (args := #[((.agg #[.slice pa g.np pc, .slice ma g.nm mc, .slice na g.ns.length nc, .slice ea g.es.length ec]))]) rfl Try.func14 (by kernel_rfl) (by kernel_rfl) (by simp only [List.map_toArray, List.map_cons, List.map_nil, e57] <;> rfl)) ((HRl.out w (HG3.out.trans hC)).mono fun e w' ⟨⟨v, he, ho⟩, hg⟩ => ⟨_, he, hg, own_base ho (Nat.zero_le _)⟩)
      refine Flow.Ones.cons ?_ ?_
      · rintro a w hC hoff ⟨k1, -⟩
        have e56 : (fun v w => w.ownsRow 0 45 3 v L.length (L.flatMap Gr.lcells)) (a.eval (.tmp 56)) w := k1 56 rfl
        refine .inl ⟨Flow.want_none rfl, ?_⟩
        exact Flow.run_val (Flow.exec_move (.inr rfl) rfl) (Flow.grow_refl _) e56
      refine Flow.Ones.cons ?_ ?_
      · rintro a w hC hoff ⟨k3, -⟩
        have e58 : (fun v w => w.ownsRow 0 45 3 v L.length (L.flatMap Gr.lcells)) (a.eval (.tmp 58)) w := k3 58 rfl
        refine .inl ⟨Flow.want_none rfl, ?_⟩
        exact Flow.run_val (Flow.exec_move (.inr rfl) rfl) (Flow.grow_refl _) e58
      exact trivial
    case stab7 =>
      simp only [Flow.Stable, and_true]
      exact ⟨fun v w w' hR h => own_keep h hR, fun v w w' hR h => own_keep h hR, fun v w w' hR h => own_keep h hR, fun v w w' hR h => own_keep h hR⟩
    case ends7 =>
      intro w4 hg
      simp only [Flow.ends]
      rintro v56 _ v58 _ v10 h10 v11 h11
      simp only [Act.put, List.setIfInBounds_toArray, List.set_cons_succ, List.set_cons_zero]
      have H10 := Lib.hid (Seg.of_own h10)
      have H11 := Lib.hid (Seg.of_own h11)
      obtain ⟨xa, xc, rfl⟩ := own_form h10
      obtain ⟨ya, yc, rfl⟩ := own_form h11
      have HG4 := Lib.hid (HG3.out.trans hg)
      clear hg h10 h11
      generalize hll : L.length = ll at *
      have Hll := Lib.hid hll
      clear hll
      go_wp2_with fail
      go_loopw [12] (fun vi wr => ∃ i : Nat, i ≤ ll ∧ vi = .int .i64 i ∧ Hid (Flow.Grow w4 wr)) (fun vi _ => ll - (intOf vi).toNat)
      case atStart => exact ⟨0, by omega, rfl, Lib.hid (Flow.grow_refl _)⟩
      case round =>
        obtain ⟨i, hi, rfl, HGr⟩ := hrel
        rename World => wz
        by_cases hil : i < ll
        · have H10' : Gr.LbsAt wz (.slice xa ll xc) L := by
            have k := Seg.grow H10.out HGr.out
            unfold Gr.LbsAt Gr.Recs
            rw [Hll.out]
            exact k
          have H11' : Gr.LbsAt wz (.slice ya ll yc) L := by
            have k := Seg.grow H11.out HGr.out
            unfold Gr.LbsAt Gr.Recs
            rw [Hll.out]
            exact k
          obtain ⟨b1, o1, rfl, x0, x1, x2⟩ := Gr.LbsAt.at H10' (j := i) (by rw [Hll.out]; exact hil)
          obtain ⟨b2, o2, rfl, y0, y1, y2⟩ := Gr.LbsAt.at H11' (j := i) (by rw [Hll.out]; exact hil)
          clear H10' H11'
          generalize (L.getD i (0, 0, 0)).1 = p at *
          generalize (L.getD i (0, 0, 0)).2.1 = q at *
          generalize (L.getD i (0, 0, 0)).2.2 = r at *
          go_upto_region 13 with fail
          refine Flow.region_grown (Fs := [.inl ((.slice (some ⟨b1, o1, none⟩) ll xc)), .inl ((.int .i64 (i : Int))), .inl ((.pointer (some ⟨b1, o1 + i * 3, none⟩))), .inl ((.agg #[.int .i64 p, .int .i64 q, .int .i64 r])), .inl ((.slice (some ⟨b2, o2, none⟩) ll yc)), .inl ((.int .i64 (i : Int))), .inl ((.pointer (some ⟨b2, o2 + i * 3, none⟩))), .inl ((.agg #[.int .i64 p, .int .i64 q, .int .i64 r])), .inl ((.bool false))])
            (S := [[], [], [0, 1], [2], [], [], [4, 5], [6], [3, 7]]) (by kernel_rfl) (by kernel_rfl) (by kernel_rfl) rfl ?stab13 ?ones13 ?ends13
          case ones13 =>
            refine Flow.Ones.cons ?_ ?_
            · intro a w hC hoff _
              have e10 : a.eval (.tmp 10) = (.slice (some ⟨b1, o1, none⟩) ll xc) := hoff.at 10 (by kernel_rfl)
              refine .inl ⟨Flow.want_none rfl, ?_⟩
              exact Flow.run_same (Flow.exec_move (.inl rfl) e10) Flow.grow_refl
            refine Flow.Ones.cons ?_ ?_
            · intro a w hC hoff _
              have e12 : a.eval (.tmp 12) = (.int .i64 (i : Int)) := hoff.at 12 (by kernel_rfl)
              refine .inl ⟨Flow.want_none rfl, ?_⟩
              exact Flow.run_same (Flow.exec_move (.inl rfl) e12) Flow.grow_refl
            refine Flow.Ones.cons ?_ ?_
            · rintro a w hC hoff ⟨k0, k1, -⟩
              have e70 : a.eval (.tmp 70) = (.slice (some ⟨b1, o1, none⟩) ll xc) := k0 70 rfl
              have e71 : a.eval (.tmp 71) = (.int .i64 (i : Int)) := k1 71 rfl
              refine .inl ⟨Flow.want_none rfl, ?_⟩
              refine Flow.run_same ?_ Flow.grow_refl
              have ec := Flow.eval_const a
              generalize a.eval = ρ at e70 e71 ec ⊢
              simp [execOp, e70, e71, go_sem]; intro hh; omega
            refine Flow.Ones.cons ?_ ?_
            · rintro a w hC hoff ⟨k2, -⟩
              have e72 : a.eval (.tmp 72) = (.pointer (some ⟨b1, o1 + i * 3, none⟩)) := k2 72 rfl
              refine .inl ⟨Flow.want_none rfl, ?_⟩
              refine Flow.run_same ?_ Flow.grow_refl
              have ec := Flow.eval_const a
              generalize a.eval = ρ at e72 ec ⊢
              have h0 := Xm2.cell_grow hC x0
              have h1 := Xm2.cell_grow hC x1
              have h2 := Xm2.cell_grow hC x2
              simp [execOp, e72, h0, h1, h2, go_sem]
            refine Flow.Ones.cons ?_ ?_
            · intro a w hC hoff _
              have e11 : a.eval (.tmp 11) = (.slice (some ⟨b2, o2, none⟩) ll yc) := hoff.at 11 (by kernel_rfl)
              refine .inl ⟨Flow.want_none rfl, ?_⟩
              exact Flow.run_same (Flow.exec_move (.inl rfl) e11) Flow.grow_refl
            refine Flow.Ones.cons ?_ ?_
            · intro a w hC hoff _
              have e12 : a.eval (.tmp 12) = (.int .i64 (i : Int)) := hoff.at 12 (by kernel_rfl)
              refine .inl ⟨Flow.want_none rfl, ?_⟩
              exact Flow.run_same (Flow.exec_move (.inl rfl) e12) Flow.grow_refl
            refine Flow.Ones.cons ?_ ?_
            · rintro a w hC hoff ⟨k4, k5, -⟩
              have e74 : a.eval (.tmp 74) = (.slice (some ⟨b2, o2, none⟩) ll yc) := k4 74 rfl
              have e75 : a.eval (.tmp 75) = (.int .i64 (i : Int)) := k5 75 rfl
              refine .inl ⟨Flow.want_none rfl, ?_⟩
              refine Flow.run_same ?_ Flow.grow_refl
              have ec := Flow.eval_const a
              generalize a.eval = ρ at e74 e75 ec ⊢
              simp [execOp, e74, e75, go_sem]; intro hh; omega
            refine Flow.Ones.cons ?_ ?_
            · rintro a w hC hoff ⟨k6, -⟩
              have e76 : a.eval (.tmp 76) = (.pointer (some ⟨b2, o2 + i * 3, none⟩)) := k6 76 rfl
              refine .inl ⟨Flow.want_none rfl, ?_⟩
              refine Flow.run_same ?_ Flow.grow_refl
              have ec := Flow.eval_const a
              generalize a.eval = ρ at e76 ec ⊢
              have h0 := Xm2.cell_grow hC y0
              have h1 := Xm2.cell_grow hC y1
              have h2 := Xm2.cell_grow hC y2
              simp [execOp, e76, h0, h1, h2, go_sem]
            refine Flow.Ones.cons ?_ ?_
            · rintro a w hC hoff ⟨k3, k7, -⟩
              have e73 : a.eval (.tmp 73) = (.agg #[.int .i64 p, .int .i64 q, .int .i64 r]) := k3 73 rfl
              have e77 : a.eval (.tmp 77) = (.agg #[.int .i64 p, .int .i64 q, .int .i64 r]) := k7 77 rfl
              refine .inl ⟨Flow.want_none rfl, ?_⟩
              refine Flow.run_same ?_ Flow.grow_refl
              have ec := Flow.eval_const a
              generalize a.eval = ρ at e73 e77 ec ⊢
              simp [execOp, e73, e77, guard_lab, run_neq_struct, go_sem]
            exact trivial
          case stab13 => exact trivial
          case ends13 =>
            intro w6 hg
            simp only [Flow.ends]
            simp only [Act.put, List.setIfInBounds_toArray, List.set_cons_succ, List.set_cons_zero]
            have HG6 := Lib.hid (HGr.out.trans hg)
            clear hg x0 x1 x2 y0 y1 y2
            go_wp2_with fail
            go_roundw
            case rel => exact ⟨i + 1, by omega, by go_num, HG6⟩
            case measure => simp [intOf]; omega
        · obtain rfl : i = ll := by omega
          have HG5 : Hid (Flow.Grow w1 wz) := Lib.hid (HG4.out.trans HGr.out)
          go_wp2_with (first
            | (go_at_call 9; refine (HAw.out _).mono ?_; rintro e w7 ⟨rfl, hg⟩; have HG7 := Lib.hid (HG5.out.trans hg); obtain ⟨d00, d01, d02, d03⟩ := CXw1.out w7 (HG7.out); clear hg)
            | (go_at_call 15; refine (HPl.out _ HG7.out).mono ?_; rintro e w8 ⟨rfl, hg⟩; have HG8 := Lib.hid (HG7.out.trans hg); clear hg))
          go_ret
          exact ⟨rfl, HGW1.out.trans HG8.out⟩
  · have HNew : Hid (∀ w, Flow.Grow w1 w → Calls Try.prog 7 #[.agg #[.slice pa g.np pc, .slice ma g.nm mc, .slice na g.ns.length nc, .slice ea g.es.length ec]] w fun e w' => e = .returned (.tuple #[.pointer none, .int .i64 g.check]) ∧ Flow.Grow w w') := Lib.hid fun w hg => (HNew0.out w hg).mono fun e w' ⟨a, b⟩ => by
      rcases a with ⟨_, he⟩ | ⟨he, _⟩
      · exact ⟨he, b⟩
      · exact absurd he hck
    generalize g.check = ck at *
    have d0 : (ck != 0) = true := by simp [hck]
    clear hck
    go_wp2_with (first
      | (go_at_call 7; refine (HNew.out _ (Flow.grow_refl _)).mono ?_; rintro e w2 ⟨rfl, hg⟩; have HG2 := Lib.hid hg; obtain ⟨d00, d01, d02, d03⟩ := CXw1.out w2 (HG2.out); clear hg)
      | (go_at_call 8; refine (HCk.out _ HG2.out).mono ?_; rintro e w3 ⟨rfl, hg⟩; have HG3 := Lib.hid (HG2.out.trans hg); clear hg)
      | (go_at_call 9; refine (HAw.out _).mono ?_; rintro e w4 ⟨rfl, hg⟩; have HG4 := Lib.hid (HG3.out.trans hg); clear hg)
      | (go_at_call 10; refine (turns_none _ _).mono ?_; rintro e w' ⟨rfl, rfl⟩)
      | (go_at_call 11; refine (labels_none _).mono ?_; rintro e w' ⟨rfl, rfl⟩)
      | (go_at_call 12; refine (first_none _).mono ?_; rintro e w' ⟨rfl, rfl⟩)
      | (go_at_call 13; refine (unsafe_none _).mono ?_; rintro e w' ⟨rfl, rfl⟩))
    go_ret
    exact ⟨rfl, HGW1.out.trans HG4.out⟩
end Go.Proofs.Ytcnmaplopbbmaaa

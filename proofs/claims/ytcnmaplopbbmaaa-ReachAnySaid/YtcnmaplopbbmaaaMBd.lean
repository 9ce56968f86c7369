/- game.New, First, Unsafe, Over, Labels by their contracts. -/
/- mark.Of, mark.All by their contracts. -/
import Derived.Test.YtcnmaplopbbmaaaGOf
import Derived.Test.YtcnmaplopbbmaaaGCheck
import Derived.Test.YtcnmaplopbbmaaaMAa
import Derived.Test.YtcnmaplopbbmaaaMAd
namespace Go.Proofs.Ytcnmaplopbbmaaa
open Go.RowKit
/-- the interactions of a graph -/
structure Gr.LabOf (g : Gr.G) (L : List Gr.Lb) : Prop where
  len : L.length ≤ 800000
  srt : Gr.Srt L
  mem : ∀ x, x ∈ L ↔ x ∈ g.gath g.ns.length
/-- what New answers -/
def Gr.NewP (n : Nat) (v0 v1 v2 v3 : Value) (g : Gr.G) (e : Ending) (w : World) : Prop :=
  (g.check ≠ 0 ∧ e = .returned (.tuple #[.pointer none, .int .i64 g.check])) ∨
  (g.check = 0 ∧ ∃ B lv L, e = .returned (.tuple #[.pointer (some ⟨B, 0, none⟩), .int .i64 0]) ∧ Gr.Gm w B v0 v1 v2 v3 lv g L 0 ∧ Gr.LabOf g L ∧ n ≤ B)
set_option maxRecDepth 100000 in
set_option maxHeartbeats 2000000 in
theorem new_any (v0 v1 v2 v3 : Value) (g : Gr.G) (W : World) (hf : g.Few) (hns : g.ns.length ≤ 400000) (h : Gr.GAt W v0 v1 v2 v3 g) :
    Calls Try.prog 7 #[.agg #[v0, v1, v2, v3]] W fun e w' => Gr.NewP W.heap.size v0 v1 v2 v3 g e w' ∧ Flow.Grow W w' := by
  have HA := Lib.hid h
  have HCk := Lib.hid fun w (hg : Flow.Grow W w) => check_any v0 v1 v2 v3 g w hf (h.grow hg)
  have HOf := Lib.hid fun w (hg : Flow.Grow W w) => aof_any v0 v1 v2 v3 g w hns (h.grow hg)
  clear h hf hns
  obtain ⟨ck, hck⟩ : ∃ ck, ck = g.check := ⟨_, rfl⟩
  have Hck := Lib.hid hck
  rw [← hck] at HCk
  clear hck
  go_enter Try.func7, Try.ntmps7
  go_upto_region 1 with fail
  have HBw10 : Hid ((W.alloc (.cells #[v0, v1, v2, v3] 28)).heap[W.heap.size]? = some (.cells #[v0, v1, v2, v3] 28 (0, 0))) := Lib.hid (lay1_0 _ _)
  have HGw1 : Hid (Flow.Grow W (W.alloc (.cells #[v0, v1, v2, v3] 28))) := Lib.hid (lay1_g _ _)
  have HSw1 : Hid ((W.alloc (.cells #[v0, v1, v2, v3] 28)).heap.size = W.heap.size + 1) := Lib.hid (by simp)
  generalize W.alloc (.cells #[v0, v1, v2, v3] 28) = w1 at *
  obtain ⟨X, hX⟩ : ∃ X, X = W.heap.size := ⟨_, rfl⟩
  rw [← hX] at HBw10 HSw1 ⊢
  have HXw1 := Lib.hid hX
  clear hX
  have CXw1 : Hid (∀ wq, Flow.Grow w1 wq → wq.cell? ⟨X, 0, none⟩ = some (v0) ∧ wq.cell? ⟨X, 1, none⟩ = some (v1) ∧ wq.cell? ⟨X, 2, none⟩ = some (v2) ∧ wq.cell? ⟨X, 3, none⟩ = some (v3)) := Lib.hid (fun wq g => ⟨lay_cell g HBw10.out rfl, lay_cell g HBw10.out rfl, lay_cell g HBw10.out rfl, lay_cell g HBw10.out rfl⟩)
  have FXw1 : Hid (∀ wq, Flow.Grow w1 wq → (∀ k, wq.frozen? ⟨X, k, none⟩ = false)) := Lib.hid (fun wq g => fun k => lay_frozen g HBw10.out k)
  obtain ⟨c00, c01, c02, c03⟩ := CXw1.out w1 (Flow.grow_refl _)
  by_cases hc : ck = 0
  · have d0 : (ck != 0) = false := by simp [hc]
    go_upto_region 4 with (go_at_call 8; refine (HCk.out _ HGw1.out).mono ?_; rintro e w2 ⟨rfl, hg⟩; have HG2 := Lib.hid hg; clear hg)
    have HGW : Hid (Flow.Grow W w2) := Lib.hid (HGw1.out.trans HG2.out)
    clear c00 c01 c02 c03
    refine Flow.region_grown (Fs := [.inl ((.agg #[v0, v1, v2, v3])), .inl ((.agg #[v0, v1, v2, v3])), .inr (fun v w => ∃ L, Gr.LbsAt w v L ∧ Gr.LabOf g L), .inr (fun v w => ∃ lv L, v = .agg #[v0, v1, v2, v3, lv, .int .i64 0] ∧ Gr.LbsAt w lv L ∧ Gr.LabOf g L), .inr (fun v w => ∃ B lv L, v = .pointer (some ⟨B, 0, none⟩) ∧ Gr.Gm w B v0 v1 v2 v3 lv g L 0 ∧ Gr.LabOf g L ∧ W.heap.size ≤ B), .inr (fun v w => ∃ B lv L, v = .pointer (some ⟨B, 0, none⟩) ∧ Gr.Gm w B v0 v1 v2 v3 lv g L 0 ∧ Gr.LabOf g L ∧ W.heap.size ≤ B), .inl ((.int .i64 0))])
      (S := [[], [], [1], [0, 2], [3], [4], []]) (by kernel_rfl) (by kernel_rfl) (by kernel_rfl) rfl ?stab4 ?ones4 ?ends4
    case ones4 =>
      refine Flow.Ones.cons ?_ ?_
      · intro a w hC hoff _
        have e1 : a.eval (.tmp 1) = (.pointer (some ⟨X, 0, none⟩)) := hoff.at 1 (by kernel_rfl)
        refine .inl ⟨Flow.want_none rfl, ?_⟩
        refine Flow.run_same ?_ Flow.grow_refl
        have ec := Flow.eval_const a
        generalize a.eval = ρ at e1 ec ⊢
        obtain ⟨h0, h1, h2, h3⟩ := CXw1.out w (HG2.out.trans hC)
        simp [execOp, e1, h0, h1, h2, h3, go_sem]
      refine Flow.Ones.cons ?_ ?_
      · intro a w hC hoff _
        have e1 : a.eval (.tmp 1) = (.pointer (some ⟨X, 0, none⟩)) := hoff.at 1 (by kernel_rfl)
        refine .inl ⟨Flow.want_none rfl, ?_⟩
        refine Flow.run_same ?_ Flow.grow_refl
        have ec := Flow.eval_const a
        generalize a.eval = ρ at e1 ec ⊢
        obtain ⟨h0, h1, h2, h3⟩ := CXw1.out w (HG2.out.trans hC)
        simp [execOp, e1, h0, h1, h2, h3, go_sem]
      refine Flow.Ones.cons ?_ ?_
      · rintro a w hC hoff ⟨k1, -⟩
        have e11 : a.eval (.tmp 11) = (.agg #[v0, v1, v2, v3]) := k1 11 rfl
        refine .inl ⟨Flow.want_none rfl, ?_⟩
        exact Flow.run_call (Flow.exec_call (args := #[((.agg #[v0, v1, v2, v3]))]) rfl Try.func21 (by kernel_rfl) (by kernel_rfl) (by simp only [List.map_toArray, List.map_cons, List.map_nil, e11] <;> rfl)) ((HOf.out w (HGW.out.trans hC)).mono fun e w' ⟨L, ⟨v, he, h1⟩, h2, h3, h4, h5⟩ => ⟨v, he, h5, L, h1, h2, h3, h4⟩)
      refine Flow.Ones.cons ?_ ?_
      · rintro a w hC hoff ⟨k0, k2, -⟩
        have e10 : a.eval (.tmp 10) = (.agg #[v0, v1, v2, v3]) := k0 10 rfl
        have e12 : (fun v w => ∃ L, Gr.LbsAt w v L ∧ Gr.LabOf g L) (a.eval (.tmp 12)) w := k2 12 rfl
        refine .inl ⟨Flow.want_none rfl, ?_⟩
        obtain ⟨L, h1, h2⟩ := e12
        refine Flow.run_val (v := .agg #[v0, v1, v2, v3, a.eval (.tmp 12), .int .i64 0]) (w' := w) ?_ (Flow.grow_refl _) ⟨_, L, rfl, h1, h2⟩
        obtain ⟨xa, xc, hx⟩ := h1.form
        clear h1 k2
        generalize a.eval = ρ at e10 hx ⊢
        simp [execOp, e10, hx, go_sem]
      refine Flow.Ones.cons ?_ ?_
      · rintro a w hC hoff ⟨k3, -⟩
        have e13 : (fun v w => ∃ lv L, v = .agg #[v0, v1, v2, v3, lv, .int .i64 0] ∧ Gr.LbsAt w lv L ∧ Gr.LabOf g L) (a.eval (.tmp 13)) w := k3 13 rfl
        refine .inl ⟨Flow.want_none rfl, ?_⟩
        obtain ⟨lv, L, h13, h1, h2⟩ := e13
        refine Flow.run_val (v := .pointer (some ⟨w.heap.size, 0, none⟩)) (w' := w.alloc (.cells #[v0, v1, v2, v3, lv, .int .i64 0] 68)) ?_ (Flow.grow_alloc _ _) ⟨_, lv, L, rfl, ⟨heap_alloc_new _ _, Gr.GAt.sub (HA.out.grow (HGW.out.trans hC)) (mask_of (Sub.of_grow (Flow.grow_alloc _ _)) (by simp)), Seg.sub h1 (mask_of (Sub.of_grow (Flow.grow_alloc _ _)) (by simp))⟩, h2, (HGW.out.trans hC).size⟩
        clear h1 k3
        generalize a.eval = ρ at h13 ⊢
        simp [execOp, h13, go_sem]
      refine Flow.Ones.cons ?_ ?_
      · rintro a w hC hoff ⟨k4, -⟩
        have e14 : (fun v w => ∃ B lv L, v = .pointer (some ⟨B, 0, none⟩) ∧ Gr.Gm w B v0 v1 v2 v3 lv g L 0 ∧ Gr.LabOf g L ∧ W.heap.size ≤ B) (a.eval (.tmp 14)) w := k4 14 rfl
        refine .inl ⟨Flow.want_none rfl, ?_⟩
        exact Flow.run_val (Flow.exec_move (.inr rfl) rfl) (Flow.grow_refl _) e14
      refine Flow.Ones.cons ?_ ?_
      · intro a w hC hoff _
        refine .inl ⟨Flow.want_none rfl, ?_⟩
        exact Flow.run_same (Flow.exec_move (.inr rfl) rfl) Flow.grow_refl
      exact trivial
    case stab4 =>
      simp only [Flow.Stable, and_true]
      exact ⟨fun v w w' hR ⟨L, h1, h2⟩ => ⟨L, Seg.grow h1 hR, h2⟩, fun v w w' hR ⟨lv, L, h0, h1, h2⟩ => ⟨lv, L, h0, Seg.grow h1 hR, h2⟩, fun v w w' hR ⟨B, lv, L, h0, h1, h2⟩ => ⟨B, lv, L, h0, h1.grow hR, h2⟩, fun v w w' hR ⟨B, lv, L, h0, h1, h2⟩ => ⟨B, lv, L, h0, h1.grow hR, h2⟩⟩
    case ends4 =>
      intro w3 hg
      simp only [Flow.ends]
      rintro v12 _ v13 _ v14 _ v2 ⟨B, lv, L, rfl, h1, h2⟩
      simp only [Act.put, List.setIfInBounds_toArray, List.set_cons_succ, List.set_cons_zero]
      have HG3 := Lib.hid hg
      have H1 := Lib.hid h1
      have H2 := Lib.hid h2
      clear hg h1 h2
      go_wp2_with fail
      go_ret2
      exact ⟨.inr ⟨by rw [← Hck.out, hc], B, lv, L, rfl, H1.out, H2.out⟩, HGW.out.trans HG3.out⟩
  · have d0 : (ck != 0) = true := by simp [hc]
    go_wp2_with (go_at_call 8; refine (HCk.out _ HGw1.out).mono ?_; rintro e w2 ⟨rfl, hg⟩; have HG2 := Lib.hid hg; clear hg)
    go_ret2
    exact ⟨.inl ⟨by rw [← Hck.out]; exact hc, by rw [← Hck.out]; rfl⟩, HGw1.out.trans HG2.out⟩
end Go.Proofs.Ytcnmaplopbbmaaa
namespace Go.Proofs.Ytcnmaplopbbmaaa
open Go.RowKit
namespace Mark
def ofL (m : Nat) : List Int → Nat
  | [] => m
  | p :: l => ofL (m ||| bit p) l
theorem ofL_snoc (m : Nat) (l : List Int) (p : Int) : ofL m (l ++ [p]) = ofL m l ||| bit p := by
  induction l generalizing m with
  | nil => rfl
  | cons x l ih => exact ih _
theorem ofL_lt {m : Nat} (h : m < 2 ^ 64) (l : List Int) : ofL m l < 2 ^ 64 := by
  induction l generalizing m with
  | nil => exact h
  | cons x l ih => exact ih (Nat.or_lt_two_pow h (bit_lt x))
def allL (m : Nat) (l : List Int) : Bool := l.all (has m)
end Mark

set_option maxRecDepth 100000 in
set_option maxHeartbeats 400000 in
theorem of_any (v : Value) (zs : List Int) (w : World) (hz : zs.length ≤ 9223372036854775807) (h : Ints w v zs) :
    Calls Try.prog 29 #[v] w fun e w' => e = .returned (.int .u64 (Mark.ofL 0 zs : Int)) ∧ w = w' := by
  by_cases hn : zs = []
  · subst hn
    obtain ⟨a, cap, rfl, _⟩ := h
    have H : Hid (Mark.ofL 0 [] = 0) := Lib.hid rfl
    go_enter Try.func29, Try.ntmps29
    go_wp2_with fail
    refine wp_loop_rounds 1 ?_
    rw [rounds_succ]
    go_wp2_with fail
    go_ret
    exact ⟨rfl, rfl⟩
  · obtain ⟨b, off, cap, rfl, _, hc⟩ := h.shape hn
    obtain ⟨len, hlen⟩ : ∃ len, len = zs.length := ⟨_, rfl⟩
    rw [← hlen] at hc hz ⊢
    have Hlen := Lib.hid hlen
    clear hlen hn h
    go_enter Try.func29, Try.ntmps29
    go_wp2_with fail
    go_loop [3, 8] (fun m i => ∃ k : Nat, k ≤ len ∧ i = .int .i64 k ∧ m = .int .u64 (Mark.ofL 0 (zs.take k) : Int)) (fun _ i => len - (intOf i).toNat)
    case atStart => exact ⟨0, by omega, rfl, rfl⟩
    case round =>
      obtain ⟨k, hk, rfl, rfl⟩ := hrel
      by_cases hkl : k < len
      · have hcell := hc k hkl
        have hs : Mark.ofL 0 (zs.take (k + 1)) = Mark.ofL 0 (zs.take k) ||| Mark.bit (zs.getD k 0) := by
          have hk' : k < zs.length := by rw [← Hlen.out]; exact hkl
          rw [List.take_succ_eq_append_getElem hk', Mark.ofL_snoc]
          simp [hk']
        have Hs := Lib.hid hs
        have hlt := Mark.ofL_lt (m := 0) (by omega) (zs.take k)
        clear hs hc
        generalize zs.getD k 0 = z at *
        generalize Mark.ofL 0 (zs.take k) = M at *
        have hb := Mark.bit_lt z
        have hor := bits_or_u64_nat M (Mark.bit z) (by omega) (by omega)
        go_wp2_with (go_at_call 49; refine (bit_any _ _).mono ?_; rintro e w' ⟨rfl, rfl⟩)
        go_round
        case rel => exact ⟨k + 1, by omega, by go_num, by rw [Hs.out]⟩
        case measure => simp [intOf]; omega
      · clear hc
        have HE : Hid (zs.take k = zs) := Lib.hid (List.take_of_length_le (by rw [← Hlen.out]; omega))
        go_wp2_with fail
        go_ret
        exact ⟨ret_u64 (by rw [HE.out]), rfl⟩

set_option maxRecDepth 100000 in
set_option maxHeartbeats 400000 in
theorem all_any (m : Nat) (hm : m < 2 ^ 64) (v : Value) (zs : List Int) (w : World) (hz : zs.length ≤ 9223372036854775807) (h : Ints w v zs) :
    Calls Try.prog 46 #[.int .u64 (m : Int), v] w fun e w' => e = .returned (.bool (Mark.allL m zs)) ∧ w = w' := by
  by_cases hn : zs = []
  · subst hn
    obtain ⟨a, cap, rfl, _⟩ := h
    have H : Hid (Mark.allL m [] = true) := Lib.hid rfl
    go_enter Try.func46, Try.ntmps46
    go_wp2_with fail
    refine wp_loop_rounds 1 ?_
    rw [rounds_succ]
    go_wp2_with fail
    go_ret
    exact ⟨by rw [H.out]; rfl, rfl⟩
  · obtain ⟨b, off, cap, rfl, _, hc⟩ := h.shape hn
    obtain ⟨len, hlen⟩ : ∃ len, len = zs.length := ⟨_, rfl⟩
    rw [← hlen] at hc hz ⊢
    have Hlen := Lib.hid hlen
    clear hlen hn h
    go_enter Try.func46, Try.ntmps46
    go_wp2_with fail
    go_loop [9] (fun i => ∃ k : Nat, k ≤ len ∧ i = .int .i64 k ∧ Hid (Mark.allL m zs = Mark.allL m (zs.drop k))) (fun i => len - (intOf i).toNat)
    case atStart => exact ⟨0, by omega, rfl, Lib.hid rfl⟩
    case round =>
      obtain ⟨k, hk, rfl, Hall⟩ := hrel
      by_cases hkl : k < len
      · have hcell := hc k hkl
        have Hs : Hid (Mark.allL m (zs.drop k) = (Mark.has m (zs.getD k 0) && Mark.allL m (zs.drop (k + 1)))) := by
          have hk' : k < zs.length := by rw [← Hlen.out]; exact hkl
          refine Lib.hid ?_
          unfold Mark.allL
          rw [List.drop_eq_getElem_cons hk', List.all_cons, List.getD_eq_getElem?_getD, List.getElem?_eq_getElem hk', Option.getD_some]
        clear hc
        generalize zs.getD k 0 = z at *
        cases hb : Mark.has m z with
        | true =>
          have Hs' : Hid (Mark.allL m zs = Mark.allL m (zs.drop (k + 1))) := Lib.hid (by rw [Hall.out, Hs.out, hb]; rfl)
          go_wp2_with (go_at_call 48; refine (has_any _ _ _ hm).mono ?_; rintro e w' ⟨rfl, rfl⟩)
          go_round
          case rel => exact ⟨k + 1, by omega, by go_num, Hs'⟩
          case measure => simp [intOf]; omega
        | false =>
          have Hs' : Hid (Mark.allL m zs = false) := Lib.hid (by rw [Hall.out, Hs.out, hb]; rfl)
          go_wp2_with (go_at_call 48; refine (has_any _ _ _ hm).mono ?_; rintro e w' ⟨rfl, rfl⟩)
          go_ret
          exact ⟨by rw [Hs'.out]; rfl, rfl⟩
      · clear hc
        have HE : Hid (Mark.allL m zs = true) := Lib.hid (by rw [Hall.out, List.drop_eq_nil_of_le (by rw [← Hlen.out]; omega)]; rfl)
        go_wp2_with fail
        go_ret
        exact ⟨by rw [HE.out]; rfl, rfl⟩
end Go.Proofs.Ytcnmaplopbbmaaa

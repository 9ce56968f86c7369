/- game.First, Unsafe, Over, Labels by their contracts. -/
/- Plain law: a graph that may be: what its tasks hold, its interactions (as the document has them, and as the game has them), where the first tokens are. No program. -/
import Derived.Test.YtcnmaplopbbmaaaMBd
import Derived.Test.YtcnmaplopbbmaaaMBe
import Derived.Test.YtcnmaplopbbmaaaRLab
namespace Go.Proofs.Ytcnmaplopbbmaaa
open Go.RowKit
namespace Gr
def t0 : Tk := (List.replicate 64 false, false)
def G.first (g : G) : Tk := g.outT g.start t0
theorem ofL_puts : ∀ (l : List Int) (t : Tk), t.1.length = 64 → InP l → Mark.ofL (Mark.ofBools t.1) l = Mark.ofBools (l.foldl put1 t).1
  | [], t, _, _ => rfl
  | p :: l, t, ht, hp => by
    have h := hp p (by simp)
    rw [Mark.ofL, List.foldl_cons, ← ofL_puts l (put1 t p) (by rw [put1_len]; exact ht) (fun q hq => hp q (by simp [hq])), Mark.bit_in h.1 h.2, Mark.set_true ht (by omega)]
    rfl
end Gr
set_option maxRecDepth 100000 in
set_option maxHeartbeats 1000000 in
theorem gfirst_any (B : Nat) (v0 v1 v2 v3 lv : Value) (g : Gr.G) (L : List Gr.Lb) (e : Int) (W : World) (hF : g.Fit) (h : Gr.Gm W B v0 v1 v2 v3 lv g L e) :
    Calls Try.prog 12 #[.pointer (some ⟨B, 0, none⟩)] W fun e w' => e = .returned (.int .u64 (Mark.ofBools g.first.1 : Int)) ∧ Flow.Grow W w' := by
  have HG := Lib.hid h
  have HSt := Lib.hid fun w (hw : Gr.GAt w v0 v1 v2 v3 g) => start_any v0 v1 v2 v3 g w hF.few hw
  have HOut := Lib.hid fun w (hw : Gr.GAt w v0 v1 v2 v3 g) => graphOut_any v0 v1 v2 v3 g.start g.es w hF.few.es hw.edges
  have HMk : Hid (∀ w v, Ints w v (g.out g.start) → Calls Try.prog 29 #[v] w fun e w' => e = .returned (.int .u64 (Mark.ofBools g.first.1 : Int)) ∧ w = w') := Lib.hid fun w v hv => by
    have k := of_any v (g.out g.start) w (by have := g.out_len g.start hF.few; omega) hv
    have e0 := Gr.ofL_puts (g.out g.start) Gr.t0 (by simp [Gr.t0]) (hF.out g.start)
    have e1 : Mark.ofBools Gr.t0.1 = 0 := Mark.ofBools_false 64
    rw [e1] at e0
    rw [e0] at k
    exact k
  clear h hF
  generalize g.first = F at *
  generalize g.start = s at *
  go_enter Try.func12, Try.ntmps12
  go_upto_region 3 with fail
  refine Flow.region_grown (Fs := [.inl ((.pointer (some ⟨B, 0, none⟩))), .inl ((.pointer (some ⟨B, 0, none⟩))), .inl ((.pointer (some ⟨B, 0, none⟩))), .inl ((.agg #[v0, v1, v2, v3])), .inl ((.pointer (some ⟨B, 0, none⟩))), .inl ((.pointer (some ⟨B, 0, none⟩))), .inl ((.pointer (some ⟨B, 0, none⟩))), .inl ((.agg #[v0, v1, v2, v3])), .inl ((.int .i64 s)), .inr (fun v w => Ints w v (g.out s)), .inl ((.int .u64 (Mark.ofBools F.1 : Int))), .inl ((.int .u64 (Mark.ofBools F.1 : Int)))])
    (S := [[], [0], [1], [2], [], [4], [5], [6], [7], [3, 8], [9], [10]]) (by kernel_rfl) (by kernel_rfl) (by kernel_rfl) rfl ?stab3 ?ones3 ?ends3
  case ones3 =>
    refine Flow.Ones.cons ?_ ?_
    · intro a w hC hoff _
      have e0 : a.eval (.tmp 0) = (.pointer (some ⟨B, 0, none⟩)) := hoff.at 0 (by kernel_rfl)
      refine .inl ⟨Flow.want_none rfl, ?_⟩
      exact Flow.run_same (Flow.exec_move (.inl rfl) e0) Flow.grow_refl
    refine Flow.Ones.cons ?_ ?_
    · rintro a w hC hoff ⟨k0, -⟩
      have e5 : a.eval (.tmp 5) = (.pointer (some ⟨B, 0, none⟩)) := k0 5 rfl
      refine .inl ⟨Flow.want_none rfl, ?_⟩
      refine Flow.run_same ?_ Flow.grow_refl
      have ec := Flow.eval_const a
      generalize a.eval = ρ at e5 ec ⊢
      simp [execOp, e5, go_sem]
    refine Flow.Ones.cons ?_ ?_
    · rintro a w hC hoff ⟨k1, -⟩
      have e6 : a.eval (.tmp 6) = (.pointer (some ⟨B, 0, none⟩)) := k1 6 rfl
      refine .inl ⟨Flow.want_none rfl, ?_⟩
      refine Flow.run_same ?_ Flow.grow_refl
      have ec := Flow.eval_const a
      generalize a.eval = ρ at e6 ec ⊢
      simp [execOp, e6, go_sem]
    refine Flow.Ones.cons ?_ ?_
    · rintro a w hC hoff ⟨k2, -⟩
      have e7 : a.eval (.tmp 7) = (.pointer (some ⟨B, 0, none⟩)) := k2 7 rfl
      refine .inl ⟨Flow.want_none rfl, ?_⟩
      refine Flow.run_same ?_ Flow.grow_refl
      have ec := Flow.eval_const a
      generalize a.eval = ρ at e7 ec ⊢
      obtain ⟨d0, d1, d2, d3, d4⟩ := (HG.out.grow hC).cells
      simp [execOp, e7, d0, d1, d2, d3, go_sem]
    refine Flow.Ones.cons ?_ ?_
    · intro a w hC hoff _
      have e0 : a.eval (.tmp 0) = (.pointer (some ⟨B, 0, none⟩)) := hoff.at 0 (by kernel_rfl)
      refine .inl ⟨Flow.want_none rfl, ?_⟩
      exact Flow.run_same (Flow.exec_move (.inl rfl) e0) Flow.grow_refl
    refine Flow.Ones.cons ?_ ?_
    · rintro a w hC hoff ⟨k4, -⟩
      have e9 : a.eval (.tmp 9) = (.pointer (some ⟨B, 0, none⟩)) := k4 9 rfl
      refine .inl ⟨Flow.want_none rfl, ?_⟩
      refine Flow.run_same ?_ Flow.grow_refl
      have ec := Flow.eval_const a
      generalize a.eval = ρ at e9 ec ⊢
      simp [execOp, e9, go_sem]
    refine Flow.Ones.cons ?_ ?_
    · rintro a w hC hoff ⟨k5, -⟩
      have e10 : a.eval (.tmp 10) = (.pointer (some ⟨B, 0, none⟩)) := k5 10 rfl
      refine .inl ⟨Flow.want_none rfl, ?_⟩
      refine Flow.run_same ?_ Flow.grow_refl
      have ec := Flow.eval_const a
      generalize a.eval = ρ at e10 ec ⊢
      simp [execOp, e10, go_sem]
    refine Flow.Ones.cons ?_ ?_
    · rintro a w hC hoff ⟨k6, -⟩
      have e11 : a.eval (.tmp 11) = (.pointer (some ⟨B, 0, none⟩)) := k6 11 rfl
      refine .inl ⟨Flow.want_none rfl, ?_⟩
      refine Flow.run_same ?_ Flow.grow_refl
      have ec := Flow.eval_const a
      generalize a.eval = ρ at e11 ec ⊢
      obtain ⟨d0, d1, d2, d3, d4⟩ := (HG.out.grow hC).cells
      simp [execOp, e11, d0, d1, d2, d3, go_sem]
    refine Flow.Ones.cons ?_ ?_
    · rintro a w hC hoff ⟨k7, -⟩
      have e12 : a.eval (.tmp 12) = (.agg #[v0, v1, v2, v3]) := k7 12 rfl
      refine .inl ⟨Flow.want_none rfl, ?_⟩
      exact Flow.run_call (Flow.exec_call (args := #[((.agg #[v0, v1, v2, v3]))]) rfl Try.func30 (by kernel_rfl) (by kernel_rfl) (by simp only [List.map_toArray, List.map_cons, List.map_nil, e12] <;> rfl)) ((HSt.out w (HG.out.grow hC).at).mono fun e w' ⟨he, hg⟩ => ⟨_, he, hg, rfl⟩)
    refine Flow.Ones.cons ?_ ?_
    · rintro a w hC hoff ⟨k3, k8, -⟩
      have e8 : a.eval (.tmp 8) = (.agg #[v0, v1, v2, v3]) := k3 8 rfl
      have e13 : a.eval (.tmp 13) = (.int .i64 s) := k8 13 rfl
      refine .inl ⟨Flow.want_none rfl, ?_⟩
      exact Flow.run_call (Flow.exec_call (args := #[((.agg #[v0, v1, v2, v3])), ((.int .i64 s))]) rfl Try.func25 (by kernel_rfl) (by kernel_rfl) (by simp only [List.map_toArray, List.map_cons, List.map_nil, e8, e13] <;> rfl)) ((HOut.out w (HG.out.grow hC).at).mono fun e w' ⟨⟨va, he, ho⟩, hg⟩ => ⟨_, he, hg, Ints.of_own ho⟩)
    refine Flow.Ones.cons ?_ ?_
    · rintro a w hC hoff ⟨k9, -⟩
      have e14 : (fun v w => Ints w v (g.out s)) (a.eval (.tmp 14)) w := k9 14 rfl
      refine .inl ⟨Flow.want_none rfl, ?_⟩
      exact Flow.run_call (Flow.exec_call rfl Try.func29 (by kernel_rfl) (by kernel_rfl) (by simp only [List.map_toArray, List.map_cons, List.map_nil] <;> rfl)) ((HMk.out w _ e14).mono fun e w' ⟨he, hg⟩ => ⟨_, he, by rw [← hg]; exact Flow.grow_refl _, rfl⟩)
    refine Flow.Ones.cons ?_ ?_
    · rintro a w hC hoff ⟨k10, -⟩
      have e15 : a.eval (.tmp 15) = (.int .u64 (Mark.ofBools F.1 : Int)) := k10 15 rfl
      refine .inl ⟨Flow.want_none rfl, ?_⟩
      exact Flow.run_same (Flow.exec_move (.inr rfl) e15) Flow.grow_refl
    exact trivial
  case stab3 =>
    simp only [Flow.Stable, and_true]
    exact fun v w w' hR h => Ints.grow h hR
  case ends3 =>
    intro w1 hg
    simp only [Flow.ends]
    intro v14 _
    simp only [Act.put, List.setIfInBounds_toArray, List.set_cons_succ, List.set_cons_zero]
    have HG1 := Lib.hid hg
    clear hg
    go_wp2_with fail
    go_ret
    exact ⟨rfl, HG1.out⟩
set_option maxRecDepth 100000 in
theorem unsafe_any (B : Nat) (v0 v1 v2 v3 lv : Value) (g : Gr.G) (L : List Gr.Lb) (u : Bool) (W : World) (h : Gr.Gm W B v0 v1 v2 v3 lv g L (Gr.err u 0)) :
    Calls Try.prog 13 #[.pointer (some ⟨B, 0, none⟩)] W fun e w' => e = .returned (.bool u) ∧ W = w' := by
  have c5 : W.cell? ⟨B, 5, none⟩ = some (.int .i64 (Gr.err u 0)) := (cell_of_row W B 5 _ _ _ h.row).trans rfl
  clear h
  cases u with
  | false =>
    have c5' : W.cell? ⟨B, 5, none⟩ = some (.int .i64 0) := c5
    clear c5
    go_enter Try.func13, Try.ntmps13
    go_wp2_with fail
    go_ret
    exact ⟨rfl, rfl⟩
  | true =>
    have c5' : W.cell? ⟨B, 5, none⟩ = some (.int .i64 11) := c5
    clear c5
    go_enter Try.func13, Try.ntmps13
    go_wp2_with fail
    go_ret
    exact ⟨rfl, rfl⟩
theorem over_any (x : Nat) (hx : x < 18446744073709551616) (W : World) : Calls Try.prog 26 #[.int .u64 (x : Int)] W fun e w' => e = .returned (.bool (Mark.pop 64 x == 0)) ∧ W = w' := by
  have HC := Lib.hid fun w => count_any x hx w
  generalize Mark.pop 64 x = q at *
  have hq : ((q : Int) == 0) = (q == 0) := by cases q <;> rfl
  have HQ := Lib.hid hq
  clear hq
  go_enter Try.func26, Try.ntmps26
  go_wp2_with (go_at_call 44; refine (HC.out _).mono ?_; rintro e w' ⟨rfl, rfl⟩)
  go_ret
  exact ⟨by rw [← HQ.out]; rfl, rfl⟩
end Go.Proofs.Ytcnmaplopbbmaaa
namespace Go.Proofs.Ytcnmaplopbbmaaa
open Go.RowKit
namespace Gr
theorem ltL_lex {a b : Lb} (h : a.1 < b.1 ∨ (a.1 = b.1 ∧ (a.2.1 < b.2.1 ∨ (a.2.1 = b.2.1 ∧ a.2.2 < b.2.2)))) : ltL a b := by
  unfold ltL
  omega
/-- two rising lists that hold the same are the same -/
theorem rising_eq : ∀ {L M : List Lb}, L.Pairwise ltL → M.Pairwise ltL → (∀ x, x ∈ L ↔ x ∈ M) → L = M
  | [], [], _, _, _ => rfl
  | [], y :: M, _, _, h => by have := (h y).2 (by simp); simp at this
  | x :: L, [], _, _, h => by have := (h x).1 (by simp); simp at this
  | x :: L, y :: M, hL, hM, h => by
    rw [List.pairwise_cons] at hL hM
    have hxy : x = y := by
      have h1 := (h x).1 (by simp)
      have h2 := (h y).2 (by simp)
      rcases List.mem_cons.1 h1 with e | e
      · exact e
      · rcases List.mem_cons.1 h2 with e2 | e2
        · exact e2.symm
        · exact absurd rfl (ltL_ne (ltL_trans (hL.1 y e2) (hM.1 x e)))
    subst hxy
    congr 1
    refine rising_eq hL.2 hM.2 fun z => ?_
    have hz := h z
    rw [List.mem_cons, List.mem_cons] at hz
    constructor
    · intro hm
      rcases hz.1 (.inr hm) with e | e
      · subst e; exact absurd rfl (ltL_ne (hL.1 z hm))
      · exact e
    · intro hm
      rcases hz.2 (.inr hm) with e | e
      · subst e; exact absurd rfl (ltL_ne (hM.1 z hm))
      · exact e
theorem srt_pair {L : List Lb} (h : Srt L) : L.Pairwise ltL := by
  rw [List.pairwise_iff_getElem]
  intro i j hi hj hij
  have := h i j hij hj
  rwa [List.getD_eq_getElem?_getD, List.getD_eq_getElem?_getD, List.getElem?_eq_getElem hi, List.getElem?_eq_getElem hj] at this
theorem G.labels_rising (g : G) : g.labels.Pairwise ltL := by
  unfold G.labels G.la
  rw [List.pairwise_flatMap]
  refine ⟨fun a _ => ?_, ?_⟩
  · unfold G.lb
    rw [List.pairwise_flatMap]
    refine ⟨fun b _ => ?_, ?_⟩
    · unfold G.lm
      rw [List.pairwise_flatMap]
      refine ⟨fun m _ => by split <;> simp, ?_⟩
      refine List.pairwise_lt_range.imp fun {m m'} hm x hx y hy => ?_
      split at hx <;> simp at hx
      split at hy <;> simp at hy
      subst hx hy
      exact ltL_lex (.inr ⟨rfl, .inr ⟨rfl, by show (m : Int) < m'; omega⟩⟩)
    · refine List.pairwise_lt_range.imp fun {b b'} hb x hx y hy => ?_
      unfold G.lm at hx hy
      rw [List.mem_flatMap] at hx hy
      obtain ⟨m, _, hx⟩ := hx
      obtain ⟨m', _, hy⟩ := hy
      split at hx <;> simp at hx
      split at hy <;> simp at hy
      subst hx hy
      exact ltL_lex (.inr ⟨rfl, .inl (by show (b : Int) < b'; omega)⟩)
  · refine List.pairwise_lt_range.imp fun {a a'} ha x hx y hy => ?_
    unfold G.lb at hx hy
    rw [List.mem_flatMap] at hx hy
    obtain ⟨b, _, hx⟩ := hx
    obtain ⟨b', _, hy⟩ := hy
    unfold G.lm at hx hy
    rw [List.mem_flatMap] at hx hy
    obtain ⟨m, _, hx⟩ := hx
    obtain ⟨m', _, hy⟩ := hy
    split at hx <;> simp at hx
    split at hy <;> simp at hy
    subst hx hy
    exact ltL_lex (.inl (by show (a : Int) < a'; omega))
theorem G.mem_labels (g : G) (x : Lb) : x ∈ g.labels ↔ 0 ≤ x.1 ∧ x.1 < g.np ∧ 0 ≤ x.2.1 ∧ x.2.1 < g.np ∧ 0 ≤ x.2.2 ∧ x.2.2 < g.nm ∧ g.ns.any (labIs x.1 x.2.1 x.2.2) = true := by
  unfold G.labels G.la G.lb G.lm G.isN
  simp only [List.mem_flatMap, List.mem_range, List.take_length]
  constructor
  · rintro ⟨a, ha, b, hb, m, hm, h⟩
    split at h <;> simp at h
    rename_i hi
    subst h
    exact ⟨by simp, by simpa using ha, by simp, by simpa using hb, by simp, by simpa using hm, hi⟩
  · rintro ⟨h0, h1, h2, h3, h4, h5, h6⟩
    obtain ⟨x0, x1, x2⟩ := x
    simp only at h0 h1 h2 h3 h4 h5 h6
    obtain ⟨a, rfl⟩ := Int.eq_ofNat_of_zero_le h0
    obtain ⟨b, rfl⟩ := Int.eq_ofNat_of_zero_le h2
    obtain ⟨m, rfl⟩ := Int.eq_ofNat_of_zero_le h4
    exact ⟨a, by omega, b, by omega, m, by omega, by rw [if_pos h6]; simp⟩
theorem G.mem_gath (g : G) (x : Lb) : x ∈ g.gath g.ns.length ↔ ∃ n ∈ g.ns, n.kind = 3 ∧ (x = n.first ∨ (0 ≤ n.rep ∧ x = n.back)) := by
  unfold G.gath labs
  rw [List.take_length, List.mem_flatMap]
  constructor
  · rintro ⟨n, hn, h⟩
    refine ⟨n, hn, ?_⟩
    simp [List.range_succ, lab1] at h
    rcases h with h | h
    · exact ⟨h.1, .inl h.2⟩
    · exact ⟨h.1.1, .inr ⟨h.1.2, h.2⟩⟩
  · rintro ⟨n, hn, hk, h⟩
    refine ⟨n, hn, ?_⟩
    simp [List.range_succ, lab1, hk]
    rcases h with h | h
    · exact .inl h
    · exact .inr h
theorem G.chkN_none (g : G) : ∀ k i, g.chkN i k = none → ∀ j, i ≤ j → j < i + k → g.nodeOk (g.nd j) = true ∧ g.nodeBad j = false
  | 0, i, _, j, h1, h2 => by omega
  | k + 1, i, h, j, h1, h2 => by
    rw [G.chkN] at h
    split at h
    · cases h
    · split at h
      · cases h
      · rename_i a b
        by_cases hj : j = i
        · subst hj
          exact ⟨by simpa using a, by simpa using b⟩
        · exact g.chkN_none k (i + 1) h j (by omega) (by omega)
theorem G.chkE_none (g : G) : ∀ k i, g.chkE i k = none → ∀ j, i ≤ j → j < i + k → g.edgeOk (g.es.getD j (0, 0)) = true
  | 0, i, _, j, h1, h2 => by omega
  | k + 1, i, h, j, h1, h2 => by
    rw [G.chkE] at h
    split at h
    · cases h
    · rename_i a
      by_cases hj : j = i
      · subst hj; simpa using a
      · exact g.chkE_none k (i + 1) h j (by omega) (by omega)
/-- a graph that may be -/
structure G.May (g : G) : Prop where
  np : g.np ≤ 16
  pl : g.places ≤ 64
  node : ∀ j, j < g.ns.length → g.nodeOk (g.nd j) = true
  bad : ∀ j, j < g.ns.length → g.nodeBad j = false
  edge : ∀ j, j < g.es.length → g.edgeOk (g.es.getD j (0, 0)) = true
  one : starts g.ns g.ns.length = 1
theorem G.check_may {g : G} (h : g.check = 0) : g.May := by
  unfold G.check at h
  split at h
  · cases h
  · rename_i h0
    cases hn : g.chkN 0 g.ns.length with
    | some c =>
      rw [hn] at h
      simp only at h
      exfalso
      have key : ∀ k i c, g.chkN i k = some c → c ≠ 0 := by
        intro k
        induction k with
        | zero => intro i c h; cases h
        | succ k ih =>
          intro i c h
          rw [G.chkN] at h
          split at h
          · cases h; decide
          · split at h
            · cases h; decide
            · exact ih _ _ h
      exact key _ _ _ hn h
    | none =>
      rw [hn] at h
      simp only at h
      cases he : g.chkE 0 g.es.length with
      | some c =>
        rw [he] at h
        simp only at h
        exfalso
        have key : ∀ k i c, g.chkE i k = some c → c ≠ 0 := by
          intro k
          induction k with
          | zero => intro i c h; cases h
          | succ k ih =>
            intro i c h
            rw [G.chkE] at h
            split at h
            · cases h; decide
            · exact ih _ _ h
        exact key _ _ _ he h
      | none =>
        rw [he] at h
        simp only at h
        split at h
        · cases h
        · rename_i h1
          exact ⟨by omega, by omega, fun j hj => (g.chkN_none _ _ hn j (by omega) (by omega)).1, fun j hj => (g.chkN_none _ _ hn j (by omega) (by omega)).2, fun j hj => g.chkE_none _ _ he j (by omega) (by omega), by omega⟩
theorem G.May.task {g : G} (h : g.May) {n : Nd} (hn : n ∈ g.ns) (hk : n.kind = 3) : 0 ≤ n.fr ∧ n.fr < g.np ∧ 0 ≤ n.to ∧ n.to < g.np ∧ n.fr ≠ n.to ∧ 0 ≤ n.msg ∧ n.msg < g.nm ∧ -1 ≤ n.rep ∧ n.rep < g.nm := by
  obtain ⟨j, hj, rfl⟩ := List.mem_iff_getElem.1 hn
  have := h.node j hj
  have e : g.nd j = g.ns[j] := by unfold G.nd; rw [List.getD_eq_getElem?_getD, List.getElem?_eq_getElem hj]; rfl
  rw [e] at this
  unfold G.nodeOk G.partOk at this
  rw [hk] at this
  simp at this
  omega
/-- the game's interactions are the document's -/
theorem G.May.labels {g : G} (h : g.May) {L : List Lb} (hL : LabOf g L) : L = g.labels := by
  refine rising_eq (srt_pair hL.srt) g.labels_rising fun x => ?_
  rw [hL.mem, g.mem_gath, g.mem_labels]
  constructor
  · rintro ⟨n, hn, hk, hx⟩
    have ht := h.task hn hk
    rcases hx with rfl | ⟨hr, rfl⟩
    · refine ⟨ht.1, ht.2.1, ht.2.2.1, ht.2.2.2.1, ht.2.2.2.2.2.1, ht.2.2.2.2.2.2.1, ?_⟩
      rw [List.any_eq_true]
      exact ⟨n, hn, by simp [labIs, hk, Nd.first]⟩
    · refine ⟨ht.2.2.1, ht.2.2.2.1, ht.1, ht.2.1, hr, ht.2.2.2.2.2.2.2.2, ?_⟩
      rw [List.any_eq_true]
      exact ⟨n, hn, by simp [labIs, hk, Nd.back]⟩
  · rintro ⟨_, _, _, _, h4, _, h6⟩
    rw [List.any_eq_true] at h6
    obtain ⟨n, hn, hi⟩ := h6
    simp [labIs] at hi
    obtain ⟨hk, hi⟩ := hi
    refine ⟨n, hn, hk, ?_⟩
    obtain ⟨x0, x1, x2⟩ := x
    rcases hi with ⟨⟨e1, e2⟩, e3⟩ | ⟨⟨e1, e2⟩, e3⟩
    · exact .inl (by simp [Nd.first] at *; omega)
    · exact .inr ⟨by simp at *; omega, by simp [Nd.back] at *; omega⟩
theorem idx_mem {L : List Lb} {x : Lb} (h : x ∉ L) : idx L x = -1 := idx_miss fun k hk e => h (by rw [← e, List.getD_eq_getElem?_getD, List.getElem?_eq_getElem hk]; exact List.getElem_mem hk)
/-- no interaction has number 0, 0, 0; none has no message -/
theorem G.May.zero {g : G} (h : g.May) : ∀ i < g.ns.length, (g.nd i).kind = 3 → (g.nd i).rep < 0 → idx g.labels (0, 0, 0) = idx g.labels (g.nd i).back := by
  intro i hi hk hr
  rw [idx_mem, idx_mem]
  · rw [g.mem_labels]
    rintro ⟨_, _, _, _, h4, _⟩
    simp [Nd.back] at h4
    omega
  · rw [g.mem_labels]
    rintro ⟨_, _, _, _, _, _, h6⟩
    rw [List.any_eq_true] at h6
    obtain ⟨n, hn, hi⟩ := h6
    simp [labIs] at hi
    have := h.task hn hi.1
    omega
end Gr
end Go.Proofs.Ytcnmaplopbbmaaa

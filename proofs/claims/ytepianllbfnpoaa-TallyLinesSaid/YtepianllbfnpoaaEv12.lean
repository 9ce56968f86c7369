/- Ev: a function's code, run on what is known of its values. Twelfth part: any region that draws its order comes to what its text comes to. No program. -/
import Derived.Test.YtepianllbfnpoaaEv11
namespace Go.Proofs.Ytepianllbfnpoaa
open Go.RowKit
namespace Ev
variable {P : Program}

section
variable {X : Xp} {ev : CallE} {ops : Array Oper} {e0 : Env} {h0 : List O} {T : List Tr} {U : List Tl} {m0 : M} {w0 : World} {a0 : Act} {lo : Nat}

theorem er_T {D : Nat → Bool} {a : Act} {m : M} (hT : ∀ i, i < T.length → StepP P ev ops e0 h0 T i) (hdef : a.defers = []) (hsz : a.tmps.size = a0.tmps.size)
    (hoff : ∀ t, (∀ (k : Nat) (o : Oper), ops[k]? = some o → D k = true → o.dst ≠ some t) → a.eval (.tmp t) = a0.eval (.tmp t)) (he : ER m0 e0 a0) (hm0 : ∀ k p, m0 k = some p → m k = some p)
    (hvT : ∀ k t, D k = true → T[k]? = some t → VP m t.pv (a.eval (.tmp t.d))) {i s : Nat} (hi : i ≤ T.length) (hD : ∀ k, k < i → s.testBit k = true → D k = true) (hlate : ∀ (k : Nat) (o : Oper), i ≤ k → ops[k]? = some o → D k = true → k ≠ i ∧ ((clos ops).getD k 0).testBit i = false) :
    ER m (envAt e0 (T.take i) s (laterD (clos ops) i (ops.toList.drop (i + 1)) (i + 1))) a := by
  refine ⟨hdef, ⟨by rw [envAt, maskL_len, maskR_len, he.slots.1]; simp [hsz], fun t x v hx hv => ?_⟩⟩
  have hv' := eval_slot hv
  rcases maskL_get hx with rfl | ⟨hnd, hx⟩
  · exact trivial
  rcases maskR_get hx with ⟨j, r, h1, h2, h3⟩ | ⟨hnT, hx⟩
  · rw [Nat.zero_add] at h3
    split at h3
    · rename_i hb
      rw [List.getElem?_take] at h1
      split at h1
      · rename_i hj
        have := hvT j r (hD _ hj hb) h1
        rw [h2, hv'] at this
        rw [h3]; exact this
      · cases h1
    · rw [h3]; exact trivial
  · have ho : a.eval (.tmp t) = a0.eval (.tmp t) := hoff t fun k o hk hDk e => by
      by_cases hk1 : k < i
      · obtain ⟨o', t', g1, g2, g3, _⟩ := hT k (by omega)
        rw [hk] at g1; cases g1
        rw [g3] at e; cases e
        exact hnT t' (List.mem_of_getElem? (i := k) (by rw [List.getElem?_take, if_pos hk1]; exact g2)) rfl
      · obtain ⟨l1, l2⟩ := hlate k o (by omega) hk hDk
        apply hnd
        have g1' : ops.toList[k]? = some o := by simpa using hk
        refine laterD_mem (j := k - (i + 1)) (o := o) ?_ e (by rwa [show i + 1 + (k - (i + 1)) = k by omega])
        rw [List.getElem?_drop, show i + 1 + (k - (i + 1)) = k by omega]
        exact g1'
    have := lk_spec (x := .tmp t) he hx
    rw [← ho, hv'] at this
    exact this.ext hm0

theorem Inv.full {D : Nat → Bool} {a : Act} {w : World} {m : M} (hT : ∀ i, i < T.length → StepP P ev ops e0 h0 T i) (hI : Inv ops h0 T m0 w0 a0 D a w m) : res m (hAt h0 T T.length).length = m := by
  funext k
  unfold res
  split
  · rfl
  · rename_i hk
    cases hm : m k with
    | none => rfl
    | some p =>
      exfalso
      rcases hI.doms k p hm with h | ⟨j, _, h2, _, h4⟩
      · obtain ⟨L, hL⟩ := pre_h hT (Nat.zero_le T.length) (Nat.le_refl _)
        have hL : hAt h0 T T.length = h0 ++ L := hL
        rw [hL] at hk; simp at hk; omega
      · obtain ⟨L, hL⟩ := pre_h hT (show j + 1 ≤ T.length by omega) (Nat.le_refl _)
        rw [hL] at hk; simp at hk; omega
theorem Inv.res {D : Nat → Bool} {a : Act} {w : World} {m : M} (hT : ∀ i, i < T.length → StepP P ev ops e0 h0 T i) (hs0 : SR m0 h0 w0) (hI : Inv ops h0 T m0 w0 a0 D a w m) : Res m0 ⟨h0, lo⟩ w0 m ⟨hAt h0 T T.length, lo⟩ w := by
  obtain ⟨L, hL⟩ := pre_h hT (Nat.zero_le T.length) (Nat.le_refl _)
  have hL : hAt h0 T T.length = h0 ++ L := hL
  have hle : h0.length ≤ (hAt h0 T T.length).length := by rw [hL]; simp
  have hf := hI.fr
  have hsr := hI.sr T.length (Nat.le_refl _)
  rw [hI.full hT] at hsr
  refine ⟨hsr, ⟨hf.same, hf.back, fun k p hk hm => ?_, hf.size, hf.os, hf.tape, hf.output, fun b hb _ => hf.keep b hb fun i p h1 h2 => by omega⟩, hle, Nat.le_refl _, fun i hi _ => ?_⟩
  · rcases hf.new k p hk hm with h | ⟨i, q, h1, h2, _⟩
    · exact .inl h
    · omega
  · show (hAt h0 T T.length)[i]? = h0[i]?
    rw [hL, List.getElem?_append_left hi]
theorem stAt_pure (hU : ∀ q, q < U.length → TailP P X ev ops e0 T ⟨hAt h0 T T.length, lo⟩ U q) {q : Nat} (hq : q < U.length) (hs : sensAt ops (T.length + q) = false) : stAt ⟨hAt h0 T T.length, lo⟩ U (q + 1) = stAt ⟨hAt h0 T T.length, lo⟩ U q := by
  obtain ⟨o, u, h1, h2, _, _, _, _, _, h8⟩ := hU q hq
  have e : stAt ⟨hAt h0 T T.length, lo⟩ U (q + 1) = u.st := by simp [stAt, h2]
  rw [e]
  rcases h8 with ⟨_, _, h⟩ | ⟨_, h⟩
  · exact h
  · have hp : floatK o.op = true := by simpa [sensAt, h1] using hs
    simp only [floatK, Bool.or_eq_true] at hp
    rcases hp with hp | hp
    · exact (step_pure hp h).1
    · exact step_load hp h
theorem stAt_run (hU : ∀ q, q < U.length → TailP P X ev ops e0 T ⟨hAt h0 T T.length, lo⟩ U q) : ∀ {q p : Nat}, p ≤ q → q ≤ U.length → (∀ k, T.length + p ≤ k → k < T.length + q → sensAt ops k = false) → stAt ⟨hAt h0 T T.length, lo⟩ U q = stAt ⟨hAt h0 T T.length, lo⟩ U p
  | 0, p, hp, _, _ => by rw [show p = 0 by omega]
  | q + 1, p, hp, hq, hs => by
    by_cases e : p = q + 1
    · rw [e]
    · rw [stAt_pure hU (by omega) (hs _ (by omega) (by omega))]
      exact stAt_run hU (by omega) (by omega) fun k h1 h2 => hs k h1 (by omega)
/-- where it stands, ahead of the operation q of the second half, when all that counts has come up -/
theorem Inv2.res {D : Nat → Bool} {a : Act} {w : World} {m : M} (hT : ∀ i, i < T.length → StepP P ev ops e0 h0 T i) (hU : ∀ q, q < U.length → TailP P X ev ops e0 T ⟨hAt h0 T T.length, lo⟩ U q) (hs0 : SR m0 h0 w0)
    (hI : Inv2 X ops h0 T U m0 w0 a0 lo D a w m) {q : Nat} (hq : q ≤ U.length) (hall : ∀ k, k < T.length + q → sensC ops T.length k = true → D k = true) (hnone : ∀ k, T.length + q ≤ k → D k = true → sensAt ops k = false) : Res m0 ⟨h0, lo⟩ w0 m (stAt ⟨hAt h0 T T.length, lo⟩ U q) w := by
  rcases hI.phase with ⟨h1, h2⟩ | ⟨p, p1, p2, p3, p4, p5⟩ | ⟨x1, x2, x3, x4, x5, x6, x7⟩
  · rw [stAt_run hU (Nat.zero_le q) hq fun k k1 k2 => by
      cases hs : sensAt ops k with
      | false => rfl
      | true => have := h2 k (by omega) (hall k k2 (by rw [sensC_U (by omega)]; exact hs)); rw [hs] at this; cases this]
    exact h1.res hT hs0
  · by_cases hpq : p ≤ q
    · rw [stAt_run hU hpq hq fun k k1 k2 => by
        cases hs : sensAt ops k with
        | false => rfl
        | true => have := p4 k k1 (hall k k2 (by rw [sensC_U (by omega)]; exact hs)); rw [hs] at this; cases this]
      exact p5
    · rw [← stAt_run hU (show q ≤ p by omega) p2 fun k k1 k2 => by
        cases hs : sensAt ops k with
        | false => rfl
        | true => have := hnone k k1 (p3 k k2 (by rw [sensC_U (by omega)]; exact hs)); rw [hs] at this; cases this]
      exact p5
  · exfalso
    by_cases c : X.A < T.length + q
    · have := hall X.A c (by rw [sensC_U x1.2]; exact x2); rw [x5] at this; cases this
    · have := hnone X.B (by have := x1.1; omega) x4; rw [x3] at this; cases this

/-- the two last ones, the second of them alone -/
structure XOk (P : Program) (X : Xp) (ev : CallE) (ops : Array Oper) (e0 : Env) (T : List Tr) (U : List Tl) (st0 : St) : Prop where
  last : ∀ k, sensAt ops k = true → k ≠ X.A → k ≠ X.B → k < X.A
  inU : T.length ≤ X.A ∧ X.B < T.length + U.length
  stepB : ∀ o u, ops[X.B]? = some o → U[X.B - T.length]? = some u → wantedE ops (envT e0 T (U.take (X.B - T.length)) u.s (laterD (clos ops) X.B (ops.toList.drop (X.B + 1)) (X.B + 1))) o = some true ∧
    evStep P ev (envT e0 T (U.take (X.B - T.length)) u.s (laterD (clos ops) X.B (ops.toList.drop (X.B + 1)) (X.B + 1))) (stAt st0 U (X.A - T.length)) o = some (u.pv, X.st)
  stepA : ∀ o u, ops[X.A]? = some o → U[X.A - T.length]? = some u → wantedE ops (envT e0 T (U.take (X.A - T.length)) u.s (laterD (clos ops) X.A (ops.toList.drop (X.A + 1)) (X.A + 1))) o = some true ∧
    evStep P ev (envT e0 T (U.take (X.A - T.length)) u.s (laterD (clos ops) X.A (ops.toList.drop (X.A + 1)) (X.A + 1))) X.st o = some (u.pv, stAt st0 U U.length)
  loadT : ∀ (i : Nat) (o : Oper) (t : Tr), ops[i]? = some o → T[i]? = some t → isLoad o.op = true → t.pv ≠ .skip → ((clos ops).getD X.B 0).testBit i = false → ((clos ops).getD i 0).testBit X.A = false →
    ∃ s, evLd P (envAt e0 (T.take i) t.s (laterD (clos ops) i (ops.toList.drop (i + 1)) (i + 1))) X.st o = some s ∧ t.pv = .s s
  loadU : ∀ (j : Nat) (o : Oper) (u : Tl), ops[T.length + j]? = some o → U[j]? = some u → isLoad o.op = true → u.pv ≠ .skip → ((clos ops).getD X.B 0).testBit (T.length + j) = false → ((clos ops).getD (T.length + j) 0).testBit X.A = false →
    ∃ s, evLd P (envT e0 T (U.take j) u.s (laterD (clos ops) (T.length + j) (ops.toList.drop (T.length + j + 1)) (T.length + j + 1))) X.st o = some s ∧ u.pv = .s s

/-- of what has not come up, where it lies is not known -/
theorem Inv.unm {D : Nat → Bool} {a : Act} {w : World} {m : M} (hT : ∀ i, i < T.length → StepP P ev ops e0 h0 T i) (hI : Inv ops h0 T m0 w0 a0 D a w m) : ∀ (j : Nat), D j = false → j < T.length → ∀ i, (hAt h0 T j).length ≤ i → i < (hAt h0 T (j + 1)).length → m i = none := fun j hD hj i h1 h2 => by
  have mono : ∀ {p q : Nat}, p ≤ q → q ≤ T.length → (hAt h0 T p).length ≤ (hAt h0 T q).length := fun {p q} h1 h2 => by
    obtain ⟨L, hL⟩ := pre_h hT h1 h2
    rw [hL]; simp
  cases hm : m i with
  | none => rfl
  | some p =>
    exfalso
    rcases hI.doms i p hm with h | ⟨k, g1, g2, g3, g4⟩
    · have := mono (Nat.zero_le j) (by omega)
      rw [show hAt h0 T 0 = h0 from rfl] at this
      omega
    · by_cases e : k = j
      · subst e; rw [hD] at g1; cases g1
      · rcases Nat.lt_or_gt_of_ne e with hlt | hlt
        · have := mono (show k + 1 ≤ j by omega) (by omega); omega
        · have := mono (show j + 1 ≤ k by omega) (by omega); omega
/-- a maker that came up late -/
theorem Inv2.late {D : Nat → Bool} {a : Act} {w w' : World} {m m' : M} (hT : ∀ i, i < T.length → StepP P ev ops e0 h0 T i) (hU : ∀ q, q < U.length → TailP P X ev ops e0 T ⟨hAt h0 T T.length, lo⟩ U q) (hn : T.length + U.length = ops.size)
    (hI : Inv2 X ops h0 T U m0 w0 a0 lo D a w m) (hds : ∀ (k : Nat) (o : Oper) (d : Tmp), ops[k]? = some o → o.dst = some d → d < a0.tmps.size) {i : Nat} {o : Oper} {t : Tr} (ho : ops[i]? = some o) (ht : T[i]? = some t) {v : Value} (hv : VP m' t.pv v)
    (hlen : (hAt h0 T i).length < (hAt h0 T (i + 1)).length) (hsub : ∀ k p, m k = some p → m' k = some p) (hoth : ∀ k, k ≠ (hAt h0 T i).length → m' k = m k)
    (hph : Ph2 ops h0 T U m0 w0 lo (fun k => D k || k == i) w' m' ∨ Ph3 X ops T.length h0 m0 w0 lo (fun k => D k || k == i) w' m') :
    Inv2 X ops h0 T U m0 w0 a0 lo (fun k => D k || k == i) (a.put o.dst v) w' m' := by
  have hiT := (List.getElem?_eq_some_iff.1 ht).1
  have mono : ∀ {p q : Nat}, p ≤ q → q ≤ T.length → (hAt h0 T p).length ≤ (hAt h0 T q).length := fun {p q} h1 h2 => by
    obtain ⟨L, hL⟩ := pre_h hT h1 h2
    rw [hL]; simp
  have ev_ne : ∀ (k : Nat) (x : Oper) (d : Tmp), ops[k]? = some x → x.dst = some d → k ≠ i → (a.put o.dst v).eval (.tmp d) = a.eval (.tmp d) := fun k x d hx hd hne => by
    cases hod : o.dst with
    | none => rfl
    | some d' => exact Flow.eval_put_ne fun e => hne (dst_sep hT hU hn hx ho hd (by rw [hod, e]))
  refine ⟨by rw [Flow.put_defers]; exact hI.defers, by rw [Flow.put_size]; exact hI.size, fun t ht => ?_, fun k p hk => hsub k p (hI.m0m k p hk), fun k t' hD ht' => ?_, fun q u d hD hu hd => ?_, fun j hD hj k h1 h2 => ?_, .inr hph⟩
  · rw [← hI.off t fun k o hk hD => ht k o hk (by simp [hD])]
    cases hod : o.dst with
    | none => rfl
    | some d' => exact Flow.eval_put_ne fun e => ht i o ho (by simp) (by rw [hod, e])
  · obtain ⟨x, hx, hxd⟩ := dst_T hT ht'
    by_cases e : k = i
    · subst e
      rw [ht] at ht'; cases ht'
      rw [ho] at hx; cases hx
      rw [hxd, Flow.eval_put_same (by rw [hI.size]; exact hds _ o t.d ho hxd)]
      exact hv
    · rw [ev_ne k x t'.d hx hxd e]
      exact (hI.vT k t' (by simpa [e] using hD) ht').ext hsub
  · obtain ⟨x, hx, hxd⟩ := dst_U hU hu
    rw [hd] at hxd
    rw [ev_ne _ x d hx hxd (by omega)]
    exact (hI.vU q u d (by simpa [show T.length + q ≠ i by omega] using hD) hu hd).ext hsub
  · have hD : (D j || j == i) = false := hD
    simp only [Bool.or_eq_false_iff, beq_eq_false_iff_ne, ne_eq] at hD
    rw [hoth k fun e => ?_]
    · exact hI.unm j hD.1 hj k h1 h2
    · rcases Nat.lt_or_gt_of_ne hD.2 with hlt | hlt
      · have := mono (show j + 1 ≤ i by omega) (by omega); omega
      · have := mono (show i + 1 ≤ j by omega) (by omega); omega

theorem any2 (hN : NoCount P) (hev : CallOk P ev) {Q : Exit → Act → World → Prop} (hT : ∀ i, i < T.length → StepP P ev ops e0 h0 T i) (hU : ∀ q, q < U.length → TailP P X ev ops e0 T ⟨hAt h0 T T.length, lo⟩ U q) (hn : T.length + U.length = ops.size)
    (hlT : LoadsT P ops e0 T U ⟨hAt h0 T T.length, lo⟩) (hlU : LoadsU P ops e0 T U ⟨hAt h0 T T.length, lo⟩) (hX : X.A < X.B → sensAt ops X.A = true → sensAt ops X.B = true → XOk P X ev ops e0 T U ⟨hAt h0 T T.length, lo⟩) 
    (hlen : ∀ q, q ≤ U.length → (hAt h0 T T.length).length ≤ (stAt ⟨hAt h0 T T.length, lo⟩ U q).h.length) (hlenX : X.A < X.B → sensAt ops X.A = true → sensAt ops X.B = true → (hAt h0 T T.length).length ≤ X.st.h.length)
    (hL : ∀ i, lateK ops T.length i = true → ∀ q, q ≤ U.length → (∀ k, T.length ≤ k → k < T.length + q → sensAt ops k = true → ((clos ops).getD k 0).testBit i = false) → (stAt ⟨hAt h0 T T.length, lo⟩ U q).h[(hAt h0 T i).length]? = (hAt h0 T (i + 1))[(hAt h0 T i).length]?)
    (hLX : X.A < X.B → sensAt ops X.A = true → sensAt ops X.B = true → ∀ i, lateK ops T.length i = true → ((clos ops).getD X.B 0).testBit i = false → X.st.h[(hAt h0 T i).length]? = (hAt h0 T (i + 1))[(hAt h0 T i).length]?)
    (hs0 : SR m0 h0 w0) (he0 : ER m0 e0 a0) (hds : ∀ (k : Nat) (o : Oper) (d : Tmp), ops[k]? = some o → o.dst = some d → d < a0.tmps.size)
    (hQ : ∀ a' w' m', ER m' (envT e0 T U (2 ^ ops.size - 1) []) a' → Res m0 ⟨h0, lo⟩ w0 m' (stAt ⟨hAt h0 T T.length, lo⟩ U U.length) w' → Q .normal a' w') :
    ∀ (fuel : Nat) (listed : Array Bool) (a : Act) (w : World) (m : M), listed.size = ops.size → Flow.left listed = fuel → Inv2 X ops h0 T U m0 w0 a0 lo (fun k => listed.getD k false) a w m →
      (∀ q, q < ops.size → listed.getD q false = true → ∀ k, ((clos ops).getD q 0).testBit k = true → listed.getD k false = true) → wpAny P .any ops Q fuel listed a w := by
  have hback : ∀ (i : Nat) (o : Oper), ops[i]? = some o → ∀ e ∈ o.after.toList, Region.binds .any e = true → e.on < i := fun i o ho => by
    have hio : i < ops.size := (Array.getElem?_eq_some_iff.1 ho).1
    by_cases hi : i < T.length
    · obtain ⟨o', t, g1, _, _, _, g5, _⟩ := hT i hi
      rw [ho] at g1; cases g1
      exact g5
    · obtain ⟨o', u, g1, _, _, _, g5, _⟩ := hU (i - T.length) (by omega)
      rw [show T.length + (i - T.length) = i by omega, ho] at g1; cases g1
      exact fun e he hb => by have := g5 e he hb; omega
  have hclt : ∀ n k, k < n → k < ops.size → ∀ j, ((clos ops).getD k 0).testBit j = true → j < k := by
    intro n
    induction n with
    | zero => intro k h; omega
    | succ n ih =>
      intro k hk hks j hj
      have ho : ops[k]? = some ops[k] := by simp [hks]
      have hcs := (closAll_spec (l := ops.toList) (S := [])).2.2 k ops[k] (by simp)
      simp only [List.length_nil, Nat.zero_add] at hcs
      rw [hcs] at hj
      rcases clo_spec hj with h | ⟨e, h1, h2, h3⟩
      · simp at h
      · have hlt := hback k _ ho e h1 h2
        rcases h3 with h3 | h3
        · omega
        · have e1 : ((closAll ops.toList []).take k).getD e.on 0 = (clos ops).getD e.on 0 := by
            rw [List.getD_eq_getElem?_getD, List.getElem?_take, if_pos hlt, ← List.getD_eq_getElem?_getD]
          rw [e1] at h3
          have := ih e.on (by omega) (by omega) j h3
          omega
  have hdone : ∀ (listed : Array Bool) (a : Act) (w : World) (m : M), listed.size = ops.size → Inv2 X ops h0 T U m0 w0 a0 lo (fun k => listed.getD k false) a w m → Region.ready .any ops listed = [] → Q .normal a w := by
    intro listed a w m hsz hI hr
    have hall : ∀ n i, i < n → i < ops.size → listed.getD i false = true := by
      intro n
      induction n with
      | zero => intro i h; omega
      | succ n ih =>
        intro i hi hio
        by_cases hin : i < n
        · exact ih i hin hio
        · have hin : i = n := by omega
          cases hl : listed.getD i false with
          | true => rfl
          | false =>
            exfalso
            have ho : ops[i]? = some ops[i] := by simp [hio]
            have : i ∈ Region.ready .any ops listed := mem_ready.2 ⟨by
              have : i < listed.size := by omega
              simpa [this] using hl, _, ho, fun e he hbe => ih e.on (by have := hback i _ ho e (by simpa using he) hbe; omega) (by have := hback i _ ho e (by simpa using he) hbe; omega)⟩
            rw [hr] at this
            cases this
    have her := er_of hT hU hI.defers hI.size hI.off he0 hI.m0m hI.vT hI.vU (q := U.length) (s := 2 ^ ops.size - 1) (Nat.le_refl _) (fun k hk _ => hall (k + 1) k (by omega) (by omega)) (fun k o hk ho => by have := (Array.getElem?_eq_some_iff.1 ho).1; omega)
    rw [List.take_length, hn, List.drop_eq_nil_of_le (by simp)] at her
    have hres := hI.res hT hU hs0 (q := U.length) (Nat.le_refl _) (fun k hk _ => hall (k + 1) k (by omega) (by omega)) (fun k hk _ => by
      have : ops[k]? = none := by simp; omega
      simp [sensAt, this])
    exact hQ a w m her hres
  intro fuel
  induction fuel with
  | zero =>
    intro listed a w m hsz hl hI _
    have hr : Region.ready .any ops listed = [] := by
      cases hr : Region.ready .any ops listed with
      | nil => rfl
      | cons i r =>
        have hi : i ∈ Region.ready .any ops listed := by rw [hr]; simp
        have := Flow.left_set (mem_ready.1 hi).1
        omega
    exact ⟨hr, hdone listed a w m hsz hI hr⟩
  | succ fuel ih =>
    intro listed a w m hsz hl hI hcl
    refine ⟨hdone listed a w m hsz hI, fun i hi => ?_⟩
    obtain ⟨hun, o, ho, hall⟩ := mem_ready.1 hi
    have hio : i < ops.size := (Array.getElem?_eq_some_iff.1 ho).1
    have hDi : listed.getD i false = false := by
      cases hh : listed.getD i false with
      | false => rfl
      | true => rw [Flow.getD_true_of_false hh] at hun; cases hun
    have hD' : (fun k => (listed.setIfInBounds i true).getD k false) = fun k => listed.getD k false || k == i := by
      funext k
      by_cases e : k = i
      · subst e
        have : k < listed.size := by omega
        simp [this]
      · rw [getD_set_ne false (Ne.symm e)]
        simp [e]
    have hbits : ∀ k, ((clos ops).getD i 0).testBit k = true → listed.getD k false = true := fun k hk => by
      have hcs := (closAll_spec (l := ops.toList) (S := [])).2.2 i o (by simpa using ho)
      simp only [List.length_nil, Nat.zero_add] at hcs
      rw [hcs] at hk
      rcases clo_spec hk with h | ⟨e, h1, h2, h3⟩
      · simp at h
      · have hon := hall e (by simpa using h1) h2
        have hlt := hback i o ho e h1 h2
        rcases h3 with h3 | h3
        · rw [h3]; exact hon
        · refine hcl e.on (by omega) hon k ?_
          have e1 : ((closAll ops.toList []).take i).getD e.on 0 = (clos ops).getD e.on 0 := by
            rw [List.getD_eq_getElem?_getD, List.getElem?_take, if_pos hlt, ← List.getD_eq_getElem?_getD]
          rwa [e1] at h3
    have hlate : ∀ (k : Nat) (o : Oper), i ≤ k → ops[k]? = some o → listed.getD k false = true → k ≠ i ∧ ((clos ops).getD k 0).testBit i = false := fun k o' hk ho' hD => by
      refine ⟨(fun e => by rw [e, hDi] at hD; cases hD), ?_⟩
      cases hb : ((clos ops).getD k 0).testBit i with
      | false => rfl
      | true => have := hcl k (Array.getElem?_eq_some_iff.1 ho').1 hD i hb; rw [hDi] at this; cases this
    have fin : ∀ a' w' m', Inv2 X ops h0 T U m0 w0 a0 lo (fun k => listed.getD k false || k == i) a' w' m' → wpAny P .any ops Q fuel (listed.setIfInBounds i true) a' w' := fun a' w' m' hI' => by
      refine ih _ _ _ m' (by simpa using hsz) (by have := Flow.left_set hun; omega) (by rw [hD']; exact hI') (fun q hqs hq k hk => ?_)
      by_cases e : q = i
      · subst e; exact getD_set_true (hbits k hk)
      · rw [getD_set_ne false (Ne.symm e)] at hq; exact getD_set_true (hcl q hqs hq k hk)
    unfold wpOp
    simp only [ho]
    by_cases hiT : i < T.length
    · obtain ⟨o', t, g1, g2, g3, g4, g5, g6, g7⟩ := hT i hiT
      rw [ho] at g1; cases g1
      have her := er_T hT hI.defers hI.size hI.off he0 hI.m0m hI.vT (i := i) (s := t.s) (by omega) (fun k _ hk => hbits k (by rwa [g6] at hk)) hlate
      have hdl : t.d < a.tmps.size := by rw [hI.size]; exact hds i o t.d ho g3
      rcases hI.phase with ⟨hI1, hns⟩ | hph
      · -- before the first that writes
        have lift : ∀ a' w' m1 v, a' = a.put (some t.d) v → Inv ops h0 T m0 w0 a0 (fun k => listed.getD k false || k == i) a' w' m1 → (∀ k p, m k = some p → m1 k = some p) → Inv2 X ops h0 T U m0 w0 a0 lo (fun k => listed.getD k false || k == i) a' w' m1 := fun a' w' m1 v ha hJ hsub => by
          refine ⟨hJ.defers, hJ.size, hJ.off, fun k p hk => hsub k p (hI.m0m k p hk), fun k t' hk ht' => (hJ.vals k t' hk ht').ext fun q p hq => (res_some.1 hq).2, fun q u d hq hu hd => ?_, hJ.unm hT, .inl ⟨hJ, fun k hk1 hk2 => hns k hk1 (by simpa [show k ≠ i by omega] using hk2)⟩⟩
          obtain ⟨x, hx, hxd⟩ := dst_U hU hu
          rw [hd] at hxd
          have hne : t.d ≠ d := fun e => by
            have := dst_sep hT hU hn ho hx (by rw [g3, e]) hxd
            omega
          rw [ha, Flow.eval_put_ne hne]
          exact (hI.vU q u d (by simpa [show T.length + q ≠ i by omega] using hq) hu hd).ext hsub
        rcases g7 with ⟨hw, hpv, hh⟩ | ⟨hw, st, hst, hlo, hh⟩
        · rw [wanted_spec her hw]
          simp only [Bool.false_eq_true, if_false]
          rw [g3]
          exact fin _ w m (lift _ _ m undef rfl (hI1.skip hT g2 hdl hpv) fun _ _ h => h)
        · rw [wanted_spec her hw]
          simp only [if_true]
          have her1 := hI1.er hT hs0 he0 (i := i) (s := t.s) (by omega) (fun k _ hk => hbits k (by rwa [g6] at hk)) hlate
          refine .inl (Oper.wp_mono ?_ (step_wp hN hev (hI1.sr i (by omega)) her1.el hst))
          rintro a' w' ⟨v, m', rfl, hv, hres⟩
          obtain ⟨m1, hJ, hsub⟩ := hI1.step hT hs0 hDi g2 hdl hres hlo hh hv
          rw [g3]
          exact fin _ w' m1 (lift _ _ m1 v rfl hJ hsub)
      · -- behind it: what comes up is pure, or makes an object
       cases hlk : lateK ops T.length i with
       | true =>
        have hmk : isMk o = true := by
          simp only [lateK, Bool.and_eq_true, ho] at hlk; exact hlk.2
        have hwant : ∀ e, wantedE ops e o = some true := fun e => by simp [wantedE, isMk_guard hmk]
        rcases g7 with ⟨hw, _, _⟩ | ⟨hw, st, hst, hlo, hh⟩
        · rw [hwant] at hw; cases hw
        · rw [wanted_spec her hw]
          simp only [if_true]
          obtain ⟨cs, ty, fl, f, _, hpv, hst', hmd⟩ := mk_step hmk hst
          have hmd := hmd m w a her.el
          have hth : hAt h0 T (i + 1) = hAt h0 T i ++ [⟨cs, ty, true, true, fl⟩] := by
            have e1 : hAt h0 T (i + 1) = t.h := by simp [hAt, g2]
            rw [e1, hh, hst']
            simp
          have hget : (hAt h0 T (i + 1))[(hAt h0 T i).length]? = some ⟨cs, ty, true, true, fl⟩ := by rw [hth]; simp
          have hlt : (hAt h0 T i).length < (hAt h0 T (i + 1)).length := by rw [hth]; simp
          have hmn := hI.unm i hDi hiT _ (Nat.le_refl _) hlt
          have h0l : h0.length ≤ (hAt h0 T i).length := by
            obtain ⟨L, hL⟩ := pre_h hT (Nat.zero_le i) (by omega)
            rw [hL, show hAt h0 T 0 = h0 from rfl]; simp
          have hnb : ∀ k, k < ops.size → listed.getD k false = true → ((clos ops).getD k 0).testBit i = false := fun k hk hD => by
            cases hb : ((clos ops).getD k 0).testBit i with
            | false => rfl
            | true => have := hcl k hk hD i hb; rw [hDi] at this; cases this
          rcases hph with ⟨p, p1, p2, p3, p4, p5⟩ | ⟨x1, x2, x3, x4, x5, x6, x7⟩
          · have hi := hL i hlk p p2 fun k k1 k2 k3 => hnb k (by omega) (p3 k k2 (by rw [sensC_U k1]; exact k3))
            rw [hget] at hi
            refine .inl (Oper.wp_mono ?_ (late_wp hmd p5 h0l hi hmn))
            rintro a' w' ⟨v, m', rfl, hv, hsub, hoth, hr⟩
            refine fin _ w' m' (hI.late hT hU hn hds ho g2 (by rw [hpv]; exact hv) hlt hsub hoth (.inl ⟨p, p1, p2, fun k k1 k2 => ?_, fun k k1 k2 => p4 k k1 ?_, hr⟩))
            · have := p3 k k1 k2
              simp only at this
              simp [this]
            · simpa [show k ≠ i by omega] using k2
          · have hx := hX x1.1 x2 x3
            have hi := hLX x1.1 x2 x3 i hlk (hnb X.B (by have := hx.inU; omega) x4)
            rw [hget] at hi
            refine .inl (Oper.wp_mono ?_ (late_wp hmd x7 h0l hi hmn))
            rintro a' w' ⟨v, m', rfl, hv, hsub, hoth, hr⟩
            refine fin _ w' m' (hI.late hT hU hn hds ho g2 (by rw [hpv]; exact hv) hlt hsub hoth (.inr ⟨x1, x2, x3, ?_, ?_, fun k k1 k2 => ?_, hr⟩))
            · simp only at x4
              simp [x4]
            · simp only at x5
              have := x1.2
              simp only [x5, Bool.false_or, beq_eq_false_iff_ne, ne_eq]
              omega
            · have := x6 k k1 k2
              simp only at this
              simp [this]
       | false =>
        have hsi : sensAt ops i = false := by
          cases hs : sensAt ops i with
          | false => rfl
          | true =>
            rcases hph with ⟨p, p1, p2, p3, p4, p5⟩ | ⟨x1, x2, x3, x4, x5, x6, x7⟩
            · have e9 : listed.getD i false = true := p3 i (by omega) (by simp [sensC, hs, hlk])
              rw [hDi] at e9; cases e9
            · have := x1.2
              have e9 : listed.getD i false = true := x6 i (by simp [sensC, hs, hlk]) (by omega)
              rw [hDi] at e9; cases e9
        have hpi : floatK o.op = true := by simpa [sensAt, ho] using hsi
        have put := fun (v : Value) (hv : VP m t.pv v) => hI.put hT hU hn hs0 hds ho (.inr hph) hsi (v := v) (fun t' ht' => by rw [g2] at ht'; cases ht'; exact hv) (fun u hu => by omega)
        rcases g7 with ⟨hw, hpv, hh⟩ | ⟨hw, st, hst, hlo, hh⟩
        · rw [wanted_spec her hw]
          simp only [Bool.false_eq_true, if_false]
          exact fin _ w m (put undef (by rw [hpv]; rfl))
        · rw [wanted_spec her hw]
          simp only [if_true]
          have hdo : DoesS P m w a o t.pv := by
            simp only [floatK, Bool.or_eq_true] at hpi
            rcases hpi with hpi | hpi
            · exact (step_pure hpi hst).2 m w a her.el
            · have hnsk : t.pv ≠ .skip := fun hsk => by rw [hsk] at hst; exact load_noskip hpi hst
              rcases hph with ⟨p, p1, p2, p3, p4, p5⟩ | ⟨x1, x2, x3, x4, x5, x6, x7⟩
              · have hok : allowed ops T.length i p = true := by
                  refine List.all_eq_true.2 fun k hk => ?_
                  cases hks : sensC ops T.length k with
                  | false => rfl
                  | true =>
                    simp only [Bool.not_true, Bool.false_or]
                    have hk' : k < ops.size := by simpa using hk
                    split
                    · rename_i hkp
                      cases hb : ((clos ops).getD k 0).testBit i with
                      | false => rfl
                      | true => have := hcl k hk' (p3 k hkp hks) i hb; rw [hDi] at this; cases this
                    · rename_i hkp
                      cases hb : ((clos ops).getD i 0).testBit k with
                      | false => rfl
                      | true => have := p4 k (by omega) (hbits k hb); rw [sensC_sens hks] at this; cases this
                obtain ⟨s, hs1, hs2⟩ := hlT i o t ho g2 hpi hnsk p p2 hok
                rw [hs2]
                exact ld_spec p5.sr her.el hs1
              · have hx := hX x1.1 x2 x3
                have b1 : ((clos ops).getD X.B 0).testBit i = false := by
                  cases hb : ((clos ops).getD X.B 0).testBit i with
                  | false => rfl
                  | true => have := hcl X.B (by have := hx.inU; omega) x4 i hb; rw [hDi] at this; cases this
                have b2 : ((clos ops).getD i 0).testBit X.A = false := by
                  cases hb : ((clos ops).getD i 0).testBit X.A with
                  | false => rfl
                  | true => have e9 : listed.getD X.A false = false := x5
                            have := hbits X.A hb; rw [e9] at this; cases this
                obtain ⟨s, hs1, hs2⟩ := hx.loadT i o t ho g2 hpi hnsk b1 b2
                rw [hs2]
                exact ld_spec x7.sr her.el hs1
          refine .inl (Oper.wp_mono ?_ (wp_of_doesS hdo))
          rintro a' w' ⟨v, rfl, rfl, hv⟩
          exact fin _ w' m (put v hv)
    · obtain ⟨q, rfl⟩ : ∃ q, i = T.length + q := ⟨i - T.length, by omega⟩
      have hqU : q < U.length := by omega
      obtain ⟨o', u, g1, g2, g3, g4, g5, g6, g7, g8⟩ := hU q hqU
      rw [ho] at g1; cases g1
      have her := er_of hT hU hI.defers hI.size hI.off he0 hI.m0m hI.vT hI.vU (q := q) (s := u.s) (by omega) (fun k _ hk => hbits k (by rwa [g6] at hk)) hlate
      cases hs : sensAt ops (T.length + q) with
      | false =>
        have hpi : floatK o.op = true := by simpa [sensAt, ho] using hs
        have put := fun (v : Value) (hv : VP m u.pv v) => hI.put hT hU hn hs0 hds ho (.inl (by omega)) hs (v := v) (fun t' ht' => by have := (List.getElem?_eq_some_iff.1 ht').1; omega) (fun u' _ hu' => by
          rw [show T.length + q - T.length = q by omega, g2] at hu'; cases hu'; exact hv)
        rcases g8 with ⟨hw, hpv, hh⟩ | ⟨hw, hst⟩
        · rw [wanted_spec her hw]
          simp only [Bool.false_eq_true, if_false]
          exact fin _ w m (put undef (by rw [hpv]; rfl))
        · rw [wanted_spec her hw]
          simp only [if_true]
          have hdo : DoesS P m w a o u.pv := by
            simp only [floatK, Bool.or_eq_true] at hpi
            rcases hpi with hpi | hpi
            · exact (step_pure hpi hst).2 m w a her.el
            · have key : ∀ p, p ≤ U.length → allowed ops T.length (T.length + q) p = true → SR m (stAt ⟨hAt h0 T T.length, lo⟩ U p).h w → DoesS P m w a o u.pv := fun p hp hok hsr => by
                have hnsk : u.pv ≠ .skip := fun hsk => by rw [hsk] at hst; exact load_noskip hpi hst
                obtain ⟨s, hs1, hs2⟩ := hlU q o u ho g2 hpi hnsk p hp hok
                rw [hs2]
                exact ld_spec hsr her.el hs1
              rcases hI.phase with ⟨hI1, hns⟩ | ⟨p, p1, p2, p3, p4, p5⟩ | ⟨x1, x2, x3, x4, x5, x6, x7⟩
              · refine key 0 (by omega) (List.all_eq_true.2 fun k hk => ?_) ?_
                · cases hks : sensC ops T.length k with
                  | false => rfl
                  | true =>
                    simp only [Bool.not_true, Bool.false_or]
                    have hk' : k < ops.size := by simpa using hk
                    split
                    · rename_i hkp
                      cases hb : ((clos ops).getD k 0).testBit (T.length + q) with
                      | false => rfl
                      | true => have := hclt (k + 1) k (by omega) hk' _ hb; omega
                    · rename_i hkp
                      cases hb : ((clos ops).getD (T.length + q) 0).testBit k with
                      | false => rfl
                      | true => have := hns k (by omega) (hbits k hb); rw [sensC_sens hks] at this; cases this
                · have := hI1.sr T.length (Nat.le_refl _)
                  rw [hI1.full hT] at this
                  exact this
              · refine key p p2 (List.all_eq_true.2 fun k hk => ?_) p5.sr
                cases hks : sensC ops T.length k with
                | false => rfl
                | true =>
                  simp only [Bool.not_true, Bool.false_or]
                  have hk' : k < ops.size := by simpa using hk
                  split
                  · rename_i hkp
                    cases hb : ((clos ops).getD k 0).testBit (T.length + q) with
                    | false => rfl
                    | true => have := hcl k hk' (p3 k hkp hks) _ hb; rw [hDi] at this; cases this
                  · rename_i hkp
                    cases hb : ((clos ops).getD (T.length + q) 0).testBit k with
                    | false => rfl
                    | true => have := p4 k (by omega) (hbits k hb); rw [sensC_sens hks] at this; cases this
              · have hx := hX x1.1 x2 x3
                have hnsk : u.pv ≠ .skip := fun hsk => by rw [hsk] at hst; exact load_noskip hpi hst
                have b1 : ((clos ops).getD X.B 0).testBit (T.length + q) = false := by
                  cases hb : ((clos ops).getD X.B 0).testBit (T.length + q) with
                  | false => rfl
                  | true => have := hcl X.B (by have := hx.inU; omega) x4 _ hb; rw [hDi] at this; cases this
                have b2 : ((clos ops).getD (T.length + q) 0).testBit X.A = false := by
                  cases hb : ((clos ops).getD (T.length + q) 0).testBit X.A with
                  | false => rfl
                  | true => have e9 : listed.getD X.A false = false := x5
                            have := hbits X.A hb; rw [e9] at this; cases this
                obtain ⟨s, hs1, hs2⟩ := hx.loadU q o u ho g2 hpi hnsk b1 b2
                rw [hs2]
                exact ld_spec x7.sr her.el hs1
          refine .inl (Oper.wp_mono ?_ (wp_of_doesS hdo))
          rintro a' w' ⟨v, rfl, rfl, hv⟩
          exact fin _ w' m (put v hv)
      | true =>
        have hnp : floatK o.op = false := by simpa [sensAt, ho] using hs
        have done : ∀ (a' : Act) w' m' v, a' = a.put o.dst v → VP m' u.pv v → (∀ k p, m k = some p → m' k = some p) → (∀ k, k < (hAt h0 T T.length).length → m' k = m k) → (Ph2 ops h0 T U m0 w0 lo (fun k => listed.getD k false || k == T.length + q) w' m' ∨ Ph3 X ops T.length h0 m0 w0 lo (fun k => listed.getD k false || k == T.length + q) w' m') → Inv2 X ops h0 T U m0 w0 a0 lo (fun k => listed.getD k false || k == T.length + q) a' w' m' := fun a' w' m' v ha hv hsub hbk hph => by
          have ev_ne : ∀ (k : Nat) (x : Oper) (d : Tmp), ops[k]? = some x → x.dst = some d → k ≠ T.length + q → a'.eval (.tmp d) = a.eval (.tmp d) := fun k x d hx hd hne => by
            rw [ha]
            cases hod : o.dst with
            | none => rfl
            | some d' => exact Flow.eval_put_ne fun e => hne (dst_sep hT hU hn hx ho hd (by rw [hod, e]))
          refine ⟨by rw [ha, Flow.put_defers]; exact hI.defers, by rw [ha, Flow.put_size]; exact hI.size, fun t ht => ?_, fun k p hk => hsub k p (hI.m0m k p hk), fun k t hk ht => ?_, fun p u' d hk hu' hd => ?_, fun j hj hjT k h1 h2 => by
            have hj : (listed.getD j false || j == T.length + q) = false := hj
            simp only [Bool.or_eq_false_iff] at hj
            have hm := hI.unm j hj.1 hjT k h1 h2
            obtain ⟨L, hL⟩ := pre_h hT (show j + 1 ≤ T.length by omega) (Nat.le_refl _)
            rw [hbk k (by rw [hL]; simp; omega)]
            exact hm, .inr hph⟩
          · rw [← hI.off t fun k o hk hD => ht k o hk (by simp [hD]), ha]
            cases hod : o.dst with
            | none => rfl
            | some d' => exact Flow.eval_put_ne fun e => ht _ o ho (by simp) (by rw [hod, e])
          · obtain ⟨x, hx, hxd⟩ := dst_T hT ht
            have hkT := (List.getElem?_eq_some_iff.1 ht).1
            rw [ev_ne k x t.d hx hxd (by omega)]
            exact (hI.vT k t (by simpa [show k ≠ T.length + q by omega] using hk) ht).ext hsub
          · obtain ⟨x, hx, hxd⟩ := dst_U hU hu'
            rw [hd] at hxd
            by_cases e : p = q
            · subst e
              rw [g2] at hu'; cases hu'
              rw [ho] at hx; cases hx
              rw [ha, hxd, Flow.eval_put_same (by rw [hI.size]; exact hds _ o d ho hxd)]
              exact hv
            · rw [ev_ne _ x d hx hxd (by omega)]
              exact (hI.vU p u' d (by simpa [e] using hk) hu' hd).ext hsub
        -- the order of the text
        have chain : (∀ k, k < T.length + q → sensC ops T.length k = true → listed.getD k false = true) → (∀ k, T.length + q ≤ k → listed.getD k false = true → sensAt ops k = false) →
            Region.wanted o (yielded ops a.tmps) = true ∧ o.wp P a w (fun a' w' => wpAny P .any ops Q fuel (listed.setIfInBounds (T.length + q) true) a' w') Q ∨ Region.wanted o (yielded ops a.tmps) = false ∧ wpAny P .any ops Q fuel (listed.setIfInBounds (T.length + q) true) (a.put o.dst undef) w := fun hallS hnone => by
          have hres := hI.res hT hU hs0 (q := q) (by omega) hallS hnone
          have ph : ∀ w' m', Res m (stAt ⟨hAt h0 T T.length, lo⟩ U q) w m' u.st w' → Ph2 ops h0 T U m0 w0 lo (fun k => listed.getD k false || k == T.length + q) w' m' := fun w' m' hr => by
            refine ⟨q + 1, by omega, by omega, fun k hk hks => ?_, fun k hk hDk => ?_, ?_⟩
            · by_cases e : k = T.length + q
              · simp [e]
              · simp [hallS k (by omega) hks]
            · exact hnone k (by omega) (by simpa [show k ≠ T.length + q by omega] using hDk)
            · have e : stAt ⟨hAt h0 T T.length, lo⟩ U (q + 1) = u.st := by simp [stAt, g2]
              rw [e]
              exact hres.trans hr
          rcases g8 with ⟨hw, hpv, hh⟩ | ⟨hw, hst⟩
          · refine .inr ⟨wanted_spec her hw, fin _ w m (done _ w m undef rfl (by rw [hpv]; rfl) (fun _ _ h => h) (fun _ _ => rfl) (.inl (ph w m ?_)))⟩
            rw [hh]; exact Res.refl hres.sr
          · refine .inl ⟨wanted_spec her hw, Oper.wp_mono ?_ (step_wp hN hev hres.sr her.el hst)⟩
            rintro a' w' ⟨v, m', rfl, hv, hr⟩
            exact fin _ w' m' (done _ w' m' v rfl hv hr.fr.same (fun k hk => hr.fr.back k (Nat.lt_of_lt_of_le hk (hlen q (by omega)))) (.inl (ph w' m' hr)))
        have goal : Region.wanted o (yielded ops a.tmps) = true ∧ o.wp P a w (fun a' w' => wpAny P .any ops Q fuel (listed.setIfInBounds (T.length + q) true) a' w') Q ∨ Region.wanted o (yielded ops a.tmps) = false ∧ wpAny P .any ops Q fuel (listed.setIfInBounds (T.length + q) true) (a.put o.dst undef) w := by
          have sensB : ∀ k, sensAt ops k = true → k < ops.size := fun k hk => by
            unfold sensAt at hk
            split at hk
            · rename_i x hx; exact (Array.getElem?_eq_some_iff.1 hx).1
            · cases hk
          by_cases cB : T.length + q = X.B ∧ X.A < X.B ∧ sensAt ops X.A = true ∧ listed.getD X.A false = false
          · -- the second one first
            obtain ⟨cB, cAB, sA, dA⟩ := cB
            have hx := hX cAB sA (by rw [← cB]; exact hs)
            have hin := hx.inU
            have hallA : ∀ k, sensC ops T.length k = true → k ≠ X.A → k ≠ X.B → listed.getD k false = true := fun k hks k1 k2 => by
              have := hx.last k (sensC_sens hks) k1 k2
              rcases g7 hnp k (by omega) hks with h | h
              · exact absurd h.1 k1
              · exact hbits k (by rw [← g6]; exact h)
            have hres := hI.res hT hU hs0 (q := X.A - T.length) (by omega) (fun k hk hks => hallA k hks (by omega) (by omega)) (fun k hk hDk => by
              cases hks : sensAt ops k with
              | false => rfl
              | true =>
                exfalso
                by_cases k1 : k = X.A
                · rw [k1, dA] at hDk; cases hDk
                · by_cases k2 : k = X.B
                  · rw [k2, ← cB, hDi] at hDk; cases hDk
                  · have := hx.last k hks k1 k2; omega)
            have hq' : X.B - T.length = q := by omega
            obtain ⟨w1, w2⟩ := hx.stepB o u (by rw [← cB]; exact ho) (by rw [hq']; exact g2)
            rw [hq', ← cB] at w1 w2
            refine .inl ⟨wanted_spec her w1, Oper.wp_mono ?_ (step_wp hN hev hres.sr her.el w2)⟩
            rintro a' w' ⟨v, m', rfl, hv, hr⟩
            refine fin _ w' m' (done _ w' m' v rfl hv hr.fr.same (fun k hk => hr.fr.back k (Nat.lt_of_lt_of_le hk (hlen (X.A - T.length) (by omega)))) (.inr ⟨⟨cAB, hin.1⟩, sA, by rw [← cB]; exact hs, by rw [← cB]; simp, ?_, fun k hks k1 => ?_, hres.trans hr⟩))
            · have : X.A ≠ T.length + q := by omega
              simp only [dA, Bool.false_or, beq_eq_false_iff_ne, ne_eq]
              exact this
            · by_cases k2 : k = X.B
              · rw [k2, ← cB]; simp
              · simp [hallA k hks k1 k2]
          · by_cases cA : T.length + q = X.A ∧ X.A < X.B ∧ sensAt ops X.B = true ∧ listed.getD X.B false = true
            · -- the first one last
              obtain ⟨cA, cAB, sB, dB⟩ := cA
              have hx := hX cAB (by rw [← cA]; exact hs) sB
              have hin := hx.inU
              have h3 : Ph3 X ops T.length h0 m0 w0 lo (fun k => listed.getD k false) w m := by
                rcases hI.phase with ⟨_, h⟩ | ⟨p, p1, p2, p3, p4, p5⟩ | h
                · have := h X.B (by omega) dB; rw [sB] at this; cases this
                · exfalso
                  by_cases c : X.B < T.length + p
                  · have := p3 X.A (by omega) (by rw [sensC_U hin.1, ← cA]; exact hs)
                    have e : listed.getD X.A false = true := this
                    rw [← cA, hDi] at e; cases e
                  · have := p4 X.B (by omega) dB; rw [sB] at this; cases this
                · exact h
              obtain ⟨x1, x2, x3, x4, x5, x6, x7⟩ := h3
              have hq' : X.A - T.length = q := by omega
              obtain ⟨w1, w2⟩ := hx.stepA o u (by rw [← cA]; exact ho) (by rw [hq']; exact g2)
              rw [hq', ← cA] at w1 w2
              refine .inl ⟨wanted_spec her w1, Oper.wp_mono ?_ (step_wp hN hev x7.sr her.el w2)⟩
              rintro a' w' ⟨v, m', rfl, hv, hr⟩
              refine fin _ w' m' (done _ w' m' v rfl hv hr.fr.same (fun k hk => hr.fr.back k (Nat.lt_of_lt_of_le hk (hlenX cAB x2 x3))) (.inl ⟨U.length, by omega, Nat.le_refl _, fun k hk hks => ?_, fun k hk hDk => ?_, x7.trans hr⟩))
              · by_cases k1 : k = X.A
                · rw [k1, ← cA]; simp
                · have := x6 k hks k1
                  simp only at this
                  simp [this]
              · cases hks : sensAt ops k with
                | false => rfl
                | true => have := sensB k hks; omega
            · refine chain (fun k hk hks => ?_) fun k hk hDk => ?_
              · rcases g7 hnp k hk hks with ⟨h1, h2⟩ | h
                · cases hd : listed.getD k false with
                  | true => rfl
                  | false => exact absurd ⟨h2, by omega, by rw [← h1]; exact sensC_sens hks, by rw [← h1]; exact hd⟩ cB
                · exact hbits k (by rw [← g6]; exact h)
              · cases hks : sensAt ops k with
                | false => rfl
                | true =>
                  exfalso
                  by_cases e : k = T.length + q
                  · rw [e, hDi] at hDk; cases hDk
                  · obtain ⟨j, rfl⟩ : ∃ j, k = T.length + j := ⟨k - T.length, by omega⟩
                    have hjo := sensB _ hks
                    obtain ⟨o2, u2, k1, k2, _, _, _, k6, k7, _⟩ := hU j (by omega)
                    have hnp2 : floatK o2.op = false := by simpa [sensAt, k1] using hks
                    rcases k7 hnp2 (T.length + q) (by omega) (by rw [sensC_U (by omega)]; exact hs) with ⟨h1, h2⟩ | h
                    · exact cA ⟨h1, by omega, by rw [← h2]; exact hks, by rw [← h2]; exact hDk⟩
                    · have := hcl (T.length + j) hjo hDk (T.length + q) (by rw [← k6]; exact h)
                      rw [hDi] at this; cases this
        rcases goal with ⟨h1, h2⟩ | ⟨h1, h2⟩
        · rw [h1]
          simp only [if_true]
          exact .inl h2
        · rw [h1]
          simp only [Bool.false_eq_true, if_false]
          exact h2
end
end Ev
end Go.Proofs.Ytepianllbfnpoaa

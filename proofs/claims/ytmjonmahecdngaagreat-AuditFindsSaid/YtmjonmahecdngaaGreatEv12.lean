/- Ev: a function's code, run on what is known of its values. Twelfth part: any region that draws its order comes to what its text comes to. No program. -/
import Derived.Test.YtmjonmahecdngaaGreatEv11
namespace Go.Proofs.YtmjonmahecdngaaGreat
open Go.RowKit
namespace Ev
variable {P : Program}

section
variable {ev : CallE} {ops : Array Oper} {e0 : Env} {h0 : List O} {T : List Tr} {U : List Tl} {m0 : M} {w0 : World} {a0 : Act} {lo : Nat}

theorem er_T {D : Nat → Bool} {a : Act} {m : M} (hT : ∀ i, i < T.length → StepP P ev ops e0 h0 T i) (hdef : a.defers = []) (hsz : a.tmps.size = a0.tmps.size)
    (hoff : ∀ t, (∀ (k : Nat) (o : Oper), ops[k]? = some o → D k = true → o.dst ≠ some t) → a.eval (.tmp t) = a0.eval (.tmp t)) (he : ER m0 e0 a0) (hm0 : ∀ k p, m0 k = some p → m k = some p)
    (hvT : ∀ k t, D k = true → T[k]? = some t → VP m t.pv (a.eval (.tmp t.d))) {i s : Nat} (hi : i ≤ T.length) (hD : ∀ k, k < i → s.testBit k = true → D k = true) (hlate : ∀ (k : Nat) (o : Oper), i ≤ k → ops[k]? = some o → D k = true → k ≠ i ∧ ((clos ops).getD k 0).testBit i = false) :
    ER m (envAt e0 (T.take i) s (laterD (clos ops) i (ops.toList.drop (i + 1)) (i + 1))) a := by
  refine ⟨hdef, ⟨by rw [envAt, maskL_len, maskR_len, he.slots.1]; simp [hsz], fun t x v hx hv => ?_⟩⟩
  have hv' := eval_slot hv
  rcases maskL_get hx with rfl | ⟨hnd, hx⟩
  · exact trivial
  rcases maskR_get hx with ⟨j, r, h1, h2, h3⟩ | ⟨hnT, hx⟩
  · rw [Nat.zero_add] at h3
    split at h3
    · rename_i hb
      rw [List.getElem?_take] at h1
      split at h1
      · rename_i hj
        have := hvT j r (hD _ hj hb) h1
        rw [h2, hv'] at this
        rw [h3]; exact this
      · cases h1
    · rw [h3]; exact trivial
  · have ho : a.eval (.tmp t) = a0.eval (.tmp t) := hoff t fun k o hk hDk e => by
      by_cases hk1 : k < i
      · obtain ⟨o', t', g1, g2, g3, _⟩ := hT k (by omega)
        rw [hk] at g1; cases g1
        rw [g3] at e; cases e
        exact hnT t' (List.mem_of_getElem? (i := k) (by rw [List.getElem?_take, if_pos hk1]; exact g2)) rfl
      · obtain ⟨l1, l2⟩ := hlate k o (by omega) hk hDk
        apply hnd
        have g1' : ops.toList[k]? = some o := by simpa using hk
        refine laterD_mem (j := k - (i + 1)) (o := o) ?_ e (by rwa [show i + 1 + (k - (i + 1)) = k by omega])
        rw [List.getElem?_drop, show i + 1 + (k - (i + 1)) = k by omega]
        exact g1'
    have := lk_spec (x := .tmp t) he hx
    rw [← ho, hv'] at this
    exact this.ext hm0

theorem Inv.full {D : Nat → Bool} {a : Act} {w : World} {m : M} (hT : ∀ i, i < T.length → StepP P ev ops e0 h0 T i) (hI : Inv ops h0 T m0 w0 a0 D a w m) : res m (hAt h0 T T.length).length = m := by
  funext k
  unfold res
  split
  · rfl
  · rename_i hk
    cases hm : m k with
    | none => rfl
    | some p =>
      exfalso
      rcases hI.doms k p hm with h | ⟨j, _, h2, _, h4⟩
      · obtain ⟨L, hL⟩ := pre_h hT (Nat.zero_le T.length) (Nat.le_refl _)
        have hL : hAt h0 T T.length = h0 ++ L := hL
        rw [hL] at hk; simp at hk; omega
      · obtain ⟨L, hL⟩ := pre_h hT (show j + 1 ≤ T.length by omega) (Nat.le_refl _)
        rw [hL] at hk; simp at hk; omega
theorem Inv.res {D : Nat → Bool} {a : Act} {w : World} {m : M} (hT : ∀ i, i < T.length → StepP P ev ops e0 h0 T i) (hs0 : SR m0 h0 w0) (hI : Inv ops h0 T m0 w0 a0 D a w m) : Res m0 ⟨h0, lo⟩ w0 m ⟨hAt h0 T T.length, lo⟩ w := by
  obtain ⟨L, hL⟩ := pre_h hT (Nat.zero_le T.length) (Nat.le_refl _)
  have hL : hAt h0 T T.length = h0 ++ L := hL
  have hle : h0.length ≤ (hAt h0 T T.length).length := by rw [hL]; simp
  have hf := hI.fr
  have hsr := hI.sr T.length (Nat.le_refl _)
  rw [hI.full hT] at hsr
  refine ⟨hsr, ⟨hf.same, hf.back, fun k p hk hm => ?_, hf.size, hf.os, hf.tape, hf.output, fun b hb _ => hf.keep b hb fun i p h1 h2 => by omega⟩, hle, Nat.le_refl _, fun i hi _ => ?_⟩
  · rcases hf.new k p hk hm with h | ⟨i, q, h1, h2, _⟩
    · exact .inl h
    · omega
  · show (hAt h0 T T.length)[i]? = h0[i]?
    rw [hL, List.getElem?_append_left hi]
theorem stAt_pure (hU : ∀ q, q < U.length → TailP P ev ops e0 T ⟨hAt h0 T T.length, lo⟩ U q) {q : Nat} (hq : q < U.length) (hs : sensAt ops (T.length + q) = false) : stAt ⟨hAt h0 T T.length, lo⟩ U (q + 1) = stAt ⟨hAt h0 T T.length, lo⟩ U q := by
  obtain ⟨o, u, h1, h2, _, _, _, _, _, h8⟩ := hU q hq
  have e : stAt ⟨hAt h0 T T.length, lo⟩ U (q + 1) = u.st := by simp [stAt, h2]
  rw [e]
  rcases h8 with ⟨_, _, h⟩ | ⟨_, h⟩
  · exact h
  · have hp : floatK o.op = true := by simpa [sensAt, h1] using hs
    simp only [floatK, Bool.or_eq_true] at hp
    rcases hp with hp | hp
    · exact (step_pure hp h).1
    · exact step_load hp h
theorem stAt_run (hU : ∀ q, q < U.length → TailP P ev ops e0 T ⟨hAt h0 T T.length, lo⟩ U q) : ∀ {q p : Nat}, p ≤ q → q ≤ U.length → (∀ k, T.length + p ≤ k → k < T.length + q → sensAt ops k = false) → stAt ⟨hAt h0 T T.length, lo⟩ U q = stAt ⟨hAt h0 T T.length, lo⟩ U p
  | 0, p, hp, _, _ => by rw [show p = 0 by omega]
  | q + 1, p, hp, hq, hs => by
    by_cases e : p = q + 1
    · rw [e]
    · rw [stAt_pure hU (by omega) (hs _ (by omega) (by omega))]
      exact stAt_run hU (by omega) (by omega) fun k h1 h2 => hs k h1 (by omega)
/-- where it stands, ahead of the operation q of the second half, when all that counts has come up -/
theorem Inv2.res {D : Nat → Bool} {a : Act} {w : World} {m : M} (hT : ∀ i, i < T.length → StepP P ev ops e0 h0 T i) (hU : ∀ q, q < U.length → TailP P ev ops e0 T ⟨hAt h0 T T.length, lo⟩ U q) (hs0 : SR m0 h0 w0)
    (hI : Inv2 ops h0 T U m0 w0 a0 lo D a w m) {q : Nat} (hq : q ≤ U.length) (hall : ∀ k, k < T.length + q → sensAt ops k = true → D k = true) (hnone : ∀ k, T.length + q ≤ k → D k = true → sensAt ops k = false) : Res m0 ⟨h0, lo⟩ w0 m (stAt ⟨hAt h0 T T.length, lo⟩ U q) w := by
  rcases hI.phase with ⟨h1, h2⟩ | ⟨p, p1, p2, p3, p4, p5⟩
  · rw [stAt_run hU (Nat.zero_le q) hq fun k k1 k2 => by
      cases hs : sensAt ops k with
      | false => rfl
      | true => have := h2 k (by omega) (hall k k2 hs); rw [hs] at this; cases this]
    exact h1.res hT hs0
  · by_cases hpq : p ≤ q
    · rw [stAt_run hU hpq hq fun k k1 k2 => by
        cases hs : sensAt ops k with
        | false => rfl
        | true => have := p4 k k1 (hall k k2 hs); rw [hs] at this; cases this]
      exact p5
    · rw [← stAt_run hU (show q ≤ p by omega) p2 fun k k1 k2 => by
        cases hs : sensAt ops k with
        | false => rfl
        | true => have := hnone k k1 (p3 k k2 hs); rw [hs] at this; cases this]
      exact p5

theorem any2 (hN : NoCount P) (hev : CallOk P ev) {Q : Exit → Act → World → Prop} (hT : ∀ i, i < T.length → StepP P ev ops e0 h0 T i) (hU : ∀ q, q < U.length → TailP P ev ops e0 T ⟨hAt h0 T T.length, lo⟩ U q) (hn : T.length + U.length = ops.size)
    (hlT : LoadsT P ops e0 T U ⟨hAt h0 T T.length, lo⟩) (hlU : LoadsU P ops e0 T U ⟨hAt h0 T T.length, lo⟩) (hs0 : SR m0 h0 w0) (he0 : ER m0 e0 a0) (hds : ∀ (k : Nat) (o : Oper) (d : Tmp), ops[k]? = some o → o.dst = some d → d < a0.tmps.size)
    (hQ : ∀ a' w' m', ER m' (envT e0 T U (2 ^ ops.size - 1) []) a' → Res m0 ⟨h0, lo⟩ w0 m' (stAt ⟨hAt h0 T T.length, lo⟩ U U.length) w' → Q .normal a' w') :
    ∀ (fuel : Nat) (listed : Array Bool) (a : Act) (w : World) (m : M), listed.size = ops.size → Flow.left listed = fuel → Inv2 ops h0 T U m0 w0 a0 lo (fun k => listed.getD k false) a w m →
      (∀ q, q < ops.size → listed.getD q false = true → ∀ k, ((clos ops).getD q 0).testBit k = true → listed.getD k false = true) → wpAny P .any ops Q fuel listed a w := by
  have hback : ∀ (i : Nat) (o : Oper), ops[i]? = some o → ∀ e ∈ o.after.toList, Region.binds .any e = true → e.on < i := fun i o ho => by
    have hio : i < ops.size := (Array.getElem?_eq_some_iff.1 ho).1
    by_cases hi : i < T.length
    · obtain ⟨o', t, g1, _, _, _, g5, _⟩ := hT i hi
      rw [ho] at g1; cases g1
      exact g5
    · obtain ⟨o', u, g1, _, _, _, g5, _⟩ := hU (i - T.length) (by omega)
      rw [show T.length + (i - T.length) = i by omega, ho] at g1; cases g1
      exact fun e he hb => by have := g5 e he hb; omega
  have hclt : ∀ n k, k < n → k < ops.size → ∀ j, ((clos ops).getD k 0).testBit j = true → j < k := by
    intro n
    induction n with
    | zero => intro k h; omega
    | succ n ih =>
      intro k hk hks j hj
      have ho : ops[k]? = some ops[k] := by simp [hks]
      have hcs := (closAll_spec (l := ops.toList) (S := [])).2.2 k ops[k] (by simp)
      simp only [List.length_nil, Nat.zero_add] at hcs
      rw [hcs] at hj
      rcases clo_spec hj with h | ⟨e, h1, h2, h3⟩
      · simp at h
      · have hlt := hback k _ ho e h1 h2
        rcases h3 with h3 | h3
        · omega
        · have e1 : ((closAll ops.toList []).take k).getD e.on 0 = (clos ops).getD e.on 0 := by
            rw [List.getD_eq_getElem?_getD, List.getElem?_take, if_pos hlt, ← List.getD_eq_getElem?_getD]
          rw [e1] at h3
          have := ih e.on (by omega) (by omega) j h3
          omega
  have hdone : ∀ (listed : Array Bool) (a : Act) (w : World) (m : M), listed.size = ops.size → Inv2 ops h0 T U m0 w0 a0 lo (fun k => listed.getD k false) a w m → Region.ready .any ops listed = [] → Q .normal a w := by
    intro listed a w m hsz hI hr
    have hall : ∀ n i, i < n → i < ops.size → listed.getD i false = true := by
      intro n
      induction n with
      | zero => intro i h; omega
      | succ n ih =>
        intro i hi hio
        by_cases hin : i < n
        · exact ih i hin hio
        · have hin : i = n := by omega
          cases hl : listed.getD i false with
          | true => rfl
          | false =>
            exfalso
            have ho : ops[i]? = some ops[i] := by simp [hio]
            have : i ∈ Region.ready .any ops listed := mem_ready.2 ⟨by
              have : i < listed.size := by omega
              simpa [this] using hl, _, ho, fun e he hbe => ih e.on (by have := hback i _ ho e (by simpa using he) hbe; omega) (by have := hback i _ ho e (by simpa using he) hbe; omega)⟩
            rw [hr] at this
            cases this
    have her := er_of hT hU hI.defers hI.size hI.off he0 hI.m0m hI.vT hI.vU (q := U.length) (s := 2 ^ ops.size - 1) (Nat.le_refl _) (fun k hk _ => hall (k + 1) k (by omega) (by omega)) (fun k o hk ho => by have := (Array.getElem?_eq_some_iff.1 ho).1; omega)
    rw [List.take_length, hn, List.drop_eq_nil_of_le (by simp)] at her
    have hres := hI.res hT hU hs0 (q := U.length) (Nat.le_refl _) (fun k hk _ => hall (k + 1) k (by omega) (by omega)) (fun k hk _ => by
      have : ops[k]? = none := by simp; omega
      simp [sensAt, this])
    exact hQ a w m her hres
  intro fuel
  induction fuel with
  | zero =>
    intro listed a w m hsz hl hI _
    have hr : Region.ready .any ops listed = [] := by
      cases hr : Region.ready .any ops listed with
      | nil => rfl
      | cons i r =>
        have hi : i ∈ Region.ready .any ops listed := by rw [hr]; simp
        have := Flow.left_set (mem_ready.1 hi).1
        omega
    exact ⟨hr, hdone listed a w m hsz hI hr⟩
  | succ fuel ih =>
    intro listed a w m hsz hl hI hcl
    refine ⟨hdone listed a w m hsz hI, fun i hi => ?_⟩
    obtain ⟨hun, o, ho, hall⟩ := mem_ready.1 hi
    have hio : i < ops.size := (Array.getElem?_eq_some_iff.1 ho).1
    have hDi : listed.getD i false = false := by
      cases hh : listed.getD i false with
      | false => rfl
      | true => rw [Flow.getD_true_of_false hh] at hun; cases hun
    have hD' : (fun k => (listed.setIfInBounds i true).getD k false) = fun k => listed.getD k false || k == i := by
      funext k
      by_cases e : k = i
      · subst e
        have : k < listed.size := by omega
        simp [this]
      · rw [getD_set_ne false (Ne.symm e)]
        simp [e]
    have hbits : ∀ k, ((clos ops).getD i 0).testBit k = true → listed.getD k false = true := fun k hk => by
      have hcs := (closAll_spec (l := ops.toList) (S := [])).2.2 i o (by simpa using ho)
      simp only [List.length_nil, Nat.zero_add] at hcs
      rw [hcs] at hk
      rcases clo_spec hk with h | ⟨e, h1, h2, h3⟩
      · simp at h
      · have hon := hall e (by simpa using h1) h2
        have hlt := hback i o ho e h1 h2
        rcases h3 with h3 | h3
        · rw [h3]; exact hon
        · refine hcl e.on (by omega) hon k ?_
          have e1 : ((closAll ops.toList []).take i).getD e.on 0 = (clos ops).getD e.on 0 := by
            rw [List.getD_eq_getElem?_getD, List.getElem?_take, if_pos hlt, ← List.getD_eq_getElem?_getD]
          rwa [e1] at h3
    have hlate : ∀ (k : Nat) (o : Oper), i ≤ k → ops[k]? = some o → listed.getD k false = true → k ≠ i ∧ ((clos ops).getD k 0).testBit i = false := fun k o' hk ho' hD => by
      refine ⟨(fun e => by rw [e, hDi] at hD; cases hD), ?_⟩
      cases hb : ((clos ops).getD k 0).testBit i with
      | false => rfl
      | true => have := hcl k (Array.getElem?_eq_some_iff.1 ho').1 hD i hb; rw [hDi] at this; cases this
    have fin : ∀ a' w' m', Inv2 ops h0 T U m0 w0 a0 lo (fun k => listed.getD k false || k == i) a' w' m' → wpAny P .any ops Q fuel (listed.setIfInBounds i true) a' w' := fun a' w' m' hI' => by
      refine ih _ _ _ m' (by simpa using hsz) (by have := Flow.left_set hun; omega) (by rw [hD']; exact hI') (fun q hqs hq k hk => ?_)
      by_cases e : q = i
      · subst e; exact getD_set_true (hbits k hk)
      · rw [getD_set_ne false (Ne.symm e)] at hq; exact getD_set_true (hcl q hqs hq k hk)
    unfold wpOp
    simp only [ho]
    by_cases hiT : i < T.length
    · obtain ⟨o', t, g1, g2, g3, g4, g5, g6, g7⟩ := hT i hiT
      rw [ho] at g1; cases g1
      have her := er_T hT hI.defers hI.size hI.off he0 hI.m0m hI.vT (i := i) (s := t.s) (by omega) (fun k _ hk => hbits k (by rwa [g6] at hk)) hlate
      have hdl : t.d < a.tmps.size := by rw [hI.size]; exact hds i o t.d ho g3
      rcases hI.phase with ⟨hI1, hns⟩ | ⟨p, p1, p2, p3, p4, p5⟩
      · -- before the first that writes
        have lift : ∀ a' w' m1 v, a' = a.put (some t.d) v → Inv ops h0 T m0 w0 a0 (fun k => listed.getD k false || k == i) a' w' m1 → (∀ k p, m k = some p → m1 k = some p) → Inv2 ops h0 T U m0 w0 a0 lo (fun k => listed.getD k false || k == i) a' w' m1 := fun a' w' m1 v ha hJ hsub => by
          refine ⟨hJ.defers, hJ.size, hJ.off, fun k p hk => hsub k p (hI.m0m k p hk), fun k t' hk ht' => (hJ.vals k t' hk ht').ext fun q p hq => (res_some.1 hq).2, fun q u d hq hu hd => ?_, .inl ⟨hJ, fun k hk1 hk2 => hns k hk1 (by simpa [show k ≠ i by omega] using hk2)⟩⟩
          obtain ⟨x, hx, hxd⟩ := dst_U hU hu
          rw [hd] at hxd
          have hne : t.d ≠ d := fun e => by
            have := dst_sep hT hU hn ho hx (by rw [g3, e]) hxd
            omega
          rw [ha, Flow.eval_put_ne hne]
          exact (hI.vU q u d (by simpa [show T.length + q ≠ i by omega] using hq) hu hd).ext hsub
        rcases g7 with ⟨hw, hpv, hh⟩ | ⟨hw, st, hst, hlo, hh⟩
        · rw [wanted_spec her hw]
          simp only [Bool.false_eq_true, if_false]
          rw [g3]
          exact fin _ w m (lift _ _ m undef rfl (hI1.skip hT g2 hdl hpv) fun _ _ h => h)
        · rw [wanted_spec her hw]
          simp only [if_true]
          have her1 := hI1.er hT hs0 he0 (i := i) (s := t.s) (by omega) (fun k _ hk => hbits k (by rwa [g6] at hk)) hlate
          refine .inl (Oper.wp_mono ?_ (step_wp hN hev (hI1.sr i (by omega)) her1.el hst))
          rintro a' w' ⟨v, m', rfl, hv, hres⟩
          obtain ⟨m1, hJ, hsub⟩ := hI1.step hT hs0 hDi g2 hdl hres hlo hh hv
          rw [g3]
          exact fin _ w' m1 (lift _ _ m1 v rfl hJ hsub)
      · -- behind it: what comes up is pure
        have hsi : sensAt ops i = false := by
          cases hs : sensAt ops i with
          | false => rfl
          | true => have := p3 i (by omega) hs; rw [hDi] at this; cases this
        have hpi : floatK o.op = true := by simpa [sensAt, ho] using hsi
        have put := fun (v : Value) (hv : VP m t.pv v) => hI.put hT hU hn hs0 hds ho (.inr ⟨hsi, p, p1, p2, p3, p4, p5⟩) hsi (v := v) (fun t' ht' => by rw [g2] at ht'; cases ht'; exact hv) (fun u hu => by omega)
        rcases g7 with ⟨hw, hpv, hh⟩ | ⟨hw, st, hst, hlo, hh⟩
        · rw [wanted_spec her hw]
          simp only [Bool.false_eq_true, if_false]
          exact fin _ w m (put undef (by rw [hpv]; rfl))
        · rw [wanted_spec her hw]
          simp only [if_true]
          have hdo : DoesS P m w a o t.pv := by
            simp only [floatK, Bool.or_eq_true] at hpi
            rcases hpi with hpi | hpi
            · exact (step_pure hpi hst).2 m w a her.el
            · have hok : allowed ops T.length i p = true := by
                refine List.all_eq_true.2 fun k hk => ?_
                cases hks : sensAt ops k with
                | false => rfl
                | true =>
                  simp only [Bool.not_true, Bool.false_or]
                  have hk' : k < ops.size := by simpa using hk
                  split
                  · rename_i hkp
                    cases hb : ((clos ops).getD k 0).testBit i with
                    | false => rfl
                    | true => have := hcl k hk' (p3 k hkp hks) i hb; rw [hDi] at this; cases this
                  · rename_i hkp
                    cases hb : ((clos ops).getD i 0).testBit k with
                    | false => rfl
                    | true => have := p4 k (by omega) (hbits k hb); rw [hks] at this; cases this
              have hnsk : t.pv ≠ .skip := fun hsk => by rw [hsk] at hst; exact load_noskip hpi hst
              obtain ⟨s, hs1, hs2⟩ := hlT i o t ho g2 hpi hnsk p p2 hok
              rw [hs2]
              exact ld_spec p5.sr her.el hs1
          refine .inl (Oper.wp_mono ?_ (wp_of_doesS hdo))
          rintro a' w' ⟨v, rfl, rfl, hv⟩
          exact fin _ w' m (put v hv)
    · obtain ⟨q, rfl⟩ : ∃ q, i = T.length + q := ⟨i - T.length, by omega⟩
      have hqU : q < U.length := by omega
      obtain ⟨o', u, g1, g2, g3, g4, g5, g6, g7, g8⟩ := hU q hqU
      rw [ho] at g1; cases g1
      have her := er_of hT hU hI.defers hI.size hI.off he0 hI.m0m hI.vT hI.vU (q := q) (s := u.s) (by omega) (fun k _ hk => hbits k (by rwa [g6] at hk)) hlate
      cases hs : sensAt ops (T.length + q) with
      | false =>
        have hpi : floatK o.op = true := by simpa [sensAt, ho] using hs
        have put := fun (v : Value) (hv : VP m u.pv v) => hI.put hT hU hn hs0 hds ho (.inl (by omega)) hs (v := v) (fun t' ht' => by have := (List.getElem?_eq_some_iff.1 ht').1; omega) (fun u' _ hu' => by
          rw [show T.length + q - T.length = q by omega, g2] at hu'; cases hu'; exact hv)
        rcases g8 with ⟨hw, hpv, hh⟩ | ⟨hw, hst⟩
        · rw [wanted_spec her hw]
          simp only [Bool.false_eq_true, if_false]
          exact fin _ w m (put undef (by rw [hpv]; rfl))
        · rw [wanted_spec her hw]
          simp only [if_true]
          have hdo : DoesS P m w a o u.pv := by
            simp only [floatK, Bool.or_eq_true] at hpi
            rcases hpi with hpi | hpi
            · exact (step_pure hpi hst).2 m w a her.el
            · have key : ∀ p, p ≤ U.length → allowed ops T.length (T.length + q) p = true → SR m (stAt ⟨hAt h0 T T.length, lo⟩ U p).h w → DoesS P m w a o u.pv := fun p hp hok hsr => by
                have hnsk : u.pv ≠ .skip := fun hsk => by rw [hsk] at hst; exact load_noskip hpi hst
                obtain ⟨s, hs1, hs2⟩ := hlU q o u ho g2 hpi hnsk p hp hok
                rw [hs2]
                exact ld_spec hsr her.el hs1
              rcases hI.phase with ⟨hI1, hns⟩ | ⟨p, p1, p2, p3, p4, p5⟩
              · refine key 0 (by omega) (List.all_eq_true.2 fun k hk => ?_) ?_
                · cases hks : sensAt ops k with
                  | false => rfl
                  | true =>
                    simp only [Bool.not_true, Bool.false_or]
                    have hk' : k < ops.size := by simpa using hk
                    split
                    · rename_i hkp
                      cases hb : ((clos ops).getD k 0).testBit (T.length + q) with
                      | false => rfl
                      | true => have := hclt (k + 1) k (by omega) hk' _ hb; omega
                    · rename_i hkp
                      cases hb : ((clos ops).getD (T.length + q) 0).testBit k with
                      | false => rfl
                      | true => have := hns k (by omega) (hbits k hb); rw [hks] at this; cases this
                · have := hI1.sr T.length (Nat.le_refl _)
                  rw [hI1.full hT] at this
                  exact this
              · refine key p p2 (List.all_eq_true.2 fun k hk => ?_) p5.sr
                cases hks : sensAt ops k with
                | false => rfl
                | true =>
                  simp only [Bool.not_true, Bool.false_or]
                  have hk' : k < ops.size := by simpa using hk
                  split
                  · rename_i hkp
                    cases hb : ((clos ops).getD k 0).testBit (T.length + q) with
                    | false => rfl
                    | true => have := hcl k hk' (p3 k hkp hks) _ hb; rw [hDi] at this; cases this
                  · rename_i hkp
                    cases hb : ((clos ops).getD (T.length + q) 0).testBit k with
                    | false => rfl
                    | true => have := p4 k (by omega) (hbits k hb); rw [hks] at this; cases this
          refine .inl (Oper.wp_mono ?_ (wp_of_doesS hdo))
          rintro a' w' ⟨v, rfl, rfl, hv⟩
          exact fin _ w' m (put v hv)
      | true =>
        have hnp : floatK o.op = false := by simpa [sensAt, ho] using hs
        have hallS : ∀ k, k < T.length + q → sensAt ops k = true → listed.getD k false = true := fun k hk hks => hbits k (by rw [← g6]; exact g7 hnp k hk hks)
        have hnone : ∀ k, T.length + q ≤ k → listed.getD k false = true → sensAt ops k = false := fun k hk hDk => by
          cases hks : sensAt ops k with
          | false => rfl
          | true =>
            exfalso
            by_cases e : k = T.length + q
            · rw [e, hDi] at hDk; cases hDk
            · obtain ⟨j, rfl⟩ : ∃ j, k = T.length + j := ⟨k - T.length, by omega⟩
              have hjo : T.length + j < ops.size := by
                cases hk' : ops[T.length + j]? with
                | none => simp [sensAt, hk'] at hks
                | some x => exact (Array.getElem?_eq_some_iff.1 hk').1
              obtain ⟨o2, u2, k1, k2, _, _, _, k6, k7, _⟩ := hU j (by omega)
              have hnp2 : floatK o2.op = false := by simpa [sensAt, k1] using hks
              have := hcl (T.length + j) hjo hDk (T.length + q) (by rw [← k6]; exact k7 hnp2 _ (by omega) hs)
              rw [hDi] at this; cases this
        have hres := hI.res hT hU hs0 (q := q) (by omega) hallS hnone
        have done : ∀ (a' : Act) w' m' v, a' = a.put o.dst v → VP m' u.pv v → Res m (stAt ⟨hAt h0 T T.length, lo⟩ U q) w m' u.st w' → Inv2 ops h0 T U m0 w0 a0 lo (fun k => listed.getD k false || k == T.length + q) a' w' m' := fun a' w' m' v ha hv hr => by
          have hsub := hr.fr.same
          have ev_ne : ∀ (k : Nat) (x : Oper) (d : Tmp), ops[k]? = some x → x.dst = some d → k ≠ T.length + q → a'.eval (.tmp d) = a.eval (.tmp d) := fun k x d hx hd hne => by
            rw [ha]
            cases hod : o.dst with
            | none => rfl
            | some d' => exact Flow.eval_put_ne fun e => hne (dst_sep hT hU hn hx ho hd (by rw [hod, e]))
          refine ⟨by rw [ha, Flow.put_defers]; exact hI.defers, by rw [ha, Flow.put_size]; exact hI.size, fun t ht => ?_, fun k p hk => hsub k p (hI.m0m k p hk), fun k t hk ht => ?_, fun p u' d hk hu' hd => ?_, .inr ⟨q + 1, by omega, by omega, fun k hk hks => ?_, fun k hk hDk => ?_, ?_⟩⟩
          · rw [← hI.off t fun k o hk hD => ht k o hk (by simp [hD]), ha]
            cases hod : o.dst with
            | none => rfl
            | some d' => exact Flow.eval_put_ne fun e => ht _ o ho (by simp) (by rw [hod, e])
          · obtain ⟨x, hx, hxd⟩ := dst_T hT ht
            have hkT := (List.getElem?_eq_some_iff.1 ht).1
            rw [ev_ne k x t.d hx hxd (by omega)]
            exact (hI.vT k t (by simpa [show k ≠ T.length + q by omega] using hk) ht).ext hsub
          · obtain ⟨x, hx, hxd⟩ := dst_U hU hu'
            rw [hd] at hxd
            by_cases e : p = q
            · subst e
              rw [g2] at hu'; cases hu'
              rw [ho] at hx; cases hx
              rw [ha, hxd, Flow.eval_put_same (by rw [hI.size]; exact hds _ o d ho hxd)]
              exact hv
            · rw [ev_ne _ x d hx hxd (by omega)]
              exact (hI.vU p u' d (by simpa [e] using hk) hu' hd).ext hsub
          · by_cases e : k = T.length + q
            · simp [e]
            · simp [hallS k (by omega) hks]
          · exact hnone k (by omega) (by simpa [show k ≠ T.length + q by omega] using hDk)
          · have e : stAt ⟨hAt h0 T T.length, lo⟩ U (q + 1) = u.st := by simp [stAt, g2]
            rw [e]
            exact hres.trans hr
        rcases g8 with ⟨hw, hpv, hh⟩ | ⟨hw, hst⟩
        · rw [wanted_spec her hw]
          simp only [Bool.false_eq_true, if_false]
          exact fin _ w m (done _ w m undef rfl (by rw [hpv]; rfl) (by rw [hh]; exact Res.refl hres.sr))
        · rw [wanted_spec her hw]
          simp only [if_true]
          refine .inl (Oper.wp_mono ?_ (step_wp hN hev hres.sr her.el hst))
          rintro a' w' ⟨v, m', rfl, hv, hr⟩
          exact fin _ w' m' (done _ w' m' v rfl hv hr)
end
end Ev
end Go.Proofs.YtmjonmahecdngaaGreat

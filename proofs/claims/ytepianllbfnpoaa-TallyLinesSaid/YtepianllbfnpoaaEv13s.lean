/- Ev: a region that draws its order: looks at memory that may come up at other times; the region's law. No program. -/
import Derived.Test.YtepianllbfnpoaaEv13r
import Derived.Test.YtepianllbfnpoaaEv12p
namespace Go.Proofs.Ytepianllbfnpoaa
open Go.RowKit
namespace Ev
variable {P : Program}

theorem sensIdx_mem {ops : Array Oper} {k : Nat} : k ∈ sensIdx ops ↔ sensAt ops k = true := by
  unfold sensIdx
  rw [List.mem_filter, List.mem_range]
  refine ⟨fun h => h.2, fun h => ⟨?_, h⟩⟩
  unfold sensAt at h
  split at h
  · rename_i o ho; exact (Array.getElem?_eq_some_iff.1 ho).1
  · cases h
theorem mem_loads {ops : Array Oper} {n0 i q : Nat} {o : Oper} (ho : ops[i]? = some o) (hl : isLoad o.op = true) (hq : q ∈ qsOf (sensIdx ops) n0) (ha : allowed ops n0 i q = true) (hn : quietB (sensIdx ops) n0 i q = false) : (i, q) ∈ floatsL ops n0 := by
  unfold floatsL
  refine List.mem_flatMap.2 ⟨i, ?_, List.mem_map.2 ⟨q, List.mem_filter.2 ⟨hq, ?_⟩, rfl⟩⟩
  · unfold loadIdx
    refine List.mem_filter.2 ⟨List.mem_range.2 (Array.getElem?_eq_some_iff.1 ho).1, ?_⟩
    simp only [ho, hl]
  · rw [allowedS_eq, ha, hn]; rfl
/-- any time is like one right behind an operation that counts -/
theorem near_q (ops : Array Oper) (n0 : Nat) : ∀ q, ∃ q', q' ∈ qsOf (sensIdx ops) n0 ∧ q' ≤ q ∧ ∀ k, n0 + q' ≤ k → k < n0 + q → sensAt ops k = false
  | 0 => ⟨0, by simp [qsOf], Nat.le_refl _, fun k h1 h2 => by omega⟩
  | q + 1 => by
    cases hs : sensAt ops (n0 + q) with
    | true =>
      refine ⟨q + 1, ?_, Nat.le_refl _, fun k h1 h2 => by omega⟩
      simp only [qsOf, List.mem_cons, List.mem_map, List.mem_filter]
      exact .inr ⟨n0 + q, ⟨sensIdx_mem.2 hs, by simp⟩, by omega⟩
    | false =>
      obtain ⟨q', h1, h2, h3⟩ := near_q ops n0 q
      refine ⟨q', h1, by omega, fun k g1 g2 => ?_⟩
      by_cases e : k = n0 + q
      · subst e; exact hs
      · exact h3 k g1 (by omega)
theorem allowed_near {ops : Array Oper} {n0 i q q' : Nat} (h : allowed ops n0 i q = true) (hle : q' ≤ q) (hn : ∀ k, n0 + q' ≤ k → k < n0 + q → sensAt ops k = false) : allowed ops n0 i q' = true := by
  unfold allowed at *
  rw [List.all_eq_true] at *
  intro k hk
  have h1 := h k hk
  cases hs : sensC ops n0 k with
  | false => rfl
  | true =>
    rw [hs] at h1
    simp only [Bool.not_true, Bool.false_or] at h1 ⊢
    by_cases c1 : k < n0 + q'
    · rw [if_pos c1]; rw [if_pos (by omega)] at h1; exact h1
    · rw [if_neg c1]
      by_cases c2 : k < n0 + q
      · have := hn k (by omega) c2; rw [sensC_sens hs] at this; cases this
      · rw [if_neg c2] at h1; exact h1
theorem quiet_no {ops : Array Oper} {n0 i q : Nat} (h : quietB (sensIdx ops) n0 i q = true) {k : Nat} (hk : max i n0 ≤ k ∧ k < n0 + q ∨ n0 + q ≤ k ∧ k < i) : sensAt ops k = false := by
  cases hs : sensAt ops k with
  | false => rfl
  | true =>
    have := List.all_eq_true.1 h k (sensIdx_mem.2 hs)
    simp only [Bool.not_eq_true', Bool.or_eq_false_iff, Bool.and_eq_false_iff] at this
    rcases hk with ⟨h1, h2⟩ | ⟨h1, h2⟩
    · have e1 : Nat.ble (max i n0) k = true := by simpa using h1
      have e2 : Nat.blt k (n0 + q) = true := by simpa [Nat.blt_eq] using h2
      rcases this.1 with h | h
      · rw [e1] at h; cases h
      · rw [e2] at h; cases h
    · have e1 : Nat.ble (n0 + q) k = true := by simpa using h1
      have e2 : Nat.blt k i = true := by simpa [Nat.blt_eq] using h2
      rcases this.2 with h | h
      · rw [e1] at h; cases h
      · rw [e2] at h; cases h
variable (P)
def float1 (ops : Array Oper) (e : Env) (sts : List St) (p : Nat × Nat) : Bool := match ops[p.1]?, sts[p.2]? with
  | some o, some st => (match o.dst with
    | some d => (match e[d]? with
      | some .skip => true
      | some pv => sameLd (evLd P (lk e) st o) pv
      | none => false)
    | none => false)
  | _, _ => false
variable {P}
theorem evLd_congr {e e' : Look} {st : St} {o : Oper} (h : ∀ x ∈ o.op.operands.toList, evX e x = evX e' x) : evLd P e st o = evLd P e' st o := by
  unfold evLd
  split
  · rename_i T x ho
    rw [ho] at h
    rw [cellX_congr (h x (by simp [Op.operands]))]
  · rfl
theorem evLd_more {e : Look} {h h' : List O} {lo lo' : Nat} {o : Oper} {s : S} (hs : evLd P e ⟨h, lo⟩ o = some s) (hp : ∃ L, h' = h ++ L) : evLd P e ⟨h', lo'⟩ o = some s := by
  obtain ⟨L, rfl⟩ := hp
  unfold evLd at *
  split at hs
  · split at hs
    · rename_i i off _
      unfold evLoad at *
      split at hs
      · cases hs
      rename_i ob hob
      have hi : i < h.length := (List.getElem?_eq_some_iff.1 hob).1
      simp only [List.getElem?_append_left hi, hob]
      exact hs
    · cases hs
  · cases hs
theorem stAt_sts {st0 : St} {U : List Tl} {q : Nat} (hq : q ≤ U.length) : (st0 :: U.map (·.st))[q]? = some (stAt st0 U q) := by
  cases q with
  | zero => rfl
  | succ q =>
    have hlt : q < U.length := by omega
    simp [stAt, hlt]
theorem drop_mem {α : Type} {l : List α} {n : Nat} {u : α} (h : u ∈ l.drop n) : ∃ q, l[n + q]? = some u := by
  obtain ⟨q, hq⟩ := List.getElem?_of_mem h
  exact ⟨q, by rwa [List.getElem?_drop] at hq⟩
section
variable {X : Xp} {ev : CallE} {ops : Array Oper} {e0 : Env} {h0 : List O} {T : List Tr} {U : List Tl} {lo : Nat}
/-- what the region's end shows of an operation's operands, and of what it wrote -/
theorem final_reads (hdT : ∀ k t, T[k]? = some t → dstAt ops k = some t.d) (hdU : ∀ q u, U[q]? = some u → dstAt ops (T.length + q) = u.d) {i : Nat} {t : Tmp} (hno : ∀ k, i ≤ k → dstAt ops k ≠ some t) :
    (i ≤ T.length → (setU (setAll e0 T) U)[t]? = (setAll e0 (T.take i))[t]?) ∧ (T.length ≤ i → (setU (setAll e0 T) U)[t]? = (setU (setAll e0 T) (U.take (i - T.length)))[t]?) := by
  refine ⟨fun hi => ?_, fun hi => ?_⟩
  · have e1 : (setU (setAll e0 T) U)[t]? = (setAll e0 T)[t]? := setU_off fun u hu e => by
      obtain ⟨q, hq, rfl⟩ := List.mem_iff_getElem.1 hu
      exact hno (T.length + q) (by omega) (by rw [hdU q U[q] (by simp), e])
    rw [e1]
    have : setAll e0 T = setAll (setAll e0 (T.take i)) (T.drop i) := by rw [← setAll_append, List.take_append_drop]
    rw [this]
    exact setAll_off fun u hu e => by
      obtain ⟨q, hq⟩ := drop_mem hu
      exact hno (i + q) (by omega) (by rw [hdT (i + q) _ hq, e])
  · have : setU (setAll e0 T) U = setU (setU (setAll e0 T) (U.take (i - T.length))) (U.drop (i - T.length)) := by rw [← setU_append, List.take_append_drop]
    rw [this]
    exact setU_off fun u hu e => by
      obtain ⟨q, hq⟩ := drop_mem hu
      exact hno (T.length + (i - T.length + q)) (by omega) (by rw [hdU (i - T.length + q) _ hq, e])
theorem noLater_spec {i : Nat} (h1 : noLater ops i = true) {o : Oper} (ho : ops[i]? = some o) {t : Tmp} (ht : t ∈ readsOf ops o) : ∀ k, i ≤ k → dstAt ops k ≠ some t := fun k hk e => by
  unfold noLater at h1
  simp only [ho] at h1
  have h2 := offs_spec (List.all_eq_true.1 h1 t ht) (k - i)
  rw [List.getElem?_drop, show i + (k - i) = k by omega] at h2
  exact h2 (dsts_get e)
theorem no_later (hst : statOk ops T.length = true) {i q : Nat} (hm : (i, q) ∈ floatsL ops T.length) {o : Oper} (ho : ops[i]? = some o) {t : Tmp} (ht : t ∈ readsOf ops o) : ∀ k, i ≤ k → dstAt ops k ≠ some t := fun k hk e => by
  simp only [statOk, Bool.and_eq_true] at hst
  exact noLater_spec (List.all_eq_true.1 hst.1.2 (i, q) hm) ho ht k hk e
theorem final_T (hst : statOk ops T.length = true) (hdT : ∀ k t, T[k]? = some t → dstAt ops k = some t.d) (hdU : ∀ q u, U[q]? = some u → dstAt ops (T.length + q) = u.d) (hsz : T.length + U.length = ops.size) {i : Nat} {t : Tr} (ht : T[i]? = some t) (hlt : t.d < e0.length) :
    (setU (setAll e0 T) U)[t.d]? = some t.pv := by
  have hi : i < T.length := (List.getElem?_eq_some_iff.1 ht).1
  have hno : ∀ k, i < k → dstAt ops k ≠ some t.d := fun k hk e => by
    have hko : ∃ o, ops[k]? = some o ∧ o.dst = some t.d := by
      unfold dstAt at e
      split at e
      · exact ⟨_, by assumption, e⟩
      · cases e
    obtain ⟨o, h1, h2⟩ := hko
    exact (stat_at hst h1).dst _ h2 i hk (hdT i t ht)
  have e1 : (setU (setAll e0 T) U)[t.d]? = (setAll e0 T)[t.d]? := setU_off fun u hu e => by
    obtain ⟨q, hq, rfl⟩ := List.mem_iff_getElem.1 hu
    exact hno (T.length + q) (by omega) (by rw [hdU q U[q] (by simp), e])
  rw [e1]
  have : setAll e0 T = setAll (setAll e0 (T.take (i + 1))) (T.drop (i + 1)) := by rw [← setAll_append, List.take_append_drop]
  rw [this, setAll_off fun u hu e => by
    obtain ⟨q, hq⟩ := drop_mem hu
    exact hno (i + 1 + q) (by omega) (by rw [hdT (i + 1 + q) _ hq, e])]
  have e2 : T.take (i + 1) = T.take i ++ [t] := by
    rw [List.take_add_one, ht]; rfl
  rw [e2, setAll_snoc, List.getElem?_set_self (by rw [setAll_len]; exact hlt)]
theorem final_U (hst : statOk ops T.length = true) (hdT : ∀ k t, T[k]? = some t → dstAt ops k = some t.d) (hdU : ∀ q u, U[q]? = some u → dstAt ops (T.length + q) = u.d) {i : Nat} {u : Tl} (hu : U[i]? = some u) {d : Tmp} (hd : u.d = some d) (hlt : d < e0.length) :
    (setU (setAll e0 T) U)[d]? = some u.pv := by
  have hi : i < U.length := (List.getElem?_eq_some_iff.1 hu).1
  have hno : ∀ k, T.length + i < k → dstAt ops k ≠ some d := fun k hk e => by
    have hko : ∃ o, ops[k]? = some o ∧ o.dst = some d := by
      unfold dstAt at e
      split at e
      · exact ⟨_, by assumption, e⟩
      · cases e
    obtain ⟨o, h1, h2⟩ := hko
    exact (stat_at hst h1).dst _ h2 _ hk (by rw [hdU i u hu, hd])
  have : setU (setAll e0 T) U = setU (setU (setAll e0 T) (U.take (i + 1))) (U.drop (i + 1)) := by rw [← setU_append, List.take_append_drop]
  rw [this, setU_off fun v hv e => by
    obtain ⟨q, hq⟩ := drop_mem hv
    exact hno (T.length + (i + 1 + q)) (by omega) (by rw [hdU (i + 1 + q) _ hq, e])]
  have e2 : U.take (i + 1) = U.take i ++ [u] := by
    rw [List.take_add_one, hu]; rfl
  rw [e2, setU_snoc, hd]
  simp only [setE]
  rw [List.getElem?_set_self (by rw [setU_len, setAll_len]; exact hlt)]
theorem float_at (h : (floatsL ops T.length).all (float1 P ops (setU (setAll e0 T) U) (⟨hAt h0 T T.length, lo⟩ :: U.map (·.st))) = true) {i q : Nat} {o : Oper} {d : Tmp} {pv : PV} (hm : (i, q) ∈ floatsL ops T.length) (hq : q ≤ U.length) (ho : ops[i]? = some o) (hd : o.dst = some d)
    (hpv : (setU (setAll e0 T) U)[d]? = some pv) (hne : pv ≠ .skip) : ∃ s, evLd P (lk (setU (setAll e0 T) U)) (stAt ⟨hAt h0 T T.length, lo⟩ U q) o = some s ∧ pv = .s s := by
  have := List.all_eq_true.1 h (i, q) hm
  unfold float1 at this
  simp only [ho, stAt_sts hq, hd, hpv] at this
  obtain ⟨s, h1, h2⟩ := sameLd_spec this
  exact ⟨s, h1, h2⟩
theorem loads_T (hst : statOk ops T.length = true) (hT : ∀ i, i < T.length → StepP P ev ops e0 h0 T i) (hU : ∀ q, q < U.length → TailP P X ev ops e0 T ⟨hAt h0 T T.length, lo⟩ U q) (hsz : T.length + U.length = ops.size) (hlt : ∀ (i : Nat) (o : Oper) (d : Tmp), ops[i]? = some o → o.dst = some d → d < e0.length)
    (hf : (floatsL ops T.length).all (float1 P ops (setU (setAll e0 T) U) (⟨hAt h0 T T.length, lo⟩ :: U.map (·.st))) = true) : LoadsT P ops e0 T U ⟨hAt h0 T T.length, lo⟩ := by
  intro i o t ho ht hl hne q hq ha
  have hdT := dst_of_step hT
  have hdU := dst_of_tail hU
  have hi : i < T.length := (List.getElem?_eq_some_iff.1 ht).1
  have hs := stat_at hst ho
  obtain ⟨o', t', g1, g2, g3, g4, g5, g6, g7⟩ := hT i hi
  rw [ho] at g1; cases g1
  rw [ht] at g2; cases g2
  have hlen : (T.take i).length = i := by rw [List.length_take]; omega
  have hdTi : ∀ k u, (T.take i)[k]? = some u → dstAt ops k = some u.d := fun k u hu => by
    rw [List.getElem?_take] at hu
    split at hu
    · exact hdT k u hu
    · cases hu
  have hag : ∀ q, (i, q) ∈ floatsL ops T.length → ∀ x ∈ o.op.operands.toList, evX (lk (envAt e0 (T.take i) ((clos ops).getD i 0) (laterD (clos ops) i (ops.toList.drop (i + 1)) (i + 1)))) x = evX (lk (setU (setAll e0 T) U)) x := fun q hm =>
    (reads_lk fun z hz => by rw [stat_env hs (by omega) hdTi hz, (final_reads hdT hdU (no_later hst hm ho hz)).1 (by omega)]).1
  obtain ⟨q', n1, n2, n3⟩ := near_q ops T.length q
  have ha' := allowed_near ha n2 n3
  have hsame : stAt ⟨hAt h0 T T.length, lo⟩ U q = stAt ⟨hAt h0 T T.length, lo⟩ U q' := stAt_run hU n2 hq n3
  rw [hsame, g6]
  cases hqb : quietB (sensIdx ops) T.length i q' with
  | false =>
    have hm := mem_loads ho hl n1 ha' hqb
    obtain ⟨s, h1, h2⟩ := float_at hf hm (by omega) ho g3 (final_T hst hdT hdU hsz ht (hlt i o _ ho g3)) hne
    exact ⟨s, by rw [evLd_congr (hag _ hm)]; exact h1, h2⟩
  | true =>
    rcases g7 with ⟨_, h, _⟩ | ⟨_, st, h, _⟩
    · exact absurd h hne
    · obtain ⟨s, h1, h2⟩ := step_ld hl h
      refine ⟨s, ?_, h2⟩
      have hs0 : stAt ⟨hAt h0 T T.length, lo⟩ U q' = ⟨hAt h0 T T.length, lo⟩ := stAt_run hU (Nat.zero_le _) (by omega) fun k k1 k2 => quiet_no hqb (.inl ⟨by omega, k2⟩)
      rw [hs0]
      rw [g6] at h1
      exact evLd_more h1 (pre_h hT (show i ≤ T.length by omega) (Nat.le_refl _))
theorem loads_U (hst : statOk ops T.length = true) (hT : ∀ i, i < T.length → StepP P ev ops e0 h0 T i) (hU : ∀ q, q < U.length → TailP P X ev ops e0 T ⟨hAt h0 T T.length, lo⟩ U q) (hsz : T.length + U.length = ops.size) (hlt : ∀ (i : Nat) (o : Oper) (d : Tmp), ops[i]? = some o → o.dst = some d → d < e0.length)
    (hld : ∀ (i : Nat) (o : Oper), ops[i]? = some o → isLoad o.op = true → o.dst ≠ none)
    (hf : (floatsL ops T.length).all (float1 P ops (setU (setAll e0 T) U) (⟨hAt h0 T T.length, lo⟩ :: U.map (·.st))) = true) : LoadsU P ops e0 T U ⟨hAt h0 T T.length, lo⟩ := by
  intro j o u ho hu hl hne q hq ha
  have hdT := dst_of_step hT
  have hdU := dst_of_tail hU
  have hj : j < U.length := (List.getElem?_eq_some_iff.1 hu).1
  have hs := stat_at hst ho
  obtain ⟨o', u', g1, g2, g3, g4, g5, g6, g7, g8⟩ := hU j hj
  rw [ho] at g1; cases g1
  rw [hu] at g2; cases g2
  have hdUi : ∀ k v, (U.take j)[k]? = some v → dstAt ops (T.length + k) = v.d := fun k v hv => by
    rw [List.getElem?_take] at hv
    split at hv
    · exact hdU k v hv
    · cases hv
  have hag : ∀ q, (T.length + j, q) ∈ floatsL ops T.length → ∀ x ∈ o.op.operands.toList, evX (lk (envT e0 T (U.take j) ((clos ops).getD (T.length + j) 0) (laterD (clos ops) (T.length + j) (ops.toList.drop (T.length + j + 1)) (T.length + j + 1)))) x = evX (lk (setU (setAll e0 T) U)) x := fun q hm =>
    (reads_lk fun z hz => by
      rw [stat_envT hs (by rw [List.length_take]; omega) hdT hdUi hz]
      have := (final_reads (e0 := e0) hdT hdU (no_later hst hm ho hz)).2 (by omega)
      rw [this, show T.length + j - T.length = j by omega]).1
  obtain ⟨q', n1, n2, n3⟩ := near_q ops T.length q
  have ha' := allowed_near ha n2 n3
  have hsame : stAt ⟨hAt h0 T T.length, lo⟩ U q = stAt ⟨hAt h0 T T.length, lo⟩ U q' := stAt_run hU n2 hq n3
  rw [hsame, g6]
  cases hqb : quietB (sensIdx ops) T.length (T.length + j) q' with
  | false =>
    cases hd : o.dst with
    | none => exact absurd hd (hld _ o ho hl)
    | some d =>
      have hm := mem_loads ho hl n1 ha' hqb
      obtain ⟨s, h1, h2⟩ := float_at hf hm (by omega) ho hd (final_U hst hdT hdU hu (by rw [← g3, hd]) (hlt _ o d ho hd)) hne
      exact ⟨s, by rw [evLd_congr (hag _ hm)]; exact h1, h2⟩
  | true =>
    rcases g8 with ⟨_, h, _⟩ | ⟨_, h⟩
    · exact absurd h hne
    · obtain ⟨s, h1, h2⟩ := step_ld hl h
      refine ⟨s, ?_, h2⟩
      rw [g6] at h1
      have hst' : stAt ⟨hAt h0 T T.length, lo⟩ U q' = stAt ⟨hAt h0 T T.length, lo⟩ U j := by
        by_cases c : q' ≤ j
        · exact (stAt_run hU c (by omega) fun k k1 k2 => quiet_no hqb (.inr ⟨k1, k2⟩)).symm
        · exact stAt_run hU (by omega) (by omega) fun k k1 k2 => quiet_no hqb (.inl ⟨by omega, k2⟩)
      rw [hst']; exact h1
end
/-- stores to unlike objects: either may come first -/
theorem evStore_inv {st st' : St} {T : TypeId} {i off : Nat} {s : S} (h : evStore P st T i off s = some st') : ∃ o, st.h[i]? = some o ∧ ∃ o', st' = ⟨st.h.set i o', min st.lo i⟩ ∧ ∀ st2 : St, st2.h[i]? = some o → evStore P st2 T i off s = some ⟨st2.h.set i o', min st2.lo i⟩ := by
  unfold evStore at h
  split at h
  · cases h
  rename_i o ho
  split at h
  · cases h
  rename_i hlr
  split at h
  · cases h
  rename_i n hn
  split at h
  · rename_i hc
    cases h
    refine ⟨o, ho, _, rfl, fun st2 h2 => ?_⟩
    unfold evStore
    simp only [h2, if_neg hlr, hn, if_pos hc]
  · cases h
theorem store_comm {st a b c : St} {T T' : TypeId} {i j off off' : Nat} {s s' : S} (h1 : evStore P st T i off s = some a) (h2 : evStore P a T' j off' s' = some c) (h3 : evStore P st T' j off' s' = some b) (hij : i ≠ j) : evStore P b T i off s = some c := by
  obtain ⟨o1, e1, n1, rfl, all1⟩ := evStore_inv h1
  obtain ⟨o2, e2, n2, rfl, all2⟩ := evStore_inv h3
  have := all2 ⟨st.h.set i n1, min st.lo i⟩ (by show (st.h.set i n1)[j]? = _; rw [List.getElem?_set_ne hij]; exact e2)
  rw [h2] at this
  rw [this, all1 ⟨st.h.set j n2, min st.lo j⟩ (by show (st.h.set j n2)[i]? = _; rw [List.getElem?_set_ne (Ne.symm hij)]; exact e1)]
  simp only [Option.some.injEq, St.mk.injEq]
  exact ⟨(List.set_comm n1 n2 hij).symm, by omega⟩
theorem step_store {ev : CallE} {e : Look} {st st' : St} {o : Oper} {T : TypeId} {x y : Operand} {pv : PV} (ho : o.op = .store T x y) (h : evStep P ev e st o = some (pv, st')) :
    ∃ i off s, cellX e x = some (.ptr i off) ∧ evX e y = some (.s s) ∧ evStore P st T i off s = some st' ∧ pv = .skip := by
  rw [evStep_old] at h
  unfold evStepO at h
  simp only [ho, evOp] at h
  split at h
  · rename_i i off s hc hs
    split at h
    · rename_i st1 h1
      cases h
      exact ⟨i, off, s, hc, hs, h1, rfl⟩
    · cases h
  · cases h
theorem step_store_mk {ev : CallE} {e : Look} {st st' : St} {o : Oper} {T : TypeId} {x y : Operand} {i off : Nat} {s : S} (ho : o.op = .store T x y) (hc : cellX e x = some (.ptr i off)) (hs : evX e y = some (.s s)) (h : evStore P st T i off s = some st') :
    evStep P ev e st o = some (.skip, st') := by
  rw [evStep_old]
  unfold evStepO
  simp only [ho, evOp, hc, hs, h]
variable (P)
def xState (ops : Array Oper) (n0 : Nat) (e : Env) (sts : List St) : Option St := match ops[(pairOf ops).1]?, ops[(pairOf ops).2]?, sts[(pairOf ops).1 - n0]? with
  | some a, some b, some st => (match a.op, b.op with
    | .store _ x _, .store T' x' y' => (match cellX (lk e) x, cellX (lk e) x', evX (lk e) y' with
      | some (.ptr i _), some (.ptr j off), some (.s s) => if i = j then none else evStore P st T' j off s
      | _, _, _ => none)
    | _, _ => none)
  | _, _, _ => none
def xCheck (ops : Array Oper) (n0 : Nat) (e : Env) (sts : List St) : Bool := if Nat.blt (pairOf ops).1 (pairOf ops).2 then (match xState P ops n0 e sts with
    | some st => (xFloats ops (pairOf ops)).all fun i => float1 P ops e [st] (i, 0)
    | none => false) else true
variable {P}
theorem xFloats_mem {p : Nat × Nat} {i : Nat} {o : Oper} {ops : Array Oper} (ho : ops[i]? = some o) (hl : isLoad o.op = true) (b1 : ((clos ops).getD p.2 0).testBit i = false) (b2 : ((clos ops).getD i 0).testBit p.1 = false) : i ∈ xFloats ops p := by
  unfold xFloats
  refine List.mem_filter.2 ⟨?_, by rw [b1, b2]; rfl⟩
  unfold loadIdx
  refine List.mem_filter.2 ⟨List.mem_range.2 (Array.getElem?_eq_some_iff.1 ho).1, ?_⟩
  simp only [ho, hl]
theorem float_one {ops : Array Oper} {e : Env} {st : St} {i : Nat} {o : Oper} {d : Tmp} {pv : PV} (h : float1 P ops e [st] (i, 0) = true) (ho : ops[i]? = some o) (hd : o.dst = some d) (hpv : e[d]? = some pv) (hne : pv ≠ .skip) : ∃ s, evLd P (lk e) st o = some s ∧ pv = .s s := by
  unfold float1 at h
  simp only [ho, List.getElem?_cons_zero, hd, hpv] at h
  obtain ⟨s, h1, h2⟩ := sameLd_spec h
  exact ⟨s, h1, h2⟩
theorem isStoreO_spec {o : Oper} (h : isStoreO o = true) : (∃ T x y, o.op = .store T x y) ∧ o.dst = none ∧ o.guard = none := by
  unfold isStoreO at h
  split at h
  · rename_i T x y ho
    simp only [Bool.and_eq_true, Option.isNone_iff_eq_none] at h
    exact ⟨⟨T, x, y, ho⟩, h.1, h.2⟩
  · cases h
theorem storeAt_spec {ops : Array Oper} {k : Nat} (h : storeAt ops k = true) : ∃ o, ops[k]? = some o ∧ isStoreO o = true := by
  unfold storeAt at h
  split at h
  · rename_i o ho; exact ⟨o, ho, h⟩
  · cases h
section
variable {X : Xp} {ev : CallE} {ops : Array Oper} {e0 : Env} {h0 : List O} {T : List Tr} {U : List Tl} {lo : Nat}
theorem x_ok (hst : statOk ops T.length = true) (hXA : X.A = (pairOf ops).1) (hXB : X.B = (pairOf ops).2) (hab : X.A < X.B) (hT : ∀ i, i < T.length → StepP P ev ops e0 h0 T i) (hU : ∀ q, q < U.length → TailP P X ev ops e0 T ⟨hAt h0 T T.length, lo⟩ U q) (hsz : T.length + U.length = ops.size)
    (hlt : ∀ (i : Nat) (o : Oper) (d : Tmp), ops[i]? = some o → o.dst = some d → d < e0.length) (hld : ∀ (i : Nat) (o : Oper), ops[i]? = some o → isLoad o.op = true → o.dst ≠ none)
    (hxs : xState P ops T.length (setU (setAll e0 T) U) (⟨hAt h0 T T.length, lo⟩ :: U.map (·.st)) = some X.st) (hf : (xFloats ops (pairOf ops)).all (fun i => float1 P ops (setU (setAll e0 T) U) [X.st] (i, 0)) = true) :
    XOk P X ev ops e0 T U ⟨hAt h0 T T.length, lo⟩ := by
  have hdT := dst_of_step hT
  have hdU := dst_of_tail hU
  have hps : pairStat ops T.length = true := by
    simp only [statOk, Bool.and_eq_true] at hst; exact hst.2
  unfold pairStat at hps
  rw [if_pos (by rw [Nat.blt_eq, ← hXA, ← hXB]; exact hab), ← hXA, ← hXB] at hps
  simp only [Bool.and_eq_true, Nat.ble_eq, Nat.blt_eq] at hps
  obtain ⟨⟨⟨⟨⟨⟨⟨p1, p2⟩, p3⟩, p4⟩, p5⟩, p6⟩, p7⟩, p8⟩ := hps
  obtain ⟨oA, hoA, hsA⟩ := storeAt_spec p3
  obtain ⟨oB, hoB, hsB⟩ := storeAt_spec p4
  obtain ⟨⟨TA, xA, yA, hopA⟩, hdA, hgA⟩ := isStoreO_spec hsA
  obtain ⟨⟨TB, xB, yB, hopB⟩, hdB, hgB⟩ := isStoreO_spec hsB
  have hlast : ∀ k, sensAt ops k = true → k ≠ X.A → k ≠ X.B → k < X.A := fun k hk k1 k2 => by
    have := List.all_eq_true.1 p8 k (sensIdx_mem.2 hk)
    simp only [Bool.or_eq_true, Nat.beq_eq, Nat.blt_eq] at this
    omega
  -- the two in the order of the text
  have reads : ∀ {k : Nat} {o : Oper}, T.length ≤ k → ops[k]? = some o → noLater ops k = true → ∀ x ∈ o.op.operands.toList, evX (lk (envT e0 T (U.take (k - T.length)) ((clos ops).getD k 0) (laterD (clos ops) k (ops.toList.drop (k + 1)) (k + 1)))) x = evX (lk (setU (setAll e0 T) U)) x := fun {k o} hk ho hnl => by
    have hs := stat_at hst ho
    have hdUi : ∀ q v, (U.take (k - T.length))[q]? = some v → dstAt ops (T.length + q) = v.d := fun q v hv => by
      rw [List.getElem?_take] at hv
      split at hv
      · exact hdU q v hv
      · cases hv
    exact (reads_lk fun z hz => by
      rw [stat_envT hs (by rw [List.length_take]; omega) hdT hdUi hz]
      exact ((final_reads (e0 := e0) hdT hdU (noLater_spec hnl ho hz)).2 hk).symm).1
  have run : ∀ {k : Nat} {o : Oper}, T.length ≤ k → k < T.length + U.length → ops[k]? = some o → o.guard = none → ∃ u, U[k - T.length]? = some u ∧ u.s = (clos ops).getD k 0 ∧ wantedE ops (envT e0 T (U.take (k - T.length)) u.s (laterD (clos ops) k (ops.toList.drop (k + 1)) (k + 1))) o = some true ∧
      evStep P ev (envT e0 T (U.take (k - T.length)) u.s (laterD (clos ops) k (ops.toList.drop (k + 1)) (k + 1))) (stAt ⟨hAt h0 T T.length, lo⟩ U (k - T.length)) o = some (u.pv, u.st) := fun {k o} hk hk2 ho hg => by
    obtain ⟨o', u, g1, g2, g3, g4, g5, g6, g7, g8⟩ := hU (k - T.length) (by omega)
    have ek : T.length + (k - T.length) = k := by omega
    rw [ek] at g1 g6 g8
    rw [ho] at g1; cases g1
    rcases g8 with ⟨h, _⟩ | ⟨h1, h2⟩
    · simp [wantedE, hg] at h
    · exact ⟨u, g2, g6, h1, h2⟩
  obtain ⟨uA, huA, hsuA, hwA, hrA⟩ := run p1 (by omega) hoA hgA
  obtain ⟨uB, huB, hsuB, hwB, hrB⟩ := run (by omega) (by omega) hoB hgB
  have rA := reads p1 hoA p5
  have rB := reads (show T.length ≤ X.B by omega) hoB p6
  rw [← hsuA] at rA
  rw [← hsuB] at rB
  obtain ⟨iA, offA, sA, cA, vA, stA, pvA⟩ := step_store hopA hrA
  obtain ⟨iB, offB, sB, cB, vB, stB, pvB⟩ := step_store hopB hrB
  have memA : xA ∈ oA.op.operands.toList ∧ yA ∈ oA.op.operands.toList := by rw [hopA]; simp [Op.operands]
  have memB : xB ∈ oB.op.operands.toList ∧ yB ∈ oB.op.operands.toList := by rw [hopB]; simp [Op.operands]
  have cA' : cellX (lk (setU (setAll e0 T) U)) xA = some (.ptr iA offA) := by rw [← cellX_congr (rA xA memA.1)]; exact cA
  have cB' : cellX (lk (setU (setAll e0 T) U)) xB = some (.ptr iB offB) := by rw [← cellX_congr (rB xB memB.1)]; exact cB
  have vB' : evX (lk (setU (setAll e0 T) U)) yB = some (.s sB) := by rw [← rB yB memB.2]; exact vB
  have hstN : (⟨hAt h0 T T.length, lo⟩ :: U.map (·.st))[X.A - T.length]? = some (stAt ⟨hAt h0 T T.length, lo⟩ U (X.A - T.length)) := stAt_sts (by omega)
  unfold xState at hxs
  rw [← hXA, ← hXB] at hxs
  simp only [hoA, hoB, hstN, hopA, hopB, cA', cB', vB'] at hxs
  split at hxs
  · cases hxs
  rename_i hij
  -- states
  have eA : stAt ⟨hAt h0 T T.length, lo⟩ U (X.A - T.length + 1) = uA.st := by simp [stAt, huA]
  have eB : stAt ⟨hAt h0 T T.length, lo⟩ U (X.B - T.length + 1) = uB.st := by simp [stAt, huB]
  have nosens : ∀ k, X.A < k → k ≠ X.B → sensAt ops k = false := fun k k1 k2 => by
    cases hs : sensAt ops k with
    | false => rfl
    | true => have := hlast k hs (by omega) k2; omega
  have e1 : stAt ⟨hAt h0 T T.length, lo⟩ U (X.B - T.length) = uA.st := by
    rw [← eA]
    exact stAt_run hU (by omega) (by omega) fun k k1 k2 => nosens k (by omega) (by omega)
  have e2 : stAt ⟨hAt h0 T T.length, lo⟩ U U.length = uB.st := by
    rw [← eB]
    exact stAt_run hU (by omega) (Nat.le_refl _) fun k k1 k2 => nosens k (by omega) (by omega)
  rw [e1] at stB
  refine ⟨hlast, ⟨p1, by omega⟩, fun o u ho hu => ?_, fun o u ho hu => ?_, fun i o t ho ht hl hne b1 b2 => ?_, fun j o u ho hu hl hne b1 b2 => ?_⟩
  · rw [hoB] at ho; cases ho
    rw [huB] at hu; cases hu
    exact ⟨hwB, by rw [pvB]; exact step_store_mk hopB cB vB hxs⟩
  · rw [hoA] at ho; cases ho
    rw [huA] at hu; cases hu
    refine ⟨hwA, ?_⟩
    rw [pvA, e2]
    exact step_store_mk hopA cA vA (store_comm stA stB hxs hij)
  · have hs := stat_at hst ho
    have hi : i < T.length := (List.getElem?_eq_some_iff.1 ht).1
    obtain ⟨o', t', g1, g2, g3, g4, g5, g6, g7⟩ := hT i hi
    rw [ho] at g1; cases g1
    rw [ht] at g2; cases g2
    have hlen : (T.take i).length = i := by rw [List.length_take]; omega
    have hdTi : ∀ k u, (T.take i)[k]? = some u → dstAt ops k = some u.d := fun k u hu => by
      rw [List.getElem?_take] at hu
      split at hu
      · exact hdT k u hu
      · cases hu
    rw [hXB] at b1; rw [hXA] at b2
    have hm := xFloats_mem (p := pairOf ops) ho hl b1 b2
    have hnl := List.all_eq_true.1 p7 i hm
    have hag : ∀ x ∈ o.op.operands.toList, evX (lk (envAt e0 (T.take i) ((clos ops).getD i 0) (laterD (clos ops) i (ops.toList.drop (i + 1)) (i + 1)))) x = evX (lk (setU (setAll e0 T) U)) x :=
      (reads_lk fun z hz => by rw [stat_env hs (by omega) hdTi hz, (final_reads hdT hdU (noLater_spec hnl ho hz)).1 (by omega)]).1
    obtain ⟨s, h1, h2⟩ := float_one (List.all_eq_true.1 hf i hm) ho g3 (final_T hst hdT hdU hsz ht (hlt i o _ ho g3)) hne
    rw [g6]
    exact ⟨s, by rw [evLd_congr hag]; exact h1, h2⟩
  · have hs := stat_at hst ho
    have hj : j < U.length := (List.getElem?_eq_some_iff.1 hu).1
    obtain ⟨o', u', g1, g2, g3, g4, g5, g6, g7, g8⟩ := hU j hj
    rw [ho] at g1; cases g1
    rw [hu] at g2; cases g2
    rw [hXB] at b1; rw [hXA] at b2
    have hm := xFloats_mem (p := pairOf ops) ho hl b1 b2
    have hnl := List.all_eq_true.1 p7 (T.length + j) hm
    have hag := reads (show T.length ≤ T.length + j by omega) ho hnl
    rw [show T.length + j - T.length = j by omega] at hag
    cases hd : o.dst with
    | none => exact absurd hd (hld _ o ho hl)
    | some d =>
      obtain ⟨s, h1, h2⟩ := float_one (List.all_eq_true.1 hf _ hm) ho hd (final_U hst hdT hdU hu (by rw [← g3, hd]) (hlt _ o d ho hd)) hne
      rw [g6]
      exact ⟨s, by rw [evLd_congr hag]; exact h1, h2⟩
end
/-! ### makers that come up late: their objects are as they were made, while they may be undone -/
def eqO (a b : O) : Bool := eqCs a.cells b.cells && Nat.beq a.ty b.ty && (a.rw == b.rw) && (a.live == b.live) && (a.full == b.full)
theorem eqO_spec {a b : O} (h : eqO a b = true) : a = b := by
  simp only [eqO, Bool.and_eq_true, Nat.beq_eq, beq_iff_eq] at h
  obtain ⟨⟨⟨⟨h1, h2⟩, h3⟩, h4⟩, h5⟩ := h
  cases a; cases b
  simp only at h1 h2 h3 h4 h5
  rw [eqCs_spec h1, h2, h3, h4, h5]
def undone (ops : Array Oper) (n0 i q : Nat) : Bool := (sensIdx ops).all fun k => !(Nat.ble n0 k && Nat.blt k (n0 + q)) || !((clos ops).getD k 0).testBit i
def lateL (ops : Array Oper) (n0 : Nat) : List (Nat × Nat) := ((List.range n0).filter (lateK ops n0)).flatMap fun i => ((qsOf (sensIdx ops) n0).filter fun q => !Nat.beq q 0 && undone ops n0 i q).map fun q => (i, q)
def lateAt (ops : Array Oper) (e : Env) (h1 : List O) (i : Nat) (st : St) : Bool := match dstAt ops i with
  | some d => (match e[d]? with
    | some pv => (match idPV pv with
      | some id => (match st.h[id]?, h1[id]? with
        | some a, some b => eqO a b
        | _, _ => false)
      | none => false)
    | none => false)
  | none => false
def late1 (ops : Array Oper) (e : Env) (h1 : List O) (sts : List St) (p : Nat × Nat) : Bool := match sts[p.2]? with
  | some st => lateAt ops e h1 p.1 st
  | none => false
def lateX (ops : Array Oper) (n0 B : Nat) : List Nat := ((List.range n0).filter (lateK ops n0)).filter fun i => !((clos ops).getD B 0).testBit i
section
variable {X : Xp} {ev : CallE} {ops : Array Oper} {e0 : Env} {h0 : List O} {T : List Tr} {U : List Tl} {lo : Nat}
theorem lateAt_spec (hst : statOk ops T.length = true) (hT : ∀ i, i < T.length → StepP P ev ops e0 h0 T i) (hU : ∀ q, q < U.length → TailP P X ev ops e0 T ⟨hAt h0 T T.length, lo⟩ U q) (hsz : T.length + U.length = ops.size)
    (hlt : ∀ (i : Nat) (o : Oper) (d : Tmp), ops[i]? = some o → o.dst = some d → d < e0.length) {i : Nat} (hl : lateK ops T.length i = true) {st : St} (h : lateAt ops (setU (setAll e0 T) U) (hAt h0 T T.length) i st = true) :
    st.h[(hAt h0 T i).length]? = (hAt h0 T (i + 1))[(hAt h0 T i).length]? := by
  simp only [lateK, Bool.and_eq_true, Nat.blt_eq] at hl
  obtain ⟨hiT, hm⟩ := hl
  obtain ⟨o, t, g1, g2, g3, g4, g5, g6, g7⟩ := hT i hiT
  rw [g1] at hm
  have hm : isMk o = true := hm
  have hd : dstAt ops i = some t.d := by unfold dstAt; rw [g1]; exact g3
  unfold lateAt at h
  rw [hd] at h
  simp only at h
  rw [final_T hst (dst_of_step hT) (dst_of_tail hU) hsz g2 (hlt i o t.d g1 g3)] at h
  simp only at h
  rcases g7 with ⟨hw, _, _⟩ | ⟨hw, st1, hs1, hlo, hh⟩
  · simp [wantedE, isMk_guard hm] at hw
  · obtain ⟨cs, ty, fl, f, hid, hpv, hst', _⟩ := mk_step hm hs1
    have hid : idPV t.pv = some (hAt h0 T i).length := hid
    rw [hid] at h
    simp only at h
    have hth : hAt h0 T (i + 1) = hAt h0 T i ++ [⟨cs, ty, true, true, fl⟩] := by
      have e1 : hAt h0 T (i + 1) = t.h := by simp [hAt, g2]
      rw [e1, hh, hst']
      simp
    obtain ⟨L, hL⟩ := pre_h hT (show i + 1 ≤ T.length by omega) (Nat.le_refl _)
    have e2 : (hAt h0 T T.length)[(hAt h0 T i).length]? = (hAt h0 T (i + 1))[(hAt h0 T i).length]? := by
      rw [hL, List.getElem?_append_left (by rw [hth]; simp)]
    rw [← e2]
    split at h
    · rename_i a b ha hb
      rw [ha, hb, eqO_spec h]
    · cases h
theorem late_all (hst : statOk ops T.length = true) (hT : ∀ i, i < T.length → StepP P ev ops e0 h0 T i) (hU : ∀ q, q < U.length → TailP P X ev ops e0 T ⟨hAt h0 T T.length, lo⟩ U q) (hsz : T.length + U.length = ops.size)
    (hlt : ∀ (i : Nat) (o : Oper) (d : Tmp), ops[i]? = some o → o.dst = some d → d < e0.length)
    (h : (lateL ops T.length).all (late1 ops (setU (setAll e0 T) U) (hAt h0 T T.length) (⟨hAt h0 T T.length, lo⟩ :: U.map (·.st))) = true) :
    ∀ i, lateK ops T.length i = true → ∀ q, q ≤ U.length → (∀ k, T.length ≤ k → k < T.length + q → sensAt ops k = true → ((clos ops).getD k 0).testBit i = false) → (stAt ⟨hAt h0 T T.length, lo⟩ U q).h[(hAt h0 T i).length]? = (hAt h0 T (i + 1))[(hAt h0 T i).length]? := fun i hl q hq hk => by
  obtain ⟨q', h1, h2, h3⟩ := near_q ops T.length q
  rw [stAt_run hU h2 hq h3]
  have hiT : i < T.length := by simp only [lateK, Bool.and_eq_true, Nat.blt_eq] at hl; exact hl.1
  by_cases e : q' = 0
  · subst e
    show (hAt h0 T T.length)[(hAt h0 T i).length]? = _
    obtain ⟨L, hL⟩ := pre_h hT (show i + 1 ≤ T.length by omega) (Nat.le_refl _)
    obtain ⟨o, t, g1, g2, g3, g4, g5, g6, g7⟩ := hT i hiT
    have hm : isMk o = true := by simp only [lateK, Bool.and_eq_true, g1] at hl; exact hl.2
    rcases g7 with ⟨hw, _, _⟩ | ⟨hw, st1, hs1, hlo, hh⟩
    · simp [wantedE, isMk_guard hm] at hw
    · obtain ⟨cs, ty, fl, f, hid, hpv, hst', _⟩ := mk_step hm hs1
      have hth : hAt h0 T (i + 1) = hAt h0 T i ++ [⟨cs, ty, true, true, fl⟩] := by
        have e1 : hAt h0 T (i + 1) = t.h := by simp [hAt, g2]
        rw [e1, hh, hst']
        simp
      rw [hL, List.getElem?_append_left (by rw [hth]; simp)]
  · have hmem : (i, q') ∈ lateL ops T.length := by
      unfold lateL
      refine List.mem_flatMap.2 ⟨i, List.mem_filter.2 ⟨List.mem_range.2 hiT, hl⟩, List.mem_map.2 ⟨q', List.mem_filter.2 ⟨h1, ?_⟩, rfl⟩⟩
      simp only [Bool.and_eq_true, Bool.not_eq_true']
      refine ⟨by cases hq : Nat.beq q' 0 with | false => rfl | true => exact absurd (Nat.eq_of_beq_eq_true hq) e, List.all_eq_true.2 fun k hks => ?_⟩
      cases hb : (Nat.ble T.length k && Nat.blt k (T.length + q')) with
      | false => rfl
      | true =>
        simp only [Bool.and_eq_true, Nat.ble_eq, Nat.blt_eq] at hb
        rw [hk k hb.1 (by omega) (sensIdx_mem.1 hks)]
        rfl
    have h9 := List.all_eq_true.1 h _ hmem
    unfold late1 at h9
    rw [stAt_sts (by omega)] at h9
    exact lateAt_spec hst hT hU hsz hlt hl h9
theorem stAt_len (hk : CallKeep ev) (hU : ∀ q, q < U.length → TailP P X ev ops e0 T ⟨hAt h0 T T.length, lo⟩ U q) : ∀ q, q ≤ U.length → (hAt h0 T T.length).length ≤ (stAt ⟨hAt h0 T T.length, lo⟩ U q).h.length
  | 0, _ => Nat.le_refl _
  | q + 1, hq => by
    have ih := stAt_len hk hU q (by omega)
    obtain ⟨o, u, h1, h2, _, _, _, _, _, h8⟩ := hU q (by omega)
    have e : stAt ⟨hAt h0 T T.length, lo⟩ U (q + 1) = u.st := by simp [stAt, h2]
    rw [e]
    rcases h8 with ⟨_, _, h⟩ | ⟨_, h⟩
    · rw [h]; exact ih
    · exact Nat.le_trans ih (step_keep hk h).len
theorem xst_len (hk : CallKeep ev) (hU : ∀ q, q < U.length → TailP P X ev ops e0 T ⟨hAt h0 T T.length, lo⟩ U q) (hx : XOk P X ev ops e0 T U ⟨hAt h0 T T.length, lo⟩) (hab : X.A < X.B) : (hAt h0 T T.length).length ≤ X.st.h.length := by
  have hin := hx.inU
  obtain ⟨o, u, h1, h2, _⟩ := hU (X.B - T.length) (by omega)
  rw [show T.length + (X.B - T.length) = X.B by omega] at h1
  exact Nat.le_trans (stAt_len hk hU (X.A - T.length) (by omega)) (step_keep hk (hx.stepB o u h1 h2).2).len
end
variable (P)
def lateXc (ops : Array Oper) (n0 : Nat) (e : Env) (h1 : List O) (sts : List St) : Bool := if Nat.blt (pairOf ops).1 (pairOf ops).2 then (match xState P ops n0 e sts with
    | some st => (lateX ops n0 (pairOf ops).2).all fun i => lateAt ops e h1 i st
    | none => false)
  else true
variable {P}
/-- where the second half begins -/
def cutL (ops : Array Oper) : Nat → List Oper → List Nat → Nat → Nat
  | i, o :: r, s :: S, n => cutL ops (i + 1) r S (if floatK o.op || sensL 0 (bitX (pairOf ops) i s) 0 (ops.toList.take i) then n else i + 1)
  | _, _, _, n => n
def cutOf (ops : Array Oper) : Nat := cutL ops 0 ops.toList (clos ops) 0
def ldDst (o : Oper) : Bool := !isLoad o.op || o.dst.isSome
def dstLt (n : Nat) (o : Oper) : Bool := match o.dst with
  | none => true
  | some d => Nat.blt d n
variable (P)
def evReg (ev : CallE) (ops : Array Oper) (n0 : Nat) (e : Env) (st : St) : Option (Env × St) :=
  if statOk ops n0 && ops.toList.all ldDst && ops.toList.all (dstLt e.length) then match evT P ev ops (ops.toList.take n0) e st.h with
    | none => none
    | some (e1, h1) => match evU P ev ops (ops.toList.drop n0) e1 ⟨h1, st.lo⟩ with
      | none => none
      | some (e2, sts) => if (floatsL ops n0).all (float1 P ops e2 (⟨h1, st.lo⟩ :: sts)) && xCheck P ops n0 e2 (⟨h1, st.lo⟩ :: sts) && (lateL ops n0).all (late1 ops e2 h1 (⟨h1, st.lo⟩ :: sts)) && lateXc P ops n0 e2 h1 (⟨h1, st.lo⟩ :: sts) then some (e2, (sts.getLast?).getD ⟨h1, st.lo⟩) else none
  else none
/-- the makers, and what is ahead of them, come first: where the first half would write else -/
def writesO (o : Oper) : Bool := match o.op with
  | .call c => (match c.callee with
    | .builtin _ => false
    | _ => true)
  | .store _ _ _ => true
  | _ => false
def frontOf (ops : Array Oper) : List Nat := (List.range ops.size).filter fun k => (List.range ops.size).any fun i => (match ops[i]? with | some o => isMk o | none => false) && (Nat.beq k i || ((clos ops).getD i 0).testBit k)
def modeOf (ops : Array Oper) : Option (List Nat × Nat) :=
  if (ops.toList.take (cutOf ops)).any writesO && (frontOf ops).all (fun k => match ops[k]? with | some o => floatK o.op || isMk o | none => false) then
    some (frontOf ops ++ (List.range ops.size).filter (fun k => !(frontOf ops).contains k), (frontOf ops).length)
  else none
def evRegion (ev : CallE) (ops : Array Oper) (draw : Bool) (e : Env) (st : St) : Option (Env × St) :=
  if draw then (match modeOf ops with
    | none => evReg P ev ops (cutOf ops) e st
    | some (σ, n0) => if permOk σ ops.size then evReg P ev (permOps σ ops) n0 e st else none)
  else evSeq P ev ops ops.toList e st
variable {P}
theorem last_stAt {st0 : St} : ∀ {U : List Tl}, ((U.map (·.st)).getLast?).getD st0 = stAt st0 U U.length := by
  intro U
  rcases List.eq_nil_or_concat U with rfl | ⟨V, u, rfl⟩
  · rfl
  · simp [stAt]
theorem reg_wp (hN : NoCount P) {ev : CallE} (hev : CallOk P ev) (hk : CallKeep ev) {ops : Array Oper} {n0 : Nat} {Q : Exit → Act → World → Prop} {m : M} {st st' : St} {w : World} {a : Act} {e e' : Env} (hs : SR m st.h w) (he : ER m e a)
    (h : evReg P ev ops n0 e st = some (e', st')) (hQ : ∀ a' w' m', ER m' e' a' → Res m st w m' st' w' → Q .normal a' w') : wpAny P .any ops Q ops.size (Array.replicate ops.size false) a w.drew := by
  unfold evReg at h
  split at h
  · rename_i hh
    simp only [Bool.and_eq_true] at hh
    obtain ⟨⟨hst, hld⟩, hdl⟩ := hh
    have hcut : n0 ≤ ops.size := by simp only [statOk, Bool.and_eq_true, Nat.ble_eq] at hst; exact hst.1.1.1
    split at h
    · cases h
    rename_i e1 h1 hrT
    obtain ⟨T, a1, a2, a3, a4⟩ := evT_spec (e0 := e) (h0 := st.h) hst hk (T := []) (fun j o hj => by
      rw [List.getElem?_take] at hj
      split at hj
      · simpa using hj
      · cases hj) (fun i hi => by simp at hi) hrT
    have hTl : T.length = n0 := by rw [a1]; simp; omega
    subst a3
    subst a4
    split at h
    · cases h
    rename_i e2 sts hrU
    rw [← hTl] at hrU hst h
    have hdT := dst_of_step a2
    obtain ⟨xst, hxst⟩ : ∃ x : St, ∀ st', xState P ops T.length e2 (⟨hAt st.h T T.length, st.lo⟩ :: sts) = some st' → x = st' := by
      cases hx : xState P ops T.length e2 (⟨hAt st.h T T.length, st.lo⟩ :: sts) with
      | none => exact ⟨⟨[], 0⟩, fun _ h => by cases h⟩
      | some x => exact ⟨x, fun _ h => by cases h; rfl⟩
    obtain ⟨U, b1, b2, b3, b4⟩ := evU_spec (X := ⟨(pairOf ops).1, (pairOf ops).2, xst⟩) ⟨rfl, rfl⟩ hst hdT (U := []) (fun j o hj => by
      rw [List.getElem?_drop] at hj
      simpa using hj) (fun q hq => by simp at hq) hrU
    subst b1
    rw [List.nil_append] at b3 b4
    subst b4
    have hsz : T.length + U.length = ops.size := by rw [b2]; simp; omega
    have hlt : ∀ (i : Nat) (o : Oper) (d : Tmp), ops[i]? = some o → o.dst = some d → d < e.length := fun i o d ho hd => by
      have hmem : o ∈ ops.toList := by have := Array.mem_of_getElem? ho; simpa using this
      have := List.all_eq_true.1 hdl o hmem
      simpa [dstLt, hd, Nat.blt_eq] using this
    have hldd : ∀ (i : Nat) (o : Oper), ops[i]? = some o → isLoad o.op = true → o.dst ≠ none := fun i o ho hl e => by
      have hmem : o ∈ ops.toList := by have := Array.mem_of_getElem? ho; simpa using this
      have := List.all_eq_true.1 hld o hmem
      simp [ldDst, hl, e] at this
    split at h
    · rename_i hf
      simp only [Bool.and_eq_true] at hf
      obtain ⟨⟨⟨hf, hxc⟩, hlt1⟩, hlx⟩ := hf
      have hel : e.length = a.tmps.size := by have := he.slots.1; simpa using this
      have hlT := loads_T (P := P) (ev := ev) (lo := st.lo) hst a2 b3 hsz hlt hf
      have hlU := loads_U (P := P) (ev := ev) (lo := st.lo) hst a2 b3 hsz hlt hldd hf
      have hdU := dst_of_tail b3
      have hXk : (pairOf ops).1 < (pairOf ops).2 → sensAt ops (pairOf ops).1 = true → sensAt ops (pairOf ops).2 = true → XOk P ⟨(pairOf ops).1, (pairOf ops).2, xst⟩ ev ops e T U ⟨hAt st.h T T.length, st.lo⟩ := fun hab _ _ => by
        unfold xCheck at hxc
        rw [if_pos (by rw [Nat.blt_eq]; exact hab)] at hxc
        split at hxc
        · rename_i st1 hx1
          have := hxst _ hx1
          subst this
          exact x_ok hst rfl rfl hab a2 b3 hsz hlt hldd hx1 hxc
        · cases hxc
      have hLX : (pairOf ops).1 < (pairOf ops).2 → sensAt ops (pairOf ops).1 = true → sensAt ops (pairOf ops).2 = true → ∀ i, lateK ops T.length i = true → ((clos ops).getD (pairOf ops).2 0).testBit i = false → xst.h[(hAt st.h T i).length]? = (hAt st.h T (i + 1))[(hAt st.h T i).length]? := fun hab _ _ i hl hb => by
        unfold lateXc at hlx
        rw [if_pos (by rw [Nat.blt_eq]; exact hab)] at hlx
        split at hlx
        · rename_i st1 hx1
          have := hxst _ hx1
          subst this
          refine lateAt_spec hst a2 b3 hsz hlt hl (List.all_eq_true.1 hlx i ?_)
          unfold lateX
          refine List.mem_filter.2 ⟨List.mem_filter.2 ⟨List.mem_range.2 ?_, hl⟩, by rw [hb]; rfl⟩
          simp only [lateK, Bool.and_eq_true, Nat.blt_eq] at hl; exact hl.1
        · cases hlx
      have hend : envT e T U (2 ^ ops.size - 1) [] = setU (setAll e T) U := by
        refine List.ext_getElem? fun d => ?_
        show (maskU (maskR e T (2 ^ ops.size - 1) 0) U (2 ^ ops.size - 1) T.length)[d]? = _
        refine maskUf (by rw [maskR_len, setAll_len]) (maskRf rfl rfl fun k t hk _ => ?_) fun k t hk _ => ?_
        · have := (List.getElem?_eq_some_iff.1 hk).1
          exact testBit_all (by omega)
        · have := (List.getElem?_eq_some_iff.1 hk).1
          exact testBit_all (by omega)
      rw [last_stAt] at h
      obtain ⟨rfl, rfl⟩ := Prod.mk.inj (Option.some.inj h)
      refine (any2 hN hev (lo := st.lo) a2 b3 hsz hlT hlU hXk (stAt_len hk b3) (fun c1 c2 c3 => xst_len hk b3 (hXk c1 c2 c3) c1) (late_all hst a2 b3 hsz hlt hlt1) hLX hs he (fun k o d hk hod => ?_) (fun a' w' m' h1 h2 => hQ a' w' m' (by rw [← hend]; exact h1) h2) ops.size (Array.replicate ops.size false) a w.drew m (by simp) (by simp [Flow.left, List.countP_replicate]) ?_ (fun q hqs hq => ?_))
      · rw [← hel]; exact hlt k o d hk hod
      · have hst := Inv.start (ops := ops) a2 hs he
        have e1 : (fun k => (Array.replicate ops.size false).getD k false) = fun _ => false := by
          funext k
          rcases Nat.lt_or_ge k ops.size with h | h <;> simp [h]
        rw [e1]
        exact ⟨hst.defers, hst.size, hst.off, fun _ _ h => h, (fun k t h => by cases h), (fun q u d h => by cases h), hst.unm a2, .inl ⟨hst, (fun k _ h => by cases h)⟩⟩
      · simp [hqs] at hq
    · cases h
  · cases h
theorem region_wp (hN : NoCount P) (hM : P.follows .mixedOrders = true) {ev : CallE} (hev : CallOk P ev) (hk : CallKeep ev) {id : Nat} {ops : Array Oper} {draw : Bool} {Q : Exit → Act → World → Prop} {m : M} {st st' : St} {w : World} {a : Act} {e e' : Env} (hs : SR m st.h w) (he : ER m e a)
    (h : evRegion P ev ops draw e st = some (e', st')) (hQ : ∀ a' w' m', ER m' e' a' → Res m st w m' st' w' → Q .normal a' w') : (Code.region id ops draw).wp P Q a w := by
  unfold evRegion at h
  cases draw with
  | false =>
    simp only [Bool.false_eq_true, if_false] at h
    exact wp_region_list (seq_wp hN hev hs he h hQ)
  | true =>
    simp only [if_true] at h
    refine wp_region_any hM ?_
    split at h
    · exact reg_wp hN hev hk hs he h hQ
    · rename_i σ n0 _
      split at h
      · rename_i hp
        have hp := perm_of hp
        have hr := reg_wp hN hev hk hs he h hQ
        rw [perm_size hp] at hr
        exact perm_any hp _ _ _ _ _ (same_none hp) hr
      · cases h
end Ev
end Go.Proofs.Ytepianllbfnpoaa

/- Ev: a region that draws its order: looks at memory that may come up at other times; the region's law. No program. -/
import Derived.Test.YtmjonmahecdngaaGreatEv13r
namespace Go.Proofs.YtmjonmahecdngaaGreat
open Go.RowKit
namespace Ev
variable {P : Program}

theorem sensIdx_mem {ops : Array Oper} {k : Nat} : k ∈ sensIdx ops ↔ sensAt ops k = true := by
  unfold sensIdx
  rw [List.mem_filter, List.mem_range]
  refine ⟨fun h => h.2, fun h => ⟨?_, h⟩⟩
  unfold sensAt at h
  split at h
  · rename_i o ho; exact (Array.getElem?_eq_some_iff.1 ho).1
  · cases h
theorem mem_loads {ops : Array Oper} {n0 i q : Nat} {o : Oper} (ho : ops[i]? = some o) (hl : isLoad o.op = true) (hq : q ∈ qsOf (sensIdx ops) n0) (ha : allowed ops n0 i q = true) (hn : quietB (sensIdx ops) n0 i q = false) : (i, q) ∈ floatsL ops n0 := by
  unfold floatsL
  refine List.mem_flatMap.2 ⟨i, ?_, List.mem_map.2 ⟨q, List.mem_filter.2 ⟨hq, ?_⟩, rfl⟩⟩
  · unfold loadIdx
    refine List.mem_filter.2 ⟨List.mem_range.2 (Array.getElem?_eq_some_iff.1 ho).1, ?_⟩
    simp only [ho, hl]
  · rw [allowedS_eq, ha, hn]; rfl
/-- any time is like one right behind an operation that counts -/
theorem near_q (ops : Array Oper) (n0 : Nat) : ∀ q, ∃ q', q' ∈ qsOf (sensIdx ops) n0 ∧ q' ≤ q ∧ ∀ k, n0 + q' ≤ k → k < n0 + q → sensAt ops k = false
  | 0 => ⟨0, by simp [qsOf], Nat.le_refl _, fun k h1 h2 => by omega⟩
  | q + 1 => by
    cases hs : sensAt ops (n0 + q) with
    | true =>
      refine ⟨q + 1, ?_, Nat.le_refl _, fun k h1 h2 => by omega⟩
      simp only [qsOf, List.mem_cons, List.mem_map, List.mem_filter]
      exact .inr ⟨n0 + q, ⟨sensIdx_mem.2 hs, by simp⟩, by omega⟩
    | false =>
      obtain ⟨q', h1, h2, h3⟩ := near_q ops n0 q
      refine ⟨q', h1, by omega, fun k g1 g2 => ?_⟩
      by_cases e : k = n0 + q
      · subst e; exact hs
      · exact h3 k g1 (by omega)
theorem allowed_near {ops : Array Oper} {n0 i q q' : Nat} (h : allowed ops n0 i q = true) (hle : q' ≤ q) (hn : ∀ k, n0 + q' ≤ k → k < n0 + q → sensAt ops k = false) : allowed ops n0 i q' = true := by
  unfold allowed at *
  rw [List.all_eq_true] at *
  intro k hk
  have h1 := h k hk
  cases hs : sensAt ops k with
  | false => rfl
  | true =>
    rw [hs] at h1
    simp only [Bool.not_true, Bool.false_or] at h1 ⊢
    by_cases c1 : k < n0 + q'
    · rw [if_pos c1]; rw [if_pos (by omega)] at h1; exact h1
    · rw [if_neg c1]
      by_cases c2 : k < n0 + q
      · have := hn k (by omega) c2; rw [hs] at this; cases this
      · rw [if_neg c2] at h1; exact h1
theorem quiet_no {ops : Array Oper} {n0 i q : Nat} (h : quietB (sensIdx ops) n0 i q = true) {k : Nat} (hk : max i n0 ≤ k ∧ k < n0 + q ∨ n0 + q ≤ k ∧ k < i) : sensAt ops k = false := by
  cases hs : sensAt ops k with
  | false => rfl
  | true =>
    have := List.all_eq_true.1 h k (sensIdx_mem.2 hs)
    simp only [Bool.not_eq_true', Bool.or_eq_false_iff, Bool.and_eq_false_iff] at this
    rcases hk with ⟨h1, h2⟩ | ⟨h1, h2⟩
    · have e1 : Nat.ble (max i n0) k = true := by simpa using h1
      have e2 : Nat.blt k (n0 + q) = true := by simpa [Nat.blt_eq] using h2
      rcases this.1 with h | h
      · rw [e1] at h; cases h
      · rw [e2] at h; cases h
    · have e1 : Nat.ble (n0 + q) k = true := by simpa using h1
      have e2 : Nat.blt k i = true := by simpa [Nat.blt_eq] using h2
      rcases this.2 with h | h
      · rw [e1] at h; cases h
      · rw [e2] at h; cases h
variable (P)
def float1 (ops : Array Oper) (e : Env) (sts : List St) (p : Nat × Nat) : Bool := match ops[p.1]?, sts[p.2]? with
  | some o, some st => (match o.dst with
    | some d => (match e[d]? with
      | some .skip => true
      | some pv => sameLd (evLd P (lk e) st o) pv
      | none => false)
    | none => false)
  | _, _ => false
variable {P}
theorem evLd_congr {e e' : Look} {st : St} {o : Oper} (h : ∀ x ∈ o.op.operands.toList, evX e x = evX e' x) : evLd P e st o = evLd P e' st o := by
  unfold evLd
  split
  · rename_i T x ho
    rw [ho] at h
    rw [cellX_congr (h x (by simp [Op.operands]))]
  · rfl
theorem evLd_more {e : Look} {h h' : List O} {lo lo' : Nat} {o : Oper} {s : S} (hs : evLd P e ⟨h, lo⟩ o = some s) (hp : ∃ L, h' = h ++ L) : evLd P e ⟨h', lo'⟩ o = some s := by
  obtain ⟨L, rfl⟩ := hp
  unfold evLd at *
  split at hs
  · split at hs
    · rename_i i off _
      unfold evLoad at *
      split at hs
      · cases hs
      rename_i ob hob
      have hi : i < h.length := (List.getElem?_eq_some_iff.1 hob).1
      simp only [List.getElem?_append_left hi, hob]
      exact hs
    · cases hs
  · cases hs
theorem stAt_sts {st0 : St} {U : List Tl} {q : Nat} (hq : q ≤ U.length) : (st0 :: U.map (·.st))[q]? = some (stAt st0 U q) := by
  cases q with
  | zero => rfl
  | succ q =>
    have hlt : q < U.length := by omega
    simp [stAt, hlt]
theorem drop_mem {α : Type} {l : List α} {n : Nat} {u : α} (h : u ∈ l.drop n) : ∃ q, l[n + q]? = some u := by
  obtain ⟨q, hq⟩ := List.getElem?_of_mem h
  exact ⟨q, by rwa [List.getElem?_drop] at hq⟩
section
variable {ev : CallE} {ops : Array Oper} {e0 : Env} {h0 : List O} {T : List Tr} {U : List Tl} {lo : Nat}
/-- what the region's end shows of an operation's operands, and of what it wrote -/
theorem final_reads (hdT : ∀ k t, T[k]? = some t → dstAt ops k = some t.d) (hdU : ∀ q u, U[q]? = some u → dstAt ops (T.length + q) = u.d) {i : Nat} {t : Tmp} (hno : ∀ k, i ≤ k → dstAt ops k ≠ some t) :
    (i ≤ T.length → (setU (setAll e0 T) U)[t]? = (setAll e0 (T.take i))[t]?) ∧ (T.length ≤ i → (setU (setAll e0 T) U)[t]? = (setU (setAll e0 T) (U.take (i - T.length)))[t]?) := by
  refine ⟨fun hi => ?_, fun hi => ?_⟩
  · have e1 : (setU (setAll e0 T) U)[t]? = (setAll e0 T)[t]? := setU_off fun u hu e => by
      obtain ⟨q, hq, rfl⟩ := List.mem_iff_getElem.1 hu
      exact hno (T.length + q) (by omega) (by rw [hdU q U[q] (by simp), e])
    rw [e1]
    have : setAll e0 T = setAll (setAll e0 (T.take i)) (T.drop i) := by rw [← setAll_append, List.take_append_drop]
    rw [this]
    exact setAll_off fun u hu e => by
      obtain ⟨q, hq⟩ := drop_mem hu
      exact hno (i + q) (by omega) (by rw [hdT (i + q) _ hq, e])
  · have : setU (setAll e0 T) U = setU (setU (setAll e0 T) (U.take (i - T.length))) (U.drop (i - T.length)) := by rw [← setU_append, List.take_append_drop]
    rw [this]
    exact setU_off fun u hu e => by
      obtain ⟨q, hq⟩ := drop_mem hu
      exact hno (T.length + (i - T.length + q)) (by omega) (by rw [hdU (i - T.length + q) _ hq, e])
theorem no_later (hst : statOk ops T.length = true) {i q : Nat} (hm : (i, q) ∈ floatsL ops T.length) {o : Oper} (ho : ops[i]? = some o) {t : Tmp} (ht : t ∈ readsOf ops o) : ∀ k, i ≤ k → dstAt ops k ≠ some t := fun k hk e => by
  simp only [statOk, Bool.and_eq_true] at hst
  have h1 := List.all_eq_true.1 hst.2 (i, q) hm
  unfold noLater at h1
  simp only [ho] at h1
  have h2 := offs_spec (List.all_eq_true.1 h1 t ht) (k - i)
  rw [List.getElem?_drop, show i + (k - i) = k by omega] at h2
  exact h2 (dsts_get e)
theorem final_T (hst : statOk ops T.length = true) (hdT : ∀ k t, T[k]? = some t → dstAt ops k = some t.d) (hdU : ∀ q u, U[q]? = some u → dstAt ops (T.length + q) = u.d) (hsz : T.length + U.length = ops.size) {i : Nat} {t : Tr} (ht : T[i]? = some t) (hlt : t.d < e0.length) :
    (setU (setAll e0 T) U)[t.d]? = some t.pv := by
  have hi : i < T.length := (List.getElem?_eq_some_iff.1 ht).1
  have hno : ∀ k, i < k → dstAt ops k ≠ some t.d := fun k hk e => by
    have hko : ∃ o, ops[k]? = some o ∧ o.dst = some t.d := by
      unfold dstAt at e
      split at e
      · exact ⟨_, by assumption, e⟩
      · cases e
    obtain ⟨o, h1, h2⟩ := hko
    exact (stat_at hst h1).dst _ h2 i hk (hdT i t ht)
  have e1 : (setU (setAll e0 T) U)[t.d]? = (setAll e0 T)[t.d]? := setU_off fun u hu e => by
    obtain ⟨q, hq, rfl⟩ := List.mem_iff_getElem.1 hu
    exact hno (T.length + q) (by omega) (by rw [hdU q U[q] (by simp), e])
  rw [e1]
  have : setAll e0 T = setAll (setAll e0 (T.take (i + 1))) (T.drop (i + 1)) := by rw [← setAll_append, List.take_append_drop]
  rw [this, setAll_off fun u hu e => by
    obtain ⟨q, hq⟩ := drop_mem hu
    exact hno (i + 1 + q) (by omega) (by rw [hdT (i + 1 + q) _ hq, e])]
  have e2 : T.take (i + 1) = T.take i ++ [t] := by
    rw [List.take_add_one, ht]; rfl
  rw [e2, setAll_snoc, List.getElem?_set_self (by rw [setAll_len]; exact hlt)]
theorem final_U (hst : statOk ops T.length = true) (hdT : ∀ k t, T[k]? = some t → dstAt ops k = some t.d) (hdU : ∀ q u, U[q]? = some u → dstAt ops (T.length + q) = u.d) {i : Nat} {u : Tl} (hu : U[i]? = some u) {d : Tmp} (hd : u.d = some d) (hlt : d < e0.length) :
    (setU (setAll e0 T) U)[d]? = some u.pv := by
  have hi : i < U.length := (List.getElem?_eq_some_iff.1 hu).1
  have hno : ∀ k, T.length + i < k → dstAt ops k ≠ some d := fun k hk e => by
    have hko : ∃ o, ops[k]? = some o ∧ o.dst = some d := by
      unfold dstAt at e
      split at e
      · exact ⟨_, by assumption, e⟩
      · cases e
    obtain ⟨o, h1, h2⟩ := hko
    exact (stat_at hst h1).dst _ h2 _ hk (by rw [hdU i u hu, hd])
  have : setU (setAll e0 T) U = setU (setU (setAll e0 T) (U.take (i + 1))) (U.drop (i + 1)) := by rw [← setU_append, List.take_append_drop]
  rw [this, setU_off fun v hv e => by
    obtain ⟨q, hq⟩ := drop_mem hv
    exact hno (T.length + (i + 1 + q)) (by omega) (by rw [hdU (i + 1 + q) _ hq, e])]
  have e2 : U.take (i + 1) = U.take i ++ [u] := by
    rw [List.take_add_one, hu]; rfl
  rw [e2, setU_snoc, hd]
  simp only [setE]
  rw [List.getElem?_set_self (by rw [setU_len, setAll_len]; exact hlt)]
theorem float_at (h : (floatsL ops T.length).all (float1 P ops (setU (setAll e0 T) U) (⟨hAt h0 T T.length, lo⟩ :: U.map (·.st))) = true) {i q : Nat} {o : Oper} {d : Tmp} {pv : PV} (hm : (i, q) ∈ floatsL ops T.length) (hq : q ≤ U.length) (ho : ops[i]? = some o) (hd : o.dst = some d)
    (hpv : (setU (setAll e0 T) U)[d]? = some pv) (hne : pv ≠ .skip) : ∃ s, evLd P (lk (setU (setAll e0 T) U)) (stAt ⟨hAt h0 T T.length, lo⟩ U q) o = some s ∧ pv = .s s := by
  have := List.all_eq_true.1 h (i, q) hm
  unfold float1 at this
  simp only [ho, stAt_sts hq, hd, hpv] at this
  obtain ⟨s, h1, h2⟩ := sameLd_spec this
  exact ⟨s, h1, h2⟩
theorem loads_T (hst : statOk ops T.length = true) (hT : ∀ i, i < T.length → StepP P ev ops e0 h0 T i) (hU : ∀ q, q < U.length → TailP P ev ops e0 T ⟨hAt h0 T T.length, lo⟩ U q) (hsz : T.length + U.length = ops.size) (hlt : ∀ (i : Nat) (o : Oper) (d : Tmp), ops[i]? = some o → o.dst = some d → d < e0.length)
    (hf : (floatsL ops T.length).all (float1 P ops (setU (setAll e0 T) U) (⟨hAt h0 T T.length, lo⟩ :: U.map (·.st))) = true) : LoadsT P ops e0 T U ⟨hAt h0 T T.length, lo⟩ := by
  intro i o t ho ht hl hne q hq ha
  have hdT := dst_of_step hT
  have hdU := dst_of_tail hU
  have hi : i < T.length := (List.getElem?_eq_some_iff.1 ht).1
  have hs := stat_at hst ho
  obtain ⟨o', t', g1, g2, g3, g4, g5, g6, g7⟩ := hT i hi
  rw [ho] at g1; cases g1
  rw [ht] at g2; cases g2
  have hlen : (T.take i).length = i := by rw [List.length_take]; omega
  have hdTi : ∀ k u, (T.take i)[k]? = some u → dstAt ops k = some u.d := fun k u hu => by
    rw [List.getElem?_take] at hu
    split at hu
    · exact hdT k u hu
    · cases hu
  have hag : ∀ q, (i, q) ∈ floatsL ops T.length → ∀ x ∈ o.op.operands.toList, evX (lk (envAt e0 (T.take i) ((clos ops).getD i 0) (laterD (clos ops) i (ops.toList.drop (i + 1)) (i + 1)))) x = evX (lk (setU (setAll e0 T) U)) x := fun q hm =>
    (reads_lk fun z hz => by rw [stat_env hs (by omega) hdTi hz, (final_reads hdT hdU (no_later hst hm ho hz)).1 (by omega)]).1
  obtain ⟨q', n1, n2, n3⟩ := near_q ops T.length q
  have ha' := allowed_near ha n2 n3
  have hsame : stAt ⟨hAt h0 T T.length, lo⟩ U q = stAt ⟨hAt h0 T T.length, lo⟩ U q' := stAt_run hU n2 hq n3
  rw [hsame, g6]
  cases hqb : quietB (sensIdx ops) T.length i q' with
  | false =>
    have hm := mem_loads ho hl n1 ha' hqb
    obtain ⟨s, h1, h2⟩ := float_at hf hm (by omega) ho g3 (final_T hst hdT hdU hsz ht (hlt i o _ ho g3)) hne
    exact ⟨s, by rw [evLd_congr (hag _ hm)]; exact h1, h2⟩
  | true =>
    rcases g7 with ⟨_, h, _⟩ | ⟨_, st, h, _⟩
    · exact absurd h hne
    · obtain ⟨s, h1, h2⟩ := step_ld hl h
      refine ⟨s, ?_, h2⟩
      have hs0 : stAt ⟨hAt h0 T T.length, lo⟩ U q' = ⟨hAt h0 T T.length, lo⟩ := stAt_run hU (Nat.zero_le _) (by omega) fun k k1 k2 => quiet_no hqb (.inl ⟨by omega, k2⟩)
      rw [hs0]
      rw [g6] at h1
      exact evLd_more h1 (pre_h hT (show i ≤ T.length by omega) (Nat.le_refl _))
theorem loads_U (hst : statOk ops T.length = true) (hT : ∀ i, i < T.length → StepP P ev ops e0 h0 T i) (hU : ∀ q, q < U.length → TailP P ev ops e0 T ⟨hAt h0 T T.length, lo⟩ U q) (hsz : T.length + U.length = ops.size) (hlt : ∀ (i : Nat) (o : Oper) (d : Tmp), ops[i]? = some o → o.dst = some d → d < e0.length)
    (hld : ∀ (i : Nat) (o : Oper), ops[i]? = some o → isLoad o.op = true → o.dst ≠ none)
    (hf : (floatsL ops T.length).all (float1 P ops (setU (setAll e0 T) U) (⟨hAt h0 T T.length, lo⟩ :: U.map (·.st))) = true) : LoadsU P ops e0 T U ⟨hAt h0 T T.length, lo⟩ := by
  intro j o u ho hu hl hne q hq ha
  have hdT := dst_of_step hT
  have hdU := dst_of_tail hU
  have hj : j < U.length := (List.getElem?_eq_some_iff.1 hu).1
  have hs := stat_at hst ho
  obtain ⟨o', u', g1, g2, g3, g4, g5, g6, g7, g8⟩ := hU j hj
  rw [ho] at g1; cases g1
  rw [hu] at g2; cases g2
  have hdUi : ∀ k v, (U.take j)[k]? = some v → dstAt ops (T.length + k) = v.d := fun k v hv => by
    rw [List.getElem?_take] at hv
    split at hv
    · exact hdU k v hv
    · cases hv
  have hag : ∀ q, (T.length + j, q) ∈ floatsL ops T.length → ∀ x ∈ o.op.operands.toList, evX (lk (envT e0 T (U.take j) ((clos ops).getD (T.length + j) 0) (laterD (clos ops) (T.length + j) (ops.toList.drop (T.length + j + 1)) (T.length + j + 1)))) x = evX (lk (setU (setAll e0 T) U)) x := fun q hm =>
    (reads_lk fun z hz => by
      rw [stat_envT hs (by rw [List.length_take]; omega) hdT hdUi hz]
      have := (final_reads (e0 := e0) hdT hdU (no_later hst hm ho hz)).2 (by omega)
      rw [this, show T.length + j - T.length = j by omega]).1
  obtain ⟨q', n1, n2, n3⟩ := near_q ops T.length q
  have ha' := allowed_near ha n2 n3
  have hsame : stAt ⟨hAt h0 T T.length, lo⟩ U q = stAt ⟨hAt h0 T T.length, lo⟩ U q' := stAt_run hU n2 hq n3
  rw [hsame, g6]
  cases hqb : quietB (sensIdx ops) T.length (T.length + j) q' with
  | false =>
    cases hd : o.dst with
    | none => exact absurd hd (hld _ o ho hl)
    | some d =>
      have hm := mem_loads ho hl n1 ha' hqb
      obtain ⟨s, h1, h2⟩ := float_at hf hm (by omega) ho hd (final_U hst hdT hdU hu (by rw [← g3, hd]) (hlt _ o d ho hd)) hne
      exact ⟨s, by rw [evLd_congr (hag _ hm)]; exact h1, h2⟩
  | true =>
    rcases g8 with ⟨_, h, _⟩ | ⟨_, h⟩
    · exact absurd h hne
    · obtain ⟨s, h1, h2⟩ := step_ld hl h
      refine ⟨s, ?_, h2⟩
      rw [g6] at h1
      have hst' : stAt ⟨hAt h0 T T.length, lo⟩ U q' = stAt ⟨hAt h0 T T.length, lo⟩ U j := by
        by_cases c : q' ≤ j
        · exact (stAt_run hU c (by omega) fun k k1 k2 => quiet_no hqb (.inr ⟨k1, k2⟩)).symm
        · exact stAt_run hU (by omega) (by omega) fun k k1 k2 => quiet_no hqb (.inl ⟨by omega, k2⟩)
      rw [hst']; exact h1
end
/-- where the second half begins -/
def cutL (ops : Array Oper) : Nat → List Oper → List Nat → Nat → Nat
  | i, o :: r, s :: S, n => cutL ops (i + 1) r S (if floatK o.op || sensL s 0 (ops.toList.take i) then n else i + 1)
  | _, _, _, n => n
def cutOf (ops : Array Oper) : Nat := cutL ops 0 ops.toList (clos ops) 0
def ldDst (o : Oper) : Bool := !isLoad o.op || o.dst.isSome
def dstLt (n : Nat) (o : Oper) : Bool := match o.dst with
  | none => true
  | some d => Nat.blt d n
variable (P)
def evRegion (ev : CallE) (ops : Array Oper) (draw : Bool) (e : Env) (st : St) : Option (Env × St) :=
  if draw then
    if statOk ops (cutOf ops) && ops.toList.all ldDst && ops.toList.all (dstLt e.length) then match evT P ev ops (ops.toList.take (cutOf ops)) e st.h with
      | none => none
      | some (e1, h1) => match evU P ev ops (ops.toList.drop (cutOf ops)) e1 ⟨h1, st.lo⟩ with
        | none => none
        | some (e2, sts) => if (floatsL ops (cutOf ops)).all (float1 P ops e2 (⟨h1, st.lo⟩ :: sts)) then some (e2, (sts.getLast?).getD ⟨h1, st.lo⟩) else none
    else none
  else evSeq P ev ops ops.toList e st
variable {P}
theorem last_stAt {st0 : St} : ∀ {U : List Tl}, ((U.map (·.st)).getLast?).getD st0 = stAt st0 U U.length := by
  intro U
  rcases List.eq_nil_or_concat U with rfl | ⟨V, u, rfl⟩
  · rfl
  · simp [stAt]
theorem region_wp (hN : NoCount P) (hM : P.follows .mixedOrders = true) {ev : CallE} (hev : CallOk P ev) (hk : CallKeep ev) {id : Nat} {ops : Array Oper} {draw : Bool} {Q : Exit → Act → World → Prop} {m : M} {st st' : St} {w : World} {a : Act} {e e' : Env} (hs : SR m st.h w) (he : ER m e a)
    (h : evRegion P ev ops draw e st = some (e', st')) (hQ : ∀ a' w' m', ER m' e' a' → Res m st w m' st' w' → Q .normal a' w') : (Code.region id ops draw).wp P Q a w := by
  unfold evRegion at h
  cases draw with
  | false =>
    simp only [Bool.false_eq_true, if_false] at h
    exact wp_region_list (seq_wp hN hev hs he h hQ)
  | true =>
    simp only [if_true] at h
    split at h
    · rename_i hh
      simp only [Bool.and_eq_true] at hh
      obtain ⟨⟨hst, hld⟩, hdl⟩ := hh
      have hcut : cutOf ops ≤ ops.size := by simp only [statOk, Bool.and_eq_true, Nat.ble_eq] at hst; exact hst.1.1
      split at h
      · cases h
      rename_i e1 h1 hrT
      obtain ⟨T, a1, a2, a3, a4⟩ := evT_spec (e0 := e) (h0 := st.h) hst hk (T := []) (fun j o hj => by
        rw [List.getElem?_take] at hj
        split at hj
        · simpa using hj
        · cases hj) (fun i hi => by simp at hi) hrT
      have hTl : T.length = cutOf ops := by rw [a1]; simp; omega
      subst a3
      subst a4
      split at h
      · cases h
      rename_i e2 sts hrU
      rw [← hTl] at hrU hst h
      have hdT := dst_of_step a2
      obtain ⟨U, b1, b2, b3, b4⟩ := evU_spec hst hdT (U := []) (fun j o hj => by
        rw [List.getElem?_drop] at hj
        simpa using hj) (fun q hq => by simp at hq) hrU
      subst b1
      rw [List.nil_append] at b3 b4
      subst b4
      have hsz : T.length + U.length = ops.size := by rw [b2]; simp; omega
      have hlt : ∀ (i : Nat) (o : Oper) (d : Tmp), ops[i]? = some o → o.dst = some d → d < e.length := fun i o d ho hd => by
        have hmem : o ∈ ops.toList := by have := Array.mem_of_getElem? ho; simpa using this
        have := List.all_eq_true.1 hdl o hmem
        simpa [dstLt, hd, Nat.blt_eq] using this
      have hldd : ∀ (i : Nat) (o : Oper), ops[i]? = some o → isLoad o.op = true → o.dst ≠ none := fun i o ho hl e => by
        have hmem : o ∈ ops.toList := by have := Array.mem_of_getElem? ho; simpa using this
        have := List.all_eq_true.1 hld o hmem
        simp [ldDst, hl, e] at this
      split at h
      · rename_i hf
        have hel : e.length = a.tmps.size := by have := he.slots.1; simpa using this
        have hlT := loads_T (P := P) (ev := ev) (lo := st.lo) hst a2 b3 hsz hlt hf
        have hlU := loads_U (P := P) (ev := ev) (lo := st.lo) hst a2 b3 hsz hlt hldd hf
        have hdU := dst_of_tail b3
        have hend : envT e T U (2 ^ ops.size - 1) [] = setU (setAll e T) U := by
          refine List.ext_getElem? fun d => ?_
          show (maskU (maskR e T (2 ^ ops.size - 1) 0) U (2 ^ ops.size - 1) T.length)[d]? = _
          refine maskUf (by rw [maskR_len, setAll_len]) (maskRf rfl rfl fun k t hk _ => ?_) fun k t hk _ => ?_
          · have := (List.getElem?_eq_some_iff.1 hk).1
            exact testBit_all (by omega)
          · have := (List.getElem?_eq_some_iff.1 hk).1
            exact testBit_all (by omega)
        rw [last_stAt] at h
        obtain ⟨rfl, rfl⟩ := Prod.mk.inj (Option.some.inj h)
        refine wp_region_any hM (any2 hN hev (lo := st.lo) a2 b3 hsz hlT hlU hs he (fun k o d hk hod => ?_) (fun a' w' m' h1 h2 => hQ a' w' m' (by rw [← hend]; exact h1) h2) ops.size (Array.replicate ops.size false) a w.drew m (by simp) (by simp [Flow.left, List.countP_replicate]) ?_ (fun q hqs hq => ?_))
        · rw [← hel]; exact hlt k o d hk hod
        · have hst := Inv.start (ops := ops) a2 hs he
          have e1 : (fun k => (Array.replicate ops.size false).getD k false) = fun _ => false := by
            funext k
            rcases Nat.lt_or_ge k ops.size with h | h <;> simp [h]
          rw [e1]
          exact ⟨hst.defers, hst.size, hst.off, fun _ _ h => h, (fun k t h => by cases h), (fun q u d h => by cases h), .inl ⟨hst, (fun k _ h => by cases h)⟩⟩
        · simp [hqs] at hq
      · cases h
    · cases h
end Ev
end Go.Proofs.YtmjonmahecdngaaGreat

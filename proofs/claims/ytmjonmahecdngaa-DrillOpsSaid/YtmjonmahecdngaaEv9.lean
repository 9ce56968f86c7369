/- Ev: a function's code, run on what is known of its values. Ninth part: a region that draws its order. No program. -/
import Derived.Test.YtmjonmahecdngaaEv8
namespace Go.Proofs.Ytmjonmahecdngaa
open Go.RowKit
namespace Ev
variable {P : Program}

def res (m : M) (n : Nat) : M := fun i => if i < n then m i else none
theorem res_some {m : M} {n i : Nat} {p : Pl} : res m n i = some p ↔ i < n ∧ m i = some p := by
  unfold res
  split
  · simp [*]
  · simp [*]
/-- every block that was there is as it was -/
theorem SR.grow {m : M} {h : List O} {w w' : World} (hs : SR m h w) (hk : ∀ b, b < w.heap.size → w'.heap[b]? = w.heap[b]?) : SR m h w' :=
  ⟨hs.dom, fun i p o hm ho hl => by
    obtain ⟨cur, fr, h1, h2⟩ := hs.obj i p o hm ho hl
    exact ⟨cur, fr, by rw [hk _ (Array.getElem?_eq_some_iff.1 h1).1]; exact h1, h2⟩, hs.sep⟩

/-- an operation of the region: its slot, what it holds, what comes up ahead of it (a bit each), the objects behind it -/
structure Tr where
  d : Tmp
  pv : PV
  s : Nat
  h : List O
  deriving Inhabited
def maskR (e : Env) : List Tr → Nat → Nat → Env
  | [], _, _ => e
  | t :: r, s, k => maskR (e.set t.d (if s.testBit k then t.pv else .any)) r s (k + 1)
def maskL (e : Env) : List Tmp → Env
  | [] => e
  | d :: r => maskL (e.set d .any) r
def cloOf (S : List Nat) (es : List Edge) (s : Nat) : Nat := match es with
  | [] => s
  | e :: r => cloOf S r (if Region.binds .any e then s ||| 2 ^ e.on ||| S.getD e.on 0 else s)
def hAt (h0 : List O) (T : List Tr) : Nat → List O
  | 0 => h0
  | i + 1 => (T.getD i default).h
/-- what comes up ahead of each operation -/
def closAll : List Oper → List Nat → List Nat
  | [], S => S
  | o :: r, S => closAll r (S ++ [cloOf S o.after.toList 0])
theorem closAll_spec : ∀ {l : List Oper} {S : List Nat}, (closAll l S).length = S.length + l.length ∧ (closAll l S).take S.length = S ∧ ∀ i o, l[i]? = some o → (closAll l S).getD (S.length + i) 0 = cloOf ((closAll l S).take (S.length + i)) o.after.toList 0
  | [], S => ⟨by simp [closAll], by simp [closAll], fun i o h => by simp at h⟩
  | o :: r, S => by
    obtain ⟨h1, h2, h3⟩ := closAll_spec (l := r) (S := S ++ [cloOf S o.after.toList 0])
    simp only [List.length_append, List.length_cons, List.length_nil, Nat.zero_add] at h1 h2 h3
    simp only [closAll]
    have h4 : (closAll r (S ++ [cloOf S o.after.toList 0])).take S.length = S := by
      have := congrArg (List.take S.length) h2
      rw [List.take_take, Nat.min_eq_left (by omega), List.take_left'] at this
      · exact this
      · rfl
    refine ⟨by rw [h1]; simp; omega, h4, fun i o' h => ?_⟩
    cases i with
    | zero =>
      simp at h
      subst h
      rw [Nat.add_zero, h4]
      have := congrArg (fun l => l.getD S.length 0) h2
      simp only [List.getD_eq_getElem?_getD, List.getElem?_take, if_pos (show S.length < S.length + 1 by omega)] at this
      rw [List.getD_eq_getElem?_getD, this]
      simp
    | succ i =>
      have := h3 i o' (by simpa using h)
      rwa [show S.length + 1 + i = S.length + (i + 1) by omega] at this
/-- slots that operations behind this one write, which may come up ahead of it -/
def laterD (C : List Nat) (i : Nat) : List Oper → Nat → List Tmp
  | [], _ => []
  | o :: r, k => match o.dst with
    | none => laterD C i r (k + 1)
    | some d => if (C.getD k 0).testBit i then laterD C i r (k + 1) else d :: laterD C i r (k + 1)
theorem laterD_mem {C : List Nat} {i : Nat} : ∀ {l : List Oper} {k j : Nat} {o : Oper} {d : Tmp}, l[j]? = some o → o.dst = some d → (C.getD (k + j) 0).testBit i = false → d ∈ laterD C i l k
  | [], k, j, o, d, h, _, _ => by simp at h
  | x :: r, k, 0, o, d, h, hd, hb => by
    simp at h
    subst h
    rw [Nat.add_zero] at hb
    simp only [laterD, hd, hb, Bool.false_eq_true, if_false]
    exact List.mem_cons_self
  | x :: r, k, j + 1, o, d, h, hd, hb => by
    have := laterD_mem (C := C) (i := i) (l := r) (k := k + 1) (j := j) (by simpa using h) hd (by rwa [show k + 1 + j = k + (j + 1) by omega])
    simp only [laterD]
    split
    · exact this
    · split
      · exact this
      · exact List.mem_cons_of_mem _ this
abbrev clos (ops : Array Oper) : List Nat := closAll ops.toList []
def envAt (e0 : Env) (T : List Tr) (s : Nat) (ds : List Tmp) : Env := maskL (maskR e0 T s 0) ds
variable (P)
def evDraw (ev : CallE) (ops : Array Oper) (e0 : Env) (h0 : List O) : List Oper → List Tr → List Tr
  | [], T => T
  | o :: r, T => match o.dst with
    | none => T
    | some d =>
      if (T.all fun t => t.d != d) && o.after.toList.all (fun e => !Region.binds .any e || decide (e.on < T.length)) then
        match wantedE ops (envAt e0 T ((clos ops).getD T.length 0) (laterD (clos ops) T.length r (T.length + 1))) o with
        | none => T
        | some false => evDraw ev ops e0 h0 r (T ++ [⟨d, .skip, (clos ops).getD T.length 0, hAt h0 T T.length⟩])
        | some true => match evStep P ev (envAt e0 T ((clos ops).getD T.length 0) (laterD (clos ops) T.length r (T.length + 1))) ⟨hAt h0 T T.length, (hAt h0 T T.length).length⟩ o with
          | none => T
          | some (pv, st) => if (hAt h0 T T.length).length ≤ st.lo then
              evDraw ev ops e0 h0 r (T ++ [⟨d, pv, (clos ops).getD T.length 0, hAt h0 T T.length ++ st.h.drop (hAt h0 T T.length).length⟩]) else T
      else T
/-- what is known of operation i -/
def StepP (ev : CallE) (ops : Array Oper) (e0 : Env) (h0 : List O) (T : List Tr) (i : Nat) : Prop :=
  ∃ o t, ops[i]? = some o ∧ T[i]? = some t ∧ o.dst = some t.d ∧ (∀ k u, k < i → T[k]? = some u → u.d ≠ t.d) ∧ (∀ e ∈ o.after.toList, Region.binds .any e = true → e.on < i) ∧
    t.s = (clos ops).getD i 0 ∧
    ((wantedE ops (envAt e0 (T.take i) t.s (laterD (clos ops) i (ops.toList.drop (i + 1)) (i + 1))) o = some false ∧ t.pv = .skip ∧ t.h = hAt h0 T i) ∨
     (wantedE ops (envAt e0 (T.take i) t.s (laterD (clos ops) i (ops.toList.drop (i + 1)) (i + 1))) o = some true ∧ ∃ st, evStep P ev (envAt e0 (T.take i) t.s (laterD (clos ops) i (ops.toList.drop (i + 1)) (i + 1))) ⟨hAt h0 T i, (hAt h0 T i).length⟩ o = some (t.pv, st) ∧ (hAt h0 T i).length ≤ st.lo ∧ t.h = hAt h0 T i ++ st.h.drop (hAt h0 T i).length))
variable {P}
theorem hAt_append {h0 : List O} {T U : List Tr} {i : Nat} (hi : i ≤ T.length) : hAt h0 (T ++ U) i = hAt h0 T i := by
  cases i with
  | zero => rfl
  | succ i => simp [hAt, List.getD_eq_getElem?_getD, List.getElem?_append_left (show i < T.length by omega)]
theorem StepP.append {ev : CallE} {ops : Array Oper} {e0 : Env} {h0 : List O} {T U : List Tr} {i : Nat} (hi : i < T.length) (h : StepP P ev ops e0 h0 T i) : StepP P ev ops e0 h0 (T ++ U) i := by
  obtain ⟨o, t, h1, h2, h3, h4, h5, h6, h7⟩ := h
  have ht : (T ++ U).take i = T.take i := List.take_append_of_le_length (by omega)
  refine ⟨o, t, h1, by rw [List.getElem?_append_left hi]; exact h2, h3, fun k u hk hu => h4 k u hk (by rwa [List.getElem?_append_left (by omega)] at hu), h5, h6, ?_⟩
  rw [ht, hAt_append (by omega)]
  exact h7
theorem evDraw_spec {ev : CallE} {ops : Array Oper} {e0 : Env} {h0 : List O} : ∀ {l : List Oper} {T : List Tr}, ops.toList.drop T.length = l → (∀ i, i < T.length → StepP P ev ops e0 h0 T i) →
    (evDraw P ev ops e0 h0 l T).length ≤ T.length + l.length ∧ ∀ i, i < (evDraw P ev ops e0 h0 l T).length → StepP P ev ops e0 h0 (evDraw P ev ops e0 h0 l T) i
  | [], T, hl, hT => ⟨by simp [evDraw], hT⟩
  | o :: r, T, hl, hT => by
    have ho : ops[T.length]? = some o := by
      have : (ops.toList.drop T.length)[0]? = some o := by rw [hl]; rfl
      simpa using this
    have hr : ops.toList.drop (T.length + 1) = r := by
      rw [← List.drop_drop, hl]; rfl
    have stop : T.length ≤ T.length + (o :: r).length ∧ ∀ i, i < T.length → StepP P ev ops e0 h0 T i := ⟨by omega, hT⟩
    have next : ∀ {t : Tr}, StepP P ev ops e0 h0 (T ++ [t]) T.length → (evDraw P ev ops e0 h0 r (T ++ [t])).length ≤ T.length + (o :: r).length ∧ ∀ i, i < (evDraw P ev ops e0 h0 r (T ++ [t])).length → StepP P ev ops e0 h0 (evDraw P ev ops e0 h0 r (T ++ [t])) i := fun {t} hs => by
      have := evDraw_spec (l := r) (T := T ++ [t]) (by simpa using hr) fun i hi => by
        rw [List.length_append, List.length_singleton] at hi
        by_cases e : i < T.length
        · exact (hT i e).append e
        · have : i = T.length := by omega
          subst this; exact hs
      refine ⟨?_, this.2⟩
      have h1 := this.1
      simp only [List.length_append, List.length_cons, List.length_nil] at h1 ⊢
      omega
    simp only [evDraw]
    split
    · exact stop
    rename_i d hd
    split
    · rename_i hc
      simp only [Bool.and_eq_true, List.all_eq_true] at hc
      have hlast : ∀ t : Tr, (T ++ [t])[T.length]? = some t := fun t => by simp
      have htk : ∀ t : Tr, (T ++ [t]).take T.length = T := fun t => by simp
      have hha : ∀ t : Tr, hAt h0 (T ++ [t]) T.length = hAt h0 T T.length := fun t => hAt_append (Nat.le_refl _)
      have hne : ∀ (t : Tr) k u, k < T.length → (T ++ [t])[k]? = some u → u.d ≠ d := fun t k u hk hu => by
        rw [List.getElem?_append_left hk] at hu
        have := hc.1 u (List.mem_of_getElem? hu)
        simpa using this
      have hed : ∀ e ∈ o.after.toList, Region.binds .any e = true → e.on < T.length := fun e he hb => by
        have := hc.2 e he
        simpa [hb] using this
      split
      · exact stop
      · rename_i hw
        refine next ⟨o, _, ho, hlast _, hd, hne _, hed, rfl, .inl ⟨?_, rfl, (hha _).symm⟩⟩
        rw [htk, hr]; exact hw
      · rename_i hw
        split
        · exact stop
        rename_i pv st hst
        split
        · rename_i hlo
          refine next ⟨o, _, ho, hlast _, hd, hne _, hed, rfl, .inr ⟨?_, st, ?_, ?_, ?_⟩⟩
          · rw [htk, hr]; exact hw
          · rw [htk, hr, hha]; exact hst
          · rw [hha]; exact hlo
          · rw [hha]
        · exact stop
    · exact stop

theorem maskR_get : ∀ {R : List Tr} {e : Env} {s k t : Nat} {x : PV}, (maskR e R s k)[t]? = some x → (∃ j r, R[j]? = some r ∧ r.d = t ∧ x = if s.testBit (k + j) then r.pv else .any) ∨ ((∀ r ∈ R, r.d ≠ t) ∧ e[t]? = some x)
  | [], e, s, k, t, x, h => .inr ⟨by simp, h⟩
  | r :: R, e, s, k, t, x, h => by
    rcases maskR_get (R := R) h with ⟨j, r', h1, h2, h3⟩ | ⟨h1, h2⟩
    · exact .inl ⟨j + 1, r', by simpa using h1, h2, by rw [h3, show k + 1 + j = k + (j + 1) by omega]⟩
    · by_cases e' : r.d = t
      · subst e'
        have hlt : r.d < e.length := by have := (List.getElem?_eq_some_iff.1 h2).1; simpa using this
        rw [List.getElem?_set_self hlt] at h2
        exact .inl ⟨0, r, rfl, rfl, by simpa using h2.symm⟩
      · rw [List.getElem?_set_ne e'] at h2
        refine .inr ⟨fun r' hr' => ?_, h2⟩
        rcases List.mem_cons.1 hr' with rfl | hr'
        · exact e'
        · exact h1 r' hr'
theorem maskL_get : ∀ {ds : List Tmp} {e : Env} {t : Nat} {x : PV}, (maskL e ds)[t]? = some x → x = .any ∨ (t ∉ ds ∧ e[t]? = some x)
  | [], e, t, x, h => .inr ⟨by simp, h⟩
  | d :: ds, e, t, x, h => by
    rcases maskL_get (ds := ds) h with h1 | ⟨h1, h2⟩
    · exact .inl h1
    · by_cases e' : d = t
      · subst e'
        have hlt : d < e.length := by have := (List.getElem?_eq_some_iff.1 h2).1; simpa using this
        rw [List.getElem?_set_self hlt] at h2
        exact .inl (by simpa using h2.symm)
      · rw [List.getElem?_set_ne e'] at h2
        exact .inr ⟨by simp [h1, Ne.symm e'], h2⟩
theorem maskR_len : ∀ (R : List Tr) (e : Env) (s k : Nat), (maskR e R s k).length = e.length
  | [], _, _, _ => rfl
  | r :: R, e, s, k => by rw [maskR, maskR_len R]; simp
theorem maskL_len : ∀ (ds : List Tmp) (e : Env), (maskL e ds).length = e.length
  | [], _ => rfl
  | d :: ds, e => by rw [maskL, maskL_len ds]; simp
theorem clo_spec {S : List Nat} : ∀ {es : List Edge} {s k : Nat}, (cloOf S es s).testBit k = true → s.testBit k = true ∨ ∃ e ∈ es, Region.binds .any e = true ∧ (k = e.on ∨ (S.getD e.on 0).testBit k = true)
  | [], s, k, h => .inl h
  | e :: es, s, k, h => by
    rcases clo_spec (es := es) h with h1 | ⟨e', h1, h2⟩
    · split at h1
      · rename_i hb
        rw [Nat.testBit_or, Nat.testBit_or, Bool.or_eq_true, Bool.or_eq_true] at h1
        rcases h1 with (h1 | h1) | h1
        · exact .inl h1
        · refine .inr ⟨e, by simp, hb, .inl ?_⟩
          rw [Nat.testBit_two_pow] at h1
          simpa using (of_decide_eq_true h1).symm
        · exact .inr ⟨e, by simp, hb, .inr h1⟩
      · exact .inl h1
    · exact .inr ⟨e', by simp [h1], h2⟩
end Ev
end Go.Proofs.Ytmjonmahecdngaa

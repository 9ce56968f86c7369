/- Ev: a function's code, run on what is known of its values. Eleventh part: a region that draws its order, and behind what it makes and looks at writes. No program. -/
import Derived.Test.YtepianllbfnpoaaEv12m
namespace Go.Proofs.Ytepianllbfnpoaa
open Go.RowKit
namespace Ev
variable {P : Program}

/-- an operation of the region's second half -/
structure Tl where
  d : Option Tmp
  pv : PV
  s : Nat
  st : St
def maskU (e : Env) : List Tl → Nat → Nat → Env
  | [], _, _ => e
  | t :: r, s, k => maskU (setE e t.d (if s.testBit k then t.pv else .any)) r s (k + 1)
def envT (e0 : Env) (T : List Tr) (U : List Tl) (s : Nat) (ds : List Tmp) : Env := maskL (maskU (maskR e0 T s 0) U s T.length) ds
def stAt (st0 : St) (U : List Tl) : Nat → St
  | 0 => st0
  | q + 1 => match U[q]? with
    | some u => u.st
    | none => st0
def sensAt (ops : Array Oper) (k : Nat) : Bool := match ops[k]? with
  | some o => !floatK o.op
  | none => false
/-- one that makes an object, in the first half: it may come up late -/
def lateK (ops : Array Oper) (n0 k : Nat) : Bool := Nat.blt k n0 && (match ops[k]? with | some o => isMk o | none => false)
def sensC (ops : Array Oper) (n0 k : Nat) : Bool := sensAt ops k && !lateK ops n0 k
theorem sensC_U {ops : Array Oper} {n0 k : Nat} (h : n0 ≤ k) : sensC ops n0 k = sensAt ops k := by
  have : Nat.blt k n0 = false := by
    cases hb : Nat.blt k n0 with
    | false => rfl
    | true => rw [Nat.blt_eq] at hb; omega
  simp [sensC, lateK, this]
theorem sensC_sens {ops : Array Oper} {n0 k : Nat} (h : sensC ops n0 k = true) : sensAt ops k = true := by
  simp only [sensC, Bool.and_eq_true] at h; exact h.1
def okDst (T : List Tr) (U : List Tl) : Option Tmp → Bool
  | none => true
  | some d => (T.all fun t => t.d != d) && (U.all fun t => t.d != some d)
/-- two operations that count, the last ones, without an order between them; what lies in memory behind the second alone -/
structure Xp where
  A : Nat
  B : Nat
  st : St
variable (P)
def TailP (X : Xp) (ev : CallE) (ops : Array Oper) (e0 : Env) (T : List Tr) (st0 : St) (U : List Tl) (q : Nat) : Prop :=
  ∃ o u, ops[T.length + q]? = some o ∧ U[q]? = some u ∧ o.dst = u.d ∧ (∀ d, u.d = some d → (∀ t ∈ T, t.d ≠ d) ∧ ∀ k v, k < q → U[k]? = some v → v.d ≠ some d) ∧ (∀ e ∈ o.after.toList, Region.binds .any e = true → e.on < T.length + q) ∧
    u.s = (clos ops).getD (T.length + q) 0 ∧ (floatK o.op = false → ∀ k, k < T.length + q → sensC ops T.length k = true → (k = X.A ∧ T.length + q = X.B) ∨ u.s.testBit k = true) ∧
    ((wantedE ops (envT e0 T (U.take q) u.s (laterD (clos ops) (T.length + q) (ops.toList.drop (T.length + q + 1)) (T.length + q + 1))) o = some false ∧ u.pv = .skip ∧ u.st = stAt st0 U q) ∨
     (wantedE ops (envT e0 T (U.take q) u.s (laterD (clos ops) (T.length + q) (ops.toList.drop (T.length + q + 1)) (T.length + q + 1))) o = some true ∧ evStep P ev (envT e0 T (U.take q) u.s (laterD (clos ops) (T.length + q) (ops.toList.drop (T.length + q + 1)) (T.length + q + 1))) (stAt st0 U q) o = some (u.pv, u.st)))
variable {P}
theorem stAt_append {st0 : St} {U V : List Tl} {q : Nat} (hq : q ≤ U.length) : stAt st0 (U ++ V) q = stAt st0 U q := by
  cases q with
  | zero => rfl
  | succ q => simp [stAt, List.getElem?_append_left (show q < U.length by omega)]
theorem TailP.append {X : Xp} {ev : CallE} {ops : Array Oper} {e0 : Env} {T : List Tr} {st0 : St} {U V : List Tl} {q : Nat} (hq : q < U.length) (h : TailP P X ev ops e0 T st0 U q) : TailP P X ev ops e0 T st0 (U ++ V) q := by
  obtain ⟨o, u, h1, h2, h3, h4, h5, h6, h7, h8⟩ := h
  have ht : (U ++ V).take q = U.take q := List.take_append_of_le_length (by omega)
  refine ⟨o, u, h1, by rw [List.getElem?_append_left hq]; exact h2, h3, fun d hd => ⟨(h4 d hd).1, fun k v hk hv => (h4 d hd).2 k v hk (by rwa [List.getElem?_append_left (by omega)] at hv)⟩, h5, h6, h7, ?_⟩
  rw [ht, stAt_append (by omega)]
  exact h8
theorem maskU_get : ∀ {U : List Tl} {e : Env} {s k t : Nat} {x : PV}, (maskU e U s k)[t]? = some x → (∃ j r, U[j]? = some r ∧ r.d = some t ∧ x = if s.testBit (k + j) then r.pv else .any) ∨ ((∀ r ∈ U, r.d ≠ some t) ∧ e[t]? = some x)
  | [], e, s, k, t, x, h => .inr ⟨by simp, h⟩
  | r :: U, e, s, k, t, x, h => by
    rcases maskU_get (U := U) h with ⟨j, r', h1, h2, h3⟩ | ⟨h1, h2⟩
    · exact .inl ⟨j + 1, r', by simpa using h1, h2, by rw [h3, show k + 1 + j = k + (j + 1) by omega]⟩
    · by_cases e' : r.d = some t
      · rw [e'] at h2
        simp only [setE] at h2
        have hlt : t < e.length := by have := (List.getElem?_eq_some_iff.1 h2).1; simpa using this
        rw [List.getElem?_set_self hlt] at h2
        exact .inl ⟨0, r, rfl, e', by simpa using h2.symm⟩
      · have h3 : e[t]? = some x := by
          cases hd : r.d with
          | none => rw [hd] at h2; exact h2
          | some d =>
            rw [hd] at h2 e'
            simp only [setE] at h2
            rwa [List.getElem?_set_ne (fun e => e' (by rw [e]))] at h2
        refine .inr ⟨fun r' hr' => ?_, h3⟩
        rcases List.mem_cons.1 hr' with rfl | hr'
        · exact e'
        · exact h1 r' hr'
theorem maskU_len : ∀ (U : List Tl) (e : Env) (s k : Nat), (maskU e U s k).length = e.length
  | [], _, _, _ => rfl
  | r :: U, e, s, k => by rw [maskU, maskU_len U]; cases r.d <;> simp [setE]

section
variable {X : Xp} {ev : CallE} {ops : Array Oper} {e0 : Env} {h0 : List O} {T : List Tr} {U : List Tl} {m0 : M} {w0 : World} {a0 : Act} {lo : Nat}

/-- the slots, whatever came up: of those that are wanted the values are known -/
theorem er_of {D : Nat → Bool} {a : Act} {m : M} (hT : ∀ i, i < T.length → StepP P ev ops e0 h0 T i) (hU : ∀ q, q < U.length → TailP P X ev ops e0 T ⟨hAt h0 T T.length, lo⟩ U q) (hdef : a.defers = []) (hsz : a.tmps.size = a0.tmps.size)
    (hoff : ∀ t, (∀ (k : Nat) (o : Oper), ops[k]? = some o → D k = true → o.dst ≠ some t) → a.eval (.tmp t) = a0.eval (.tmp t)) (he : ER m0 e0 a0) (hm0 : ∀ k p, m0 k = some p → m k = some p)
    (hvT : ∀ k t, D k = true → T[k]? = some t → VP m t.pv (a.eval (.tmp t.d))) (hvU : ∀ q u d, D (T.length + q) = true → U[q]? = some u → u.d = some d → VP m u.pv (a.eval (.tmp d)))
    {q s : Nat} (hq : q ≤ U.length) (hD : ∀ k, k < T.length + q → s.testBit k = true → D k = true) (hlate : ∀ (k : Nat) (o : Oper), T.length + q ≤ k → ops[k]? = some o → D k = true → k ≠ T.length + q ∧ ((clos ops).getD k 0).testBit (T.length + q) = false) : ER m (envT e0 T (U.take q) s (laterD (clos ops) (T.length + q) (ops.toList.drop (T.length + q + 1)) (T.length + q + 1))) a := by
  refine ⟨hdef, ⟨by rw [envT, maskL_len, maskU_len, maskR_len, he.slots.1]; simp [hsz], fun t x v hx hv => ?_⟩⟩
  have hv' := eval_slot hv
  rcases maskL_get hx with rfl | ⟨hnd, hx⟩
  · exact trivial
  rcases maskU_get hx with ⟨j, r, h1, h2, h3⟩ | ⟨hnU, hx⟩
  · split at h3
    · rename_i hb
      rw [List.getElem?_take] at h1
      split at h1
      · rename_i hj
        have := hvU j r t (hD _ (by omega) hb) h1 h2
        rw [hv'] at this
        rw [h3]; exact this
      · cases h1
    · rw [h3]; exact trivial
  rcases maskR_get hx with ⟨j, r, h1, h2, h3⟩ | ⟨hnT, hx⟩
  · rw [Nat.zero_add] at h3
    split at h3
    · rename_i hb
      have hj := (List.getElem?_eq_some_iff.1 h1).1
      have := hvT j r (hD _ (by omega) hb) h1
      rw [h2, hv'] at this
      rw [h3]; exact this
    · rw [h3]; exact trivial
  · have ho : a.eval (.tmp t) = a0.eval (.tmp t) := hoff t fun k o hk hDk e => by
      by_cases hk1 : k < T.length
      · obtain ⟨o', t', g1, g2, g3, _⟩ := hT k hk1
        rw [hk] at g1; cases g1
        rw [g3] at e; cases e
        exact hnT t' (List.mem_of_getElem? g2) rfl
      · by_cases hk2 : k < T.length + q
        · obtain ⟨o', u', g1, g2, g3, _⟩ := hU (k - T.length) (by omega)
          rw [show T.length + (k - T.length) = k by omega, hk] at g1; cases g1
          exact hnU u' (List.mem_of_getElem? (i := k - T.length) (by rw [List.getElem?_take, if_pos (by omega)]; exact g2)) (by rw [← g3, e])
        · obtain ⟨l1, l2⟩ := hlate k o (by omega) hk hDk
          apply hnd
          have g1' : ops.toList[k]? = some o := by simpa using hk
          refine laterD_mem (j := k - (T.length + q + 1)) (o := o) ?_ e (by rwa [show T.length + q + 1 + (k - (T.length + q + 1)) = k by omega])
          rw [List.getElem?_drop, show T.length + q + 1 + (k - (T.length + q + 1)) = k by omega]
          exact g1'
    have := lk_spec (x := .tmp t) he hx
    rw [← ho, hv'] at this
    exact this.ext hm0

/-- may operation i come up when the second half is come to its operation q? -/
def allowed (ops : Array Oper) (n0 i q : Nat) : Bool := (List.range ops.size).all fun k => !sensC ops n0 k || (if k < n0 + q then !((clos ops).getD k 0).testBit i else !((clos ops).getD i 0).testBit k)
variable (P)
/-- a look at memory that may come up at other times shows the same there -/
def LoadsT (ops : Array Oper) (e0 : Env) (T : List Tr) (U : List Tl) (st0 : St) : Prop := ∀ (i : Nat) (o : Oper) (t : Tr), ops[i]? = some o → T[i]? = some t → isLoad o.op = true → t.pv ≠ .skip → ∀ q, q ≤ U.length → allowed ops T.length i q = true →
  ∃ s, evLd P (envAt e0 (T.take i) t.s (laterD (clos ops) i (ops.toList.drop (i + 1)) (i + 1))) (stAt st0 U q) o = some s ∧ t.pv = .s s
def LoadsU (ops : Array Oper) (e0 : Env) (T : List Tr) (U : List Tl) (st0 : St) : Prop := ∀ (j : Nat) (o : Oper) (u : Tl), ops[T.length + j]? = some o → U[j]? = some u → isLoad o.op = true → u.pv ≠ .skip → ∀ q, q ≤ U.length → allowed ops T.length (T.length + j) q = true →
  ∃ s, evLd P (envT e0 T (U.take j) u.s (laterD (clos ops) (T.length + j) (ops.toList.drop (T.length + j + 1)) (T.length + j + 1))) (stAt st0 U q) o = some s ∧ u.pv = .s s
variable {P}
/-- so many have come up, in the order of the text -/
def Ph2 (ops : Array Oper) (h0 : List O) (T : List Tr) (U : List Tl) (m0 : M) (w0 : World) (lo : Nat) (D : Nat → Bool) (w : World) (m : M) : Prop :=
  ∃ q, 0 < q ∧ q ≤ U.length ∧ (∀ k, k < T.length + q → sensC ops T.length k = true → D k = true) ∧ (∀ k, T.length + q ≤ k → D k = true → sensAt ops k = false) ∧ Res m0 ⟨h0, lo⟩ w0 m (stAt ⟨hAt h0 T T.length, lo⟩ U q) w
/-- all but the last but one -/
def Ph3 (X : Xp) (ops : Array Oper) (n0 : Nat) (h0 : List O) (m0 : M) (w0 : World) (lo : Nat) (D : Nat → Bool) (w : World) (m : M) : Prop :=
  (X.A < X.B ∧ n0 ≤ X.A) ∧ sensAt ops X.A = true ∧ sensAt ops X.B = true ∧ D X.B = true ∧ D X.A = false ∧ (∀ k, sensC ops n0 k = true → k ≠ X.A → D k = true) ∧ Res m0 ⟨h0, lo⟩ w0 m X.st w
/-- what holds when some of the operations have come up: before the first that writes, or behind it -/
structure Inv2 (X : Xp) (ops : Array Oper) (h0 : List O) (T : List Tr) (U : List Tl) (m0 : M) (w0 : World) (a0 : Act) (lo : Nat) (D : Nat → Bool) (a : Act) (w : World) (m : M) : Prop where
  defers : a.defers = []
  size : a.tmps.size = a0.tmps.size
  off : ∀ t, (∀ (k : Nat) (o : Oper), ops[k]? = some o → D k = true → o.dst ≠ some t) → a.eval (.tmp t) = a0.eval (.tmp t)
  m0m : ∀ k p, m0 k = some p → m k = some p
  vT : ∀ (k : Nat) (t : Tr), D k = true → T[k]? = some t → VP m t.pv (a.eval (.tmp t.d))
  vU : ∀ (q : Nat) (u : Tl) (d : Tmp), D (T.length + q) = true → U[q]? = some u → u.d = some d → VP m u.pv (a.eval (.tmp d))
  unm : ∀ (j : Nat), D j = false → j < T.length → ∀ i, (hAt h0 T j).length ≤ i → i < (hAt h0 T (j + 1)).length → m i = none
  phase : (Inv ops h0 T m0 w0 a0 D a w m ∧ ∀ k, T.length ≤ k → D k = true → sensAt ops k = false) ∨ Ph2 ops h0 T U m0 w0 lo D w m ∨ Ph3 X ops T.length h0 m0 w0 lo D w m
theorem Ph2.more {D : Nat → Bool} {w : World} {m : M} (h : Ph2 ops h0 T U m0 w0 lo D w m) {i : Nat} (hk : sensAt ops i = false) : Ph2 ops h0 T U m0 w0 lo (fun k => D k || k == i) w m := by
  obtain ⟨q, q1, q2, q3, q4, q5⟩ := h
  refine ⟨q, q1, q2, fun k hk1 hk2 => by simp [q3 k hk1 hk2], fun k hk1 hk2 => ?_, q5⟩
  by_cases e : k = i
  · subst e; exact hk
  · exact q4 k hk1 (by simpa [e] using hk2)
theorem Ph3.more {n0 : Nat} {D : Nat → Bool} {w : World} {m : M} (h : Ph3 X ops n0 h0 m0 w0 lo D w m) {i : Nat} (hk : sensAt ops i = false) : Ph3 X ops n0 h0 m0 w0 lo (fun k => D k || k == i) w m := by
  obtain ⟨h1, h2, h3, h4, h5, h6, h7⟩ := h
  refine ⟨h1, h2, h3, by simp [h4], ?_, fun k k1 k2 => by simp [h6 k k1 k2], h7⟩
  have : X.A ≠ i := fun e => by rw [e, hk] at h2; cases h2
  simp [h5, this]

theorem dst_T (hT : ∀ i, i < T.length → StepP P ev ops e0 h0 T i) {k : Nat} {t : Tr} (ht : T[k]? = some t) : ∃ o, ops[k]? = some o ∧ o.dst = some t.d := by
  obtain ⟨o', t', g1, g2, g3, _⟩ := hT k (List.getElem?_eq_some_iff.1 ht).1
  rw [ht] at g2; cases g2
  exact ⟨o', g1, g3⟩
theorem dst_U (hU : ∀ q, q < U.length → TailP P X ev ops e0 T ⟨hAt h0 T T.length, lo⟩ U q) {q : Nat} {u : Tl} (hu : U[q]? = some u) : ∃ o, ops[T.length + q]? = some o ∧ o.dst = u.d := by
  obtain ⟨o', t', g1, g2, g3, _⟩ := hU q (List.getElem?_eq_some_iff.1 hu).1
  rw [hu] at g2; cases g2
  exact ⟨o', g1, g3⟩
theorem dst_sep (hT : ∀ i, i < T.length → StepP P ev ops e0 h0 T i) (hU : ∀ q, q < U.length → TailP P X ev ops e0 T ⟨hAt h0 T T.length, lo⟩ U q) (hn : T.length + U.length = ops.size) :
    ∀ {k j : Nat} {x y : Oper} {d : Tmp}, ops[k]? = some x → ops[j]? = some y → x.dst = some d → y.dst = some d → k = j := by
  have g : ∀ (k j : Nat) (x y : Oper) (d : Tmp), ops[k]? = some x → ops[j]? = some y → x.dst = some d → y.dst = some d → ¬ k < j := fun k j x y d hx hy dx dy hlt => by
    have hjo : j < ops.size := (Array.getElem?_eq_some_iff.1 hy).1
    by_cases hj : j < T.length
    · obtain ⟨o', t', g1, g2, g3, g4, _⟩ := hT j hj
      rw [hy] at g1; cases g1
      have hkT : k < T.length := by omega
      obtain ⟨o2, t2, k1, k2, k3, _⟩ := hT k hkT
      rw [hx] at k1; cases k1
      rw [dx] at k3; rw [dy] at g3
      exact g4 k t2 hlt k2 (by have e1 := Option.some.inj k3; have e2 := Option.some.inj g3; rw [← e1, ← e2])
    · obtain ⟨o', u', g1, g2, g3, g4, _⟩ := hU (j - T.length) (by omega)
      rw [show T.length + (j - T.length) = j by omega, hy] at g1; cases g1
      obtain ⟨f1, f2⟩ := g4 d (by rw [← g3, dy])
      by_cases hkT : k < T.length
      · obtain ⟨o2, t2, k1, k2, k3, _⟩ := hT k hkT
        rw [hx] at k1; cases k1
        rw [dx] at k3
        exact f1 t2 (List.mem_of_getElem? k2) (Option.some.inj k3).symm
      · obtain ⟨o2, u2, k1, k2, k3, _⟩ := hU (k - T.length) (by omega)
        rw [show T.length + (k - T.length) = k by omega, hx] at k1; cases k1
        exact f2 (k - T.length) u2 (by omega) k2 (by rw [← k3, dx])
  intro k j x y d hx hy dx dy
  have := g k j x y d hx hy dx dy
  have := g j k y x d hy hx dy dx
  omega

/-- an operation that is pure, or was passed over -/
theorem Inv2.put {D : Nat → Bool} {a : Act} {w : World} {m : M} (hT : ∀ i, i < T.length → StepP P ev ops e0 h0 T i) (hU : ∀ q, q < U.length → TailP P X ev ops e0 T ⟨hAt h0 T T.length, lo⟩ U q) (hn : T.length + U.length = ops.size)
    (hI : Inv2 X ops h0 T U m0 w0 a0 lo D a w m) (hs0 : SR m0 h0 w0) (hds : ∀ (k : Nat) (o : Oper) (d : Tmp), ops[k]? = some o → o.dst = some d → d < a0.tmps.size) {i : Nat} {o : Oper} (ho : ops[i]? = some o) (hi : T.length ≤ i ∨ Ph2 ops h0 T U m0 w0 lo D w m ∨ Ph3 X ops T.length h0 m0 w0 lo D w m)
    (hk : sensAt ops i = false) {v : Value} (hvT : ∀ t, T[i]? = some t → VP m t.pv v) (hvU : ∀ u, T.length ≤ i → U[i - T.length]? = some u → VP m u.pv v) :
    Inv2 X ops h0 T U m0 w0 a0 lo (fun k => D k || k == i) (a.put o.dst v) w m := by
  have hio : i < ops.size := (Array.getElem?_eq_some_iff.1 ho).1
  have dstT := fun (k : Nat) (t : Tr) (ht : T[k]? = some t) => dst_T hT ht
  have dstU := fun (q : Nat) (u : Tl) (hu : U[q]? = some u) => dst_U hU hu
  have sep := fun (k j : Nat) (x y : Oper) (d : Tmp) (hx : ops[k]? = some x) (hy : ops[j]? = some y) (dx : x.dst = some d) (dy : y.dst = some d) => dst_sep hT hU hn hx hy dx dy
  have ev_ne : ∀ (k : Nat) (x : Oper) (d : Tmp), ops[k]? = some x → x.dst = some d → k ≠ i → (a.put o.dst v).eval (.tmp d) = a.eval (.tmp d) := fun k x d hx hd hne => by
    cases hod : o.dst with
    | none => rfl
    | some d' => exact Flow.eval_put_ne fun e => hne (sep k i x o d hx ho hd (by rw [hod, e]))
  have ev_same : ∀ d, o.dst = some d → (a.put o.dst v).eval (.tmp d) = v := fun d hd => by
    rw [hd]; exact Flow.eval_put_same (by rw [hI.size]; exact hds i o d ho hd)
  have hoff' : ∀ t, (∀ (k : Nat) (o : Oper), ops[k]? = some o → (D k || k == i) = true → o.dst ≠ some t) → (a.put o.dst v).eval (.tmp t) = a0.eval (.tmp t) := fun t ht => by
    rw [← hI.off t fun k o hk hD => ht k o hk (by simp [hD])]
    cases hod : o.dst with
    | none => rfl
    | some d' => exact Flow.eval_put_ne fun e => ht i o ho (by simp) (by rw [hod, e])
  refine ⟨by rw [Flow.put_defers]; exact hI.defers, by rw [Flow.put_size]; exact hI.size, hoff', hI.m0m, fun k t hD ht => ?_, fun q u d hD hu hd => ?_, fun j hD => hI.unm j (by
    have hD : (D j || j == i) = false := hD
    simp only [Bool.or_eq_false_iff] at hD; exact hD.1), ?_⟩
  · obtain ⟨x, hx, hxd⟩ := dstT k t ht
    by_cases e : k = i
    · subst e
      rw [ho] at hx; cases hx
      rw [ev_same t.d hxd]
      exact hvT t ht
    · rw [ev_ne k x t.d hx hxd e]
      exact hI.vT k t (by simpa [e] using hD) ht
  · obtain ⟨x, hx, hxd⟩ := dstU q u hu
    rw [hd] at hxd
    by_cases e : T.length + q = i
    · subst e
      rw [ho] at hx; cases hx
      rw [ev_same d hxd]
      exact hvU u (by omega) (by rw [show T.length + q - T.length = q by omega]; exact hu)
    · rw [ev_ne _ x d hx hxd e]
      exact hI.vU q u d (by simpa [e] using hD) hu hd
  · rcases hI.phase with ⟨hI1, h2⟩ | h
    · rcases hi with hi | h | h
      · refine .inl ⟨⟨hI1.base, fun k p hkp => (hI1.doms k p hkp).imp id fun ⟨j, g1, g2⟩ => ⟨j, by simp [g1], g2⟩, hI1.sr, fun k t hD ht => ?_, by rw [Flow.put_defers]; exact hI1.defers, by rw [Flow.put_size]; exact hI1.size, hoff', hI1.fr⟩, fun k hk1 hk2 => ?_⟩
        · have hkT := (List.getElem?_eq_some_iff.1 ht).1
          obtain ⟨x, hx, hxd⟩ := dstT k t ht
          have e : k ≠ i := by omega
          rw [ev_ne k x t.d hx hxd e]
          exact hI1.vals k t (by simpa [e] using hD) ht
        · by_cases e : k = i
          · subst e; exact hk
          · exact h2 k hk1 (by simpa [e] using hk2)
      · exact .inr (.inl (h.more hk))
      · exact .inr (.inr (h.more hk))
    · rcases h with h | h
      · exact .inr (.inl (h.more hk))
      · exact .inr (.inr (h.more hk))
end
end Ev
end Go.Proofs.Ytepianllbfnpoaa

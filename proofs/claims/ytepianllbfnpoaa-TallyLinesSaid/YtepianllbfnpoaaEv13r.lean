/- Ev: a region that draws its order, run in the order of its text. No program. -/
import Derived.Test.YtepianllbfnpoaaEv12
import Derived.Test.YtepianllbfnpoaaEv8c
import Derived.Test.YtepianllbfnpoaaEv8k
namespace Go.Proofs.Ytepianllbfnpoaa
open Go.RowKit
namespace Ev
variable {P : Program}
def tmpOf : Operand → Option Tmp
  | .tmp t => some t
  | _ => none
def readsOf (ops : Array Oper) (o : Oper) : List Tmp := o.op.operands.toList.filterMap tmpOf ++ (match o.guard with | some (j, _) => (match Flow.dstOf ops j with | some d => [d] | none => []) | none => [])
/-- what each operation writes -/
def dsts (ops : Array Oper) : List (Option Tmp) := ops.toList.map (·.dst)
/-- operations that count -/
def sensIdx (ops : Array Oper) : List Nat := (List.range ops.size).filter (sensAt ops)
def loadIdx (ops : Array Oper) : List Nat := (List.range ops.size).filter fun i => match ops[i]? with | some o => isLoad o.op | none => false
def allowedS (S : List Nat) (C : List Nat) (n0 i q : Nat) : Bool := S.all fun k => if k < n0 + q then !(C.getD k 0).testBit i else !(C.getD i 0).testBit k
def sensIdxC (ops : Array Oper) (n0 : Nat) : List Nat := (List.range ops.size).filter (sensC ops n0)
theorem allowedS_eq (ops : Array Oper) (n0 i q : Nat) : allowedS (sensIdxC ops n0) (clos ops) n0 i q = allowed ops n0 i q := by
  unfold allowedS allowed sensIdxC
  rw [List.all_filter]
def quietB (S : List Nat) (n0 i q : Nat) : Bool := S.all fun k => !((Nat.ble (max i n0) k && Nat.blt k (n0 + q)) || (Nat.ble (n0 + q) k && Nat.blt k i))
def qsOf (S : List Nat) (n0 : Nat) : List Nat := 0 :: (S.filter fun k => Nat.ble n0 k).map fun k => k + 1 - n0
def floatsL (ops : Array Oper) (n0 : Nat) : List (Nat × Nat) :=
  (loadIdx ops).flatMap fun i => ((qsOf (sensIdx ops) n0).filter fun q => allowedS (sensIdxC ops n0) (clos ops) n0 i q && !quietB (sensIdx ops) n0 i q).map fun q => (i, q)
/-- whoever writes t comes up ahead, or behind -/
def byOnly (t : Tmp) (s i : Nat) : Nat → List (Option Tmp) → List Nat → Bool
  | _, [], _ => true
  | k, none :: r, _ :: C => byOnly t s i (k + 1) r C
  | k, some d :: r, c :: C => if Nat.beq d t then ((Nat.blt k i && s.testBit k) || (Nat.blt i k && c.testBit i)) && byOnly t s i (k + 1) r C else byOnly t s i (k + 1) r C
  | _, _ :: _, [] => false
def offs (d : Tmp) : List (Option Tmp) → Bool
  | [] => true
  | none :: r => offs d r
  | some t :: r => !Nat.beq t d && offs d r
def sensL (n0 s : Nat) : Nat → List Oper → Bool
  | _, [] => true
  | k, o :: r => (floatK o.op || s.testBit k || (Nat.blt k n0 && isMk o)) && sensL n0 s (k + 1) r
/-- the two last operations that count, if they are stores without an order between them -/
def isStoreO (o : Oper) : Bool := match o.op with
  | .store _ _ _ => o.dst.isNone && o.guard.isNone
  | _ => false
def pairL (ops : Array Oper) (C : List Nat) : List Nat → Nat × Nat
  | [a, b] => match ops[a]?, ops[b]? with
    | some x, some y => if isStoreO x && isStoreO y && !(C.getD b 0).testBit a then (a, b) else (0, 0)
    | _, _ => (0, 0)
  | _ :: b :: c :: r => pairL ops C (b :: c :: r)
  | _ => (0, 0)
def pairOf (ops : Array Oper) : Nat × Nat := pairL ops (clos ops) (sensIdx ops)
def bitX (p : Nat × Nat) (i s : Nat) : Nat := if Nat.beq i p.2 then s ||| 2 ^ p.1 else s
def statI (ops : Array Oper) (n0 i : Nat) (o : Oper) (s : Nat) : Bool :=
  (match o.dst with | none => Nat.ble n0 i | some d => offs d ((dsts ops).take i)) && o.after.toList.all (fun e => !Region.binds .any e || Nat.blt e.on i) &&
  (readsOf ops o).all (fun t => byOnly t s i 0 (dsts ops) (clos ops)) && (Nat.blt i n0 || floatK o.op || sensL n0 (bitX (pairOf ops) i s) 0 (ops.toList.take i))
def statL (ops : Array Oper) (n0 : Nat) : Nat → List Oper → List Nat → Bool
  | _, [], _ => true
  | i, o :: r, s :: S => statI ops n0 i o s && statL ops n0 (i + 1) r S
  | _, _ :: _, [] => false
def noLater (ops : Array Oper) (i : Nat) : Bool := match ops[i]? with
  | some o => (readsOf ops o).all fun t => offs t ((dsts ops).drop i)
  | none => true
/-- looks at memory that may come up between the two -/
def xFloats (ops : Array Oper) (p : Nat × Nat) : List Nat := (loadIdx ops).filter fun i => !((clos ops).getD p.2 0).testBit i && !((clos ops).getD i 0).testBit p.1
def storeAt (ops : Array Oper) (k : Nat) : Bool := match ops[k]? with
  | some o => isStoreO o
  | none => false
def pairStat (ops : Array Oper) (n0 : Nat) : Bool := if Nat.blt (pairOf ops).1 (pairOf ops).2 then
    Nat.ble n0 (pairOf ops).1 && Nat.blt (pairOf ops).2 ops.size && storeAt ops (pairOf ops).1 && storeAt ops (pairOf ops).2 && noLater ops (pairOf ops).1 && noLater ops (pairOf ops).2 &&
      (xFloats ops (pairOf ops)).all (noLater ops) && (sensIdx ops).all (fun k => Nat.beq k (pairOf ops).1 || Nat.beq k (pairOf ops).2 || Nat.blt k (pairOf ops).1)
  else true
def statOk (ops : Array Oper) (n0 : Nat) : Bool := Nat.ble n0 ops.size && statL ops n0 0 ops.toList (clos ops) && (floatsL ops n0).all (fun p => noLater ops p.1) && pairStat ops n0
theorem byOnly_spec {t s i : Nat} : ∀ {l : List (Option Tmp)} {C : List Nat} {k : Nat}, byOnly t s i k l C = true → ∀ j : Nat, l[j]? = some (some t) → (k + j < i ∧ s.testBit (k + j) = true) ∨ (i < k + j ∧ (C.getD j 0).testBit i = true)
  | [], _, _, _, j, hj => by simp at hj
  | none :: r, _ :: C, k, h, 0, hj => by simp at hj
  | none :: r, _ :: C, k, h, j + 1, hj => by
    have := byOnly_spec (l := r) (C := C) (k := k + 1) h j (by simpa using hj)
    rw [show k + 1 + j = k + (j + 1) by omega] at this
    simpa using this
  | some d :: r, c :: C, k, h, 0, hj => by
    simp at hj; subst hj
    simp only [byOnly, Nat.beq_refl, if_true, Bool.and_eq_true, Bool.or_eq_true, Nat.blt_eq] at h
    simpa using h.1
  | some d :: r, c :: C, k, h, j + 1, hj => by
    have h' : byOnly t s i (k + 1) r C = true := by
      simp only [byOnly] at h
      split at h
      · simp only [Bool.and_eq_true] at h; exact h.2
      · exact h
    have := byOnly_spec (l := r) (C := C) (k := k + 1) h' j (by simpa using hj)
    rw [show k + 1 + j = k + (j + 1) by omega] at this
    simpa using this
  | none :: _, [], _, h, _, _ => by simp [byOnly] at h
  | some _ :: _, [], _, h, _, _ => by simp [byOnly] at h
theorem offs_spec {d : Tmp} : ∀ {l : List (Option Tmp)}, offs d l = true → ∀ j : Nat, l[j]? ≠ some (some d)
  | [], _, j => by simp
  | none :: r, h, 0 => by simp
  | none :: r, h, j + 1 => by simpa using offs_spec (l := r) h j
  | some t :: r, h, 0 => by
    simp only [offs, Bool.and_eq_true, Bool.not_eq_true'] at h
    intro e
    simp at e
    subst e
    rw [Nat.beq_refl] at h
    cases h.1
  | some t :: r, h, j + 1 => by
    simp only [offs, Bool.and_eq_true] at h
    simpa using offs_spec (l := r) h.2 j
theorem sensL_spec {n0 s : Nat} : ∀ {l : List Oper} {k : Nat}, sensL n0 s k l = true → ∀ (j : Nat) (o : Oper), l[j]? = some o → floatK o.op = false → (Nat.blt (k + j) n0 && isMk o) = false → s.testBit (k + j) = true
  | [], _, _, j, o, hj, _, _ => by simp at hj
  | x :: r, k, h, 0, o, hj, hf, hm => by
    simp at hj; subst hj
    simp only [sensL, Bool.and_eq_true, Bool.or_eq_true] at h
    rcases h.1 with (h1 | h1) | h1
    · rw [hf] at h1; cases h1
    · exact h1
    · rw [Nat.add_zero] at hm
      simp [h1.1, h1.2] at hm
  | x :: r, k, h, j + 1, o, hj, hf, hm => by
    simp only [sensL, Bool.and_eq_true] at h
    have := sensL_spec (l := r) (k := k + 1) h.2 j o (by simpa using hj) hf (by rwa [show k + 1 + j = k + (j + 1) by omega])
    rwa [show k + 1 + j = k + (j + 1) by omega] at this
theorem statL_spec {ops : Array Oper} {n0 : Nat} : ∀ {l : List Oper} {S : List Nat} {i : Nat}, statL ops n0 i l S = true → ∀ (j : Nat) (o : Oper), l[j]? = some o → statI ops n0 (i + j) o (S.getD j 0) = true
  | [], _, _, _, j, o, hj => by simp at hj
  | x :: r, s :: S, i, h, 0, o, hj => by
    simp at hj; subst hj
    simp only [statL, Bool.and_eq_true] at h
    simpa using h.1
  | x :: r, s :: S, i, h, j + 1, o, hj => by
    simp only [statL, Bool.and_eq_true] at h
    have := statL_spec (l := r) h.2 j o (by simpa using hj)
    rw [show i + 1 + j = i + (j + 1) by omega] at this
    simpa using this
  | x :: r, [], i, h, _, _, _ => by cases h
def dstAt (ops : Array Oper) (k : Nat) : Option Tmp := match ops[k]? with | some o => o.dst | none => none
theorem dsts_get {ops : Array Oper} {k : Nat} {t : Tmp} (h : dstAt ops k = some t) : (dsts ops)[k]? = some (some t) := by
  unfold dstAt at h
  split at h
  · rename_i o ho
    simp [dsts, ho, h]
  · cases h
structure Stat (ops : Array Oper) (n0 i : Nat) (o : Oper) : Prop where
  dst : ∀ d, o.dst = some d → ∀ k, k < i → dstAt ops k ≠ some d
  none : o.dst = none → n0 ≤ i
  back : ∀ e ∈ o.after.toList, Region.binds .any e = true → e.on < i
  back' : (o.after.toList.all (fun e => !Region.binds .any e || decide (e.on < i))) = true
  reads : ∀ t ∈ readsOf ops o, ∀ k, dstAt ops k = some t → (k < i ∧ ((clos ops).getD i 0).testBit k = true) ∨ (i < k ∧ ((clos ops).getD k 0).testBit i = true)
  sens : n0 ≤ i → floatK o.op = false → ∀ k, k < i → sensC ops n0 k = true → (k = (pairOf ops).1 ∧ i = (pairOf ops).2) ∨ ((clos ops).getD i 0).testBit k = true
theorem stat_at {ops : Array Oper} {n0 : Nat} (h : statOk ops n0 = true) {i : Nat} {o : Oper} (ho : ops[i]? = some o) : Stat ops n0 i o := by
  simp only [statOk, Bool.and_eq_true] at h
  have hs := statL_spec h.1.1.2 i o (by simpa using ho)
  rw [Nat.zero_add] at hs
  simp only [statI, Bool.and_eq_true, Bool.or_eq_true] at hs
  obtain ⟨⟨⟨h1, h2⟩, h3⟩, h4⟩ := hs
  have hb : ∀ e ∈ o.after.toList, Region.binds .any e = true → e.on < i := fun e he hb => by
    have := List.all_eq_true.1 h2 e he
    simpa [hb, Nat.blt_eq] using this
  refine ⟨fun d hd k hk e => ?_, fun hd => ?_, hb, ?_, fun t ht k hk => ?_, fun hi hf k hk hsk => ?_⟩
  · rw [hd] at h1
    exact offs_spec h1 k (by rw [List.getElem?_take, if_pos hk]; exact dsts_get e)
  · rw [hd] at h1; simpa using h1
  · rw [List.all_eq_true]
    intro e he
    cases hbe : Region.binds .any e with
    | false => rfl
    | true => simpa using hb e he hbe
  · have := byOnly_spec (List.all_eq_true.1 h3 t ht) k (dsts_get hk)
    simpa using this
  · rcases h4 with (h4 | h4) | h4
    · have : i < n0 := by simpa using h4
      omega
    · rw [hf] at h4; cases h4
    · simp only [sensC, sensAt, lateK, Bool.and_eq_true, Bool.not_eq_true'] at hsk
      obtain ⟨hsk, hlk⟩ := hsk
      split at hsk
      · rename_i o' ho'
        rw [ho'] at hlk
        have := sensL_spec h4 k o' (by rw [List.getElem?_take, if_pos hk]; simpa using ho') (by simpa using hsk) (by rw [Nat.zero_add]; exact hlk)
        rw [Nat.zero_add] at this
        unfold bitX at this
        split at this
        · rename_i hi2
          rw [Nat.testBit_or, Bool.or_eq_true, Nat.testBit_two_pow] at this
          rcases this with h | h
          · exact .inr (by simpa using h)
          · exact .inl ⟨(of_decide_eq_true h).symm, by simpa using hi2⟩
        · exact .inr (by simpa using this)
      · cases hsk

def setAll (e0 : Env) : List Tr → Env
  | [] => e0
  | t :: r => setAll (e0.set t.d t.pv) r
def setU (e0 : Env) : List Tl → Env
  | [] => e0
  | t :: r => setU (setE e0 t.d t.pv) r
theorem setAll_append (e0 : Env) (T U : List Tr) : setAll e0 (T ++ U) = setAll (setAll e0 T) U := by
  induction T generalizing e0 with
  | nil => rfl
  | cons u r ih => exact ih _
theorem setAll_snoc (e0 : Env) (T : List Tr) (t : Tr) : setAll e0 (T ++ [t]) = (setAll e0 T).set t.d t.pv := setAll_append e0 T [t]
theorem setU_append (e0 : Env) (T U : List Tl) : setU e0 (T ++ U) = setU (setU e0 T) U := by
  induction T generalizing e0 with
  | nil => rfl
  | cons u r ih => exact ih _
theorem setU_snoc (e0 : Env) (T : List Tl) (t : Tl) : setU e0 (T ++ [t]) = setE (setU e0 T) t.d t.pv := setU_append e0 T [t]
theorem setE_len (e : Env) (d : Option Tmp) (pv : PV) : (setE e d pv).length = e.length := by cases d <;> simp [setE]
theorem setAll_len : ∀ (T : List Tr) (e : Env), (setAll e T).length = e.length
  | [], _ => rfl
  | t :: r, e => by rw [setAll, setAll_len r]; simp
theorem setU_len : ∀ (T : List Tl) (e : Env), (setU e T).length = e.length
  | [], _ => rfl
  | t :: r, e => by rw [setU, setU_len r, setE_len]
theorem setAll_off {x : Tmp} : ∀ {T : List Tr} {e : Env}, (∀ t ∈ T, t.d ≠ x) → (setAll e T)[x]? = e[x]?
  | [], _, _ => rfl
  | t :: r, e, h => by
    rw [setAll, setAll_off fun u hu => h u (by simp [hu]), List.getElem?_set_ne (h t (by simp))]
theorem setE_ne {e : Env} {d : Option Tmp} {pv : PV} {x : Tmp} (h : d ≠ some x) : (setE e d pv)[x]? = e[x]? := by
  cases d with
  | none => rfl
  | some t => exact List.getElem?_set_ne fun e => h (by rw [e])
theorem setU_off {x : Tmp} : ∀ {T : List Tl} {e : Env}, (∀ t ∈ T, t.d ≠ some x) → (setU e T)[x]? = e[x]?
  | [], _, _ => rfl
  | t :: r, e, h => by rw [setU, setU_off fun u hu => h u (by simp [hu]), setE_ne (h t (by simp))]
theorem maskLf {x : Tmp} : ∀ {ds : List Tmp} {e : Env}, x ∉ ds → (maskL e ds)[x]? = e[x]?
  | [], _, _ => rfl
  | d :: r, e, h => by
    simp only [maskL]
    rw [maskLf (fun k => h (List.mem_cons_of_mem _ k)), List.getElem?_set_ne (fun k => h (by simp [k]))]
theorem maskRf {x : Tmp} {s : Nat} : ∀ {T : List Tr} {e e' : Env} {k0 : Nat}, e.length = e'.length → e[x]? = e'[x]? → (∀ (k : Nat) t, T[k]? = some t → t.d = x → s.testBit (k0 + k) = true) → (maskR e T s k0)[x]? = (setAll e' T)[x]?
  | [], _, _, _, _, h, _ => h
  | t :: r, e, e', k0, hl, h, hb => by
    simp only [maskR, setAll]
    refine maskRf (by simp [hl]) ?_ fun k u hk hu => by
      have := hb (k + 1) u (by simpa using hk) hu
      rwa [show k0 + (k + 1) = k0 + 1 + k by omega] at this
    by_cases hx : t.d = x
    · have := hb 0 t rfl hx
      rw [Nat.add_zero] at this
      rw [this, if_pos rfl, hx, List.getElem?_set, List.getElem?_set, hl, if_pos rfl, if_pos rfl]
    · rw [List.getElem?_set_ne hx, List.getElem?_set_ne hx, h]
theorem maskUf {x : Tmp} {s : Nat} : ∀ {T : List Tl} {e e' : Env} {k0 : Nat}, e.length = e'.length → e[x]? = e'[x]? → (∀ (k : Nat) t, T[k]? = some t → t.d = some x → s.testBit (k0 + k) = true) → (maskU e T s k0)[x]? = (setU e' T)[x]?
  | [], _, _, _, _, h, _ => h
  | t :: r, e, e', k0, hl, h, hb => by
    simp only [maskU, setU]
    refine maskUf (by simp [hl, setE_len]) ?_ fun k u hk hu => by
      have := hb (k + 1) u (by simpa using hk) hu
      rwa [show k0 + (k + 1) = k0 + 1 + k by omega] at this
    by_cases hx : t.d = some x
    · have := hb 0 t rfl hx
      rw [Nat.add_zero] at this
      rw [this, if_pos rfl, hx]
      simp only [setE]
      rw [List.getElem?_set, List.getElem?_set, hl, if_pos rfl, if_pos rfl]
    · rw [setE_ne hx, setE_ne hx, h]
theorem laterD_dst {C : List Nat} {i : Nat} {d : Tmp} : ∀ {l : List Oper} {k : Nat}, d ∈ laterD C i l k → ∃ (j : Nat) (o : Oper), l[j]? = some o ∧ o.dst = some d ∧ (C.getD (k + j) 0).testBit i = false
  | [], _, h => by simp [laterD] at h
  | o :: r, k, h => by
    have up : (∃ (j : Nat) (o : Oper), r[j]? = some o ∧ o.dst = some d ∧ (C.getD (k + 1 + j) 0).testBit i = false) → ∃ (j : Nat) (o' : Oper), (o :: r)[j]? = some o' ∧ o'.dst = some d ∧ (C.getD (k + j) 0).testBit i = false := fun ⟨j, o', h1, h2, h3⟩ =>
      ⟨j + 1, o', by simpa using h1, h2, by rwa [show k + (j + 1) = k + 1 + j by omega]⟩
    simp only [laterD] at h
    split at h
    · exact up (laterD_dst h)
    · rename_i d' hd
      split at h
      · exact up (laterD_dst h)
      · rename_i hb
        rcases List.mem_cons.1 h with rfl | h
        · exact ⟨0, o, rfl, hd, by rw [Nat.add_zero]; simpa using hb⟩
        · exact up (laterD_dst h)
theorem not_later {ops : Array Oper} {n0 i : Nat} {o : Oper} (hs : Stat ops n0 i o) {t : Tmp} (ht : t ∈ readsOf ops o) : t ∉ laterD (clos ops) i (ops.toList.drop (i + 1)) (i + 1) := fun hm => by
  obtain ⟨j, o', h1, h2, h3⟩ := laterD_dst hm
  rw [List.getElem?_drop] at h1
  have h1' : ops[i + 1 + j]? = some o' := by simpa using h1
  rcases hs.reads t ht (i + 1 + j) (by unfold dstAt; rw [h1']; exact h2) with h | h
  · omega
  · rw [h3] at h; cases h.2
theorem stat_env {ops : Array Oper} {n0 i : Nat} {o : Oper} {e0 : Env} {T : List Tr} (hs : Stat ops n0 i o) (hi : T.length ≤ i) (hT : ∀ k t, T[k]? = some t → dstAt ops k = some t.d) {t : Tmp} (ht : t ∈ readsOf ops o) :
    (envAt e0 T ((clos ops).getD i 0) (laterD (clos ops) i (ops.toList.drop (i + 1)) (i + 1)))[t]? = (setAll e0 T)[t]? := by
  unfold envAt
  rw [maskLf (not_later hs ht)]
  exact maskRf rfl rfl fun k u hu hx => by
    rw [Nat.zero_add]
    have hk := (List.getElem?_eq_some_iff.1 hu).1
    rcases hs.reads t ht k (by rw [hT k u hu, hx]) with h | h
    · exact h.2
    · omega
theorem stat_envT {ops : Array Oper} {n0 i : Nat} {o : Oper} {e0 : Env} {T : List Tr} {U : List Tl} (hs : Stat ops n0 i o) (hi : T.length + U.length ≤ i) (hT : ∀ k t, T[k]? = some t → dstAt ops k = some t.d) (hU : ∀ q u, U[q]? = some u → dstAt ops (T.length + q) = u.d) {t : Tmp} (ht : t ∈ readsOf ops o) :
    (envT e0 T U ((clos ops).getD i 0) (laterD (clos ops) i (ops.toList.drop (i + 1)) (i + 1)))[t]? = (setU (setAll e0 T) U)[t]? := by
  unfold envT
  rw [maskLf (not_later hs ht)]
  refine maskUf (by rw [maskR_len, setAll_len]) (maskRf rfl rfl fun k u hu hx => ?_) fun q u hu hx => ?_
  · rw [Nat.zero_add]
    have hk := (List.getElem?_eq_some_iff.1 hu).1
    rcases hs.reads t ht k (by rw [hT k u hu, hx]) with h | h
    · exact h.2
    · omega
  · have hk := (List.getElem?_eq_some_iff.1 hu).1
    rcases hs.reads t ht _ (by rw [hU q u hu, hx]) with h | h
    · exact h.2
    · omega
theorem testBit_all {n k : Nat} (h : k < n) : (2 ^ n - 1).testBit k = true := by
  rw [Nat.testBit_two_pow_sub_one]; simpa using h
/-- operands and guard that are alike -/
theorem reads_lk {ops : Array Oper} {o : Oper} {e e' : Env} (h : ∀ t ∈ readsOf ops o, e[t]? = e'[t]?) : (∀ x ∈ o.op.operands.toList, evX (lk e) x = evX (lk e') x) ∧ wantedE ops e o = wantedE ops e' o := by
  refine ⟨fun x hx => ?_, ?_⟩
  · cases x with
    | tmp t => exact h t (List.mem_append_left _ (List.mem_filterMap.2 ⟨_, hx, rfl⟩))
    | _ => rfl
  · unfold wantedE
    cases hg : o.guard with
    | none => rfl
    | some q =>
      obtain ⟨j, want⟩ := q
      cases hd : Flow.dstOf ops j with
      | none => simp only [hd]
      | some d =>
        simp only [hd]
        rw [h d (List.mem_append_right _ (by simp [hg, hd]))]
variable (P)
/-- the first half: operations that write nothing that was there -/
def evT (ev : CallE) (ops : Array Oper) : List Oper → Env → List O → Option (Env × List O)
  | [], e, h => some (e, h)
  | o :: r, e, h => match o.dst with
    | none => none
    | some d => match wantedE ops e o with
      | none => none
      | some false => evT ev ops r (e.set d .skip) h
      | some true => match evStep P ev e ⟨h, h.length⟩ o with
        | none => none
        | some (pv, st) => if h.length ≤ st.lo then evT ev ops r (e.set d pv) st.h else none
/-- the second half; and the objects behind each operation -/
def evU (ev : CallE) (ops : Array Oper) : List Oper → Env → St → Option (Env × List St)
  | [], e, _ => some (e, [])
  | o :: r, e, st => match wantedE ops e o with
    | none => none
    | some false => (match evU ev ops r (setE e o.dst .skip) st with | some (e', l) => some (e', st :: l) | none => none)
    | some true => match evStep P ev e st o with
      | none => none
      | some (pv, st') => (match evU ev ops r (setE e o.dst pv) st' with | some (e', l) => some (e', st' :: l) | none => none)
variable {P}
theorem dst_of_step {ev : CallE} {ops : Array Oper} {e0 : Env} {h0 : List O} {T : List Tr} (hT : ∀ i, i < T.length → StepP P ev ops e0 h0 T i) : ∀ k t, T[k]? = some t → dstAt ops k = some t.d := fun k t ht => by
  obtain ⟨o, t', h1, h2, h3, _⟩ := hT k (List.getElem?_eq_some_iff.1 ht).1
  rw [ht] at h2; cases h2
  unfold dstAt; rw [h1]; exact h3
theorem evT_spec {ev : CallE} {ops : Array Oper} {e0 : Env} {h0 : List O} {n0 : Nat} (hst : statOk ops n0 = true) (hk : CallKeep ev) : ∀ {l : List Oper} {T : List Tr} {e' : Env} {h' : List O}, (∀ j o, l[j]? = some o → ops[T.length + j]? = some o) →
    (∀ i, i < T.length → StepP P ev ops e0 h0 T i) → evT P ev ops l (setAll e0 T) (hAt h0 T T.length) = some (e', h') → ∃ T' : List Tr, T'.length = T.length + l.length ∧ (∀ i, i < T'.length → StepP P ev ops e0 h0 T' i) ∧ e' = setAll e0 T' ∧ h' = hAt h0 T' T'.length
  | [], T, e', h', hl, hT, h => by cases h; exact ⟨T, rfl, hT, rfl, rfl⟩
  | o :: r, T, e', h', hl, hT, h => by
    have ho : ops[T.length]? = some o := hl 0 o rfl
    have hs := stat_at hst ho
    have hdT := dst_of_step hT
    simp only [evT] at h
    split at h
    · cases h
    rename_i d hd
    have hag := reads_lk fun t ht => (stat_env (e0 := e0) hs (Nat.le_refl _) hdT ht).symm
    have next : ∀ (pv : PV) (hh : List O), StepP P ev ops e0 h0 (T ++ [⟨d, pv, (clos ops).getD T.length 0, hh⟩]) T.length → evT P ev ops r ((setAll e0 T).set d pv) hh = some (e', h') →
        ∃ T' : List Tr, T'.length = T.length + (o :: r).length ∧ (∀ i, i < T'.length → StepP P ev ops e0 h0 T' i) ∧ e' = setAll e0 T' ∧ h' = hAt h0 T' T'.length := fun pv hh hsp hrun => by
      obtain ⟨T', a1, a2⟩ := evT_spec hst hk (l := r) (T := T ++ [⟨d, pv, (clos ops).getD T.length 0, hh⟩]) (e' := e') (h' := h') (fun j o' hj => by
          have := hl (j + 1) o' (by simpa using hj)
          rw [List.length_append, List.length_singleton, show T.length + 1 + j = T.length + (j + 1) by omega]; exact this)
        (fun i hi => by
          rw [List.length_append, List.length_singleton] at hi
          by_cases e : i < T.length
          · exact (hT i e).append e
          · have : i = T.length := by omega
            subst this; exact hsp)
        (by
          rw [setAll_snoc]
          have : hAt h0 (T ++ [⟨d, pv, (clos ops).getD T.length 0, hh⟩]) (T ++ [⟨d, pv, (clos ops).getD T.length 0, hh⟩] : List Tr).length = hh := by
            rw [List.length_append, List.length_singleton]; simp [hAt]
          rw [this]; exact hrun)
      exact ⟨T', by rw [a1]; simp; omega, a2⟩
    have base : ∀ t : Tr, t.d = d → t.s = (clos ops).getD T.length 0 →
        ((wantedE ops (envAt e0 T ((clos ops).getD T.length 0) (laterD (clos ops) T.length (ops.toList.drop (T.length + 1)) (T.length + 1))) o = some false ∧ t.pv = .skip ∧ t.h = hAt h0 T T.length) ∨
         (wantedE ops (envAt e0 T ((clos ops).getD T.length 0) (laterD (clos ops) T.length (ops.toList.drop (T.length + 1)) (T.length + 1))) o = some true ∧ ∃ st, evStep P ev (envAt e0 T ((clos ops).getD T.length 0) (laterD (clos ops) T.length (ops.toList.drop (T.length + 1)) (T.length + 1))) ⟨hAt h0 T T.length, (hAt h0 T T.length).length⟩ o = some (t.pv, st) ∧ (hAt h0 T T.length).length ≤ st.lo ∧ t.h = hAt h0 T T.length ++ st.h.drop (hAt h0 T T.length).length)) →
        StepP P ev ops e0 h0 (T ++ [t]) T.length := fun t htd hts hor => by
      have htk : (T ++ [t]).take T.length = T := by simp
      have hha : hAt h0 (T ++ [t]) T.length = hAt h0 T T.length := hAt_append (Nat.le_refl _)
      refine ⟨o, t, ho, by simp, by rw [hd, htd], fun k u hk hu => ?_, hs.back, hts, ?_⟩
      · rw [List.getElem?_append_left hk] at hu
        intro e
        exact hs.dst d hd k hk (by rw [hdT k u hu, e, htd])
      · rw [htk, hha, hts]; exact hor
    split at h
    · cases h
    · rename_i hw
      exact next .skip _ (base ⟨d, .skip, _, _⟩ rfl rfl (.inl ⟨by rw [← hag.2]; exact hw, rfl, rfl⟩)) h
    · rename_i hw
      split at h
      · cases h
      rename_i pv st hstep
      split at h
      · rename_i hlo
        have hkp := step_keep hk hstep
        refine next pv st.h (base ⟨d, pv, _, _⟩ rfl rfl (.inr ⟨by rw [← hag.2]; exact hw, st, ?_, hlo, hkp.eq_append hlo⟩)) h
        rw [← evStep_congr hag.1]; exact hstep
      · cases h
theorem dst_of_tail {X : Xp} {ev : CallE} {ops : Array Oper} {e0 : Env} {T : List Tr} {st0 : St} {U : List Tl} (hU : ∀ q, q < U.length → TailP P X ev ops e0 T st0 U q) : ∀ q u, U[q]? = some u → dstAt ops (T.length + q) = u.d := fun q u hu => by
  obtain ⟨o, t', h1, h2, h3, _⟩ := hU q (List.getElem?_eq_some_iff.1 hu).1
  rw [hu] at h2; cases h2
  unfold dstAt; rw [h1]; exact h3
theorem evU_spec {X : Xp} {ev : CallE} {ops : Array Oper} (hXp : X.A = (pairOf ops).1 ∧ X.B = (pairOf ops).2) {e0 : Env} {T : List Tr} {st0 : St} (hst : statOk ops T.length = true) (hdT : ∀ k t, T[k]? = some t → dstAt ops k = some t.d) : ∀ {l : List Oper} {U : List Tl} {e' : Env} {sts : List St}, (∀ j o, l[j]? = some o → ops[T.length + U.length + j]? = some o) →
    (∀ q, q < U.length → TailP P X ev ops e0 T st0 U q) → evU P ev ops l (setU (setAll e0 T) U) (stAt st0 U U.length) = some (e', sts) →
    ∃ V : List Tl, V.map (·.st) = sts ∧ V.length = l.length ∧ (∀ q, q < (U ++ V).length → TailP P X ev ops e0 T st0 (U ++ V) q) ∧ e' = setU (setAll e0 T) (U ++ V)
  | [], U, e', sts, hl, hU, h => by cases h; exact ⟨[], rfl, rfl, by simpa using hU, by simp⟩
  | o :: r, U, e', sts, hl, hU, h => by
    have ho : ops[T.length + U.length]? = some o := hl 0 o rfl
    have hs := stat_at hst ho
    have hdU := dst_of_tail hU
    have hag := reads_lk fun t ht => (stat_envT (e0 := e0) hs (Nat.le_refl _) hdT hdU ht).symm
    have next : ∀ (u : Tl) (sts' : List St), sts = u.st :: sts' → TailP P X ev ops e0 T st0 (U ++ [u]) U.length → evU P ev ops r (setE (setU (setAll e0 T) U) u.d u.pv) u.st = some (e', sts') →
        ∃ V : List Tl, V.map (·.st) = sts ∧ V.length = (o :: r).length ∧ (∀ q, q < (U ++ V).length → TailP P X ev ops e0 T st0 (U ++ V) q) ∧ e' = setU (setAll e0 T) (U ++ V) := fun u sts' hsts hsp hrun => by
      obtain ⟨V, a1, a2, a3, a4⟩ := evU_spec hXp hst hdT (l := r) (U := U ++ [u]) (e' := e') (sts := sts') (fun j o' hj => by
          have := hl (j + 1) o' (by simpa using hj)
          rw [List.length_append, List.length_singleton, show T.length + (U.length + 1) + j = T.length + U.length + (j + 1) by omega]; exact this)
        (fun i hi => by
          rw [List.length_append, List.length_singleton] at hi
          by_cases e : i < U.length
          · exact (hU i e).append e
          · have : i = U.length := by omega
            subst this; exact hsp)
        (by
          rw [setU_snoc]
          have : stAt st0 (U ++ [u]) (U ++ [u] : List Tl).length = u.st := by
            rw [List.length_append, List.length_singleton]; simp [stAt]
          rw [this]; exact hrun)
      refine ⟨u :: V, by simp [a1, hsts], by simp [a2], ?_, ?_⟩
      · rw [List.append_assoc] at a3; exact a3
      · rw [List.append_assoc] at a4; exact a4
    have base : ∀ u : Tl, u.d = o.dst → u.s = (clos ops).getD (T.length + U.length) 0 →
        ((wantedE ops (envT e0 T U ((clos ops).getD (T.length + U.length) 0) (laterD (clos ops) (T.length + U.length) (ops.toList.drop (T.length + U.length + 1)) (T.length + U.length + 1))) o = some false ∧ u.pv = .skip ∧ u.st = stAt st0 U U.length) ∨
         (wantedE ops (envT e0 T U ((clos ops).getD (T.length + U.length) 0) (laterD (clos ops) (T.length + U.length) (ops.toList.drop (T.length + U.length + 1)) (T.length + U.length + 1))) o = some true ∧ evStep P ev (envT e0 T U ((clos ops).getD (T.length + U.length) 0) (laterD (clos ops) (T.length + U.length) (ops.toList.drop (T.length + U.length + 1)) (T.length + U.length + 1))) (stAt st0 U U.length) o = some (u.pv, u.st))) →
        TailP P X ev ops e0 T st0 (U ++ [u]) U.length := fun u hud hus hor => by
      have htk : (U ++ [u]).take U.length = U := by simp
      have hha : stAt st0 (U ++ [u]) U.length = stAt st0 U U.length := stAt_append (Nat.le_refl _)
      refine ⟨o, u, ho, by simp, hud.symm, fun d hd => ⟨fun t ht e => ?_, fun k v hk hv e => ?_⟩, hs.back, hus, fun hf k hk hsk => by rw [hus, hXp.1, hXp.2]; exact hs.sens (by omega) hf k hk hsk, ?_⟩
      · obtain ⟨k, hk, rfl⟩ := List.mem_iff_getElem.1 ht
        exact hs.dst d (by rw [← hud, hd]) k (by omega) (by rw [hdT k T[k] (by simp), e])
      · rw [List.getElem?_append_left hk] at hv
        exact hs.dst d (by rw [← hud, hd]) (T.length + k) (by omega) (by rw [hdU k v hv, e])
      · rw [htk, hha, hus]; exact hor
    simp only [evU] at h
    split at h
    · cases h
    · rename_i hw
      split at h
      · rename_i e1 l1 hrun
        cases h
        exact next ⟨o.dst, .skip, (clos ops).getD (T.length + U.length) 0, stAt st0 U U.length⟩ l1 rfl (base _ rfl rfl (.inl ⟨by rw [← hag.2]; exact hw, rfl, rfl⟩)) hrun
      · cases h
    · rename_i hw
      split at h
      · cases h
      rename_i pv st' hstep
      split at h
      · rename_i e1 l1 hrun
        cases h
        refine next ⟨o.dst, pv, (clos ops).getD (T.length + U.length) 0, st'⟩ l1 rfl (base _ rfl rfl (.inr ⟨by rw [← hag.2]; exact hw, ?_⟩)) hrun
        rw [← evStep_congr hag.1]; exact hstep
      · cases h
end Ev
end Go.Proofs.Ytepianllbfnpoaa

/- Fx: a run of Go code that the kernel computes fast. Third part: memory, slots, operands, operations that only reckon. No program. -/
import Derived.Test.YtmjonmahecdngaaFx2
namespace Go.Proofs.Ytmjonmahecdngaa
open Go.RowKit Ev
namespace Fx
variable {P : Program} {β : Type}

/-! ### memory -/
structure FSt where
  h : TR FO 4
  n : Nat
  lo : Nat
def FSt.st (fs : FSt) : St := ⟨(List.range fs.n).map fun i => (get 4 i fs.h).o, fs.lo⟩
structure FSt.ok (fs : FSt) : Prop where
  n : fs.n ≤ 4096
  obj : ∀ i, i < fs.n → (get 4 i fs.h).ok
def deadO : FO := ⟨0, .bs 0, 0, false, false, false⟩
def st0 : FSt := ⟨all deadO 4, 0, 0⟩
theorem st0_ok : st0.ok := ⟨by decide, fun i h => by cases h⟩
theorem st_len (fs : FSt) : fs.st.h.length = fs.n := by simp [FSt.st]
theorem st_get (fs : FSt) {i : Nat} (h : i < fs.n) : fs.st.h[i]? = some (get 4 i fs.h).o := by simp [FSt.st, h]
def get4 (i : Nat) (t : TR FO 4) : FO := get 4 i t
def push (fs : FSt) (fo : FO) : FSt := ⟨set 4 fs.n fo fs.h, fs.n + 1, fs.lo⟩
def setO (fs : FSt) (i : Nat) (fo : FO) (lo : Nat) : FSt := ⟨set 4 i fo fs.h, fs.n, lo⟩
def minF (a b : Nat) : Nat := if Nat.ble a b then a else b
theorem minF_eq (a b : Nat) : minF a b = min a b := by
  unfold minF
  split
  · rename_i h; have : a ≤ b := by simpa using h
    omega
  · rename_i h; have : ¬ a ≤ b := by simpa using h
    omega
theorem push_st {fs : FSt} (h : fs.n < 4096) (fo : FO) : (push fs fo).st = ⟨fs.st.h ++ [fo.o], fs.lo⟩ := by
  unfold FSt.st push
  congr 1
  refine List.ext_getElem? fun j => ?_
  by_cases hj : j < fs.n
  · rw [List.getElem?_append_left (by simpa using hj)]
    have : j < fs.n + 1 := by omega
    simp only [List.getElem?_map, List.getElem?_range hj, List.getElem?_range this, Option.map_some]
    rw [get_ne 4 fo fs.h (i := fs.n) (j := j) h (show j < 8 ^ 4 by have : (8 : Nat) ^ 4 = 4096 := rfl; omega) (by omega)]
  · by_cases e : j = fs.n
    · subst e
      rw [List.getElem?_append_right (by simp)]
      have : fs.n < fs.n + 1 := by omega
      simp only [List.getElem?_map, List.getElem?_range this, Option.map_some, List.length_map, List.length_range, Nat.sub_self]
      rw [get_set 4 fo fs.h h]; rfl
    · rw [List.getElem?_eq_none (by simp; omega), List.getElem?_eq_none (by simp; omega)]
theorem push_ok {fs : FSt} (hok : fs.ok) (h : fs.n < 4096) {fo : FO} (hf : fo.ok) : (push fs fo).ok := by
  refine ⟨h, fun i hi => ?_⟩
  have hi : i < fs.n + 1 := hi
  show (get 4 i (set 4 fs.n fo fs.h)).ok
  by_cases e : i = fs.n
  · subst e; rw [get_set 4 fo fs.h h]; exact hf
  · rw [get_ne 4 fo fs.h (i := fs.n) (j := i) h (show i < 8 ^ 4 by have : (8 : Nat) ^ 4 = 4096 := rfl; omega) e]
    exact hok.obj i (by omega)
theorem set_st {fs : FSt} (hok : fs.ok) {i : Nat} (h : i < fs.n) (fo : FO) (lo : Nat) : (setO fs i fo lo).st = ⟨fs.st.h.set i fo.o, lo⟩ := by
  have e4 : (8 : Nat) ^ 4 = 4096 := rfl
  have hn := hok.n
  unfold FSt.st setO
  congr 1
  refine List.ext_getElem? fun j => ?_
  by_cases hj : j < fs.n
  · simp only [List.getElem?_map, List.getElem?_range hj, Option.map_some]
    by_cases e : j = i
    · subst e
      rw [get_set 4 fo fs.h (by omega), List.getElem?_set_self (by simpa using hj)]
    · rw [get_ne 4 fo fs.h (by omega) (by omega) e, List.getElem?_set_ne (by omega)]
      simp [hj]
  · rw [List.getElem?_eq_none (by simp; omega), List.getElem?_eq_none (by simp; omega)]
theorem set_ok {fs : FSt} (hok : fs.ok) {i : Nat} (h : i < fs.n) {fo : FO} (hf : fo.ok) (lo : Nat) : (setO fs i fo lo).ok := by
  have e4 : (8 : Nat) ^ 4 = 4096 := rfl
  have hn := hok.n
  refine ⟨hok.n, fun j hj => ?_⟩
  have hj : j < fs.n := hj
  show (get 4 j (set 4 i fo fs.h)).ok
  by_cases e : j = i
  · subst e; rw [get_set 4 fo fs.h (by omega)]; exact hf
  · rw [get_ne 4 fo fs.h (by omega) (by omega) e]; exact hok.obj j hj
theorem lo_st (fs : FSt) (lo : Nat) : (FSt.mk fs.h fs.n lo).st = ⟨fs.st.h, lo⟩ := rfl
theorem lo_ok {fs : FSt} (h : fs.ok) (lo : Nat) : (FSt.mk fs.h fs.n lo).ok := ⟨h.n, h.obj⟩

/-! ### slots -/
abbrev FE := TR FV 3
abbrev Kont (β : Type) := FV → FSt → Option β
abbrev Step (β : Type) := FE → FSt → Kont β → Option β
def absE (n : Nat) (fe : FE) : Env := (List.range n).map fun t => abs (get 3 t fe)
theorem absE_len (n : Nat) (fe : FE) : (absE n fe).length = n := by simp [absE]
theorem absE_get {n t : Nat} (fe : FE) (h : t < n) : (absE n fe)[t]? = some (abs (get 3 t fe)) := by simp [absE, h]
theorem absE_set {n t : Nat} (hn : n ≤ 512) (fe : FE) (v : FV) : absE n (set 3 t v fe) = if t < n then (absE n fe).set t (abs v) else absE n (set 3 t v fe) := by
  split
  · rename_i h
    have e3 : (8 : Nat) ^ 3 = 512 := rfl
    refine List.ext_getElem? fun j => ?_
    by_cases hj : j < n
    · rw [absE_get _ hj]
      by_cases e : j = t
      · subst e
        rw [get_set 3 v fe (by omega), List.getElem?_set_self (by rw [absE_len]; exact hj)]
      · rw [get_ne 3 v fe (by omega) (by omega) e, List.getElem?_set_ne (by omega), absE_get _ hj]
    · rw [List.getElem?_eq_none (by rw [absE_len]; omega), List.getElem?_eq_none (by rw [List.length_set, absE_len]; omega)]
  · rfl
/-- a place's look and its writing, made ready -/
def selK {γ : Type} {α : Type} (k : Nat) (K : (N8 α → α) → γ) : γ := match k with
  | 0 => K N8.a0
  | 1 => K N8.a1
  | 2 => K N8.a2
  | 3 => K N8.a3
  | 4 => K N8.a4
  | 5 => K N8.a5
  | 6 => K N8.a6
  | _ => K N8.a7
theorem selK_eq {γ α : Type} (k : Nat) (K : (N8 α → α) → γ) : selK k K = K (sel k) := by
  unfold selK
  split <;> first | rfl | skip
  rename_i h0 h1 h2 h3 h4 h5 h6
  congr 1
  funext t
  unfold sel
  split <;> first | rfl | (exfalso; simp_all)
def updK {γ : Type} {α : Type} (k : Nat) (K : ((α → α) → N8 α → N8 α) → γ) : γ := match k with
  | 0 => K u0
  | 1 => K u1
  | 2 => K u2
  | 3 => K u3
  | 4 => K u4
  | 5 => K u5
  | 6 => K u6
  | _ => K u7
theorem updK_eq {γ α : Type} (k : Nat) (K : ((α → α) → N8 α → N8 α) → γ) : updK k K = K (upd k) := by
  unfold updK
  split <;> first | rfl | skip
  rename_i h0 h1 h2 h3 h4 h5 h6
  congr 1
  funext f t
  unfold upd
  split <;> first | rfl | (exfalso; simp_all)
def accK {γ : Type} (t : Nat) (K : (FE → FV) → γ) : γ :=
  selK (α := TR FV 2) (t / 64) fun p2 => selK (α := TR FV 1) (t % 64 / 8) fun p1 => selK (α := FV) (t % 64 % 8) fun p0 => K fun e => p0 (p1 (p2 e))
theorem accK_eq {γ : Type} (t : Nat) (K : (FE → FV) → γ) : accK t K = K (get 3 t) := by
  unfold accK
  simp only [selK_eq]
  congr 1
  funext e
  show sel (t % 64 % 8) (sel (t % 64 / 8) (sel (t / 64) e)) = sel (t % 8 ^ 2 % 8 ^ 1 / 8 ^ 0) (sel (t % 8 ^ 2 / 8 ^ 1) (sel (t / 8 ^ 2) e))
  simp
def putK {γ : Type} (t : Nat) (K : (FV → FE → FE) → γ) : γ :=
  updK (α := TR FV 2) (t / 64) fun p2 => updK (α := TR FV 1) (t % 64 / 8) fun p1 => updK (α := FV) (t % 64 % 8) fun p0 => K fun v e => p2 (p1 (p0 fun _ => v)) e
theorem putK_eq {γ : Type} (t : Nat) (K : (FV → FE → FE) → γ) : putK t K = K (set 3 t) := by
  unfold putK
  simp only [updK_eq]
  congr 1
  funext v e
  show upd (t / 64) (upd (t % 64 / 8) (upd (t % 64 % 8) fun _ => v)) e = upd (t / 8 ^ 2) (set 2 (t % 8 ^ 2) v) e
  have h1 : (upd (α := FV) (t % 64 % 8) (fun _ => v) : TR FV 1 → TR FV 1) = set 1 (t % 8 ^ 2 % 8 ^ 1) v := by
    funext e2
    show upd (t % 64 % 8) (fun _ => v) e2 = upd (t % 8 ^ 2 % 8 ^ 1 / 8 ^ 0) (fun _ => v) e2
    simp only [Nat.pow_zero, Nat.div_one]
  have h2 : (upd (α := TR FV 1) (t % 64 / 8) (upd (α := FV) (t % 64 % 8) fun _ => v) : TR FV 2 → TR FV 2) = set 2 (t % 8 ^ 2) v := by
    funext e1
    exact congrArg (fun f : TR FV 1 → TR FV 1 => upd (α := TR FV 1) (t % 64 / 8) f e1) h1
  exact congrArg (fun f : TR FV 2 → TR FV 2 => upd (α := TR FV 2) (t / 64) f e) h2
def opdK {γ : Type} (n : Nat) (x : Operand) (K : (FE → FV) → Option γ) : Option γ := match x with
  | .tmp t => if Nat.blt t n then accK t K else none
  | .const v => (match ofValue v with
    | some s => K fun _ => toFV (ofS s)
    | none => none)
  | .func f => K fun _ => .c (.o (.fn f []))
  | .global _ => none
theorem opdK_spec {γ : Type} {n : Nat} {x : Operand} {K : (FE → FV) → Option γ} {f : γ} (h : opdK n x K = some f) : ∃ g, K g = some f ∧ ∀ fe', lk (absE n fe') x = some (abs (g fe')) := by
  cases x with
  | tmp t =>
    cases ht : Nat.blt t n with
    | true =>
      simp only [opdK, ht, if_true] at h
      rw [accK_eq] at h
      exact ⟨_, h, fun fe' => absE_get fe' (by simpa [Nat.blt_eq] using ht)⟩
    | false => simp only [opdK, ht, Bool.false_eq_true, if_false] at h; cases h
  | const v =>
    cases hs : ofValue v with
    | some s =>
      simp only [opdK, hs] at h
      refine ⟨_, h, fun fe' => ?_⟩
      simp only [lk, hs, abs_toFV, absS_ofS]
    | none => simp only [opdK, hs] at h; cases h
  | func f => exact ⟨_, h, fun fe' => rfl⟩
  | global g => cases h
/-- what is known of operands -/
def flk (n : Nat) (fe : FE) : Look := fun x => match x with
  | .tmp t => if Nat.blt t n then some (abs (get 3 t fe)) else none
  | .const v => (match ofValue v with
    | some s => some (.s s)
    | none => none)
  | .func f => some (.s (.c (.fn f [])))
  | .global _ => none
theorem flk_eq (n : Nat) (fe : FE) : flk n fe = lk (absE n fe) := by
  funext x
  cases x with
  | tmp t =>
    simp only [flk, lk]
    split
    · rename_i h; rw [absE_get fe (by simpa [Nat.blt_eq] using h)]
    · rename_i h; rw [List.getElem?_eq_none]; rw [absE_len]; simpa [Nat.blt_eq] using h
  | const v => rfl
  | func f => rfl
  | global g => rfl

/-! ### an operation, done so -/
def Rf (n : Nat) (g : Look → St → Option (PV × St)) (f : Step β) : Prop := ∀ fe fs k r, fs.ok → f fe fs k = some r → ∃ v fs', fs'.ok ∧ g (lk (absE n fe)) fs.st = some (abs v, fs'.st) ∧ k v fs' = some r
/-- operations that only reckon: whatever the objects -/
theorem pure_st {e : Look} {o : Oper} {pv : PV} {st1 : St} (hk : pureK o.op = true) (h : evOp P e ⟨[], 0⟩ o = some (pv, st1)) (st : St) : evOp P e st o = some (pv, st) := by
  have dryc : ∀ {st1 : St}, (match evDry P e o with | some pv => some (pv, (⟨[], 0⟩ : St)) | none => none) = some (pv, st1) → (match evDry P e o with | some pv => some (pv, st) | none => none) = some (pv, st) := fun h => by
    split at h
    · cases h; rfl
    · cases h
  unfold evOp at h ⊢
  split at h
  all_goals first
    | (rename_i ho; rw [ho] at hk; cases hk; done)
    | skip
  all_goals
    first
      | exact dryc h
      | (repeat' split at h
         all_goals first
           | (cases h; done)
           | exact dryc h
           | (cases h; first | rfl | simp_all))
/-- any such -/
def genF (P : Program) (n : Nat) (o : Oper) : Step β := fun fe fs k => if pureK o.op then (match evOp P (flk n fe) ⟨[], 0⟩ o with
  | some (pv, _) => k (ofPV pv) fs
  | none => none) else none
theorem gen_rf (n : Nat) (o : Oper) : Rf n (evOp P · · o) (genF P n o : Step β) := fun fe fs k r hok h => by
  unfold genF at h
  split at h
  · rename_i hp
    split at h
    · rename_i pv st1 hev
      rw [flk_eq] at hev
      exact ⟨ofPV pv, fs, hok, by rw [abs_ofPV]; exact pure_st hp hev _, h⟩
    · cases h
  · cases h
end Fx
end Go.Proofs.Ytmjonmahecdngaa

/- Fx: a run of Go code that the kernel computes fast. Seventh part: any operation; regions; code; functions. No program. -/
import Derived.Test.YtepianllbfnpoaaGreatFx6
namespace Go.Proofs.YtepianllbfnpoaaGreat
open Go.RowKit Ev
namespace Fx
variable {P : Program} {β : Type}

def binP (P : Program) (n : Nat) (o : Oper) (op : BinOp) (x y : Operand) : Option (Step β) := opdK n x fun gx => opdK n y fun gy => some (opBinF P n o op gx gy)
def appP (P : Program) (n : Nat) (args : Array Operand) (ts : Array TypeId) : Option (Step β) := match args.toList, ts.toList with
  | [s, x], [T, T'] => opdK n s fun gs => opdK n x fun gx => if T = T' then opAppF P T gs gx else opAppZF P T T' gs gx
  | _, _ => none
def lenP (P : Program) (n : Nat) (o : Oper) (args : Array Operand) (ts : Array TypeId) : Option (Step β) := match args.toList, ts[0]? with
  | [x], some T => opdK n x (opLenF P n o T)
  | _, _ => none
def copyP (P : Program) (n : Nat) (args : Array Operand) (ts : Array TypeId) : Option (Step β) := match args.toList, ts[0]? with
  | [d, x], some T => opdK n d fun gd => opdK n x fun gx => opCopyF P T gd gx
  | _, _ => none
/-- any operation but a call of a function, made ready -/
def planO (P : Program) (n : Nat) (o : Oper) : Option (Step β) := match o.op with
  | .move x => opdK n x fun g => some (opMoveF g)
  | .assign x => opdK n x fun g => some (opMoveF g)
  | .pick c x y => opdK n c fun gc => opdK n x fun gx => opdK n y fun gy => some (opPickF P n o gc gx gy)
  | .alloc T => opAllocF P T
  | .box T x => opdK n x fun g => some (opBoxF T g)
  | .load T x => opdK n x (opLoadF P T)
  | .store T x y => opdK n x fun gx => opdK n y fun gy => opStoreF P T gx gy
  | .nilCheck x => opdK n x fun g => some (opNilF P n o g)
  | .fieldAddr T x f => opdK n x (opFieldAddrF P T f)
  | .field T x f => opdK n x (opFieldF P T f)
  | .indexAddr T x y => opdK n x fun gx => opdK n y fun gy => opIndexAddrF P n o T gx gy
  | .index T x y => opdK n x fun gx => opdK n y fun gy => opIndexF P n o T gx gy
  | .slice T x lo hi none => opdK n x fun gx => optK n lo fun gl => optK n hi fun gh => some (opSliceF P n o T gx gl gh)
  | .makeSlice T x y => opdK n x fun gx => opdK n y fun gy => opMakeF P T gx gy
  | .buildSlice T m ps => some (opBuildF P n T m ps.toList)
  | .extract x j => opdK n x fun g => some (opExtractF P n o j g)
  | .convert s d x => opdK n x (opConvF P n o s d)
  | .binOp op _ x y _ => binP P n o op x y
  | .call { callee := .builtin .len, args := args, argTypes := ts } => lenP P n o args ts
  | .call { callee := .builtin .append, args := args, argTypes := ts } => appP P n args ts
  | .call { callee := .builtin .copy, args := args, argTypes := ts } => copyP P n args ts
  | _ => some (genF P n o)
theorem two {α : Type} {a : Array α} {x y : α} (h : a.toList = [x, y]) : a = #[x, y] := by apply Array.ext'; simpa using h
theorem plan_rf {n : Nat} {o : Oper} {f : Step β} (h : planO P n o = some f) : Rf n (evOp P · · o) f := by
  unfold planO at h
  split at h
  · rename_i x ho; obtain ⟨g, h1, h2⟩ := opdK_spec h; cases h1; exact opMove_rf (.inl ho) h2
  · rename_i x ho; obtain ⟨g, h1, h2⟩ := opdK_spec h; cases h1; exact opMove_rf (.inr ho) h2
  · rename_i c x y ho
    obtain ⟨g, h1, h2⟩ := opdK_spec h
    obtain ⟨g', h3, h4⟩ := opdK_spec h1
    obtain ⟨g'', h5, h6⟩ := opdK_spec h3
    cases h5; exact opPick_rf ho h2 h4 h6
  · rename_i T ho; exact opAlloc_rf ho h
  · rename_i T x ho; obtain ⟨g, h1, h2⟩ := opdK_spec h; cases h1; exact opBox_rf ho h2
  · rename_i T x ho; obtain ⟨g, h1, h2⟩ := opdK_spec h; exact opLoad_rf ho h2 h1
  · rename_i T x y ho
    obtain ⟨g, h1, h2⟩ := opdK_spec h
    obtain ⟨g', h3, h4⟩ := opdK_spec h1
    exact opStore_rf ho h2 h4 h3
  · rename_i x ho; obtain ⟨g, h1, h2⟩ := opdK_spec h; cases h1; exact opNil_rf ho h2
  · rename_i T x fd ho; obtain ⟨g, h1, h2⟩ := opdK_spec h; exact opFieldAddr_rf ho h2 h1
  · rename_i T x fd ho; obtain ⟨g, h1, h2⟩ := opdK_spec h; exact opField_rf ho h2 h1
  · rename_i T x y ho
    obtain ⟨g, h1, h2⟩ := opdK_spec h
    obtain ⟨g', h3, h4⟩ := opdK_spec h1
    exact opIndexAddr_rf ho h2 h4 h3
  · rename_i T x y ho
    obtain ⟨g, h1, h2⟩ := opdK_spec h
    obtain ⟨g', h3, h4⟩ := opdK_spec h1
    exact opIndex_rf ho h2 h4 h3
  · rename_i T x lo hi ho
    obtain ⟨g, h1, h2⟩ := opdK_spec h
    obtain ⟨g', h3, h4⟩ := optK_spec h1
    obtain ⟨g'', h5, h6⟩ := optK_spec h3
    cases h5; exact opSlice_rf ho h2 h4 h6
  · rename_i T x y ho
    obtain ⟨g, h1, h2⟩ := opdK_spec h
    obtain ⟨g', h3, h4⟩ := opdK_spec h1
    exact opMake_rf ho h2 h4 h3
  · rename_i T m ps ho; cases h; exact opBuild_rf ho
  · rename_i x j ho; obtain ⟨g, h1, h2⟩ := opdK_spec h; cases h1; exact opExtract_rf ho h2
  · rename_i s d x ho; obtain ⟨g, h1, h2⟩ := opdK_spec h; exact opConv_rf ho h2 h1
  · rename_i op T x y T' ho
    obtain ⟨g, h1, h2⟩ := opdK_spec h
    obtain ⟨g', h3, h4⟩ := opdK_spec h1
    cases h3; exact opBin_rf ho h2 h4
  · rename_i args ts ho
    unfold lenP at h
    split at h
    · rename_i x T hargs hts
      obtain ⟨g, h1, h2⟩ := opdK_spec h
      have ha : args = #[x] := by apply Array.ext'; simpa using hargs
      subst ha
      exact opLen_rf ho hts h2 h1
    · cases h
  · rename_i args ts ho
    unfold appP at h
    split at h
    · rename_i s x T T' hargs hts
      obtain ⟨g, h1, h2⟩ := opdK_spec h
      obtain ⟨g', h3, h4⟩ := opdK_spec h1
      have ha := two hargs
      have ht := two hts
      subst ha; subst ht
      split at h3
      · rename_i e; subst e; exact opApp_rf ho h2 h4 h3
      · rename_i e; exact opAppZ_rf e ho h2 h4 h3
    · cases h
  · rename_i args ts ho
    unfold copyP at h
    split at h
    · rename_i d x T hargs hts
      obtain ⟨g, h1, h2⟩ := opdK_spec h
      obtain ⟨g', h3, h4⟩ := opdK_spec h1
      have ha := two hargs
      subst ha
      exact opCopy_rf ho hts h2 h4 h3
    · cases h
  · cases h; exact gen_rf n o

/-! ### calls -/
abbrev FCall (β : Type) := FuncId → List FV → FSt → Kont β → Option β
abbrev CStep (β : Type) := FCall β → Step β
abbrev RunT (β : Type) := FCall β → FE → FSt → (FE → FSt → Option β) → Option β
def FCallOk (ev : CallE) (fev : FCall β) : Prop := ∀ F args fs k r, fs.ok → fev F args fs k = some r → ∃ v fs', fs'.ok ∧ ev F (args.map abs) fs.st = some (abs v, fs'.st) ∧ k v fs' = some r
def opdsK {γ : Type} (n : Nat) : List Operand → (List (FE → FV) → Option γ) → Option γ
  | [], K => K []
  | x :: r, K => opdK n x fun g => opdsK n r fun gs => K (g :: gs)
theorem opdsK_spec {γ : Type} {n : Nat} : ∀ {l : List Operand} {K : List (FE → FV) → Option γ} {f : γ}, opdsK n l K = some f → ∃ gs, K gs = some f ∧ ∀ fe, all? (evX (lk (absE n fe))) l = some ((gs.map fun q => q fe).map abs)
  | [], K, f, h => ⟨[], h, fun _ => rfl⟩
  | x :: r, K, f, h => by
    obtain ⟨g, h1, h2⟩ := opdK_spec h
    obtain ⟨gs, h3, h4⟩ := opdsK_spec h1
    refine ⟨g :: gs, h3, fun fe => ?_⟩
    have e : evX (lk (absE n fe)) x = some (abs (g fe)) := h2 fe
    simp only [all?, e, h4 fe, List.map_cons]
def capF (p : Nat × Nat) : FV := .c (.p p.1 p.2)
def callAt (P : Program) (gf : FE → FV) (gs : List (FE → FV)) : CStep β := fun fev fe fs k => match gf fe with
  | .c (.o (.fn g caps)) => if hasBody P g then fev g ((gs.map fun q => q fe) ++ caps.map capF) fs k else none
  | .c (.o (.mt g i off)) => if hasBody P g then fev g (.c (.p i off) :: gs.map fun q => q fe) fs k else none
  | _ => none
def callTo (g : FuncId) (gs : List (FE → FV)) : CStep β := fun fev fe fs k => fev g (gs.map fun q => q fe) fs k
def callP (P : Program) (n : Nat) (c : Call) : Option (CStep β) := match c.callee with
  | .value (.func g) => if hasBody P g then opdsK n c.args.toList fun gs => some (callTo g gs) else none
  | .value f => opdK n f fun gf => opdsK n c.args.toList fun gs => some (callAt P gf gs)
  | _ => none
def stepP (P : Program) (n : Nat) (o : Oper) : Option (CStep β) := match o.op with
  | .call c => (match c.callee with
    | .builtin _ => (match planO P n o with
      | some s => some fun _ => s
      | none => none)
    | _ => callP P n c)
  | _ => (match planO P n o with
    | some s => some fun _ => s
    | none => none)
theorem step_rf {ev : CallE} {fev : FCall β} (hev : FCallOk ev fev) {n : Nat} {o : Oper} {f : CStep β} (h : stepP P n o = some f) : Rf n (evStep P ev · · o) (f fev) := by
  intro fe fs k r hok hr
  have old : ∀ {s : Step β}, planO P n o = some s → s fe fs k = some r → (∀ c, o.op = .call c → ∃ b, c.callee = .builtin b) → ∃ v fs', fs'.ok ∧ evStep P ev (lk (absE n fe)) fs.st o = some (abs v, fs'.st) ∧ k v fs' = some r := fun {s} hs hr hb => by
    obtain ⟨v, fs', g1, g2, g3⟩ := plan_rf hs fe fs k r hok hr
    refine ⟨v, fs', g1, ?_, g3⟩
    rw [evStep_old]
    unfold evStepO
    split
    · rename_i c ho
      obtain ⟨b, hb⟩ := hb c ho
      rw [hb]; exact g2
    · exact g2
  unfold stepP at h
  split at h
  · rename_i c ho
    split at h
    · rename_i b hb
      split at h
      · rename_i s hs
        cases h
        exact old hs hr fun c' hc' => by rw [ho] at hc'; cases hc'; exact ⟨b, hb⟩
      · cases h
    · rename_i hnb
      unfold callP at h
      have step : ∀ {g : FuncId} {pvs : List PV} {pv : PV} {st' : St}, evTarget (lk (absE n fe)) c = some (g, pvs) → hasBody P g = true → ev g pvs fs.st = some (pv, st') → evStep P ev (lk (absE n fe)) fs.st o = some (pv, st') := fun ht hb he => by
        rw [evStep_old]
        unfold evStepO
        rw [ho]
        cases hcl : c.callee with
        | builtin b => exact (hnb b hcl).elim
        | value f => simp only [ht, hb, if_true]; exact he
        | invoke r m => simp only [ht, hb, if_true]; exact he
      split at h
      · rename_i g hg
        split at h
        · rename_i hb
          obtain ⟨gs, h1, h2⟩ := opdsK_spec h
          cases h1
          obtain ⟨v, fs', g1, g2, g3⟩ := hev _ _ _ _ _ hok hr
          refine ⟨v, fs', g1, step ?_ hb g2, g3⟩
          unfold evTarget
          rw [hg]
          have e : cellX (lk (absE n fe)) (.func g) = some (.fn g []) := rfl
          simp only [e, h2 fe, List.map_nil, List.append_nil]
        · cases h
      · rename_i f' a1 a2
        obtain ⟨gf, h1, h2⟩ := opdK_spec h
        obtain ⟨gs, h3, h4⟩ := opdsK_spec h1
        cases h3
        unfold callAt at hr
        split at hr
        · rename_i g caps hgf
          split at hr
          · rename_i hb
            obtain ⟨v, fs', g1, g2, g3⟩ := hev _ _ _ _ _ hok hr
            refine ⟨v, fs', g1, step ?_ hb g2, g3⟩
            unfold evTarget
            first | rw [a1] | rw [a2]
            have e : cellX (lk (absE n fe)) f' = some (.fn g caps) := cellX_of (by rw [h2 fe, hgf] : lk (absE n fe) f' = some (abs (.c (.o (.fn g caps)))))
            simp only [e, h4 fe, List.map_append, List.map_map]
            rfl
          · cases hr
        · rename_i g i off hgf
          split at hr
          · rename_i hb
            obtain ⟨v, fs', g1, g2, g3⟩ := hev _ _ _ _ _ hok hr
            refine ⟨v, fs', g1, step ?_ hb g2, g3⟩
            unfold evTarget
            first | rw [a1] | rw [a2]
            have e : cellX (lk (absE n fe)) f' = some (.mt g i off) := cellX_of (by rw [h2 fe, hgf] : lk (absE n fe) f' = some (abs (.c (.o (.mt g i off)))))
            simp only [e, h4 fe, List.map_cons]
            rfl
          · cases hr
        · cases hr
      · cases h
  · rename_i hnc
    split at h
    · rename_i s hs
      cases h
      exact old hs hr fun c hc => (hnc c hc).elim
    · cases h

/-! ### one behind the other -/
def putO {γ : Type} (n : Nat) (d : Option Tmp) (K : (FV → FE → FE) → Option γ) : Option γ := match d with
  | none => K fun _ fe => fe
  | some t => if Nat.blt t n then putK t K else none
theorem putO_spec {γ : Type} {n : Nat} (hn : n ≤ 512) {d : Option Tmp} {K : (FV → FE → FE) → Option γ} {f : γ} (h : putO n d K = some f) : ∃ put, K put = some f ∧ ∀ v fe, absE n (put v fe) = setE (absE n fe) d (abs v) := by
  unfold putO at h
  split at h
  · exact ⟨_, h, fun _ _ => rfl⟩
  · rename_i t
    cases ht : Nat.blt t n with
    | false => rw [ht] at h; simp at h
    | true =>
      simp only [ht, if_true] at h
      rw [putK_eq] at h
      have ht : t < n := by simpa [Nat.blt_eq] using ht
      exact ⟨_, h, fun v fe => by rw [absE_set hn, if_pos ht]; rfl⟩
def wantF (v : FV) (want : Bool) : Option Bool := match v with
  | .c (.b b) => some (b == want)
  | .skip => some false
  | _ => none
def oneAt (s : CStep β) (put : FV → FE → FE) : RunT β := fun fev fe fs k => s fev fe fs fun v fs' => k (put v fe) fs'
def oneIf (s : CStep β) (g : FE → FV) (want : Bool) (put : FV → FE → FE) : RunT β := fun fev fe fs k => match wantF (g fe) want with
  | some true => s fev fe fs fun v fs' => k (put v fe) fs'
  | some false => k (put .skip fe) fs
  | none => none
def oneP (P : Program) (n : Nat) (ops : Array Oper) (o : Oper) : Option (RunT β) := match stepP P n o with
  | none => none
  | some s => (match o.guard with
    | none => putO n o.dst fun put => some (oneAt s put)
    | some (j, want) => (match Flow.dstOf ops j with
      | none => none
      | some d => if Nat.blt d n then accK d fun g => putO n o.dst fun put => some (oneIf s g want put) else none))
/-- an operation: passed over, or done -/
def One1 (P : Program) (ev : CallE) (ops : Array Oper) (o : Oper) (e : Env) (st : St) (e' : Env) (st' : St) : Prop :=
  (wantedE ops e o = some false ∧ e' = setE e o.dst .skip ∧ st' = st) ∨ (wantedE ops e o = some true ∧ ∃ pv, evStep P ev e st o = some (pv, st') ∧ e' = setE e o.dst pv)
def RunOk (n : Nat) (g : Env → St → Env → St → Prop) (fev : FCall β) (f : RunT β) : Prop := ∀ fe fs k r, fs.ok → f fev fe fs k = some r → ∃ fe' fs', fs'.ok ∧ g (absE n fe) fs.st (absE n fe') fs'.st ∧ k fe' fs' = some r
theorem one_rf {ev : CallE} {fev : FCall β} (hev : FCallOk ev fev) {n : Nat} (hn : n ≤ 512) {ops : Array Oper} {o : Oper} {f : RunT β} (h : oneP P n ops o = some f) : RunOk n (One1 P ev ops o) fev f := by
  unfold oneP at h
  split at h
  · cases h
  rename_i s hs
  have hst := step_rf hev hs
  split at h
  · rename_i hg
    obtain ⟨put, h1, h2⟩ := putO_spec hn h
    cases h1
    intro fe fs k r hok hr
    obtain ⟨v, fs', g1, g2, g3⟩ := hst fe fs _ r hok hr
    refine ⟨put v fe, fs', g1, .inr ⟨by simp [wantedE, hg], _, g2, h2 _ _⟩, g3⟩
  · rename_i j want hg
    split at h
    · cases h
    rename_i d hd
    cases hdn : Nat.blt d n with
    | false => rw [hdn] at h; simp at h
    | true =>
      simp only [hdn, if_true] at h
      rw [accK_eq] at h
      obtain ⟨put, h1, h2⟩ := putO_spec hn h
      cases h1
      have hdn : d < n := by simpa [Nat.blt_eq] using hdn
      intro fe fs k r hok hr
      have hw : ∀ b, wantF (get 3 d fe) want = some b → wantedE ops (absE n fe) o = some b := fun b hb => by
        unfold wantedE
        simp only [hg, hd, absE_get fe hdn]
        unfold wantF at hb
        split at hb
        · rename_i b' e; rw [e]; cases hb; rfl
        · rename_i e; rw [e]; cases hb; rfl
        · cases hb
      unfold oneIf at hr
      split at hr
      · rename_i hb
        obtain ⟨v, fs', g1, g2, g3⟩ := hst fe fs _ r hok hr
        exact ⟨put v fe, fs', g1, .inr ⟨hw _ hb, _, g2, h2 _ _⟩, g3⟩
      · rename_i hb
        exact ⟨put .skip fe, fs, hok, .inl ⟨hw _ hb, h2 _ _, rfl⟩, hr⟩
      · cases hr
def seqP (P : Program) (n : Nat) (ops : Array Oper) : List Oper → Option (RunT β)
  | [] => some fun _ fe fs k => k fe fs
  | o :: r => match oneP P n ops o with
    | none => none
    | some f => match seqP P n ops r with
      | none => none
      | some g => some fun fev fe fs k => f fev fe fs fun fe' fs' => g fev fe' fs' k
theorem seq_rf {ev : CallE} {fev : FCall β} (hev : FCallOk ev fev) {n : Nat} (hn : n ≤ 512) {ops : Array Oper} : ∀ {l : List Oper} {f : RunT β}, seqP P n ops l = some f → RunOk n (fun e st e' st' => evSeq P ev ops l e st = some (e', st')) fev f
  | [], f, h => by cases h; exact fun fe fs k r hok hr => ⟨fe, fs, hok, rfl, hr⟩
  | o :: l, f, h => by
    simp only [seqP] at h
    split at h
    · cases h
    rename_i f1 h1
    split at h
    · cases h
    rename_i f2 h2
    cases h
    intro fe fs k r hok hr
    obtain ⟨fe1, fs1, a1, a2, a3⟩ := one_rf hev hn h1 fe fs _ r hok hr
    obtain ⟨fe2, fs2, b1, b2, b3⟩ := seq_rf hev hn h2 fe1 fs1 k r a1 a3
    refine ⟨fe2, fs2, b1, ?_, b3⟩
    simp only [evSeq]
    rcases a2 with ⟨w, e1, e2⟩ | ⟨w, pv, e1, e2⟩
    · rw [w]; simp only; rw [← e1, ← e2]; exact b2
    · rw [w]; simp only; rw [e1]; simp only; rw [← e2]; exact b2
/-- .. that write nothing that was there -/
def tP (P : Program) (n : Nat) (ops : Array Oper) : List Oper → Option (RunT β)
  | [] => some fun _ fe fs k => k fe fs
  | o :: r => if o.dst.isNone then none else match oneP P n ops o with
    | none => none
    | some f => match tP P n ops r with
      | none => none
      | some g => some fun fev fe fs k => f fev fe ⟨fs.h, fs.n, fs.n⟩ fun fe' fs' => if Nat.ble fs.n fs'.lo then g fev fe' fs' k else none
theorem t_rf {ev : CallE} {fev : FCall β} (hev : FCallOk ev fev) {n : Nat} (hn : n ≤ 512) {ops : Array Oper} : ∀ {l : List Oper} {f : RunT β}, tP P n ops l = some f → RunOk n (fun e st e' st' => evT P ev ops l e st.h = some (e', st'.h)) fev f
  | [], f, h => by cases h; exact fun fe fs k r hok hr => ⟨fe, fs, hok, rfl, hr⟩
  | o :: l, f, h => by
    simp only [tP] at h
    split at h
    · cases h
    rename_i hd
    split at h
    · cases h
    rename_i f1 h1
    split at h
    · cases h
    rename_i f2 h2
    cases h
    intro fe fs k r hok hr
    have hok0 : (FSt.mk fs.h fs.n fs.n).ok := ⟨hok.n, hok.obj⟩
    obtain ⟨fe1, fs1, a1, a2, a3⟩ := one_rf hev hn h1 fe ⟨fs.h, fs.n, fs.n⟩ _ r hok0 hr
    split at a3
    · rename_i hlo
      have hlo : fs.n ≤ fs1.lo := by simpa using hlo
      obtain ⟨fe2, fs2, b1, b2, b3⟩ := t_rf hev hn h2 fe1 fs1 k r a1 a3
      refine ⟨fe2, fs2, b1, ?_, b3⟩
      cases hdd : o.dst with
      | none => rw [hdd] at hd; exact (hd rfl).elim
      | some d =>
        have est : (⟨fs.st.h, fs.st.h.length⟩ : St) = (FSt.mk fs.h fs.n fs.n).st := by
          rw [st_len]; rfl
        simp only [evT, hdd]
        rcases a2 with ⟨w, e1, e2⟩ | ⟨w, pv, e1, e2⟩
        · rw [w]
          simp only
          rw [hdd] at e1
          have e1 : absE n fe1 = (absE n fe).set d .skip := e1
          rw [← e1]
          have e2 : fs1.st.h = fs.st.h := by rw [e2]; rfl
          rw [← e2]; exact b2
        · rw [w]
          simp only
          rw [est, e1]
          simp only
          rw [hdd] at e2
          have e2 : absE n fe1 = (absE n fe).set d pv := e2
          rw [if_pos (show fs.st.h.length ≤ fs1.st.lo by rw [st_len]; exact hlo), ← e2]
          exact b2
    · cases a3
/-- .. with what lies in memory behind each -/
abbrev RunS (β : Type) := FCall β → FE → FSt → List FSt → (FE → FSt → List FSt → Option β) → Option β
def uP (P : Program) (n : Nat) (ops : Array Oper) : List Oper → Option (RunS β)
  | [] => some fun _ fe fs acc k => k fe fs acc
  | o :: r => match oneP P n ops o with
    | none => none
    | some f => match uP P n ops r with
      | none => none
      | some g => some fun fev fe fs acc k => f fev fe fs fun fe' fs' => g fev fe' fs' (fs' :: acc) k
theorem u_rf {ev : CallE} {fev : FCall β} (hev : FCallOk ev fev) {n : Nat} (hn : n ≤ 512) {ops : Array Oper} : ∀ {l : List Oper} {f : RunS β}, uP P n ops l = some f → ∀ (fe : FE) (fs : FSt) (acc : List FSt) (k : FE → FSt → List FSt → Option β) (r : β), fs.ok → (∀ x ∈ acc, x.ok) → f fev fe fs acc k = some r →
    ∃ (fe' : FE) (fs' : FSt) (V : List FSt), fs'.ok ∧ (∀ x ∈ V, x.ok) ∧ evU P ev ops l (absE n fe) fs.st = some (absE n fe', V.map FSt.st) ∧ ((V.map FSt.st).getLast?).getD fs.st = fs'.st ∧ k fe' fs' (V.reverse ++ acc) = some r
  | [], f, h, fe, fs, acc, k, r, hok, _, hr => by cases h; exact ⟨fe, fs, [], hok, by simp, rfl, rfl, hr⟩
  | o :: l, f, h, fe, fs, acc, k, r, hok, hacc, hr => by
    simp only [uP] at h
    split at h
    · cases h
    rename_i f1 h1
    split at h
    · cases h
    rename_i f2 h2
    cases h
    obtain ⟨fe1, fs1, a1, a2, a3⟩ := one_rf hev hn h1 fe fs _ r hok hr
    obtain ⟨fe2, fs2, V, b1, b2, b3, b4, b5⟩ := u_rf hev hn h2 fe1 fs1 (fs1 :: acc) k r a1 (fun x hx => by
      rcases List.mem_cons.1 hx with rfl | hx
      · exact a1
      · exact hacc x hx) a3
    refine ⟨fe2, fs2, fs1 :: V, b1, fun x hx => by
      rcases List.mem_cons.1 hx with rfl | hx
      · exact a1
      · exact b2 x hx, ?_, ?_, by simpa using b5⟩
    · simp only [evU]
      rcases a2 with ⟨w, e1, e2⟩ | ⟨w, pv, e1, e2⟩
      · rw [w]; simp only; rw [← e1, ← e2, b3]; rfl
      · rw [w]; simp only; rw [e1]; simp only; rw [← e2, b3]; rfl
    · rw [← b4]
      cases V with
      | nil => rfl
      | cons a b => simp [List.getLast?_cons]
theorem seq_u {ev : CallE} {ops : Array Oper} : ∀ {l : List Oper} {e e' : Env} {st st' : St}, evSeq P ev ops l e st = some (e', st') → ∃ sts, evU P ev ops l e st = some (e', sts) ∧ (sts.getLast?).getD st = st'
  | [], e, e', st, st', h => by cases h; exact ⟨[], rfl, rfl⟩
  | o :: r, e, e', st, st', h => by
    have last : ∀ (s : St) (l : List St), ((s :: l).getLast?).getD st = (l.getLast?).getD s := fun s l => by
      cases l with
      | nil => rfl
      | cons a b => simp [List.getLast?_cons]
    simp only [evSeq] at h
    simp only [evU]
    split at h
    · cases h
    · rename_i hw
      obtain ⟨sts, h1, h2⟩ := seq_u h
      rw [hw]
      simp only [h1]
      exact ⟨_, rfl, by rw [last]; exact h2⟩
    · rename_i hw
      split at h
      · cases h
      rename_i pv st1 hs
      obtain ⟨sts, h1, h2⟩ := seq_u h
      rw [hw]
      simp only [hs, h1]
      exact ⟨_, rfl, by rw [last]; exact h2⟩

/-! ### regions -/
def float1F (P : Program) (n : Nat) (ops : Array Oper) (fe : FE) (sts : List FSt) (p : Nat × Nat) : Bool := match ops[p.1]?, sts[p.2]? with
  | some o, some fs => (match o.dst with
    | some d => if Nat.blt d n then (match abs (get 3 d fe) with
      | .skip => true
      | pv => (match o.op with
        | .load T x => (match opdK n x (opLoadF (β := PV) P T) with
          | some f => (match f fe fs (fun v _ => some (abs v)) with
            | some pv' => (match pv' with
              | .s s => sameLd (some s) pv
              | _ => false)
            | none => false)
          | none => false)
        | _ => false)) else false
    | none => false)
  | _, _ => false
theorem float1_eq {n : Nat} {ops : Array Oper} {fe : FE} {sts : List FSt} {p : Nat × Nat} (h : float1F P n ops fe sts p = true) : float1 P ops (absE n fe) (sts.map FSt.st) p = true := by
  unfold float1F at h
  split at h
  · rename_i o fs ho hfs
    split at h
    · rename_i d hd
      split at h
      · rename_i hdn
        have hdn : d < n := by simpa [Nat.blt_eq] using hdn
        unfold float1
        simp only [ho, List.getElem?_map, hfs, Option.map_some, hd, absE_get fe hdn]
        split at h
        · rename_i e; rw [e]
        · rename_i pv hne
          split at h
          · rename_i T x hop
            split at h
            · rename_i f hf
              split at h
              · rename_i pv' hr
                split at h
                · rename_i s
                  obtain ⟨g, h1, h2⟩ := opdK_spec hf
                  obtain ⟨i, off, v, s', e1, e2, e3, e4⟩ := load_eq h1 hr
                  have hc : cellX (lk (absE n fe)) x = some (.ptr i off) := cellX_of (by rw [h2 fe, e1] : lk (absE n fe) x = some (abs (.c (.p i off))))
                  have e5 : s' = s := by
                    have := Option.some.inj e4
                    rw [e3] at this
                    exact (PV.s.inj this)
                  subst e5
                  have hld : evLd P (lk (absE n fe)) fs.st o = some s' := by
                    unfold evLd
                    simp only [hop, hc, e2]
                  split
                  · rfl
                  · rename_i pv0 _ heq; cases heq; rw [hld]; exact h
                  · rename_i heq; cases heq
                · cases h
              · cases h
            · cases h
          · cases h
      · cases h
    · cases h
  · cases h
/-- the second of two stores without an order, done alone -/
def xStateF (P : Program) (n : Nat) (ops : Array Oper) (n0 : Nat) (fe : FE) (sts : List FSt) : Option FSt := match ops[(pairOf ops).1]?, ops[(pairOf ops).2]?, sts[(pairOf ops).1 - n0]? with
  | some a, some b, some fs => (match a.op, b.op with
    | .store _ x _, .store T' x' y' => (match flk n fe x, flk n fe x' with
      | some (.s (.c (.ptr i _))), some (.s (.c (.ptr j _))) => if Nat.beq i j then none else (match opdK n x' (fun gx => opdK n y' fun gy => opStoreF (β := FSt) P T' gx gy) with
        | some f => f fe fs fun _ fs' => some fs'
        | none => none)
      | _, _ => none)
    | _, _ => none)
  | _, _, _ => none
def xCheckF (P : Program) (n : Nat) (ops : Array Oper) (n0 : Nat) (fe : FE) (sts : List FSt) : Bool := if Nat.blt (pairOf ops).1 (pairOf ops).2 then (match xStateF P n ops n0 fe sts with
    | some fs => (xFloats ops (pairOf ops)).all fun i => float1F P n ops fe [fs] (i, 0)
    | none => false) else true
theorem xState_eq {n n0 : Nat} {ops : Array Oper} {fe : FE} {sts : List FSt} {fsB : FSt} (hok : ∀ x ∈ sts, x.ok) (h : xStateF P n ops n0 fe sts = some fsB) : xState P ops n0 (absE n fe) (sts.map FSt.st) = some fsB.st := by
  unfold xStateF at h
  split at h
  · rename_i a b fs ha hb hfs
    split at h
    · rename_i T0 x y0 T' x' y' hoa hob
      split at h
      · rename_i i off0 j off hx hx'
        split at h
        · cases h
        rename_i hij
        split at h
        · rename_i f hf
          obtain ⟨gx, h1, g1⟩ := opdK_spec hf
          obtain ⟨gy, h2, g2⟩ := opdK_spec h1
          obtain ⟨v, fs', _, e2, e3⟩ := opStore_rf hob g1 g2 h2 fe fs _ fsB (hok fs (List.mem_of_getElem? hfs)) h
          cases e3
          rw [flk_eq] at hx hx'
          have c1 : cellX (lk (absE n fe)) x = some (.ptr i off0) := by unfold cellX evX; rw [hx]
          have c2 : cellX (lk (absE n fe)) x' = some (.ptr j off) := by unfold cellX evX; rw [hx']
          unfold xState
          simp only [ha, hb, List.getElem?_map, hfs, Option.map_some, hoa, hob, c1, c2]
          simp only [evOp, hob, c2] at e2
          split at e2
          · rename_i i2 off2 s hcc hs
            cases hcc
            simp only [hs]
            rw [if_neg (by simpa using hij)]
            split at e2
            · rename_i st1 h9
              simp only [Option.some.injEq, Prod.mk.injEq] at e2
              rw [← e2.2]; exact h9
            · cases e2
          · cases e2
        · cases h
      · cases h
    · cases h
  · cases h
theorem xCheck_eq {n n0 : Nat} {ops : Array Oper} {fe : FE} {sts : List FSt} (hok : ∀ x ∈ sts, x.ok) (h : xCheckF P n ops n0 fe sts = true) : xCheck P ops n0 (absE n fe) (sts.map FSt.st) = true := by
  unfold xCheckF at h
  unfold xCheck
  split at h
  · rename_i hp
    rw [if_pos hp]
    split at h
    · rename_i fs hfs
      rw [xState_eq hok hfs]
      simp only
      rw [List.all_eq_true] at h ⊢
      intro i hi
      have := float1_eq (h i hi)
      simpa using this
    · cases h
  · rename_i hp; rw [if_neg hp]
def tThen (t u : RunT β) : RunT β := fun fev fe fs k => t fev fe fs fun fe' fs' => u fev fe' ⟨fs'.h, fs'.n, fs.lo⟩ k
def uOf (P : Program) (n : Nat) (ops : Array Oper) (n0 : Nat) (u : RunS β) : RunT β := fun fev fe fs k => u fev fe fs [fs] fun fe' fs' acc => if (floatsL ops n0).all (float1F P n ops fe' acc.reverse) && xCheckF P n ops n0 fe' acc.reverse && (lateL ops n0).all (late1 ops (absE n fe') fs.st.h (acc.reverse.map FSt.st)) && lateXc P ops n0 (absE n fe') fs.st.h (acc.reverse.map FSt.st) then k fe' fs' else none
def uP2 (P : Program) (n : Nat) (ops : Array Oper) (n0 : Nat) : Option (RunT β) := match (floatsL ops n0).isEmpty && !Nat.blt (pairOf ops).1 (pairOf ops).2 && (lateL ops n0).isEmpty with
  | true => seqP P n ops (ops.toList.drop n0)
  | false => (match uP P n ops (ops.toList.drop n0) with
    | some u => some (uOf P n ops n0 u)
    | none => none)
def regN (P : Program) (n : Nat) (ops : Array Oper) (n0 : Nat) : Option (RunT β) := (if statOk ops n0 && (ops.toList.all ldDst && ops.toList.all (dstLt n)) then (match n0 with
      | 0 => uP2 P n ops 0
      | m + 1 => (match tP P n ops (ops.toList.take (m + 1)) with
        | none => none
        | some t => (match uP2 P n ops (m + 1) with
          | none => none
          | some u => some (tThen t u)))) else none)
def regP (P : Program) (n : Nat) (ops : Array Oper) (draw : Bool) : Option (RunT β) := if draw then
    (match modeOf ops with
    | none => regN P n ops (cutOf ops)
    | some (σ, n0) => if permOk σ ops.size then regN P n (permOps σ ops) n0 else none)
  else seqP P n ops ops.toList
/-- the second half, whichever way -/
theorem u2_rf {ev : CallE} {fev : FCall β} (hev : FCallOk ev fev) {n n0 : Nat} (hn : n ≤ 512) {ops : Array Oper} {f : RunT β} (h : uP2 P n ops n0 = some f) :
    RunOk n (fun e st e' st' => ∃ sts, evU P ev ops (ops.toList.drop n0) e st = some (e', sts) ∧ (sts.getLast?).getD st = st' ∧ (floatsL ops n0).all (float1 P ops e' (st :: sts)) = true ∧ xCheck P ops n0 e' (st :: sts) = true ∧ (lateL ops n0).all (late1 ops e' st.h (st :: sts)) = true ∧ lateXc P ops n0 e' st.h (st :: sts) = true) fev f := by
  unfold uP2 at h
  split at h
  · rename_i hf
    intro fe fs k r hok hr
    obtain ⟨fe', fs', a1, a2, a3⟩ := seq_rf hev hn h fe fs k r hok hr
    obtain ⟨sts, b1, b2⟩ := seq_u a2
    simp only [Bool.and_eq_true, List.isEmpty_iff, Bool.not_eq_true'] at hf
    exact ⟨fe', fs', a1, ⟨sts, b1, b2, by rw [hf.1.1]; rfl, by unfold xCheck; rw [if_neg (by rw [hf.1.2]; simp)], by rw [hf.2]; rfl, by unfold lateXc; rw [if_neg (by rw [hf.1.2]; simp)]⟩, a3⟩
  · split at h
    · rename_i u hu
      cases h
      intro fe fs k r hok hr
      unfold uOf at hr
      obtain ⟨fe', fs', V, a1, a2, a3, a4, a5⟩ := u_rf hev hn hu fe fs [fs] _ r hok (fun x hx => by simp at hx; subst hx; exact hok) hr
      split at a5
      · rename_i hall
        simp only [Bool.and_eq_true] at hall
        refine ⟨fe', fs', a1, ⟨_, a3, a4, ?_, ?_, by simpa using hall.1.2, by simpa using hall.2⟩, a5⟩
        · have hall := hall.1.1.1
          rw [List.all_eq_true] at hall ⊢
          intro p hp
          have := float1_eq (hall p hp)
          simpa using this
        · have := xCheck_eq (fun x hx => by
            rw [List.mem_reverse, List.mem_append, List.mem_reverse] at hx
            rcases hx with hx | hx
            · exact a2 x hx
            · simp at hx; subst hx; exact hok) hall.1.1.2
          simpa using this
      · cases a5
    · cases h
theorem regN_rf {ev : CallE} {fev : FCall β} (hev : FCallOk ev fev) {n n0 : Nat} (hn : n ≤ 512) {ops : Array Oper} {f : RunT β} (h : regN P n ops n0 = some f) : RunOk n (fun e st e' st' => evReg P ev ops n0 e st = some (e', st')) fev f := by
  unfold regN at h
  split at h
  · rename_i hst
    have hst' : ∀ fe, (statOk ops n0 && ops.toList.all ldDst && ops.toList.all (dstLt (absE n fe).length)) = true := fun fe => by
      rw [absE_len]
      simp only [Bool.and_eq_true] at hst ⊢
      exact ⟨⟨hst.1, hst.2.1⟩, hst.2.2⟩
    split at h
    · intro fe fs k r hok hr
      obtain ⟨fe', fs', a1, ⟨sts, b1, b2, b3, b4, b5, b6⟩, a3⟩ := u2_rf hev hn h fe fs k r hok hr
      refine ⟨fe', fs', a1, ?_, a3⟩
      unfold evReg
      simp only [hst' fe, if_true]
      have eT : evT P ev ops (ops.toList.take 0) (absE n fe) fs.st.h = some (absE n fe, fs.st.h) := rfl
      rw [eT]
      simp only [b1, b3, b4, b5, b6, Bool.and_self, if_true, b2]
    · split at h
      · cases h
      rename_i t ht
      split at h
      · cases h
      rename_i u hu
      cases h
      intro fe fs k r hok hr
      unfold tThen at hr
      obtain ⟨fe1, fs1, a1, a2, a3⟩ := t_rf hev hn ht fe fs _ r hok hr
      have hok1 : (FSt.mk fs1.h fs1.n fs.lo).ok := ⟨a1.n, a1.obj⟩
      obtain ⟨fe', fs', c1, ⟨sts, b1, b2, b3, b4, b5, b6⟩, c3⟩ := u2_rf hev hn hu fe1 ⟨fs1.h, fs1.n, fs.lo⟩ k r hok1 a3
      refine ⟨fe', fs', c1, ?_, c3⟩
      unfold evReg
      simp only [hst' fe, if_true]
      rw [a2]
      have est : (⟨fs1.st.h, fs.st.lo⟩ : St) = (FSt.mk fs1.h fs1.n fs.lo).st := rfl
      have esh : fs1.st.h = (FSt.mk fs1.h fs1.n fs.lo).st.h := rfl
      simp only [est, b1]
      rw [esh]
      simp only [b3, b4, b5, b6, Bool.and_self, if_true, b2]
  · cases h
theorem reg_rf {ev : CallE} {fev : FCall β} (hev : FCallOk ev fev) {n : Nat} (hn : n ≤ 512) {ops : Array Oper} {draw : Bool} {f : RunT β} (h : regP P n ops draw = some f) : RunOk n (fun e st e' st' => evRegion P ev ops draw e st = some (e', st')) fev f := by
  unfold regP at h
  unfold evRegion
  cases draw with
  | false =>
    simp only [Bool.false_eq_true, if_false] at h ⊢
    exact seq_rf hev hn h
  | true =>
    simp only [if_true] at h ⊢
    cases hm : modeOf ops with
    | none =>
      rw [hm] at h
      exact regN_rf hev hn h
    | some p =>
      obtain ⟨σ, n0⟩ := p
      rw [hm] at h
      simp only at h ⊢
      split at h
      · rename_i hp
        simp only [hp, if_true]
        exact regN_rf hev hn h
      · cases h
end Fx
end Go.Proofs.YtepianllbfnpoaaGreat

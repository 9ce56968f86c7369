/- Ev: a function's code, run on what is known of its values. Thirteenth part: code, functions, and that the model's calls keep to the run. No program. -/
import Derived.Test.YtepianllbfnpoaaEv13s
namespace Go.Proofs.Ytepianllbfnpoaa
open Go.RowKit
namespace Ev
variable {P : Program}

/-! ### code -/
inductive X where
  | norm
  | exit (id : Nat)
  | ret
def X.to : X → Exit
  | .norm => .normal
  | .exit id => .exit id
  | .ret => .ret
abbrev Out := X × Env × St
def iter (f : Env → St → Option Out) : Nat → Env → St → Option Out
  | 0, _, _ => none
  | n + 1, e, st => match f e st with
    | some (.norm, e', st') => iter f n e' st'
    | r => r
variable (P)
def evCode (ev : CallE) (N : Nat) : Code → Env → St → Option Out
  | .skip, e, st => some (.norm, e, st)
  | .region _ ops draw, e, st => match evRegion P ev ops draw e st with | some (e', st') => some (.norm, e', st') | none => none
  | .seq x y, e, st => match evCode ev N x e st with
    | some (.norm, e', st') => evCode ev N y e' st'
    | r => r
  | .cond c x y, e, st => match cellX (lk e) c with
    | some (.flat (.bool true)) => evCode ev N x e st
    | some (.flat (.bool false)) => evCode ev N y e st
    | _ => none
  | .block id c, e, st => match evCode ev N c e st with
    | some (.exit id', e', st') => if id' = id then some (.norm, e', st') else some (.exit id', e', st')
    | r => r
  | .loop c, e, st => iter (evCode ev N c) N e st
  | .exit id, e, st => some (.exit id, e, st)
  | .scope c, e, st => evCode ev N c e st
  | .label _, e, st => some (.norm, e, st)
  | .ret, e, st => some (.ret, e, st)
  | _, _, _ => none
variable {P}
def Post (m : M) (st : St) (w : World) (x : X) (e' : Env) (st' : St) (ex : Exit) (a' : Act) (w' : World) : Prop := ex = x.to ∧ ∃ m', ER m' e' a' ∧ Res m st w m' st' w'
theorem cond_spec {m : M} {e : Env} {a : Act} {c : Operand} {b : Bool} (he : ER m e a) (h : cellX (lk e) c = some (.flat (.bool b))) : a.eval c = .bool b :=
  (show VC m (.flat (.bool b)) (a.eval c) from evX_spec he.el (cellX_spec h)).1
theorem code_wp (hN : NoCount P) (hM : P.follows .mixedOrders = true) {ev : CallE} (hev : CallOk P ev) (hkp : CallKeep ev) {N : Nat} : ∀ (c : Code) {m : M} {st st' : St} {w : World} {a : Act} {e e' : Env} {x : X}, SR m st.h w → ER m e a → evCode P ev N c e st = some (x, e', st') → c.wp P (Post m st w x e' st') a w := by
  intro c
  induction c with
  | skip => intro m st st' w a e e' x hs he h; cases h; exact wp_skip ⟨rfl, m, he, Res.refl hs⟩
  | region id ops draw =>
    intro m st st' w a e e' x hs he h
    simp only [evCode] at h
    split at h
    · rename_i hr
      cases h
      exact region_wp hN hM hev hkp hs he hr fun a' w' m' h1 h2 => ⟨rfl, m', h1, h2⟩
    · cases h
  | seq x y ihx ihy =>
    intro m st st' w a e e' ex hs he h
    simp only [evCode] at h
    refine wp_seq ?_
    split at h
    · rename_i e1 st1 h1
      refine wp_mono (ihx hs he h1) ?_
      rintro _ a1 w1 ⟨rfl, m1, he1, hr1⟩
      refine wp_mono (ihy hr1.sr he1 h) ?_
      rintro _ a2 w2 ⟨rfl, m2, he2, hr2⟩
      exact ⟨rfl, m2, he2, hr1.trans hr2⟩
    · rename_i hne
      refine wp_mono (ihx hs he h) ?_
      rintro _ a1 w1 ⟨rfl, hh⟩
      cases ex with
      | norm => exact (hne _ _ h).elim
      | exit id => exact ⟨rfl, hh⟩
      | ret => exact ⟨rfl, hh⟩
  | cond c x y ihx ihy =>
    intro m st st' w a e e' ex hs he h
    simp only [evCode] at h
    split at h
    · rename_i hc; exact wp_cond_true (cond_spec he hc) (ihx hs he h)
    · rename_i hc; exact wp_cond_false (cond_spec he hc) (ihy hs he h)
    · cases h
  | block id c ih =>
    intro m st st' w a e e' ex hs he h
    simp only [evCode] at h
    refine wp_block ?_
    split at h
    · rename_i id' e1 st1 h1
      refine wp_mono (ih hs he h1) ?_
      rintro _ a1 w1 ⟨rfl, hh⟩
      simp only [X.to, Exit.inBlock]
      split at h
      · rename_i hid; cases h; rw [if_pos hid]; exact ⟨rfl, hh⟩
      · rename_i hid; cases h; rw [if_neg hid]; exact ⟨rfl, hh⟩
    · rename_i hne
      refine wp_mono (ih hs he h) ?_
      rintro _ a1 w1 ⟨rfl, hh⟩
      cases ex with
      | norm => exact ⟨rfl, hh⟩
      | exit id => exact (hne _ _ _ h).elim
      | ret => exact ⟨rfl, hh⟩
  | loop c ih =>
    intro m st st' w a e e' ex hs he h
    simp only [evCode] at h
    have key : ∀ n {m1 : M} {st1 : St} {w1 : World} {a1 : Act} {e1 : Env}, SR m1 st1.h w1 → ER m1 e1 a1 → Res m st w m1 st1 w1 → iter (evCode P ev N c) n e1 st1 = some (ex, e', st') → Code.rounds P c (Post m st w ex e' st') n a1 w1 := by
      intro n
      induction n with
      | zero => intro m1 st1 w1 a1 e1 _ _ _ h; cases h
      | succ n ihn =>
        intro m1 st1 w1 a1 e1 hs1 he1 hr1 h
        rw [rounds_succ]
        simp only [iter] at h
        split at h
        · rename_i e2 st2 h2
          refine wp_mono (ih hs1 he1 h2) ?_
          rintro _ a2 w2 ⟨rfl, m2, he2, hr2⟩
          exact ihn hr2.sr he2 (hr1.trans hr2) h
        · rename_i hne
          refine wp_mono (ih hs1 he1 h) ?_
          rintro _ a2 w2 ⟨rfl, m2, he2, hr2⟩
          cases ex with
          | norm => exact (hne _ _ h).elim
          | exit id => exact ⟨rfl, m2, he2, hr1.trans hr2⟩
          | ret => exact ⟨rfl, m2, he2, hr1.trans hr2⟩
    exact wp_loop_rounds N (key N hs he (Res.refl hs) h)
  | exit id => intro m st st' w a e e' x hs he h; cases h; exact wp_exit ⟨rfl, m, he, Res.refl hs⟩
  | scope c ih =>
    intro m st st' w a e e' ex hs he h
    simp only [evCode] at h
    refine wp_scope_straight (wp_mono (ih hs he h) ?_)
    rintro _ a1 w1 ⟨rfl, hh⟩
    cases ex <;> exact ⟨rfl, hh⟩
  | label l => intro m st st' w a e e' x hs he h; cases h; exact wp_label ⟨rfl, m, he, Res.refl hs⟩
  | ret => intro m st st' w a e e' x hs he h; cases h; exact wp_ret ⟨rfl, m, he, Res.refl hs⟩
  | rangeFunc f ps x y _ _ => intro m st st' w a e e' x hs he h; cases h
  | goto l => intro m st st' w a e e' x hs he h; cases h
  | refuse s => intro m st st' w a e e' x hs he h; cases h

theorem seq_keep {ev : CallE} (hk : CallKeep ev) {ops : Array Oper} : ∀ {l : List Oper} {e e' : Env} {st st' : St}, evSeq P ev ops l e st = some (e', st') → Keep st st'
  | [], e, e', st, st', h => by cases h; exact Keep.refl _
  | o :: r, e, e', st, st', h => by
    simp only [evSeq] at h
    split at h
    · cases h
    · exact seq_keep hk h
    · split at h
      · cases h
      · rename_i hs
        exact (step_keep hk hs).trans (seq_keep hk h)
theorem T_keep {ev : CallE} (hk : CallKeep ev) {ops : Array Oper} {lo : Nat} : ∀ {l : List Oper} {e e' : Env} {h h' : List O}, evT P ev ops l e h = some (e', h') → Keep ⟨h, lo⟩ ⟨h', lo⟩
  | [], e, e', st, st', h => by cases h; exact Keep.refl _
  | o :: r, e, e', hh, h', h => by
    simp only [evT] at h
    split at h
    · cases h
    split at h
    · cases h
    · exact T_keep hk h
    · split at h
      · cases h
      rename_i pv st hs
      split at h
      · rename_i hlo
        have k1 := step_keep hk hs
        have e1 := k1.eq_append hlo
        have k2 : Keep ⟨hh, lo⟩ ⟨st.h, lo⟩ := ⟨k1.len, Nat.le_refl _, fun i hi _ => by
          show st.h[i]? = hh[i]?
          have hi : i < hh.length := hi
          rw [e1]; exact List.getElem?_append_left hi⟩
        exact k2.trans (T_keep hk h)
      · cases h
theorem U_keep {ev : CallE} (hk : CallKeep ev) {ops : Array Oper} : ∀ {l : List Oper} {e e' : Env} {st : St} {sts : List St}, evU P ev ops l e st = some (e', sts) → Keep st ((sts.getLast?).getD st)
  | [], e, e', st, sts, h => by cases h; exact Keep.refl _
  | o :: r, e, e', st, sts, h => by
    have last : ∀ (s : St) (l : List St), ((s :: l).getLast?).getD st = (l.getLast?).getD s := fun s l => by
      cases l with
      | nil => rfl
      | cons a b => simp [List.getLast?_cons]
    simp only [evU] at h
    split at h
    · cases h
    · split at h
      · rename_i hr
        cases h
        rw [last]
        exact U_keep hk hr
      · cases h
    · split at h
      · cases h
      rename_i hs
      split at h
      · rename_i hr
        cases h
        rw [last]
        exact (step_keep hk hs).trans (U_keep hk hr)
      · cases h
theorem reg_keep {ev : CallE} (hk : CallKeep ev) {ops : Array Oper} {n0 : Nat} {e e' : Env} {st st' : St} (h : evReg P ev ops n0 e st = some (e', st')) : Keep st st' := by
  unfold evReg at h
  split at h
  · split at h
    · cases h
    rename_i hT
    split at h
    · cases h
    rename_i hU
    split at h
    · cases h
      exact (T_keep (lo := st.lo) hk hT).trans (U_keep hk hU)
    · cases h
  · cases h
theorem region_keep {ev : CallE} (hk : CallKeep ev) {ops : Array Oper} {draw : Bool} {e e' : Env} {st st' : St} (h : evRegion P ev ops draw e st = some (e', st')) : Keep st st' := by
  unfold evRegion at h
  split at h
  · split at h
    · exact reg_keep hk h
    · split at h
      · exact reg_keep hk h
      · cases h
  · exact seq_keep hk h
theorem iter_keep {f : Env → St → Option Out} (hf : ∀ e st x e' st', f e st = some (x, e', st') → Keep st st') : ∀ {n : Nat} {e e' : Env} {st st' : St} {x : X}, iter f n e st = some (x, e', st') → Keep st st'
  | 0, _, _, _, _, _, h => by cases h
  | n + 1, e, e', st, st', x, h => by
    simp only [iter] at h
    split at h
    · rename_i h1
      exact (hf _ _ _ _ _ h1).trans (iter_keep hf h)
    · exact hf _ _ _ _ _ h
theorem code_keep {ev : CallE} (hk : CallKeep ev) {N : Nat} : ∀ (c : Code) {e e' : Env} {st st' : St} {x : X}, evCode P ev N c e st = some (x, e', st') → Keep st st' := by
  intro c
  induction c with
  | skip => intro e e' st st' x h; cases h; exact Keep.refl _
  | region id ops draw =>
    intro e e' st st' x h
    simp only [evCode] at h
    split at h
    · rename_i hr; cases h; exact region_keep hk hr
    · cases h
  | seq a b iha ihb =>
    intro e e' st st' x h
    simp only [evCode] at h
    split at h
    · rename_i h1; exact (iha h1).trans (ihb h)
    · exact iha h
  | cond c a b iha ihb =>
    intro e e' st st' x h
    simp only [evCode] at h
    split at h
    · exact iha h
    · exact ihb h
    · cases h
  | block id c ih =>
    intro e e' st st' x h
    simp only [evCode] at h
    split at h
    · rename_i h1
      split at h <;> cases h <;> exact ih h1
    · exact ih h
  | loop c ih =>
    intro e e' st st' x h
    exact iter_keep (fun _ _ _ _ _ h => ih h) h
  | exit id => intro e e' st st' x h; cases h; exact Keep.refl _
  | scope c ih => intro e e' st st' x h; exact ih h
  | label l => intro e e' st st' x h; cases h; exact Keep.refl _
  | ret => intro e e' st st' x h; cases h; exact Keep.refl _
  | rangeFunc f ps a b _ _ => intro e e' st st' x h; cases h
  | goto l => intro e e' st st' x h; cases h
  | refuse s => intro e e' st st' x h; cases h

/-! ### functions -/
variable (P)
def evResult (e : Env) (st : St) : ResultVar → Option S
  | .tmp t => match e[t]? with
    | some (.s s) => some s
    | _ => none
  | .cell t T => match e[t]? with
    | some (.s (.c (.ptr i off))) => evLoad P st T i off
    | _ => none
variable {P}
def pvOf : List S → PV
  | [s] => .s s
  | ss => .t ss
def resF (a : Act) : ResultVar → Sem Value
  | .tmp t => pure (a.tmps.getD t undef)
  | .cell x t => do loadVar t (← asAddr (a.tmps.getD x undef))
theorem results_spec {m : M} {e : Env} {a : Act} {st : St} {w : World} (hs : SR m st.h w) (he : ER m e a) {fn : Func} {ss : List S} (h : all? (evResult P e st) fn.results.toList = some ss) :
    ∃ v, (results fn a.tmps).run P w = .ok v w ∧ VP m (pvOf ss) v := by
  have one : ∀ (r : ResultVar) (s : S), evResult P e st r = some s → ∃ v, (resF a r).run P w = .ok v w ∧ VS m s v := fun r s hr => by
    cases r with
    | tmp t =>
      simp only [evResult] at hr
      split at hr
      · rename_i s' hs'
        cases hr
        exact ⟨a.tmps.getD t undef, by simp [resF], lk_spec (x := .tmp t) he hs'⟩
      · cases hr
    | cell t T =>
      simp only [evResult] at hr
      split at hr
      · rename_i i off hp
        obtain ⟨p, hm, hv⟩ : VC m (.ptr i off) (a.eval (.tmp t)) := lk_spec (x := .tmp t) he hp
        obtain ⟨v, hl, hvs⟩ := loadVar_spec hs hr hm
        have hv' : a.tmps.getD t undef = .pointer (some ⟨p.b, p.o + off, none⟩) := hv
        exact ⟨v, by simp only [resF, hv', asAddr]; simpa using hl, hvs⟩
      · cases hr
  have key : ∀ (l : List ResultVar) (ss : List S), all? (evResult P e st) l = some ss → ∃ vs : List Value, (l.mapM (resF a) : Sem (List Value)).run P w = .ok vs w ∧ All2 (VS m) ss vs := by
    intro l
    induction l with
    | nil => intro ss h; cases h; exact ⟨[], by simp, All2.nil⟩
    | cons r l ih =>
      intro ss h
      simp only [all?] at h
      cases hr : evResult P e st r with
      | none => rw [hr] at h; cases h
      | some s =>
        rw [hr] at h
        cases hl : all? (evResult P e st) l with
        | none => simp only [hl] at h; cases h
        | some ss' =>
          simp only [hl, Option.some.injEq] at h
          subst h
          obtain ⟨v, h1, h2⟩ := one r s hr
          obtain ⟨vs, h3, h4⟩ := ih ss' hl
          exact ⟨v :: vs, by rw [List.mapM_cons, Sem.run_bind, h1, Result.andThen_ok, Sem.run_bind, h3, Result.andThen_ok]; rfl, All2.cons h2 h4⟩
  obtain ⟨vs, h1, h2⟩ := key _ _ h
  have hm : (results fn a.tmps).run P w = .ok (if h : vs.toArray.size = 1 then vs.toArray[0] else .tuple vs.toArray) w := by
    have e1 : results fn a.tmps = (do let vs ← fn.results.mapM (resF a); pure (if h : vs.size = 1 then vs[0] else .tuple vs)) := rfl
    rw [e1, Array.mapM_eq_mapM_toList, Sem.run_bind]
    have : (List.toArray <$> (fn.results.toList.mapM (resF a)) : Sem (Array Value)).run P w = .ok vs.toArray w := by
      rw [map_eq_pure_bind, Sem.run_bind, h1]; rfl
    rw [this]
    rfl
  refine ⟨_, hm, ?_⟩
  rcases ss with _ | ⟨s, _ | ⟨s2, ss⟩⟩
  · have : vs = [] := List.eq_nil_of_length_eq_zero h2.1.symm
    subst this
    exact ⟨[], rfl, h2⟩
  · obtain ⟨v, rfl⟩ : ∃ v, vs = [v] := List.length_eq_one_iff.1 h2.1.symm
    exact h2.2 0 s v rfl rfl
  · have hl : ¬ vs.toArray.size = 1 := by have := h2.1; simp at this ⊢; omega
    rw [dif_neg hl]
    exact ⟨vs, rfl, h2⟩

def noIdC : C → Bool
  | .flat _ => true
  | .str _ => true
  | .emp _ => true
  | .low _ _ => true
  | .fn _ caps => caps.isEmpty
  | _ => false
def noIdS : S → Bool
  | .c x => noIdC x
  | .a cs => cs.all noIdC
def noId : PV → Bool
  | .s x => noIdS x
  | .t xs => xs.all noIdS
  | _ => false
theorem noIdC_spec {m m' : M} {c : C} {v : Value} (h : noIdC c = true) (k : VC m c v) : VC m' c v := by
  cases c with
  | flat u => exact k
  | str l => exact k
  | emp z => exact k
  | low a b => exact k
  | fn f caps =>
    have : caps = [] := by simpa [noIdC] using h
    subst this
    obtain ⟨as, h1, h2⟩ := k
    exact ⟨as, h1, h2.1, fun j x v hx => by simp at hx⟩
  | sl _ _ _ _ => cases h
  | ptr _ _ => cases h
  | q _ _ _ => cases h
  | mt _ _ _ => cases h
theorem noIdS_spec {m m' : M} {c : S} {v : Value} (h : noIdS c = true) (k : VS m c v) : VS m' c v := by
  cases c with
  | c x => exact noIdC_spec h k
  | a cs =>
    obtain ⟨vs, h1, h2⟩ := k
    exact ⟨vs, h1, h2.1, fun j x v hx hv => noIdC_spec (List.all_eq_true.1 h x (List.mem_of_getElem? hx)) (h2.2 j x v hx hv)⟩
theorem noId_spec {m m' : M} {c : PV} {v : Value} (h : noId c = true) (k : VP m c v) : VP m' c v := by
  cases c with
  | s x => exact noIdS_spec h k
  | t xs =>
    obtain ⟨vs, h1, h2⟩ := k
    exact ⟨vs, h1, h2.1, fun j x v hx hv => noIdS_spec (List.all_eq_true.1 h x (List.mem_of_getElem? hx)) (h2.2 j x v hx hv)⟩
  | any => cases h
  | skip => cases h
variable (P)
/-- a function of the program, at most so many calls deep, its loops of at most so many rounds; 'orc': what is known of functions by themselves -/
def evFun (orc : CallE) (N : Nat) : Nat → CallE
  | 0, _, _, _ => none
  | n + 1, F, args, st => match orc F args st with
    | some r => some r
    | none => match P.funcs[F]? with
      | none => none
      | some fn => match fn.body with
        | none => none
        | some c => match evCode P (evFun orc N n) N c (args ++ List.replicate (fn.ntmps - args.length) .skip) ⟨st.h, st.h.length⟩ with
          | some (.exit _, _, _) => none
          | some (_, e', st') => match all? (evResult P e' st') fn.results.toList with
            | none => none
            | some ss => if noId (pvOf ss) && decide (st.h.length ≤ st'.lo) then some (pvOf ss, st) else some (pvOf ss, ⟨st'.h, min st.lo st'.lo⟩)
          | none => none
variable {P}
theorem skip_all (m : M) (n : Nat) : All2 (VP m) (List.replicate n PV.skip) (List.replicate n undef) :=
  ⟨by simp, fun j x v hx hv => by
    rw [List.getElem?_replicate] at hx hv
    split at hx
    · rw [if_pos (by assumption)] at hv; cases hx; cases hv; rfl
    · cases hx⟩
theorem fun_keep {orc : CallE} (horc : CallKeep orc) (N : Nat) : ∀ n, CallKeep (evFun P orc N n)
  | 0 => fun F pvs st r st' h => by cases h
  | n + 1 => fun F pvs st r st' h => by
    simp only [evFun] at h
    split at h
    · rename_i hq
      cases h
      exact horc _ _ _ _ _ hq
    · split at h
      · cases h
      split at h
      · cases h
      split at h
      · cases h
      · rename_i hc
        have kc := code_keep (fun_keep horc N n) _ hc
        split at h
        · cases h
        · split at h
          · cases h; exact Keep.refl _
          · cases h
            exact ⟨kc.len, Nat.min_le_left _ _, fun i hi hl => kc.old i hi (Nat.lt_of_lt_of_le hl (Nat.min_le_right _ _))⟩
      · cases h
theorem fun_ok (hN : NoCount P) (hM : P.follows .mixedOrders = true) {orc : CallE} (horc : CallOk P orc) (hork : CallKeep orc) (N : Nat) : ∀ n, CallOk P (evFun P orc N n)
  | 0 => fun F pvs st r st' m w args h => by cases h
  | n + 1 => fun F pvs st r st' m w args h hs hargs => by
    simp only [evFun] at h
    split at h
    · rename_i q hq
      cases h
      exact horc F pvs st r st' m w args hq hs hargs
    · split at h
      · cases h
      rename_i fn hfn
      split at h
      · cases h
      rename_i c hc
      have hs' : SR m (⟨st.h, st.h.length⟩ : St).h w := hs
      have he : ER m (pvs ++ List.replicate (fn.ntmps - pvs.length) .skip) { tmps := args.toArray ++ Array.replicate (fn.ntmps - args.toArray.size) undef, defers := [] } := by
        refine ⟨rfl, ?_⟩
        have e1 : (args.toArray ++ Array.replicate (fn.ntmps - args.toArray.size) undef).toList = args ++ List.replicate (fn.ntmps - pvs.length) undef := by simp [hargs.1]
        rw [e1]
        exact hargs.append (skip_all m _)
      have fin : ∀ {e' : Env} {st1 : St} {x : X}, (x = .norm ∨ x = .ret) → evCode P (evFun P orc N n) N c (pvs ++ List.replicate (fn.ntmps - pvs.length) .skip) ⟨st.h, st.h.length⟩ = some (x, e', st1) →
          (match all? (evResult P e' st1) fn.results.toList with | none => none | some ss => if noId (pvOf ss) && decide (st.h.length ≤ st1.lo) then some (pvOf ss, st) else some (pvOf ss, ⟨st1.h, min st.lo st1.lo⟩)) = some (r, st') →
          Calls P F args.toArray w fun e w' => ∃ v m', e = .returned v ∧ VP m' r v ∧ Res m st w m' st' w' := fun {e' st1 x} hx hcode h => by
        split at h
        · cases h
        rename_i ss hss
        refine calls_of_wp hfn hc (wp_mono (code_wp hN hM (fun_ok hN hM horc hork N n) (fun_keep hork N n) c hs' he hcode) ?_)
        rintro ex a1 w1 ⟨rfl, m1, he1, hr1⟩
        obtain ⟨v, hrun, hv⟩ := results_spec hr1.sr he1 hss
        have hfin : ∃ m', VP m' r v ∧ Res m st w m' st' w1 := by
          split at h
          · rename_i hg
            simp only [Bool.and_eq_true, decide_eq_true_eq] at hg
            cases h
            have hkeep : ∀ b, b < w.heap.size → w1.heap[b]? = w.heap[b]? := fun b hb => hr1.fr.keep b hb fun i p g1 g2 => by
              have g2' : i < st.h.length := g2
              omega
            exact ⟨m, noId_spec hg.1 hv, hs.grow hkeep, ⟨fun _ _ h => h, fun _ _ => rfl, fun j p hj hm => by have := hs.dom j p hm; omega, hr1.fr.size, hr1.fr.os, hr1.fr.tape, hr1.fr.output, fun b hb _ => hkeep b hb⟩, Nat.le_refl _, Nat.le_refl _, fun _ _ _ => rfl⟩
          · cases h
            have hf := hr1.fr.mono (Nat.min_le_right st.lo st1.lo)
            exact ⟨m1, hv, hr1.sr, hf, hr1.len, Nat.min_le_left _ _, fun i hi hl => hr1.old i hi (Nat.lt_of_lt_of_le hl (Nat.min_le_right _ _))⟩
        obtain ⟨m', h1, h2⟩ := hfin
        rcases hx with rfl | rfl
        · exact ⟨he1.defers, v, hrun, v, m', rfl, h1, h2⟩
        · exact ⟨he1.defers, v, hrun, v, m', rfl, h1, h2⟩
      split at h
      · cases h
      · rename_i x e' st1 hne hcode
        cases x with
        | norm => exact fin (.inl rfl) hcode h
        | ret => exact fin (.inr rfl) hcode h
        | exit id => exact (hne id rfl).elim
      · cases h
end Ev
end Go.Proofs.Ytepianllbfnpoaa

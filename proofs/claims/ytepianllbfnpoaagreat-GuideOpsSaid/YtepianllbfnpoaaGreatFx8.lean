/- Fx: a run of Go code that the kernel computes fast. Eighth part: code, functions, closed calls. No program. -/
import Derived.Test.YtepianllbfnpoaaGreatFx7
namespace Go.Proofs.YtepianllbfnpoaaGreat
open Go.RowKit Ev
namespace Fx
variable {P : Program} {β : Type}

abbrev KX (β : Type) := X → FE → FSt → Option β
abbrev CodeT (β : Type) := FCall β → Nat → FE → FSt → KX β → Option β
def iterF (f : FE → FSt → KX β → Option β) : Nat → FE → FSt → KX β → Option β
  | 0, _, _, _ => none
  | n + 1, fe, fs, k => f fe fs fun x fe' fs' => match x with
    | .norm => iterF f n fe' fs' k
    | x => k x fe' fs'
def seqC (f g : CodeT β) : CodeT β := fun fev N fe fs k => f fev N fe fs fun x fe' fs' => match x with
  | .norm => g fev N fe' fs' k
  | x => k x fe' fs'
def condC (q : FE → FV) (f g : CodeT β) : CodeT β := fun fev N fe fs k => match q fe with
  | .c (.b true) => f fev N fe fs k
  | .c (.b false) => g fev N fe fs k
  | _ => none
def blockC (id : Nat) (f : CodeT β) : CodeT β := fun fev N fe fs k => f fev N fe fs fun x fe' fs' => match x with
  | .exit id' => if Nat.beq id' id then k .norm fe' fs' else k (.exit id') fe' fs'
  | x => k x fe' fs'
/-- code, made ready -/
def codeP (P : Program) (n : Nat) : Code → Option (CodeT β)
  | .skip => some fun _ _ fe fs k => k .norm fe fs
  | .region _ ops draw => (match regP P n ops draw with
    | some f => some fun fev _ fe fs k => f fev fe fs (k .norm)
    | none => none)
  | .seq a b => (match codeP P n a with
    | none => none
    | some f => (match codeP P n b with
      | none => none
      | some g => some (seqC f g)))
  | .cond c a b => opdK n c fun q => (match codeP P n a with
    | none => none
    | some f => (match codeP P n b with
      | none => none
      | some g => some (condC q f g)))
  | .block id c => (match codeP P n c with
    | none => none
    | some f => some (blockC id f))
  | .loop c => (match codeP P n c with
    | none => none
    | some f => some fun fev N fe fs k => iterF (f fev N) N fe fs k)
  | .exit id => some fun _ _ fe fs k => k (.exit id) fe fs
  | .scope c => codeP P n c
  | .label _ => some fun _ _ fe fs k => k .norm fe fs
  | .ret => some fun _ _ fe fs k => k .ret fe fs
  | _ => none
def CodeOk (P : Program) (ev : CallE) (n N : Nat) (c : Code) (fev : FCall β) (f : CodeT β) : Prop := ∀ fe fs k r, fs.ok → f fev N fe fs k = some r → ∃ x fe' fs', fs'.ok ∧ evCode P ev N c (absE n fe) fs.st = some (x, absE n fe', fs'.st) ∧ k x fe' fs' = some r
theorem code_rf {ev : CallE} {fev : FCall β} (hev : FCallOk ev fev) {n N : Nat} (hn : n ≤ 512) : ∀ (c : Code) {f : CodeT β}, codeP P n c = some f → CodeOk P ev n N c fev f := by
  intro c
  induction c with
  | skip => intro f h; cases h; exact fun fe fs k r hok hr => ⟨.norm, fe, fs, hok, rfl, hr⟩
  | region id ops draw =>
    intro f h
    simp only [codeP] at h
    split at h
    · rename_i g hg
      cases h
      intro fe fs k r hok hr
      obtain ⟨fe', fs', a1, a2, a3⟩ := reg_rf hev hn hg fe fs _ r hok hr
      exact ⟨.norm, fe', fs', a1, by simp only [evCode, a2], a3⟩
    · cases h
  | seq a b iha ihb =>
    intro f h
    simp only [codeP] at h
    split at h
    · cases h
    rename_i f1 h1
    split at h
    · cases h
    rename_i f2 h2
    cases h
    intro fe fs k r hok hr
    obtain ⟨x, fe1, fs1, a1, a2, a3⟩ := iha h1 fe fs _ r hok hr
    cases x with
    | norm =>
      obtain ⟨x, fe2, fs2, b1, b2, b3⟩ := ihb h2 fe1 fs1 _ r a1 a3
      exact ⟨x, fe2, fs2, b1, by simp only [evCode, a2]; exact b2, b3⟩
    | exit id => exact ⟨.exit id, fe1, fs1, a1, by simp only [evCode, a2], a3⟩
    | ret => exact ⟨.ret, fe1, fs1, a1, by simp only [evCode, a2], a3⟩
  | cond c a b iha ihb =>
    intro f h
    simp only [codeP] at h
    obtain ⟨q, h, hq⟩ := opdK_spec h
    split at h
    · cases h
    rename_i f1 h1
    split at h
    · cases h
    rename_i f2 h2
    cases h
    intro fe fs k r hok hr
    unfold condC at hr
    split at hr
    · rename_i hb
      have hc : cellX (lk (absE n fe)) c = some (.flat (.bool true)) := cellX_of (by rw [hq fe, hb] : lk (absE n fe) c = some (abs (.c (.b true))))
      obtain ⟨x, fe1, fs1, a1, a2, a3⟩ := iha h1 fe fs _ r hok hr
      exact ⟨x, fe1, fs1, a1, by simp only [evCode, hc]; exact a2, a3⟩
    · rename_i hb
      have hc : cellX (lk (absE n fe)) c = some (.flat (.bool false)) := cellX_of (by rw [hq fe, hb] : lk (absE n fe) c = some (abs (.c (.b false))))
      obtain ⟨x, fe1, fs1, a1, a2, a3⟩ := ihb h2 fe fs _ r hok hr
      exact ⟨x, fe1, fs1, a1, by simp only [evCode, hc]; exact a2, a3⟩
    · cases hr
  | block id c ih =>
    intro f h
    simp only [codeP] at h
    split at h
    · cases h
    rename_i f1 h1
    cases h
    intro fe fs k r hok hr
    obtain ⟨x, fe1, fs1, a1, a2, a3⟩ := ih h1 fe fs _ r hok hr
    cases x with
    | norm => exact ⟨.norm, fe1, fs1, a1, by simp only [evCode, a2], a3⟩
    | exit id' =>
      simp only at a3
      split at a3
      · rename_i hid
        have hid : id' = id := by simpa using hid
        exact ⟨.norm, fe1, fs1, a1, by simp only [evCode, a2, if_pos hid], a3⟩
      · rename_i hid
        have hid : ¬ id' = id := by simpa using hid
        exact ⟨.exit id', fe1, fs1, a1, by simp only [evCode, a2, if_neg hid], a3⟩
    | ret => exact ⟨.ret, fe1, fs1, a1, by simp only [evCode, a2], a3⟩
  | loop c ih =>
    intro f h
    simp only [codeP] at h
    split at h
    · cases h
    rename_i f1 h1
    cases h
    have key : ∀ m fe fs k r, fs.ok → iterF (f1 fev N) m fe fs k = some r → ∃ x fe' fs', fs'.ok ∧ iter (evCode P ev N c) m (absE n fe) fs.st = some (x, absE n fe', fs'.st) ∧ k x fe' fs' = some r := by
      intro m
      induction m with
      | zero => intro fe fs k r _ hr; cases hr
      | succ m ihm =>
        intro fe fs k r hok hr
        simp only [iterF] at hr
        obtain ⟨x, fe1, fs1, a1, a2, a3⟩ := ih h1 fe fs _ r hok hr
        cases x with
        | norm =>
          obtain ⟨x, fe2, fs2, b1, b2, b3⟩ := ihm fe1 fs1 k r a1 a3
          exact ⟨x, fe2, fs2, b1, by simp only [iter, a2]; exact b2, b3⟩
        | exit id => exact ⟨.exit id, fe1, fs1, a1, by simp only [iter, a2], a3⟩
        | ret => exact ⟨.ret, fe1, fs1, a1, by simp only [iter, a2], a3⟩
    exact fun fe fs k r hok hr => key N fe fs k r hok hr
  | exit id => intro f h; cases h; exact fun fe fs k r hok hr => ⟨.exit id, fe, fs, hok, rfl, hr⟩
  | scope c ih => intro f h; exact ih h
  | label l => intro f h; cases h; exact fun fe fs k r hok hr => ⟨.norm, fe, fs, hok, rfl, hr⟩
  | ret => intro f h; cases h; exact fun fe fs k r hok hr => ⟨.ret, fe, fs, hok, rfl, hr⟩
  | rangeFunc f ps a b _ _ => intro f h; cases h
  | goto l => intro f h; cases h
  | refuse s => intro f h; cases h

/-! ### functions -/
abbrev ResT := FE → FSt → Option FS
def fsOf : FV → Option FS
  | .c x => some (.c x)
  | .a l => some (.a l)
  | _ => none
theorem fsOf_spec {v : FV} {s : FS} (h : fsOf v = some s) : abs v = .s (absS s) := by
  unfold fsOf at h
  split at h <;> cases h <;> rfl
def res1P (P : Program) (n : Nat) (r : ResultVar) : Option ResT := match r with
  | .tmp t => if Nat.blt t n then accK t fun g => some fun fe _ => fsOf (g fe) else none
  | .cell t T => if Nat.blt t n then accK t fun g => (match opLoadF (β := FS) P T g with
    | some f => some fun fe fs => f fe fs fun v _ => fsOf v
    | none => none) else none
theorem res1_spec {n : Nat} {r : ResultVar} {f : ResT} (h : res1P P n r = some f) {fe : FE} {fs : FSt} {s : FS} (hs : f fe fs = some s) : evResult P (absE n fe) fs.st r = some (absS s) := by
  cases r with
  | tmp t =>
    cases ht : Nat.blt t n with
    | false => simp [res1P, ht] at h
    | true =>
      simp only [res1P, ht, if_true] at h
      rw [accK_eq] at h
      cases h
      have ht : t < n := by simpa [Nat.blt_eq] using ht
      simp only [evResult, absE_get fe ht]
      rw [fsOf_spec hs]
  | cell t T =>
    cases ht : Nat.blt t n with
    | false => simp [res1P, ht] at h
    | true =>
      simp only [res1P, ht, if_true] at h
      rw [accK_eq] at h
      split at h
      · rename_i g hg
        cases h
        have ht : t < n := by simpa [Nat.blt_eq] using ht
        obtain ⟨i, off, v, s', e1, e2, e3, e4⟩ := load_eq hg hs
        have e5 := fsOf_spec e4
        rw [e3] at e5
        simp only [evResult, absE_get fe ht, e1]
        show evLoad P fs.st T i off = _
        rw [e2, PV.s.inj e5]
      · cases h
def resP (P : Program) (n : Nat) : List ResultVar → Option (List ResT)
  | [] => some []
  | r :: l => match res1P P n r with
    | none => none
    | some f => match resP P n l with
      | none => none
      | some fs => some (f :: fs)
def resAll (fe : FE) (fs : FSt) : List ResT → Option (List FS)
  | [] => some []
  | f :: l => match f fe fs with
    | none => none
    | some s => match resAll fe fs l with
      | none => none
      | some ss => some (s :: ss)
theorem resAll_spec {n : Nat} {fe : FE} {fs : FSt} : ∀ {l : List ResultVar} {ts : List ResT} {ss : List FS}, resP P n l = some ts → resAll fe fs ts = some ss → all? (evResult P (absE n fe) fs.st) l = some (ss.map absS)
  | [], ts, ss, h, hs => by cases h; cases hs; rfl
  | r :: l, ts, ss, h, hs => by
    simp only [resP] at h
    split at h
    · cases h
    rename_i f1 h1
    split at h
    · cases h
    rename_i f2 h2
    cases h
    simp only [resAll] at hs
    split at hs
    · cases hs
    rename_i s hs1
    split at hs
    · cases hs
    rename_i ss' hs2
    cases hs
    simp only [all?, res1_spec h1 hs1, resAll_spec h2 hs2, List.map_cons]
def pvF (l : List FS) : FV := match l with
  | [s] => toFV s
  | l => .t l
theorem pvF_spec (l : List FS) : abs (pvF l) = pvOf (l.map absS) := by
  unfold pvF
  split
  · exact abs_toFV _
  · rename_i h
    cases l with
    | nil => rfl
    | cons a b => cases b with
      | nil => exact absurd rfl (h a)
      | cons c d => rfl
def noIdFC : FC → Bool
  | .p _ _ => false
  | .s _ _ _ _ => false
  | .o c => noIdC c
  | _ => true
def noIdFS : FS → Bool
  | .c x => noIdFC x
  | .a l => l.all noIdFC
def noIdF : FV → Bool
  | .c x => noIdFC x
  | .a l => l.all noIdFC
  | .t l => l.all noIdFS
  | _ => false
theorem noIdFC_eq (c : FC) : noIdC (absC c) = noIdFC c := by cases c <;> rfl
theorem noIdFS_eq (s : FS) : noIdS (absS s) = noIdFS s := by
  cases s with
  | c x => exact noIdFC_eq x
  | a l =>
    show (l.map absC).all noIdC = l.all noIdFC
    rw [List.all_map]
    congr 1
    funext c; exact noIdFC_eq c
theorem noIdF_eq (v : FV) : noId (abs v) = noIdF v := by
  cases v with
  | c x => exact noIdFC_eq x
  | a l => exact noIdFS_eq (.a l)
  | t l =>
    show (l.map absS).all noIdS = l.all noIdFS
    rw [List.all_map]
    congr 1
    funext c; exact noIdFS_eq c
  | skip => rfl
  | any => rfl
structure Comp (β : Type) where
  n : Nat
  run : CodeT β
  res : List ResT
def compF (P : Program) (F : FuncId) : Option (Comp β) := match P.funcs[F]? with
  | none => none
  | some fn => (match fn.body with
    | none => none
    | some c => if Nat.ble fn.ntmps 512 then (match codeP P fn.ntmps c with
      | none => none
      | some run => (match resP P fn.ntmps fn.results.toList with
        | none => none
        | some res => some ⟨fn.ntmps, run, res⟩)) else none)
def fillE : List FV → Nat → FE → FE
  | [], _, e => e
  | v :: r, j, e => fillE r (j + 1) (set 3 j v e)
theorem fillE_get : ∀ {l : List FV} {j q : Nat} {e : FE}, j + l.length ≤ 512 → q < 512 → get 3 q (fillE l j e) = if q < j then get 3 q e else match l[q - j]? with | some v => v | none => get 3 q e
  | [], j, q, e, _, _ => by simp [fillE]
  | v :: r, j, q, e, h, hq => by
    have e3 : (8 : Nat) ^ 3 = 512 := rfl
    simp only [List.length_cons] at h
    rw [fillE, fillE_get (by omega) hq]
    by_cases h1 : q < j
    · rw [if_pos (by omega), if_pos h1, get_ne 3 v e (by omega) (by omega) (by omega)]
    · rw [if_neg h1]
      by_cases h2 : q = j
      · subst h2
        rw [if_pos (by omega), get_set 3 v e (by omega)]
        simp
      · rw [if_neg (by omega), show q - j = (q - (j + 1)) + 1 by omega, List.getElem?_cons_succ]
        cases hc : r[q - (j + 1)]? with
        | some x => rfl
        | none => exact get_ne 3 v e (by omega) (by omega) h2
theorem fillE_abs {l : List FV} {n : Nat} (h : l.length ≤ n) (hn : n ≤ 512) : absE n (fillE l 0 (all .skip 3)) = l.map abs ++ List.replicate (n - (l.map abs).length) PV.skip := by
  have e3 : (8 : Nat) ^ 3 = 512 := rfl
  refine List.ext_getElem? fun j => ?_
  by_cases hj : j < n
  · rw [absE_get _ hj, fillE_get (by omega) (by omega), if_neg (by omega), Nat.sub_zero]
    by_cases h1 : j < l.length
    · rw [List.getElem?_append_left (by simpa using h1)]
      simp [h1]
    · rw [List.getElem?_append_right (by simp; omega), List.getElem?_eq_none (by omega)]
      simp only [List.getElem?_replicate, List.length_map]
      rw [if_pos (by omega), get_all _ 3 _ (by omega)]; rfl
  · rw [List.getElem?_eq_none (by rw [absE_len]; omega), List.getElem?_eq_none (by simp; omega)]
def retF (fs fs' : FSt) (v : FV) (k : Kont β) : Option β := if noIdF v && Nat.ble fs.n fs'.lo then k v fs else k v ⟨fs'.h, fs'.n, minF fs.lo fs'.lo⟩
def runF (c : Comp β) (fev : FCall β) (N : Nat) (args : List FV) (fs : FSt) (k : Kont β) : Option β :=
  if Nat.ble args.length c.n then c.run fev N (fillE args 0 (all .skip 3)) ⟨fs.h, fs.n, fs.n⟩ fun x fe' fs' => match x with
    | .exit _ => none
    | _ => (match resAll fe' fs' c.res with
      | none => none
      | some l => retF fs fs' (pvF l) k)
  else none
/-- what is known of functions by themselves -/
abbrev Orc (β : Type) := FuncId → Option (List FV → FSt → Kont β → Option β)
def fxFun (P : Program) (orcF : Orc β) (N : Nat) : Nat → FCall β
  | 0, _, _, _, _ => none
  | m + 1, F, args, fs, k => match orcF F with
    | some g => g args fs k
    | none => (match compF P F with
      | none => none
      | some c => runF c (fxFun P orcF N m) N args fs k)
structure OrcOk (orc : CallE) (orcF : Orc β) : Prop where
  off : ∀ F, orcF F = none → ∀ a st, orc F a st = none
  on : ∀ F g, orcF F = some g → ∀ args fs k r, fs.ok → g args fs k = some r → ∃ v fs', fs'.ok ∧ orc F (args.map abs) fs.st = some (abs v, fs'.st) ∧ k v fs' = some r
theorem fx_ok {orc : CallE} {orcF : Orc β} (ho : OrcOk orc orcF) (N : Nat) : ∀ m, FCallOk (evFun P orc N m) (fxFun P orcF N m)
  | 0 => fun F args fs k r hok h => by cases h
  | m + 1 => fun F args fs k r hok h => by
    simp only [fxFun] at h
    split at h
    · rename_i g hg
      obtain ⟨v, fs', a1, a2, a3⟩ := ho.on F g hg args fs k r hok h
      exact ⟨v, fs', a1, by simp only [evFun, a2], a3⟩
    · rename_i hoff
      split at h
      · cases h
      rename_i c hc
      unfold compF at hc
      split at hc
      · cases hc
      rename_i fn hfn
      split at hc
      · cases hc
      rename_i body hb
      split at hc
      · rename_i hn
        have hn : fn.ntmps ≤ 512 := by simpa using hn
        split at hc
        · cases hc
        rename_i run hrun
        split at hc
        · cases hc
        rename_i res hres
        cases hc
        unfold runF at h
        split at h
        · rename_i hal
          have hal : args.length ≤ fn.ntmps := by simpa using hal
          have hok0 : (FSt.mk fs.h fs.n fs.n).ok := ⟨hok.n, hok.obj⟩
          obtain ⟨x, fe1, fs1, a1, a2, a3⟩ := code_rf (fx_ok ho N m) hn body hrun _ _ _ r hok0 h
          rw [fillE_abs hal hn] at a2
          have est : (FSt.mk fs.h fs.n fs.n).st = ⟨fs.st.h, fs.st.h.length⟩ := by rw [st_len]; rfl
          rw [est] at a2
          have fin : (match resAll fe1 fs1 res with | none => none | some l => retF fs fs1 (pvF l) k) = some r → (∀ id, x ≠ .exit id) → ∃ v fs', fs'.ok ∧ evFun P orc N (m + 1) F (args.map abs) fs.st = some (abs v, fs'.st) ∧ k v fs' = some r := fun hr hx => by
            split at hr
            · cases hr
            rename_i l hl
            have hra := resAll_spec hres hl
            unfold retF at hr
            have hev : evFun P orc N (m + 1) F (args.map abs) fs.st = if noId (pvOf (l.map absS)) && decide (fs.st.h.length ≤ fs1.st.lo) then some (pvOf (l.map absS), fs.st) else some (pvOf (l.map absS), ⟨fs1.st.h, min fs.st.lo fs1.st.lo⟩) := by
              simp only [evFun, ho.off F hoff, hfn, hb, a2]
              cases x with
              | exit id => exact (hx id rfl).elim
              | norm => simp only [hra]
              | ret => simp only [hra]
            rw [← pvF_spec, noIdF_eq, st_len] at hev
            split at hr
            · rename_i hc
              simp only [Bool.and_eq_true, Nat.ble_eq] at hc
              refine ⟨_, fs, hok, ?_, hr⟩
              rw [hev, if_pos (by rw [hc.1]; simp; exact hc.2)]
            · rename_i hc
              refine ⟨_, ⟨fs1.h, fs1.n, minF fs.lo fs1.lo⟩, ⟨a1.n, a1.obj⟩, ?_, hr⟩
              rw [hev, if_neg (by
                intro hh
                simp only [Bool.and_eq_true, decide_eq_true_eq] at hh
                exact hc (by rw [hh.1]; have := hh.2; simp; exact this)), lo_st, minF_eq]
              rfl
          cases x with
          | exit id => cases a3
          | norm => exact fin a3 fun id e => by cases e
          | ret => exact fin a3 fun id e => by cases e
        · cases h
      · cases hc
/-- what a run ends with -/
def endV : Kont Value := fun v _ => match v with
  | .c (.i n) => some (.int .i64 (.ofNat n))
  | .c (.k kd n) => some (.int kd (.ofNat n))
  | .c (.b b) => some (.bool b)
  | .c (.o (.flat v)) => some v
  | _ => none
theorem endV_spec {v : FV} {fs : FSt} {u : Value} (h : endV v fs = some u) : abs v = .s (.c (.flat u)) := by
  unfold endV at h
  split at h <;> cases h <;> rfl
/-- a call that is handed no memory, run through -/
theorem run_calls (hN : NoCount P) (hM : P.follows .mixedOrders = true) {orc : CallE} {orcF : Orc Value} (horc : CallOk P orc) (hork : CallKeep orc) (ho : OrcOk orc orcF) {N m : Nat} {F : FuncId} {pvs : List FV} {v : Value} (h : fxFun P orcF N m F pvs st0 endV = some v)
    {args : List Value} (hargs : All2 (VP fun _ => none) (pvs.map abs) args) (w : World) : Calls P F args.toArray w fun e w' => e = .returned v ∧ Flow.Grow w w' := by
  obtain ⟨u, fs', _, h2, h3⟩ := fx_ok ho N m F pvs st0 endV v st0_ok h
  rw [endV_spec h3] at h2
  exact closed_calls hN hM horc hork h2 hargs w
end Fx
end Go.Proofs.YtepianllbfnpoaaGreat

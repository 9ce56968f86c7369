/- Fx: a run of Go code that the kernel computes fast. Sixth part: lengths, slices, fields, copies, conversions; any operation. No program. -/
import Derived.Test.YtepianllbfnpoaaGreatFx5
namespace Go.Proofs.YtepianllbfnpoaaGreat
open Go.RowKit Ev
namespace Fx
variable {P : Program} {β : Type}

/-! ### len -/
def isSliceT (P : Program) (T : TypeId) : Bool := match P.underlying T with
  | some (.slice _) => true
  | _ => false
theorem isSliceT_spec {T : TypeId} (h : isSliceT P T = true) : ∃ el, P.underlying T = some (.slice el) := by
  unfold isSliceT at h
  split at h
  · exact ⟨_, by assumption⟩
  · cases h
def lenF (str : Bool) (c : FC) : Option Nat := match c with
  | .s _ _ len _ => if str then none else some len
  | .st n _ => if str then some n else none
  | .o (.flat (.slice none 0 0)) => if str then none else some 0
  | .o (.emp _) => if str then none else some 0
  | .o (.q _ _ _) => if str then none else some 0
  | _ => none
def lenAt (str : Bool) (gx : FE → FV) : Step β := fun fe fs k => match gx fe with
  | .c c => (match lenF str c with
    | some m => k (.c (.i m)) fs
    | none => none)
  | _ => none
def opLenF (P : Program) (n : Nat) (o : Oper) (T : TypeId) (gx : FE → FV) : Option (Step β) := if isStrT P T || isSliceT P T then (match isStrT P T with
    | true => some (lenAt true gx)
    | false => some (lenAt false gx))
  else some (genF P n o)
theorem lenF_spec {T : TypeId} (ht : (isStrT P T || isSliceT P T) = true) {c : FC} {m : Nat} (h : lenF (isStrT P T) c = some m) : evLenT P T (absC c) = some m := by
  cases hs : isStrT P T with
  | true =>
    rw [hs] at h
    have hu := isStrT_spec hs
    unfold lenF at h
    split at h <;> simp at h
    · subst h
      unfold evLenT
      rw [hu]
      simp only [absC, rowL_len]
  | false =>
    rw [hs] at h ht
    obtain ⟨el, hu⟩ := isSliceT_spec (by simpa using ht)
    unfold lenF at h
    split at h <;> simp at h
    all_goals
      subst h
      unfold evLenT
      rw [hu]
      rfl
theorem opLen_rf {n : Nat} {o : Oper} {T : TypeId} {x : Operand} {ts : Array TypeId} (ho : o.op = .call { callee := .builtin .len, args := #[x], argTypes := ts }) (hts : ts[0]? = some T) {gx : FE → FV} (hx : ∀ fe', lk (absE n fe') x = some (abs (gx fe'))) {f : Step β} (hf : opLenF P n o T gx = some f) : Rf n (evOp P · · o) f := fun fe fs k r hok h => by
  unfold opLenF at hf
  by_cases ht : (isStrT P T || isSliceT P T) = true
  · rw [if_pos ht] at hf
    have hf' : f = lenAt (isStrT P T) gx := by
      split at hf
      · rename_i hb; cases hf; rw [hb]
      · rename_i hb; cases hf; rw [hb]
    subst hf'
    clear hf
    unfold lenAt at h
    split at h
    · rename_i c hc
      split at h
      · rename_i m hm
        have h1 := cellX_of (by rw [hx fe, hc] : lk (absE n fe) x = some (abs (.c c)))
        refine ⟨_, fs, hok, ?_, h⟩
        unfold evOp
        simp only [ho, hts, h1, lenF_spec ht hm]
        rfl
      · cases h
    · cases h
  · rw [if_neg ht] at hf; cases hf; exact gen_rf n o fe fs k r hok h

/-! ### s[lo:hi] -/
def optK {γ : Type} (n : Nat) (x : Option Operand) (K : Option (FE → FV) → Option γ) : Option γ := match x with
  | none => K none
  | some y => opdK n y fun g => K (some g)
def BndOk (n : Nat) (x : Option Operand) (g : Option (FE → FV)) : Prop := match x, g with
  | none, none => True
  | some y, some g => ∀ fe', lk (absE n fe') y = some (abs (g fe'))
  | _, _ => False
theorem optK_spec {γ : Type} {n : Nat} {x : Option Operand} {K : Option (FE → FV) → Option γ} {f : γ} (h : optK n x K = some f) : ∃ g, K g = some f ∧ BndOk n x g := by
  cases x with
  | none => exact ⟨none, h, trivial⟩
  | some y =>
    obtain ⟨g, h1, h2⟩ := opdK_spec h
    exact ⟨some g, h1, h2⟩
def bnd (g : Option (FE → FV)) (d : Nat) (fe : FE) : Option Nat := match g with
  | none => some d
  | some g => (match g fe with
    | .c (.i j) => some j
    | _ => none)
theorem bnd_spec {n : Nat} {x : Option Operand} {g : Option (FE → FV)} (hg : BndOk n x g) {d b : Nat} {fe : FE} (h : bnd g d fe = some b) : evBound (lk (absE n fe)) d x = some b := by
  cases x with
  | none => cases g with
    | none => exact h
    | some g => exact hg.elim
  | some y => cases g with
    | none => exact hg.elim
    | some g =>
      simp only [bnd] at h
      split at h
      · rename_i j hj
        cases h
        have e : evX (lk (absE n fe)) y = some (.s (.c (.flat (.int .i64 (.ofNat b))))) := by show lk _ y = _; rw [hg fe, hj]; rfl
        simp only [evBound, e]
        rw [if_pos (show (0 : Int) ≤ .ofNat b by simp only [Int.ofNat_eq_natCast]; omega)]
        rfl
      · cases h
def cutStr (n N l h : Nat) : Option FC := if Nat.ble l h && Nat.ble h n then some (.st (h - l) (bsub N l (h - l))) else none
def cutSl (i off len sz l h : Nat) : Option FC := if Nat.ble l h && Nat.ble h len then (if Nat.blt l h then some (.s i (off + l * sz) (h - l) sz) else some (.o (.q i (off + l * sz) sz))) else none
theorem cut_row {n N l h : Nat} (h1 : l ≤ h) (h2 : h ≤ n) : rowL (h - l) (bsub N l (h - l)) = ((rowL n N).take h).drop l := by
  refine List.ext_getElem? fun j => ?_
  by_cases hj : j < h - l
  · rw [rowL_get hj, bget_sub hj, List.getElem?_drop, List.getElem?_take, if_pos (by omega), rowL_get (by omega)]
  · rw [List.getElem?_eq_none (by rw [rowL_len]; omega), List.getElem?_eq_none (by simp [rowL_len]; omega)]
def opSliceF (P : Program) (n : Nat) (o : Oper) (T : TypeId) (gx : FE → FV) (lo hi : Option (FE → FV)) : Step β := fun fe fs k => match gx fe with
  | .c (.st m N) => if isStrT P T then (match bnd lo 0 fe with
    | none => none
    | some l => (match bnd hi m fe with
      | none => none
      | some h => (match cutStr m N l h with
        | some c => k (.c c) fs
        | none => none))) else none
  | .c (.s i off len sz) => (match elSize P T with
    | none => none
    | some z => if Nat.beq z sz then (match bnd lo 0 fe with
      | none => none
      | some l => (match bnd hi len fe with
        | none => none
        | some h => (match cutSl i off len sz l h with
          | some c => k (.c c) fs
          | none => none))) else none)
  | _ => genF P n o fe fs k
theorem opSlice_rf {n : Nat} {o : Oper} {T : TypeId} {x : Operand} {lo hi : Option Operand} (ho : o.op = .slice T x lo hi none) {gx : FE → FV} {glo ghi : Option (FE → FV)} (hx : ∀ fe', lk (absE n fe') x = some (abs (gx fe'))) (hlo : BndOk n lo glo) (hhi : BndOk n hi ghi) :
    Rf n (evOp P · · o) (opSliceF P n o T gx glo ghi : Step β) := fun fe fs k r hok h => by
  unfold opSliceF at h
  split at h
  · rename_i m N hp
    split at h
    · rename_i hs
      split at h
      · cases h
      rename_i l hl
      split at h
      · cases h
      rename_i hh hhh
      split at h
      · rename_i c hc
        unfold cutStr at hc
        split at hc
        · rename_i hb
          cases hc
          simp only [Bool.and_eq_true, Nat.ble_eq] at hb
          have h1 : cellX (lk (absE n fe)) x = some (.str (rowL m N)) := cellX_of (by rw [hx fe, hp] : lk (absE n fe) x = some (abs (.c (.st m N))))
          refine ⟨_, fs, hok, ?_, h⟩
          unfold evOp
          simp only [ho, h1]
          unfold evSlice
          simp only [isStrT_spec hs, bnd_spec hlo hl, rowL_len, bnd_spec hhi hhh]
          rw [if_pos hb]
          show some (PV.s (.c (.str (((rowL m N).take hh).drop l))), _) = some (PV.s (.c (.str (rowL (hh - l) (bsub N l (hh - l))))), _)
          rw [cut_row hb.1 hb.2]
        · cases hc
      · cases h
    · cases h
  · rename_i i off len sz hp
    split at h
    · cases h
    rename_i z hz
    split at h
    · rename_i hzz
      have hzz : z = sz := by simpa using hzz
      subst hzz
      split at h
      · cases h
      rename_i l hl
      split at h
      · cases h
      rename_i hh hhh
      split at h
      · rename_i c hc
        unfold cutSl at hc
        split at hc
        · rename_i hb
          simp only [Bool.and_eq_true, Nat.ble_eq] at hb
          obtain ⟨el, hu, hel⟩ := elSize_spec hz
          have h1 : cellX (lk (absE n fe)) x = some (.sl i off len z) := cellX_of (by rw [hx fe, hp] : lk (absE n fe) x = some (abs (.c (.s i off len z))))
          refine ⟨_, fs, hok, ?_, h⟩
          unfold evOp
          simp only [ho, h1]
          unfold evSlice
          simp only [hu, if_pos hel, bnd_spec hlo hl, bnd_spec hhi hhh]
          rw [if_pos hb]
          split at hc
          · rename_i hlt
            cases hc
            rw [if_pos (by simpa [Nat.blt_eq] using hlt)]
            rfl
          · rename_i hlt
            cases hc
            rw [if_neg (by simpa [Nat.blt_eq] using hlt)]
            rfl
        · cases hc
      · cases h
    · cases h
  · exact gen_rf n o fe fs k r hok h

/-! ### x.f -/
def partAt (P : Program) (T : TypeId) (f : Nat) : Option (Nat × Option Nat) := match P.underlying T with
  | some (.struct fields) => (match fields[f]? with
    | none => none
    | some fd => (match P.underlying fd.type with
      | none => none
      | some d => if isAggD d then (match sizeT P fd.type with
          | none => none
          | some n => some (fd.offset, some n)) else some (fd.offset, none)))
  | _ => none
def opFieldF (P : Program) (T : TypeId) (f : Nat) (gx : FE → FV) : Option (Step β) := match partAt P T f with
  | none => none
  | some (off, none) => some fun fe fs k => (match gx fe with
    | .a l => (match l[off]? with
      | some c => k (.c c) fs
      | none => none)
    | _ => none)
  | some (off, some m) => some fun fe fs k => (match gx fe with
    | .a l => k (.a ((l.take (off + m)).drop off)) fs
    | _ => none)
theorem opField_rf {n : Nat} {o : Oper} {T : TypeId} {x : Operand} {fd : Nat} (ho : o.op = .field T x fd) {gx : FE → FV} (hx : ∀ fe', lk (absE n fe') x = some (abs (gx fe'))) {f : Step β} (hf : opFieldF P T fd gx = some f) : Rf n (evOp P · · o) f := fun fe fs k r hok h => by
  unfold opFieldF at hf
  have key : ∀ off m, partAt P T fd = some (off, m) → ∀ cs : List C, evField P T fd cs = match m with
      | none => (match cs[off]? with | some c => some (.s (.c c)) | none => none)
      | some n => some (.s (.a ((cs.take (off + n)).drop off))) := fun off m hp cs => by
    unfold partAt at hp
    unfold evField
    split at hp
    · rename_i fields hu
      simp only [hu]
      split at hp
      · cases hp
      rename_i fdd hff
      simp only [hff]
      unfold evPart
      split at hp
      · cases hp
      rename_i d hd
      simp only [hd]
      split at hp
      · rename_i ha
        rw [if_pos ha]
        split at hp
        · cases hp
        rename_i n hn
        cases hp
        simp only [hn]
      · rename_i ha
        rw [if_neg ha]
        cases hp
        simp only
        cases cs[fdd.offset]? <;> rfl
    · cases hp
  cases hp : partAt P T fd with
  | none => rw [hp] at hf; cases hf
  | some q =>
    obtain ⟨off, m⟩ := q
    rw [hp] at hf
    cases m with
    | none =>
      cases hf
      try simp only at h
      split at h
      · rename_i l hl
        split at h
        · rename_i c hc
          have h1 : evX (lk (absE n fe)) x = some (.s (.a (l.map absC))) := by show lk _ x = _; rw [hx fe, hl]; rfl
          refine ⟨_, fs, hok, ?_, h⟩
          unfold evOp
          simp only [ho, h1, key _ _ hp, List.getElem?_map, hc, Option.map_some]
          rfl
        · cases h
      · cases h
    | some m =>
      cases hf
      try simp only at h
      split at h
      · rename_i l hl
        have h1 : evX (lk (absE n fe)) x = some (.s (.a (l.map absC))) := by show lk _ x = _; rw [hx fe, hl]; rfl
        refine ⟨_, fs, hok, ?_, h⟩
        unfold evOp
        simp only [ho, h1, key _ _ hp]
        simp [abs, List.map_drop, List.map_take]
      · cases h

/-! ### append(s, make(..)...) -/
structure ZSt where
  el : TypeId
  bytes : Nat
  c : FC
def zSt (P : Program) (T Tn : TypeId) : Option ZSt := match P.underlying T with
  | some (.slice el) => (match P.info? el with
    | none => none
    | some inf => (match inf.zero with
      | none => none
      | some z => (match z.cells.toList with
        | [v] => (match ofCell v with
          | none => none
          | some c => if inf.size = 1 ∧ isIntT P Tn = true then some ⟨el, inf.bytes, ofC c⟩ else none)
        | _ => none)))
  | _ => none
def zCh (c : FC) (m : Nat) : Ch := match c with
  | .k .u8 0 => .bs m 0
  | c => .li (List.replicate m c)
theorem zCh_spec (c : FC) (m : Nat) : (zCh c m).list = List.replicate m (absC c) ∧ (zCh c m).len = m := by
  unfold zCh
  split
  · refine ⟨List.ext_getElem? fun j => ?_, rfl⟩
    by_cases hj : j < m
    · show (byL m 0)[j]? = _
      rw [byL_get hj, List.getElem?_replicate, if_pos hj, byC, bget_zero]; rfl
    · rw [List.getElem?_eq_none (by show (byL m 0).length ≤ j; rw [byL_len]; omega), List.getElem?_eq_none (by simp; omega)]
  · exact ⟨by simp [Ch.list], by simp [Ch.len]⟩
theorem zSt_spec {T Tn : TypeId} {z : ZSt} (h : zSt P T Tn = some z) (st : St) {i off len sz m : Nat} {k : IntKind} {o : O} (hm : 0 < m) (hm2 : m ≤ 9223372036854775807) (ho : st.h[i]? = some o)
    (hc : o.live = true ∧ o.rw = true ∧ o.ty = z.el ∧ off = 0 ∧ sz = 1 ∧ o.cells.length = len ∧ len + m ≤ maxLen ∧ (len + m) * z.bytes ≤ 140737488355328) :
    evAppendZ P st T Tn (.sl i off len sz) (.flat (.int k (.ofNat m))) = some (.s (.c (.sl st.h.length 0 (len + m) 1)), ⟨st.h.set i { o with live := false, cells := [] } ++ [⟨o.cells ++ List.replicate m (absC z.c), z.el, true, true, false⟩], min st.lo i⟩) := by
  unfold zSt at h
  split at h
  · rename_i el hu
    split at h
    · cases h
    rename_i inf hi
    split at h
    · cases h
    rename_i zv hz
    split at h
    · rename_i v hv
      split at h
      · cases h
      rename_i c hcv
      split at h
      · rename_i hh
        cases h
        unfold evAppendZ
        simp only [hu, hi, hz, hv, hcv]
        rw [if_neg (by simp only [hh.1, hh.2, true_and, not_and, Int.ofNat_eq_natCast]; omega)]
        simp only [ho]
        refine (if_pos hc).trans ?_
        simp only [absC_ofC]
        rfl
      · cases h
    · cases h
  · cases h
def opAppZF (P : Program) (T Tn : TypeId) (gs gx : FE → FV) : Option (Step β) := match zSt P T Tn with
  | none => none
  | some z => some fun fe fs k => match gs fe with
    | .c (.s i off len sz) => (match gx fe with
      | .c (.i m) => if Nat.ble 1 m && Nat.ble m 9223372036854775807 then objF fs i fun fo =>
          if fo.live && (fo.rw && (Nat.beq fo.ty z.el && (Nat.beq off 0 && (Nat.beq sz 1 && (Nat.beq fo.n len && (Nat.ble (len + m) maxLen && (Nat.ble ((len + m) * z.bytes) 140737488355328 && roomy (fo.n + (zCh z.c m).len) fo.cells (zCh z.c m)))))))) then
            pushK (setO fs i (deadOf fo) (minF fs.lo i)) ⟨fo.n + (zCh z.c m).len, appC fo.n fo.cells (zCh z.c m), z.el, true, true, false⟩ (k (.c (.s fs.n 0 (len + m) 1))) else none
        else none
      | _ => none)
    | _ => none
theorem opAppZ_rf {n : Nat} {o : Oper} {T Tn : TypeId} (hT : T ≠ Tn) {s x : Operand} (ho : o.op = .call { callee := .builtin .append, args := #[s, x], argTypes := #[T, Tn] }) {gs gx : FE → FV} (hs : ∀ fe', lk (absE n fe') s = some (abs (gs fe'))) (hx : ∀ fe', lk (absE n fe') x = some (abs (gx fe'))) {f : Step β} (hf : opAppZF P T Tn gs gx = some f) : Rf n (evOp P · · o) f := fun fe fs k r hok h => by
  unfold opAppZF at hf
  cases hz : zSt P T Tn with
  | none => rw [hz] at hf; cases hf
  | some z =>
    rw [hz] at hf
    cases hf
    try simp only at h
    split at h
    · rename_i i off len sz hsc
      split at h
      · rename_i m hm
        split at h
        · rename_i hmb
          simp only [Bool.and_eq_true, Nat.ble_eq] at hmb
          obtain ⟨hi, hh⟩ := objF_spec h
          clear h
          split at hh
          · rename_i hc
            simp only [Bool.and_eq_true, Nat.beq_eq, Nat.ble_eq] at hc
            obtain ⟨c1, c2, c3, c4, c5, c6, c7, c8, c9⟩ := hc
            obtain ⟨z1, z2⟩ := zCh_spec z.c m
            obtain ⟨a1, a2⟩ := appC_spec (get 4 i fs.h) (hok.obj i hi) (zCh z.c m) c9 z.el true true false
            have hko := set_ok hok hi (fo := deadOf (get 4 i fs.h)) trivial (minF fs.lo i)
            obtain ⟨g1, g2, g3⟩ := pushK_spec hko a2 hh
            refine ⟨_, _, g1, ?_, g3⟩
            have h1 : cellX (lk (absE n fe)) s = some (.sl i off len sz) := cellX_of (by rw [hs fe, hsc] : lk (absE n fe) s = some (abs (.c (.s i off len sz))))
            have h2 : cellX (lk (absE n fe)) x = some (.flat (.int .i64 (.ofNat m))) := cellX_of (by rw [hx fe, hm] : lk (absE n fe) x = some (abs (.c (.i m))))
            unfold evOp
            simp only [ho, h1, h2, if_neg hT]
            rw [zSt_spec hz fs.st (by omega) hmb.2 (st_get fs hi) ⟨c1, c2, c3, c4, c5, by show (FO.list _).length = _; rw [FO.list_len]; exact c6, c7, c8⟩]
            rw [g2, set_st hok hi, dead_o, minF_eq, st_len]
            simp only [FO.o, a1, z1]
            rfl
          · cases hh
        · cases h
      · cases h
    · cases h

/-! ### copy -/
def takeCh (x : Ch) (t : Nat) : Ch := match x with
  | .bs _ X => .bs t X
  | .li l => .li (l.take t)
theorem takeCh_spec {x : Ch} {t : Nat} (h : t ≤ x.len) : (takeCh x t).list = x.list.take t ∧ (takeCh x t).len = t := by
  cases x with
  | bs m X =>
    have h : t ≤ m := h
    refine ⟨List.ext_getElem? fun j => ?_, rfl⟩
    by_cases hj : j < t
    · show (byL t X)[j]? = ((byL m X).take t)[j]?
      rw [byL_get hj, List.getElem?_take, if_pos hj, byL_get (by omega)]
    · rw [List.getElem?_eq_none (by show (byL t X).length ≤ j; rw [byL_len]; omega), List.getElem?_eq_none (by simp; omega)]
  | li l =>
    have h : t ≤ l.length := h
    exact ⟨by simp [takeCh, Ch.list, List.map_take], by simp [takeCh, Ch.len]; omega⟩
def cpSrc (fs : FSt) (z : Nat) (c : FC) (k : Ch → Nat → Option β) : Option β := match c with
  | .st n N => if Nat.beq z 1 then k (.bs n N) n else none
  | c => srcF fs c k
theorem byL_row (n N : Nat) : (rowL n N).map (fun b => C.flat (.int .u8 b.toNat)) = byL n N := by
  refine List.ext_getElem? fun j => ?_
  by_cases hj : j < n
  · rw [List.getElem?_map, rowL_get hj, byL_get hj, Option.map_some, u8_bget]; rfl
  · rw [List.getElem?_eq_none (by rw [List.length_map, rowL_len]; omega), List.getElem?_eq_none (by rw [byL_len]; omega)]
theorem cpSrc_spec {fs : FSt} {z : Nat} {c : FC} {k : Ch → Nat → Option β} {r : β} (h : cpSrc fs z c k = some r) : ∃ ch len, srcCells fs.st (absC c) = some (ch.list, len) ∧ k ch len = some r ∧ (isStrC (absC c) = true → z = 1) := by
  unfold cpSrc at h
  split at h
  · rename_i n N
    split at h
    · rename_i hz
      refine ⟨_, _, ?_, h, fun _ => by simpa using hz⟩
      show srcCells fs.st (.str (rowL n N)) = _
      simp only [srcCells, rowL_len]
      rw [byL_row]; rfl
    · cases h
  · rename_i c hne
    obtain ⟨ch, len, h1, h2⟩ := srcF_spec h
    refine ⟨ch, len, ?_, h2, fun hs => ?_⟩
    · unfold srcCells
      split
      · rename_i l hl
        rw [hl] at h1; cases h1
      · exact h1
    · exfalso
      unfold isStrC at hs
      split at hs
      · rename_i l hl
        rw [hl] at h1; cases h1
      · cases hs
def cpTo (z : Nat) (fs : FSt) (i off len sz : Nat) (ch : Ch) (m : Nat) (k : Kont β) : Option β := objF fs i fun fo =>
  if fo.live && (fo.rw && (Nat.beq sz z && (Nat.beq ch.len (m * z) && (Nat.ble (off + minF m len * z) fo.n && roomy fo.n fo.cells (takeCh ch (minF m len * z)))))) then
    k (.c (.i (minF m len))) (setO fs i ⟨fo.n, putC fo.n fo.cells off (takeCh ch (minF m len * z)), fo.ty, fo.rw, fo.live, fo.full⟩ (minF fs.lo i)) else none
def opCopyF (P : Program) (T : TypeId) (gd gx : FE → FV) : Option (Step β) := match elSize P T with
  | none => none
  | some z => some fun fe fs k => match gd fe with
    | .c (.s i off len sz) => (match gx fe with
      | .c x => cpSrc fs z x fun ch m => cpTo z fs i off len sz ch m k
      | _ => none)
    | _ => none
theorem opCopy_rf {n : Nat} {o : Oper} {T : TypeId} {ts : Array TypeId} {d x : Operand} (ho : o.op = .call { callee := .builtin .copy, args := #[d, x], argTypes := ts }) (hts : ts[0]? = some T) {gd gx : FE → FV} (hd : ∀ fe', lk (absE n fe') d = some (abs (gd fe'))) (hx : ∀ fe', lk (absE n fe') x = some (abs (gx fe'))) {f : Step β} (hf : opCopyF P T gd gx = some f) : Rf n (evOp P · · o) f := fun fe fs k r hok h => by
  unfold opCopyF at hf
  cases hz : elSize P T with
  | none => rw [hz] at hf; cases hf
  | some z =>
    rw [hz] at hf
    cases hf
    try simp only at h
    split at h
    · rename_i i off len sz hdc
      split at h
      · rename_i xc hxc
        obtain ⟨ch, m, e1, e2, e3⟩ := cpSrc_spec h
        obtain ⟨el, hu, hel⟩ := elSize_spec hz
        unfold cpTo at e2
        obtain ⟨hi, hh⟩ := objF_spec e2
        clear h e2
        split at hh
        · rename_i hc
          simp only [Bool.and_eq_true, Nat.beq_eq, Nat.ble_eq] at hc
          obtain ⟨c1, c2, c3, c4, c5, c6⟩ := hc
          rw [minF_eq] at c5 c6 hh
          have ht : min m len * z ≤ ch.len := by rw [c4]; exact Nat.mul_le_mul_right _ (Nat.min_le_left _ _)
          obtain ⟨t1, t2⟩ := takeCh_spec ht
          obtain ⟨p1, p2⟩ := putC_spec (get 4 i fs.h) (hok.obj i hi) (takeCh ch (min m len * z)) (off := off) (by rw [t2]; exact c5) c6 (get 4 i fs.h).full
          have h1 : cellX (lk (absE n fe)) d = some (.sl i off len sz) := cellX_of (by rw [hd fe, hdc] : lk (absE n fe) d = some (abs (.c (.s i off len sz))))
          have h2 := cellX_of (by rw [hx fe, hxc] : lk (absE n fe) x = some (abs (.c xc)))
          refine ⟨_, _, set_ok hok hi p2 _, ?_, hh⟩
          rw [set_st hok hi]
          unfold evOp
          simp only [ho, hts, h1, h2]
          have hone : (isStrC (absC xc) && !oneT P T) = false := by
            cases hs : isStrC (absC xc) with
            | false => rfl
            | true =>
              have := e3 hs
              subst this
              simp [oneT, hu, hel]
          rw [hone]
          simp only [Bool.false_eq_true, if_false]
          unfold evCopy
          simp only [hu, hel, e1, st_get fs hi]
          have hcond : (get 4 i fs.h).o.live = true ∧ (get 4 i fs.h).o.rw = true ∧ sz = z ∧ ch.list.length = m * z ∧ ((get 4 i fs.h).o.full = true ∨ off + min m len * z ≤ (get 4 i fs.h).o.cells.length) :=
            ⟨c1, c2, c3, by rw [Ch.len_eq]; exact c4, .inr (by show _ ≤ (FO.list _).length; rw [FO.list_len]; exact c5)⟩
          rw [if_pos hcond, minF_eq]
          simp only [FO.o, p1, t1, t2]
          rfl
        · cases hh
      · cases h
    · cases h

/-! ### conversions -/
def toRow : Ch → Option (Nat × Nat)
  | .bs m X => some (m, X)
  | .li l => liBy l
theorem evByte_byC (X j : Nat) : evByte (byC X j) = some (UInt8.ofNat (bget X j)) := by
  unfold byC evByte
  simp only
  have := u8_bget X j
  rw [if_pos (by
    show ((UInt8.ofNat (bget X j)).toNat : Int) = _
    rw [this]; rfl)]
  rfl
theorem all_byL : ∀ (l : List Nat) (X : Nat), all? evByte (l.map (byC X)) = some (l.map fun j => UInt8.ofNat (bget X j))
  | [], _ => rfl
  | j :: r, X => by simp only [List.map_cons, all?, evByte_byC, all_byL r X]
theorem toRow_spec {x : Ch} {m X : Nat} (h : toRow x = some (m, X)) : all? evByte x.list = some (rowL m X) ∧ x.len = m := by
  cases x with
  | bs m' X' => cases h; exact ⟨all_byL _ _, rfl⟩
  | li l =>
    have e := liBy_spec h
    refine ⟨?_, ?_⟩
    · show all? evByte (l.map absC) = _
      rw [← e]; exact all_byL _ _
    · show l.length = m
      have := congrArg List.length e
      simpa [byL_len] using this.symm
def markF (fs : FSt) (c : FC) (k : Kont β) : Option β := match c with
  | .s i off len sz => objF fs i fun fo => if fo.live && (fo.rw && (fo.full && (Nat.beq off 0 && Nat.beq fo.n (len * sz)))) then
      pushK (setO fs i (deadOf fo) (minF fs.lo i)) ⟨fo.n, fo.cells, fo.ty, false, true, true⟩ (k (.c (.s fs.n 0 len sz))) else none
  | _ => none
theorem markF_spec {fs : FSt} {c : FC} {k : Kont β} {r : β} (hok : fs.ok) (h : markF fs c k = some r) : ∃ v fs', fs'.ok ∧ evMark fs.st (absC c) = some (abs v, fs'.st) ∧ k v fs' = some r := by
  unfold markF at h
  split at h
  · rename_i i off len sz
    obtain ⟨hi, hh⟩ := objF_spec h
    clear h
    split at hh
    · rename_i hc
      simp only [Bool.and_eq_true, Nat.beq_eq] at hc
      obtain ⟨c1, c2, c3, c4, c5⟩ := hc
      have hko := set_ok hok hi (fo := deadOf (get 4 i fs.h)) trivial (minF fs.lo i)
      have hf : (FO.mk (get 4 i fs.h).n (get 4 i fs.h).cells (get 4 i fs.h).ty false true true).ok := hok.obj i hi
      obtain ⟨g1, g2, g3⟩ := pushK_spec hko hf hh
      refine ⟨_, _, g1, ?_, g3⟩
      rw [g2, set_st hok hi, dead_o, minF_eq]
      simp only [absC, evMark]
      rw [st_get fs hi]
      have : (get 4 i fs.h).o.live = true ∧ (get 4 i fs.h).o.rw = true ∧ (get 4 i fs.h).o.full = true ∧ off = 0 ∧ (get 4 i fs.h).o.cells.length = len * sz :=
        ⟨c1, c2, c3, c4, by show (FO.list _).length = _; rw [FO.list_len]; exact c5⟩
      simp only
      rw [if_pos this, st_len]
      rfl
    · cases hh
  · cases h
def strOfF (fs : FSt) (c : FC) (k : Kont β) : Option β := srcF fs c fun ch m => match toRow ch with
  | some (n, X) => if Nat.beq n m then k (.c (.st n X)) fs else none
  | none => none
def bytesF (P : Program) (dst : TypeId) (fs : FSt) (c : FC) (k : Kont β) : Option β := match c with
  | .st m N => if Nat.ble m maxLen then pushK fs ⟨m, .bs N, bytesEl P dst, false, true, false⟩ (k (.c (.s fs.n 0 m 1))) else none
  | _ => none
def dryF (P : Program) (n : Nat) (o : Oper) : Step β := fun fe fs k => match evDry P (flk n fe) o with
  | some pv => k (ofPV pv) fs
  | none => none
def opConvF (P : Program) (n : Nat) (o : Oper) (src dst : TypeId) (gx : FE → FV) : Option (Step β) :=
  if src = dst ∧ isBytesT P src = true then some fun fe fs k => (match gx fe with | .c c => markF fs c k | _ => none)
  else if isBytesT P src && isStrT P dst then some fun fe fs k => (match gx fe with | .c c => strOfF fs c k | _ => none)
  else if isStrT P src && isBytesT P dst then some fun fe fs k => (match gx fe with | .c c => bytesF P dst fs c k | _ => none)
  else some (dryF P n o)
theorem opConv_rf {n : Nat} {o : Oper} {src dst : TypeId} {x : Operand} (ho : o.op = .convert src dst x) {gx : FE → FV} (hx : ∀ fe', lk (absE n fe') x = some (abs (gx fe'))) {f : Step β} (hf : opConvF P n o src dst gx = some f) : Rf n (evOp P · · o) f := fun fe fs k r hok h => by
  unfold opConvF at hf
  by_cases c1 : src = dst ∧ isBytesT P src = true
  · rw [if_pos c1] at hf
    cases hf
    try simp only at h
    split at h
    · rename_i c hc
      obtain ⟨v, fs', g1, g2, g3⟩ := markF_spec hok h
      have h1 := cellX_of (by rw [hx fe, hc] : lk (absE n fe) x = some (abs (.c c)))
      refine ⟨v, fs', g1, ?_, g3⟩
      unfold evOp
      simp only [ho, if_pos c1, h1, g2]
    · cases h
  · rw [if_neg c1] at hf
    by_cases c2 : (isBytesT P src && isStrT P dst) = true
    · rw [if_pos c2] at hf
      cases hf
      try simp only at h
      split at h
      · rename_i c hc
        unfold strOfF at h
        obtain ⟨ch, m, e1, e2⟩ := srcF_spec h
        split at e2
        · rename_i n1 X1 hr
          split at e2
          · rename_i hn
            have hn : n1 = m := by simpa using hn
            obtain ⟨r1, r2⟩ := toRow_spec hr
            have h1 := cellX_of (by rw [hx fe, hc] : lk (absE n fe) x = some (abs (.c c)))
            refine ⟨_, fs, hok, ?_, e2⟩
            unfold evOp
            simp only [ho, if_neg c1, c2, if_true, h1]
            unfold evStr
            simp only [e1, r1, rowL_len, if_pos hn]
            rfl
          · cases e2
        · cases e2
      · cases h
    · rw [if_neg c2] at hf
      by_cases c3 : (isStrT P src && isBytesT P dst) = true
      · rw [if_pos c3] at hf
        cases hf
        try simp only at h
        split at h
        · rename_i c hc
          unfold bytesF at h
          split at h
          · rename_i m N
            split at h
            · rename_i hm
              have hm : m ≤ maxLen := by simpa using hm
              obtain ⟨g1, g2, g3⟩ := pushK_spec (fo := ⟨m, .bs N, bytesEl P dst, false, true, false⟩) hok trivial h
              have h1 : cellX (lk (absE n fe)) x = some (.str (rowL m N)) := cellX_of (by rw [hx fe, hc] : lk (absE n fe) x = some (abs (.c (.st m N))))
              refine ⟨_, _, g1, ?_, g3⟩
              rw [g2]
              unfold evOp
              simp only [ho, if_neg c1, if_neg c2, c3, if_true, h1]
              unfold evBytes
              rw [if_pos (by rw [rowL_len]; exact hm), rowL_len, byL_row, st_len]
              simp only [FO.o, list_by]
              rfl
            · cases h
          · cases h
        · cases h
      · rw [if_neg c3] at hf
        cases hf
        try simp only at h
        unfold dryF at h
        rw [flk_eq] at h
        split at h
        · rename_i pv hpv
          refine ⟨ofPV pv, fs, hok, ?_, h⟩
          unfold evOp
          simp only [ho, if_neg c1, if_neg c2, if_neg c3, hpv, abs_ofPV]
        · cases h
end Fx
end Go.Proofs.YtepianllbfnpoaaGreat

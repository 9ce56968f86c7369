/- Ev: a function's code, run on what is known of its values. Second part: each operation, and that the model does likewise. No program. -/
import Derived.Test.YtmjonmahecdngaaEv1
namespace Go.Proofs.Ytmjonmahecdngaa
open Go.RowKit
namespace Ev

def all? {α β : Type} (f : α → Option β) : List α → Option (List β)
  | [] => some []
  | x :: r => match f x with
    | none => none
    | some y => match all? f r with
      | none => none
      | some ys => some (y :: ys)
theorem all?_spec {α β : Type} {f : α → Option β} : ∀ {xs : List α} {ys : List β}, all? f xs = some ys → All2 (fun x y => f x = some y) xs ys
  | [], ys, h => by cases h; exact All2.nil
  | x :: r, ys, h => by
    simp only [all?] at h
    cases hx : f x with
    | none => simp [hx] at h
    | some y =>
      cases hr : all? f r with
      | none => simp [hx, hr] at h
      | some zs =>
        simp only [hx, hr, Option.some.injEq] at h
        subst h
        exact All2.cons hx (all?_spec hr)
theorem All2.flip {α β : Type} {R : α → β → Prop} {xs : List α} {vs : List β} (h : All2 R xs vs) : All2 (fun v x => R x v) vs xs := ⟨h.1.symm, fun j v x a b => h.2 j x v b a⟩

def ofCell (v : Value) : Option C := match v with
  | .string s => some (.str s.data.toList)
  | v => if one v then some (.flat v) else none
theorem ofCell_spec {m : M} {v : Value} {c : C} (h : ofCell v = some c) : VC m c v := by
  unfold ofCell at h
  split at h
  · cases h; rfl
  · split at h
    · cases h; exact ⟨rfl, by assumption⟩
    · cases h
def ofValue (v : Value) : Option S := match v with
  | .agg cs => match all? ofCell cs.toList with | some l => some (.a l) | none => none
  | v => match ofCell v with | some c => some (.c c) | none => none
theorem ofValue_spec {m : M} {v : Value} {s : S} (h : ofValue v = some s) : VS m s v := by
  unfold ofValue at h
  split at h
  · rename_i cs
    split at h
    · cases h
      rename_i l hl
      exact ⟨cs.toList, rfl, ⟨(all?_spec hl).1.symm, fun j x u hx hu => ofCell_spec ((all?_spec hl).2 j u x hu hx)⟩⟩
    · cases h
  · split at h
    · cases h; rename_i hc; exact ofCell_spec hc
    · cases h
def toCell : C → Option Value
  | .flat v => some v
  | .str l => some (str' l)
  | _ => none
theorem toCell_spec {m : M} {c : C} {u v : Value} (h : toCell c = some u) (k : VC m c v) : v = u := by
  cases c <;> simp [toCell] at h
  · subst h; exact k.1
  · subst h; exact k
def toVal : S → Option Value
  | .c x => toCell x
  | .a cs => match all? toCell cs with | some l => some (.agg l.toArray) | none => none
theorem toVal_spec {m : M} {s : S} {u v : Value} (h : toVal s = some u) (k : VS m s v) : v = u := by
  cases s with
  | c x => exact toCell_spec h k
  | a cs =>
    simp only [toVal] at h
    split at h
    · cases h
      rename_i l hl
      obtain ⟨vs, rfl, hv⟩ := k
      have hs := all?_spec hl
      congr 2
      refine List.ext_getElem? fun j => ?_
      by_cases hj : j < cs.length
      · have h1 : j < vs.length := by rw [← hv.1]; exact hj
        have h2 : j < l.length := by rw [← hs.1]; exact hj
        rw [List.getElem?_eq_getElem h1, List.getElem?_eq_getElem h2]
        have a := hs.2 j cs[j] l[j] (by simp) (by simp)
        have b := hv.2 j cs[j] vs[j] (by simp) (by simp)
        rw [toCell_spec a b]
      · rw [List.getElem?_eq_none (by rw [← hv.1]; omega), List.getElem?_eq_none (by rw [← hs.1]; omega)]
    · cases h
def cellsOf : S → List C
  | .c x => [x]
  | .a cs => cs
theorem cellsOf_spec {m : M} {s : S} {v : Value} (h : VS m s v) : All2 (VC m) (cellsOf s) v.cells.toList := by
  cases s with
  | c x =>
    have h1 := VC.one h
    have : v.cells = #[v] := by cases v <;> first | rfl | cases h1
    rw [this]
    exact All2.cons h All2.nil
  | a cs => obtain ⟨vs, rfl, hv⟩ := h; simpa [Value.cells, cellsOf] using hv

/-- what is known of operands -/
abbrev Look := Operand → Option PV
def evX (e : Look) (x : Operand) : Option PV := e x
def lk (e : Env) : Look
  | .tmp t => e[t]?
  | .const v => match ofValue v with | some s => some (.s s) | none => none
  | .func f => some (.s (.c (.fn f [])))
  | .global _ => none
/-- the slots, in a frame -/
structure ER (m : M) (e : Env) (a : Act) : Prop where
  defers : a.defers = []
  slots : All2 (VP m) e a.tmps.toList
theorem ER.ext {m m' : M} {e : Env} {a : Act} (h : ER m e a) (k : ∀ i p, m i = some p → m' i = some p) : ER m' e a := ⟨h.defers, h.slots.imp fun _ _ h => h.ext k⟩
theorem lk_spec {m : M} {e : Env} {a : Act} (h : ER m e a) {x : Operand} {pv : PV} (hx : lk e x = some pv) : VP m pv (a.eval x) := by
  cases x with
  | tmp t =>
    have hlt : t < e.length := (List.getElem?_eq_some_iff.1 hx).1
    have ht : t < a.tmps.toList.length := by rw [← h.slots.1]; exact hlt
    have := h.slots.2 t pv a.tmps.toList[t] hx (by simp)
    have e1 : a.eval (.tmp t) = a.tmps.toList[t] := by
      have ht' : t < a.tmps.size := by simpa using ht
      simp [Act.eval, ht']
    rw [e1]; exact this
  | const v =>
    simp only [lk] at hx
    split at hx
    · cases hx; rename_i hs; exact ofValue_spec hs
    · cases hx
  | func f => cases hx; exact ⟨[], rfl, All2.nil⟩
  | global g => cases hx
instance : Coe Env Look := ⟨lk⟩
/-- operands, in a frame -/
def EL (m : M) (e : Look) (a : Act) : Prop := ∀ x pv, e x = some pv → VP m pv (a.eval x)
theorem evX_spec {m : M} {e : Look} {a : Act} (h : EL m e a) {x : Operand} {pv : PV} (hx : evX e x = some pv) : VP m pv (a.eval x) := h x pv hx
theorem ER.el {m : M} {e : Env} {a : Act} (h : ER m e a) : EL m (lk e) a := fun _ _ hx => lk_spec h hx
theorem ER.put {m : M} {e : Env} {a : Act} (h : ER m e a) {pv : PV} {v : Value} (hv : VP m pv v) : ∀ d, ER m (match d with | some t => e.set t pv | none => e) (a.put d v)
  | none => h
  | some t => ⟨h.defers, ⟨by simp [Act.put, h.slots.1], fun j x u hx hu => by
      simp only [Act.put, Array.toList_setIfInBounds] at hu
      by_cases ej : j = t
      · subst ej
        have hlt := (List.getElem?_eq_some_iff.1 hx).1
        rw [List.length_set] at hlt
        have hlt' : j < a.tmps.toList.length := by rw [← h.slots.1]; exact hlt
        rw [List.getElem?_set_self hlt] at hx
        rw [List.getElem?_set_self hlt'] at hu
        cases hx; cases hu; exact hv
      · rw [List.getElem?_set_ne (Ne.symm ej)] at hx hu
        exact h.slots.2 j x u hx hu⟩⟩

variable (P : Program)
/-- what asks nothing of the world -/
def dry {α : Type} : Sem α → Option α
  | .pure a => some a
  | .program k => dry (k P)
  | _ => none
variable {P}
theorem dry_run {α : Type} {s : Sem α} {a : α} (h : dry P s = some a) (w : World) : s.run P w = .ok a w := by
  induction s with
  | pure b => cases h; rfl
  | program k ih => exact ih P h
  | load _ _ _ _ => cases h
  | store _ _ _ _ _ => cases h
  | new _ _ _ => cases h
  | shape _ _ _ => cases h
  | freeze _ _ _ _ => cases h
  | frozen _ _ _ => cases h
  | getObj _ _ _ => cases h
  | setObj _ _ _ _ => cases h
  | choose _ _ _ => cases h
  | sys _ _ _ => cases h
  | mark _ _ _ => cases h
  | halt _ => cases h

/-- the model's operation is done so -/
def Does (P : Program) (m : M) (st : St) (w : World) (a : Act) (o : Oper) (pv : PV) (st' : St) : Prop :=
  ∃ nx v w' m', (execOp a.eval o).run P w = .ok nx w' ∧ (nx = .value v ∨ nx = .skip ∧ v = undef) ∧ VP m' pv v ∧ Res m st w m' st' w'
/-- .. and the world is as it was -/
def DoesS (P : Program) (m : M) (w : World) (a : Act) (o : Oper) (pv : PV) : Prop := ∃ v, (execOp a.eval o).run P w = .ok (.value v) w ∧ VP m pv v
theorem DoesS.same {m : M} {w : World} {a : Act} {o : Oper} {pv : PV} {v : Value} (h : (execOp a.eval o).run P w = .ok (.value v) w) (hv : VP m pv v) : DoesS P m w a o pv := ⟨v, h, hv⟩
theorem Does.same {m : M} {st : St} {w : World} {a : Act} {o : Oper} {pv : PV} {v : Value} (hs : SR m st.h w) (h : (execOp a.eval o).run P w = .ok (.value v) w) (hv : VP m pv v) : Does P m st w a o pv st :=
  ⟨_, v, w, m, h, .inl rfl, hv, Res.refl hs⟩

def isAggD : TypeDesc → Bool
  | .struct _ | .array _ _ => true
  | _ => false
theorem run_isAgg {T : TypeId} {d : TypeDesc} (h : P.underlying T = some d) (w : World) : (isAgg T).run P w = .ok (isAggD d) w := by
  unfold isAgg
  rw [Sem.run_bind, run_underlying h w]
  cases d <;> simp [isAggD]
variable (P)
def sizeT (T : TypeId) : Option Nat := match P.info? T with | some i => some i.size | none => none
variable {P}
theorem run_sizeOf {T : TypeId} {n : Nat} (h : sizeT P T = some n) (w : World) : (sizeOf T).run P w = .ok n w := by
  unfold sizeT at h
  split at h
  · cases h; rename_i i hi; simp [sizeOf, typeInfo, hi]
  · cases h

theorem DoesS.to {m : M} {st : St} {w : World} {a : Act} {o : Oper} {pv : PV} (h : DoesS P m w a o pv) (hs : SR m st.h w) : Does P m st w a o pv st := by
  obtain ⟨v, h1, h2⟩ := h
  exact Does.same hs h1 h2

/-! ### loads and stores -/
/-- do so many lie there? (without going to the list's end) -/
def fits (l : List C) (off n : Nat) : Bool := match n with
  | 0 => decide (off ≤ l.length)
  | n + 1 => decide (((l.drop off).take (n + 1)).length = n + 1)
theorem fits_spec {l : List C} {off n : Nat} (h : fits l off n = true) : off + n ≤ l.length := by
  unfold fits at h
  split at h
  · simpa using h
  · rename_i n
    have h := of_decide_eq_true h
    simp only [List.length_take, List.length_drop] at h
    omega
variable (P)
def evLoad (st : St) (T : TypeId) (i off : Nat) : Option S :=
  match st.h[i]? with
  | none => none
  | some o => if o.live = false then none else match P.underlying T with
    | none => none
    | some d => if isAggD d then match sizeT P T with
        | none => none
        | some n => if fits o.cells off n = true then some (.a ((o.cells.drop off).take n)) else none
      else match o.cells[off]? with | some c => some (.c c) | none => none
variable {P}
theorem loadVar_spec {m : M} {st : St} {w : World} (hs : SR m st.h w) {T : TypeId} {i off : Nat} {s : S} (h : evLoad P st T i off = some s) {p : Pl} (hm : m i = some p) :
    ∃ v, (loadVar T ⟨p.b, p.o + off, none⟩).run P w = .ok v w ∧ VS m s v := by
  unfold evLoad at h
  split at h
  · cases h
  rename_i o ho
  split at h
  · cases h
  rename_i hl
  have hl : o.live = true := by cases h' : o.live <;> simp_all
  obtain ⟨cur, fr, hb, hsz, hle, hcell, _⟩ := hs.obj i p o hm ho hl
  split at h
  · cases h
  rename_i d hd
  split at h
  · rename_i hagg
    split at h
    · cases h
    rename_i n hn
    split at h
    · rename_i hoff
      have hoff := fits_spec hoff
      cases h
      have hlen : ((cur.toList.drop (p.o + off)).take n).length = n := by simp; omega
      refine ⟨.agg ((cur.toList.drop (p.o + off)).take n).toArray, ?_, _, rfl, ⟨?_, fun j c v hc hv => ?_⟩⟩
      · have hlc := run_loadCells_list (P := P) w ⟨p.b, p.o + off, none⟩ ((cur.toList.drop (p.o + off)).take n) (fun j v hv => by
          rw [Addr.add_lit, cell_of_row w p.b _ cur _ _ hb]
          rw [List.getElem?_take] at hv
          split at hv
          · rw [List.getElem?_drop] at hv; simpa using hv
          · cases hv)
        rw [hlen] at hlc
        simp [loadVar, Sem.run_bind, run_isAgg hd, hagg, run_sizeOf hn, hlc]
      · rw [hlen]; simp; omega
      · rw [List.getElem?_take] at hc hv
        split at hc
        · rw [if_pos (by assumption), List.getElem?_drop] at hv
          rw [List.getElem?_drop] at hc
          obtain ⟨u, hu, hvc⟩ := hcell _ c hc
          have : v = u := by
            rw [← Nat.add_assoc] at hu
            have hv' : cur[p.o + off + j]? = some v := by simpa using hv
            rw [hv'] at hu; cases hu; rfl
          subst this; exact hvc
        · cases hc
    · cases h
  · rename_i hagg
    split at h
    · cases h
      rename_i c hc
      obtain ⟨u, hu, hvc⟩ := hcell _ c hc
      refine ⟨u, ?_, hvc⟩
      have hc' : w.cell? ⟨p.b, p.o + off, none⟩ = some u := by rw [cell_of_row w p.b _ cur _ _ hb]; exact hu
      have hag : isAggD d = false := by simpa using hagg
      simp [loadVar, Sem.run_bind, run_isAgg hd, hag, load, Sem.run, hc']
    · cases h

variable (P)
def evStore (st : St) (T : TypeId) (i off : Nat) (s : S) : Option St :=
  match st.h[i]? with
  | none => none
  | some o => if o.live = false ∨ o.rw = false then none else match sizeT P T with
    | none => none
    | some n => if (cellsOf s).length = n ∧ fits o.cells off n = true then
        some ⟨st.h.set i { o with cells := o.cells.take off ++ cellsOf s ++ o.cells.drop (off + n), full := o.full }, min st.lo i⟩ else none
variable {P}
theorem storeVar_spec {m : M} {st st' : St} {w : World} (hs : SR m st.h w) {T : TypeId} {i off : Nat} {s : S} (h : evStore P st T i off s = some st') {p : Pl} (hm : m i = some p) {v : Value} (hv : VS m s v) :
    ∃ w', (storeVar T ⟨p.b, p.o + off, none⟩ v).run P w = .ok () w' ∧ Res m st w m st' w' := by
  unfold evStore at h
  split at h
  · cases h
  rename_i o ho
  split at h
  · cases h
  rename_i hlr
  have hl : o.live = true := by cases h' : o.live <;> simp_all
  have hrw : o.rw = true := by cases h' : o.rw <;> simp_all
  split at h
  · cases h
  rename_i n hn
  split at h
  · rename_i hc
    have hc : (cellsOf s).length = n ∧ off + n ≤ o.cells.length := ⟨hc.1, fits_spec hc.2⟩
    cases h
    obtain ⟨cur, fr, hb, hsz, hle, hcell, hf⟩ := hs.obj i p o hm ho hl
    obtain rfl := hf.1 hrw
    have hcs := cellsOf_spec hv
    have hvl : v.cells.toList.length = n := by rw [← hcs.1]; exact hc.1
    have hone : ∀ u ∈ v.cells.toList, u.oneCell' = true := fun u hu => by
      obtain ⟨j, hj, rfl⟩ := List.mem_iff_getElem.1 hu
      have hj' : j < (cellsOf s).length := by rw [hcs.1]; exact hj
      exact (hcs.2 j (cellsOf s)[j] _ (by simp) (by simp)).one
    have hst := run_storeCells_at P p.b (p.o + off) o.ty v.cells.toList 0 cur w hb (by rw [hvl]; omega) hone
    simp only [Nat.add_zero] at hst
    have hsz' : v.cells.size = n := by simpa using hvl
    refine ⟨w.setRow p.b (List.take (p.o + off) cur.toList ++ v.cells.toList ++ List.drop (p.o + off + v.cells.toList.length) cur.toList).toArray, by simp only [storeVar, Sem.run_bind, run_sizeOf hn, Result.andThen_ok, hsz', ne_eq, not_true_eq_false, if_false]; simpa using hst, ?_⟩
    refine Res.write hs hm ho hl hrw hb _ _ (by simp; omega) (by simp; omega) (fun j c hj => ?_) o.full (fun h => by
      obtain ⟨hf0, hfl⟩ := hf.2 h
      refine ⟨hf0, ?_⟩
      simp only [List.length_append, List.length_take, List.length_drop, hc.1]
      omega)
    have hol : p.o + o.cells.length ≤ cur.size := by omega
    rw [hvl]
    by_cases j1 : j < off
    · rw [List.append_assoc, List.getElem?_append_left (by simp; omega), List.getElem?_take, if_pos j1] at hj
      obtain ⟨u, hu, hvc⟩ := hcell j c hj
      refine ⟨u, ?_, hvc⟩
      simp only [List.getElem?_toArray, List.append_assoc]
      rw [List.getElem?_append_left (by simp; omega), List.getElem?_take, if_pos (by omega)]
      simpa using hu
    · by_cases j2 : j < off + n
      · rw [List.append_assoc, List.getElem?_append_right (by simp; omega), List.getElem?_append_left (by simp; omega)] at hj
        have hmin : min off o.cells.length = off := by omega
        simp only [List.length_take, hmin] at hj
        have hj3 : j - off < v.cells.toList.length := by omega
        refine ⟨v.cells.toList[j - off], ?_, hcs.2 _ c _ hj (by simp)⟩
        simp only [List.getElem?_toArray, List.append_assoc]
        have hmin2 : min (p.o + off) cur.size = p.o + off := by omega
        rw [List.getElem?_append_right (by simp; omega), List.getElem?_append_left (by simp [hmin2]; omega)]
        simp only [List.length_take, Array.length_toList, hmin2, show p.o + j - (p.o + off) = j - off by omega]
        simp
      · have hmin : min off o.cells.length = off := by omega
        rw [List.getElem?_append_right (by simp; omega), List.getElem?_drop] at hj
        simp only [List.length_append, List.length_take, hmin, hc.1] at hj
        rw [show off + n + (j - (off + n)) = j by omega] at hj
        obtain ⟨u, hu, hvc⟩ := hcell j c hj
        refine ⟨u, ?_, hvc⟩
        have hmin2 : min (p.o + off) cur.size = p.o + off := by omega
        simp only [List.getElem?_toArray]
        rw [List.getElem?_append_right (by simp; omega), List.getElem?_drop]
        simp only [List.length_append, List.length_take, Array.length_toList, hmin2]
        have hvs : v.cells.size = n := hsz'
        rw [hvs, show p.o + off + n + (p.o + j - (p.o + off + n)) = p.o + j by omega]
        simpa using hu
  · cases h
end Ev
end Go.Proofs.Ytmjonmahecdngaa

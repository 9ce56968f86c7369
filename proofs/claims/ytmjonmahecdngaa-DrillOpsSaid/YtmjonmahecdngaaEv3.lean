/- Ev: a function's code, run on what is known of its values. Third part: operations that make, look and slice. No program. -/
import Derived.Test.YtmjonmahecdngaaEv2
import Derived.Laws.Strings
namespace Go.Proofs.Ytmjonmahecdngaa
open Go.RowKit
namespace Ev
variable {P : Program}

theorem run_newVar (w : World) (T : TypeId) (v : Value) : (newVar T v).run P w = .ok ⟨w.heap.size, 0, none⟩ (w.alloc (.cells v.cells T)) := by
  rfl
theorem Res.new {m : M} {st : St} {w : World} (hs : SR m st.h w) (cs : List C) (v : Value) (T : TypeId) (hv : All2 (VC m) cs v.cells.toList) :
    Res m st w (put m st.h.length ⟨w.heap.size, 0, v.cells.size⟩) ⟨st.h ++ [⟨cs, T, true, true, false⟩], st.lo⟩ (w.alloc (.cells v.cells T)) := by
  have := Res.alloc hs cs v.cells.toList T hv [] false (fun h => by cases h)
  simpa using this

variable (P)
/-- a new variable -/
def evAlloc (st : St) (T : TypeId) : Option (PV × St) :=
  match P.info? T with
  | none => none
  | some i => match i.zero with
    | none => none
    | some z => match all? ofCell z.cells.toList with
      | none => none
      | some cs => some (.s (.c (.ptr st.h.length 0)), ⟨st.h ++ [⟨cs, T, true, true, false⟩], st.lo⟩)
variable {P}
theorem evAlloc_spec {m : M} {st st' : St} {w : World} {a : Act} {o : Oper} {T : TypeId} {pv : PV} (hs : SR m st.h w) (ho : o.op = .alloc T) (h : evAlloc P st T = some (pv, st')) : Does P m st w a o pv st' := by
  unfold evAlloc at h
  split at h
  · cases h
  rename_i i hi
  split at h
  · cases h
  rename_i z hz
  split at h
  · cases h
  rename_i cs hcs
  cases h
  have hv : All2 (VC m) cs z.cells.toList := (all?_spec hcs).flip.imp fun _ _ h => ofCell_spec h
  refine ⟨_, .pointer (some ⟨w.heap.size, 0, none⟩), _, _, ?_, .inl rfl, ?_, Res.new hs cs z T hv⟩
  · simp [execOp, ho, Instr.alloc, zeroValue, typeInfo, hi, hz, Sem.run_bind, run_newVar]
  · exact ⟨_, put_same _ _ _, by simp⟩

def evBox (st : St) (T : TypeId) : PV → Option (PV × St)
  | .s u => some (.s (.c (.ptr st.h.length 0)), ⟨st.h ++ [⟨cellsOf u, T, true, true, false⟩], st.lo⟩)
  | _ => none
theorem evBox_spec {m : M} {st st' : St} {w : World} {a : Act} {e : Look} {o : Oper} {T : TypeId} {x : Operand} {u pv : PV} (hs : SR m st.h w) (he : EL m e a) (ho : o.op = .box T x) (hx : evX e x = some u) (h : evBox st T u = some (pv, st')) : Does P m st w a o pv st' := by
  cases u with
  | s u =>
    cases h
    have hv : VS m u (a.eval x) := evX_spec he hx
    refine ⟨_, .pointer (some ⟨w.heap.size, 0, none⟩), _, _, ?_, .inl rfl, ?_, Res.new hs _ (a.eval x) T (cellsOf_spec hv)⟩
    · simp [execOp, ho, Instr.box, run_newVar]
    · exact ⟨_, put_same _ _ _, by simp⟩
  | any => cases h
  | skip => cases h
  | t xs => cases h

theorem loadS_spec {m : M} {st : St} {w : World} {a : Act} {e : Look} {o : Oper} {T : TypeId} {x : Operand} {i off : Nat} {s : S} (hs : SR m st.h w) (he : EL m e a) (ho : o.op = .load T x) (hx : evX e x = some (.s (.c (.ptr i off)))) (h : evLoad P st T i off = some s) : DoesS P m w a o (.s s) := by
  obtain ⟨p, hm, hv⟩ : VC m (.ptr i off) (a.eval x) := evX_spec he hx
  obtain ⟨v, hr, hvs⟩ := loadVar_spec hs h hm
  exact DoesS.same (by simp [execOp, ho, Instr.loadAt, Instr.sureAddr, hv, hr]) hvs
theorem load_spec {m : M} {st : St} {w : World} {a : Act} {e : Look} {o : Oper} {T : TypeId} {x : Operand} {i off : Nat} {s : S} (hs : SR m st.h w) (he : EL m e a) (ho : o.op = .load T x) (hx : evX e x = some (.s (.c (.ptr i off)))) (h : evLoad P st T i off = some s) : Does P m st w a o (.s s) st :=
  (loadS_spec hs he ho hx h).to hs
theorem store_spec {m : M} {st st' : St} {w : World} {a : Act} {e : Look} {o : Oper} {T : TypeId} {x y : Operand} {i off : Nat} {s : S} (hs : SR m st.h w) (he : EL m e a) (ho : o.op = .store T x y) (hx : evX e x = some (.s (.c (.ptr i off)))) (hy : evX e y = some (.s s)) (h : evStore P st T i off s = some st') : Does P m st w a o .skip st' := by
  obtain ⟨p, hm, hv⟩ : VC m (.ptr i off) (a.eval x) := evX_spec he hx
  have hvs : VS m s (a.eval y) := evX_spec he hy
  obtain ⟨w', hr, hres⟩ := storeVar_spec hs h hm hvs
  exact ⟨.skip, undef, w', m, by simp [execOp, ho, Instr.storeAt, Instr.sureAddr, hv, hr], .inr ⟨rfl, rfl⟩, rfl, hres⟩

variable (P)
def evFieldAddr (T : TypeId) (f : Nat) (i off : Nat) : Option PV :=
  match P.underlying T with
  | some (.struct fields) => match fields[f]? with
    | none => none
    | some fd => match sizeT P fd.type with
      | none => none
      | some n => if n = 0 then none else some (.s (.c (.ptr i (off + fd.offset))))
  | _ => none
variable {P}
theorem fieldAddr_spec {m : M} {w : World} {a : Act} {e : Look} {o : Oper} {T : TypeId} {x : Operand} {f i off : Nat} {pv : PV} (he : EL m e a) (ho : o.op = .fieldAddr T x f) (hx : evX e x = some (.s (.c (.ptr i off)))) (h : evFieldAddr P T f i off = some pv) : DoesS P m w a o pv := by
  obtain ⟨p, hm, hv⟩ : VC m (.ptr i off) (a.eval x) := evX_spec he hx
  unfold evFieldAddr at h
  split at h
  · rename_i fields hu
    split at h
    · cases h
    rename_i fd hf
    split at h
    · cases h
    rename_i n hn
    split at h
    · cases h
    rename_i h0
    cases h
    refine DoesS.same (v := .pointer (some ⟨p.b, p.o + off + fd.offset, none⟩)) ?_ ⟨p, hm, by rw [Nat.add_assoc]⟩
    have hfp : (fieldPlace ⟨p.b, p.o + off, none⟩ fd).run P w = .ok ⟨p.b, p.o + off + fd.offset, none⟩ w := by
      simp [fieldPlace, Sem.run_bind, run_sizeOf hn, h0, Addr.add_lit]
    simp [execOp, ho, Instr.fieldAt, run_underlying hu, hf, Instr.sureAddr, hv, Sem.run_bind, hfp]
  · cases h

variable (P)
def evPart (T : TypeId) (cs : List C) (off : Nat) : Option S :=
  match P.underlying T with
  | none => none
  | some d => if isAggD d then match sizeT P T with
      | none => none
      | some n => some (.a ((cs.take (off + n)).drop off))
    else match cs[off]? with | some c => some (.c c) | none => none
variable {P}
theorem part_spec {m : M} {w : World} {T : TypeId} {cs : List C} {vs : List Value} {off : Nat} {s : S} (hv : All2 (VC m) cs vs) (h : evPart P T cs off = some s) :
    ∃ v, (part T vs.toArray off).run P w = .ok v w ∧ VS m s v := by
  unfold evPart at h
  split at h
  · cases h
  rename_i d hd
  split at h
  · rename_i hagg
    split at h
    · cases h
    rename_i n hn
    cases h
    refine ⟨.agg ((vs.take (off + n)).drop off).toArray, ?_, _, rfl, (hv.take _).drop _⟩
    simp [part, Sem.run_bind, run_isAgg hd, hagg, run_sizeOf hn, List.drop_take]
  · rename_i hagg
    split at h
    · rename_i c hc
      cases h
      have hlt : off < vs.length := by rw [← hv.1]; exact (List.getElem?_eq_some_iff.1 hc).1
      have hag : isAggD d = false := by simpa using hagg
      exact ⟨vs[off], by simp [part, Sem.run_bind, run_isAgg hd, hag, hlt], hv.2 off c _ hc (by simp)⟩
    · cases h
variable (P)
def evField (T : TypeId) (f : Nat) (cs : List C) : Option PV :=
  match P.underlying T with
  | some (.struct fields) => match fields[f]? with
    | none => none
    | some fd => match evPart P fd.type cs fd.offset with | some s => some (.s s) | none => none
  | _ => none
variable {P}
theorem field_spec {m : M} {w : World} {a : Act} {e : Look} {o : Oper} {T : TypeId} {x : Operand} {f : Nat} {cs : List C} {pv : PV} (he : EL m e a) (ho : o.op = .field T x f) (hx : evX e x = some (.s (.a cs))) (h : evField P T f cs = some pv) : DoesS P m w a o pv := by
  obtain ⟨vs, hv, h2⟩ : VS m (.a cs) (a.eval x) := evX_spec he hx
  unfold evField at h
  split at h
  · rename_i fields hu
    split at h
    · cases h
    rename_i fd hf
    split at h
    · rename_i s hp
      cases h
      obtain ⟨v, hr, hvs⟩ := part_spec (w := w) h2 hp
      exact DoesS.same (by simp [execOp, ho, Instr.field, run_underlying hu, hf, asAgg, hv, Sem.run_bind, hr]) hvs
    · cases h
  · cases h

variable (P)
def evIndexAddr (T : TypeId) (n : Int) : C → Option PV
  | .sl i off len sz => match P.underlying T with
    | some (.slice el) => if sizeT P el = some sz ∧ 0 ≤ n ∧ n < len then some (.s (.c (.ptr i (off + n.toNat * sz)))) else none
    | _ => none
  | .ptr i off => match P.underlying T with
    | some (.array len el) => match sizeT P el with
      | some sz => if 0 ≤ n ∧ n < len then some (.s (.c (.ptr i (off + n.toNat * sz)))) else none
      | none => none
    | _ => none
  | _ => none
variable {P}
theorem indexAddr_spec {m : M} {w : World} {a : Act} {e : Look} {o : Oper} {T : TypeId} {x y : Operand} {k : IntKind} {n : Int} {c : C} {pv : PV} (he : EL m e a) (ho : o.op = .indexAddr T x y) (hx : evX e x = some (.s (.c c))) (hy : evX e y = some (.s (.c (.flat (.int k n))))) (h : evIndexAddr P T n c = some pv) : DoesS P m w a o pv := by
  have hn : a.eval y = .int k n := (show VC m (.flat (.int k n)) (a.eval y) from evX_spec he hy).1
  have hc : VC m c (a.eval x) := evX_spec he hx
  cases c with
  | sl i off len sz =>
    obtain ⟨p, cap, hm, hv, _⟩ := hc
    simp only [evIndexAddr] at h
    split at h
    · rename_i el hu
      split at h
      · rename_i hh
        cases h
        refine DoesS.same (v := .pointer (some ⟨p.b, p.o + off + n.toNat * sz, none⟩)) ?_ ⟨p, hm, by rw [Nat.add_assoc]⟩
        simp [execOp, ho, Instr.indexAt, asIntOf, hn, hv, run_underlying hu, Sem.run_bind, hh.2, run_sizeOf hh.1, Addr.add_lit]
      · cases h
    · cases h
  | ptr i off =>
    obtain ⟨p, hm, hv⟩ := hc
    simp only [evIndexAddr] at h
    split at h
    · rename_i len el hu
      split at h
      · rename_i sz hz
        split at h
        · rename_i hh
          cases h
          refine DoesS.same (v := .pointer (some ⟨p.b, p.o + off + n.toNat * sz, none⟩)) ?_ ⟨p, hm, by rw [Nat.add_assoc]⟩
          simp [execOp, ho, Instr.indexAt, asIntOf, hn, hv, run_underlying hu, Sem.run_bind, hh, Instr.sureAddr, run_sizeOf hz, Addr.add_lit]
        · cases h
      · cases h
    · cases h
  | flat v => cases h
  | str l => cases h
  | emp z => cases h
  | low k r => cases h
  | fn f caps => cases h
  | mt f i off => cases h
  | q _ _ _ => cases h

variable (P)
def evIndex (T : TypeId) (n : Int) : S → Option PV
  | .c (.str l) => match P.underlying T with
    | some .string => if 0 ≤ n ∧ n < l.length then some (.s (.c (.flat (.int .u8 (l.getD n.toNat 0).toNat)))) else none
    | _ => none
  | .a cs => match P.underlying T with
    | some (.array len el) => match sizeT P el with
      | some sz => if 0 ≤ n ∧ n < len then match evPart P el cs (n.toNat * sz) with | some s => some (.s s) | none => none else none
      | none => none
    | _ => none
  | _ => none
variable {P}
theorem index_spec {m : M} {w : World} {a : Act} {e : Look} {o : Oper} {T : TypeId} {x y : Operand} {k : IntKind} {n : Int} {s : S} {pv : PV} (he : EL m e a) (ho : o.op = .index T x y) (hx : evX e x = some (.s s)) (hy : evX e y = some (.s (.c (.flat (.int k n))))) (h : evIndex P T n s = some pv) : DoesS P m w a o pv := by
  have hn : a.eval y = .int k n := (show VC m (.flat (.int k n)) (a.eval y) from evX_spec he hy).1
  have hc : VS m s (a.eval x) := evX_spec he hx
  cases s with
  | a cs =>
    obtain ⟨vs, hv, h2⟩ := hc
    simp only [evIndex] at h
    split at h
    · rename_i len el hu
      split at h
      · rename_i sz hz
        split at h
        · rename_i hh
          split at h
          · rename_i s hp
            cases h
            obtain ⟨v, hr, hvs⟩ := part_spec (w := w) h2 hp
            refine DoesS.same (v := v) ?_ hvs
            simp [execOp, ho, Instr.index, asIntOf, hn, hv, run_underlying hu, Sem.run_bind, hh, run_sizeOf hz, hr]
          · cases h
        · cases h
      · cases h
    · cases h
  | c c =>
    cases c with
    | str l =>
      have hv : a.eval x = str' l := hc
      simp only [evIndex] at h
      split at h
      · rename_i hu
        split at h
        · rename_i hh
          cases h
          have hlt : n.toNat < l.length := by omega
          refine DoesS.same (v := .int .u8 (l.getD n.toNat 0).toNat) ?_ ⟨rfl, rfl⟩
          have hget : (⟨l.toArray⟩ : ByteArray)[n.toNat]? = some l[n.toNat] := by
            show (if h : n.toNat < (⟨l.toArray⟩ : ByteArray).size then some _ else none) = _
            rw [dif_pos (by simpa [ByteArray.size] using hlt)]
            rfl
          simp [execOp, ho, Instr.index, asIntOf, hn, hv, str', run_underlying hu, Sem.run_bind, hh.1, hget, hlt]
        · cases h
      · cases h
    | flat v => cases h
    | emp z => cases h
    | low k r => cases h
    | sl i off len sz => cases h
    | ptr i off => cases h
    | fn f caps => cases h
    | mt f i off => cases h
    | q _ _ _ => cases h

theorem extract_spec {m : M} {w : World} {a : Act} {e : Look} {o : Oper} {x : Operand} {k : Nat} {xs : List S} {s : S} (he : EL m e a) (ho : o.op = .extract x k) (hx : evX e x = some (.t xs)) (h : xs[k]? = some s) : DoesS P m w a o (.s s) := by
  obtain ⟨vs, hv, h2⟩ : VP m (.t xs) (a.eval x) := evX_spec he hx
  have hlt : k < vs.length := by rw [← h2.1]; exact (List.getElem?_eq_some_iff.1 h).1
  exact DoesS.same (v := vs[k]) (by simp [execOp, ho, Instr.extract, hv, hlt]) (h2.2 k s _ h (by simp))
theorem move_spec {m : M} {w : World} {a : Act} {e : Look} {o : Oper} {x : Operand} {pv : PV} (he : EL m e a) (ho : o.op = .move x ∨ o.op = .assign x) (hx : evX e x = some pv) : DoesS P m w a o pv :=
  DoesS.same (v := a.eval x) (by rcases ho with ho | ho <;> simp [execOp, ho]) (evX_spec he hx)
theorem pick_spec {m : M} {w : World} {a : Act} {e : Look} {o : Oper} {c x y : Operand} {t : Bool} {pv : PV} (he : EL m e a) (ho : o.op = .pick c x y) (hc : evX e c = some (.s (.c (.flat (.bool t))))) (hx : evX e (if t then x else y) = some pv) : DoesS P m w a o pv := by
  have hb : a.eval c = .bool t := (show VC m (.flat (.bool t)) (a.eval c) from evX_spec he hc).1
  refine DoesS.same (v := a.eval (if t then x else y)) ?_ (evX_spec he hx)
  cases t <;> simp [execOp, ho, hb, asBool]
def okNil : C → Bool
  | .ptr _ _ => true
  | .fn _ _ => true
  | _ => false
theorem nilCheck_spec {m : M} {w : World} {a : Act} {e : Look} {o : Oper} {x : Operand} {c : C} (he : EL m e a) (ho : o.op = .nilCheck x) (hx : evX e x = some (.s (.c c))) (h : okNil c = true) : DoesS P m w a o (.s (.c c)) := by
  have hc : VC m c (a.eval x) := evX_spec he hx
  refine DoesS.same (v := a.eval x) ?_ (evX_spec he hx)
  cases c with
  | ptr i off => obtain ⟨p, _, hv⟩ := hc; simp [execOp, ho, hv]
  | fn f caps => obtain ⟨as, hv, _⟩ := hc; simp [execOp, ho, hv]
  | mt f i off => cases h
  | q _ _ _ => cases h
  | flat v => cases h
  | str l => cases h
  | emp z => cases h
  | low k r => cases h
  | sl i off len sz => cases h

def ptrOf : PV → Option (Nat × Nat)
  | .s (.c (.ptr i off)) => some (i, off)
  | _ => none
def evMakeFunc (e : Look) (fn : Fn) (first caps : Array Operand) : Option PV :=
  match fn with
  | .func f => if first.toList.isEmpty then match all? (fun x => match evX e x with | some pv => ptrOf pv | none => none) caps.toList with
      | some l => some (.s (.c (.fn f l)))
      | none => none
    else match first.toList, caps.toList with
      | [x], [] => match evX e x with
        | some (.s (.c (.ptr i off))) => some (.s (.c (.mt f i off)))
        | _ => none
      | _, _ => none
  | _ => none
theorem makeFunc_spec {m : M} {w : World} {a : Act} {e : Look} {o : Oper} {fn : Fn} {first caps : Array Operand} {pv : PV} (he : EL m e a) (ho : o.op = .makeFunc fn first caps) (h : evMakeFunc e fn first caps = some pv) : DoesS P m w a o pv := by
  unfold evMakeFunc at h
  split at h
  · rename_i f
    split at h
    · rename_i hf
      split at h
      · rename_i l hl
        cases h
        have hf' : first = #[] := by
          have : first.toList = [] := by simpa using hf
          exact Array.toList_eq_nil_iff.1 this
        subst hf'
        refine DoesS.same (v := .func (.func f) #[] (caps.map a.eval)) (by simp [execOp, ho, Instr.makeFunc]) ⟨(caps.map a.eval).toList, by rw [Array.toArray_toList], ?_⟩
        have hsp := all?_spec hl
        refine ⟨by rw [← hsp.1]; simp, fun j c v hc hv => ?_⟩
        have hj : j < caps.toList.length := by rw [hsp.1]; exact (List.getElem?_eq_some_iff.1 hc).1
        have h1 : (match evX e caps.toList[j] with | some pv => ptrOf pv | none => none) = some c := hsp.2 j caps.toList[j] c (by simp) hc
        split at h1
        · rename_i pv' hpv
          have hval := evX_spec he hpv
          have hve : v = a.eval caps.toList[j] := by
            have hj' : j < caps.size := by simpa using hj
            simp [hj'] at hv
            simp [← hv]
          cases pv' with
          | s u =>
            cases u with
            | c x =>
              cases x with
              | ptr i off =>
                simp only [ptrOf, Option.some.injEq] at h1
                subst h1
                obtain ⟨p, hm, hx⟩ := hval
                exact ⟨p, hm, by rw [hve, hx]⟩
              | flat _ => cases h1
              | str _ => cases h1
              | emp z => cases h1
              | low k r => cases h1
              | sl _ _ _ _ => cases h1
              | fn _ _ => cases h1
              | mt _ _ _ => cases h1
              | q _ _ _ => cases h1
            | a _ => cases h1
          | any => cases h1
          | skip => cases h1
          | t _ => cases h1
        · cases h1
      · cases h
    · split at h
      · rename_i x hf hc
        split at h
        · rename_i i off hx
          cases h
          have hf' : first = #[x] := by apply Array.ext'; simpa using hf
          have hc' : caps = #[] := by apply Array.ext'; simpa using hc
          subst hf'; subst hc'
          obtain ⟨p, hm, hv⟩ : VC m (.ptr i off) (a.eval x) := evX_spec he hx
          exact DoesS.same (v := .func (.func f) #[a.eval x] #[]) (by simp [execOp, ho, Instr.makeFunc]) ⟨p, hm, by rw [hv]⟩
        · cases h
      · cases h
  · cases h
end Ev
end Go.Proofs.Ytmjonmahecdngaa

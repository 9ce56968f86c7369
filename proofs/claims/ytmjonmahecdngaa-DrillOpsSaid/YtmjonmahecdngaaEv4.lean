/- Ev: a function's code, run on what is known of its values. Fourth part: slices made, cut, appended to; what is built; what asks nothing of the world. No program. -/
import Derived.Test.YtmjonmahecdngaaEv3
import Derived.Laws.IdiomStrings
import Derived.WalkSpells
namespace Go.Proofs.Ytmjonmahecdngaa
open Go.RowKit
namespace Ev
variable {P : Program}

/-! ### s[lo:hi] -/
def evBound (e : Look) (dflt : Nat) : Option Operand → Option Nat
  | none => some dflt
  | some x => match evX e x with
    | some (.s (.c (.flat (.int _ n)))) => if 0 ≤ n then some n.toNat else none
    | _ => none
theorem evBound_spec {m : M} {e : Look} {a : Act} (he : EL m e a) {d b : Nat} {x : Operand} (h : evBound e d (some x) = some b) : ∃ k n, a.eval x = .int k n ∧ 0 ≤ n ∧ n.toNat = b := by
  simp only [evBound] at h
  split at h
  · rename_i k n hx
    split at h
    · cases h
      exact ⟨k, n, (show VC m (.flat (.int k n)) (a.eval x) from evX_spec he hx).1, by assumption, rfl⟩
    · cases h
  · cases h
theorem run_bounds {m : M} {e : Look} {a : Act} (he : EL m e a) (w : World) {isS : Bool} {len cap : Nat} {lo hi : Option Operand} {l h : Nat} (hlo : evBound e 0 lo = some l) (hhi : evBound e len hi = some h) (h1 : l ≤ h) (h2 : h ≤ len) (h3 : len ≤ cap) :
    (Instr.sliceBounds isS len cap (lo.map a.eval) (hi.map a.eval) none).run P w = .ok (l, h, cap) w := by
  have hb : ∀ (x : Operand) (y b d : Nat) (code : BoundsCode), evBound e d (some x) = some b → b ≤ y → (Instr.sliceBound (a.eval x) y code).run P w = .ok b w := fun x y b d code hx hy => by
    obtain ⟨k, n, hv, h0, rfl⟩ := evBound_spec he hx
    have : n ≤ (y : Int) := by omega
    simp [Instr.sliceBound, asIntOf, hv, h0, this]
  unfold Instr.sliceBounds
  cases lo with
  | none =>
    cases hlo
    cases hi with
    | none => cases hhi; simp
    | some x => simp [hb x cap h len _ hhi (by omega)]
  | some x =>
    have hl := fun c => hb x h l 0 c hlo h1
    cases hi with
    | none => cases hhi; simp [hl]
    | some y => simp [hb y cap h len _ hhi (by omega), hl]
variable (P)
def evSlice (e : Look) (T : TypeId) (lo hi : Option Operand) : C → Option C
  | .str s => match P.underlying T with
    | some .string => match evBound e 0 lo, evBound e s.length hi with
      | some l, some h => if l ≤ h ∧ h ≤ s.length then some (.str ((s.take h).drop l)) else none
      | _, _ => none
    | _ => none
  | .sl i off len sz => match P.underlying T with
    | some (.slice el) => if sizeT P el = some sz then match evBound e 0 lo, evBound e len hi with
      | some l, some h => if l ≤ h ∧ h ≤ len then some (if l < h then .sl i (off + l * sz) (h - l) sz else .q i (off + l * sz) sz) else none
      | _, _ => none
      else none
    | _ => none
  | .q i off sz => match P.underlying T with
    | some (.slice el) => if sizeT P el = some sz then match evBound e 0 lo, evBound e 0 hi with
      | some 0, some 0 => some (.q i off sz)
      | _, _ => none
      else none
    | _ => none
  | .emp z => match P.underlying T with
    | some (.slice el) => match sizeT P el with
      | some _ => match evBound e 0 lo, evBound e 0 hi with
        | some 0, some 0 => some (.emp z)
        | _, _ => none
      | none => none
    | _ => none
  | _ => none
variable {P}
theorem slice_spec {m : M} {w : World} {a : Act} {e : Look} {o : Oper} {T : TypeId} {x : Operand} {lo hi : Option Operand} {c c' : C} (he : EL m e a) (ho : o.op = .slice T x lo hi none) (hx : evX e x = some (.s (.c c))) (h : evSlice P e T lo hi c = some c') : DoesS P m w a o (.s (.c c')) := by
  have hc : VC m c (a.eval x) := evX_spec he hx
  cases c with
  | str s =>
    have hv : a.eval x = str' s := hc
    simp only [evSlice] at h
    split at h
    · rename_i hu
      split at h
      · rename_i l hh hl h1
        split at h
        · rename_i hle
          cases h
          have hsz : (⟨s.toArray⟩ : ByteArray).size = s.length := by simp [ByteArray.size]
          have hb := run_bounds (P := P) he w (isS := false) hl h1 hle.1 hle.2 (Nat.le_refl _)
          have hex : (⟨s.toArray⟩ : ByteArray).extract l hh = ⟨((s.take hh).drop l).toArray⟩ := by
            apply ByteArray.ext
            rw [ByteArray.data_extract]
            apply Array.ext'
            simp [List.drop_take]
          refine DoesS.same (v := .string ⟨((s.take hh).drop l).toArray⟩) ?_ rfl
          simp [execOp, ho, Instr.sliceAt, Instr.slice, hv, str', run_underlying hu, Sem.run_bind, hsz, hb, hex]
        · cases h
      · cases h
    · cases h
  | sl i off len sz =>
    obtain ⟨p, cap, hm, hv, h1, h2, h3⟩ := hc
    simp only [evSlice] at h
    split at h
    · rename_i el hu
      split at h
      · rename_i hz
        split at h
        · rename_i l hh hl hhi
          split at h
          · rename_i hle
            have hb := run_bounds (P := P) he w (isS := true) hl hhi hle.1 hle.2 h1
            have hr : (execOp a.eval o).run P w = .ok (.value (.slice (if cap = l then (some ⟨p.b, p.o + off, none⟩) else (some (Addr.add ⟨p.b, p.o + off, none⟩ (l * sz)))) (hh - l) (cap - l))) w := by
              simp [execOp, ho, Instr.sliceAt, Instr.slice, hv, run_underlying hu, Sem.run_bind, hb, run_sizeOf hz]
            by_cases hlt : l < hh
            · rw [if_pos hlt] at h
              cases h
              refine DoesS.same hr ⟨p, cap - l, hm, ?_, by omega, by omega, ?_⟩
              · rw [if_neg (by omega), Addr.add_lit, Nat.add_assoc]
              · have : (cap - l) * sz + l * sz = cap * sz := by rw [← Nat.add_mul, Nat.sub_add_cancel (by omega)]
                omega
            · rw [if_neg hlt] at h
              cases h
              refine DoesS.same hr ?_
              have : hh - l = 0 := by omega
              rw [this, ite_some]
              refine ⟨p, _, cap - l, hm, rfl, by omega, fun hp => ⟨by rw [if_neg (by omega), Addr.add_lit, Nat.add_assoc], ?_⟩⟩
              have : (cap - l) * sz + l * sz = cap * sz := by rw [← Nat.add_mul, Nat.sub_add_cancel (by omega)]
              omega
          · cases h
        · cases h
      · cases h
    · cases h
  | q i off sz =>
    obtain ⟨p, x0, cap, hm, hv, h1, h2⟩ := hc
    simp only [evSlice] at h
    split at h
    · rename_i el hu
      split at h
      · rename_i hz
        split at h
        · rename_i hl hhi
          cases h
          have hb := run_bounds (P := P) he w (isS := true) hl hhi (Nat.le_refl _) (Nat.le_refl _) (Nat.zero_le cap)
          refine DoesS.same (v := .slice (if cap = 0 then some x0 else some (x0.add (0 * sz))) 0 cap) ?_ ?_
          · simp [execOp, ho, Instr.sliceAt, Instr.slice, hv, run_underlying hu, Sem.run_bind, hb, run_sizeOf hz]
          · rw [ite_some]
            refine ⟨p, _, cap, hm, rfl, h1, fun hp => ⟨?_, (h2 hp).2⟩⟩
            rw [if_neg (by omega), (h2 hp).1, Addr.add_lit, Nat.zero_mul, Nat.add_zero]
        · cases h
      · cases h
    · cases h
  | emp z =>
    obtain ⟨x0, cap, hv, hz0⟩ := hc
    simp only [evSlice] at h
    split at h
    · rename_i el hu
      split at h
      · rename_i sz hz
        split at h
        · rename_i hl hhi
          cases h
          have hb := run_bounds (P := P) he w (isS := true) (len := 0) (cap := cap) hl hhi (Nat.le_refl _) (Nat.le_refl _) (Nat.zero_le _)
          have hr : (execOp a.eval o).run P w = .ok (.value (.slice (if cap = 0 then some x0 else some (x0.add (0 * sz))) 0 cap)) w := by
            simp [execOp, ho, Instr.sliceAt, Instr.slice, hv, run_underlying hu, Sem.run_bind, hb, run_sizeOf hz]
          rw [ite_some] at hr
          exact DoesS.same hr ⟨_, _, rfl, hz0⟩
        · cases h
      · cases h
    · cases h
  | flat v => cases h
  | low k r => cases h
  | ptr i off => cases h
  | fn f caps => cases h
  | mt f i off => cases h

/-! ### make -/
def repC (z : List C) (n : Nat) : List C := match z with
  | [c] => List.replicate n c
  | z => (List.range n).map fun i => z.getD (i % z.length) default
theorem repC_len (z : List C) (n : Nat) : (repC z n).length = n := by unfold repC; split <;> simp
theorem repC_get {z : List C} {n j : Nat} {c : C} (h : (repC z n)[j]? = some c) (h0 : 0 < z.length) : z[j % z.length]? = some c := by
  have hj : j < n := by have := (List.getElem?_eq_some_iff.1 h).1; rwa [repC_len] at this
  unfold repC at h
  split at h
  · rename_i c0
    rw [List.getElem?_replicate, if_pos hj] at h
    simpa [Nat.mod_one] using h
  · rw [List.getElem?_map, List.getElem?_range hj] at h
    have hm : j % z.length < z.length := Nat.mod_lt _ h0
    simp [hm] at h
    rw [List.getElem?_eq_getElem hm, h]
theorem made_spec {m : M} {z : List C} {zs : Array Value} (h : All2 (VC m) z zs.toList) (n : Nat) (h0 : n ≠ 0 → 0 < z.length) : All2 (VC m) (repC z n) (madeCells zs n).toList := by
  refine ⟨by simp [repC_len, madeCells], fun j c v hc hv => ?_⟩
  have hj : j < n := by have := (List.getElem?_eq_some_iff.1 hc).1; rwa [repC_len] at this
  have hz := h0 (by omega)
  have h1 := repC_get hc hz
  have hl : z.length = zs.size := by simpa using h.1
  have hm : j % zs.size < zs.size := Nat.mod_lt _ (by omega)
  rw [hl] at h1
  refine h.2 _ c v h1 ?_
  simp [madeCells, hj] at hv
  rw [← hv]
  simp [hm]
variable (P)
def evMake (st : St) (T : TypeId) (l c : Int) : Option (PV × St) :=
  match P.underlying T with
  | some (.slice el) => match P.info? el with
    | none => none
    | some i => match i.zero with
      | none => none
      | some z => match all? ofCell z.cells.toList with
        | none => none
        | some zc => if l = c ∧ 0 ≤ c ∧ (i.bytes : Int) * c ≤ 140737488355328 ∧ c ≤ 9223372036854775807 ∧ zc.length = i.size ∧ 0 < i.size then
            some (.s (.c (.sl st.h.length 0 c.toNat i.size)), ⟨st.h ++ [⟨repC zc (c.toNat * i.size), el, true, true, true⟩], st.lo⟩) else none
  | _ => none
variable {P}
theorem make_spec {m : M} {st st' : St} {w : World} {a : Act} {e : Look} {o : Oper} {T : TypeId} {x y : Operand} {k k' : IntKind} {l c : Int} {pv : PV} (hs : SR m st.h w) (he : EL m e a) (ho : o.op = .makeSlice T x y) (hx : evX e x = some (.s (.c (.flat (.int k l))))) (hy : evX e y = some (.s (.c (.flat (.int k' c))))) (h : evMake P st T l c = some (pv, st')) : Does P m st w a o pv st' := by
  have hxv : a.eval x = .int k l := (show VC m (.flat (.int k l)) (a.eval x) from evX_spec he hx).1
  have hyv : a.eval y = .int k' c := (show VC m (.flat (.int k' c)) (a.eval y) from evX_spec he hy).1
  unfold evMake at h
  split at h
  · rename_i el hu
    split at h
    · cases h
    rename_i i hi
    split at h
    · cases h
    rename_i z hz
    split at h
    · cases h
    rename_i zc hzc
    split at h
    · rename_i hh
      obtain ⟨rfl, h0, hb, h63, hzl, hsz⟩ := hh
      cases h
      have hr := run_make (P := P) w T el i z hu hi hz k k' l l h0 (Int.le_refl _) (by omega) h63
      have hv : All2 (VC m) zc z.cells.toList := (all?_spec hzc).flip.imp fun _ _ h => ofCell_spec h
      have hm := made_spec hv (l.toNat * i.size) (fun _ => by omega)
      have hres := Res.alloc hs _ (madeCells z.cells (l.toNat * i.size)).toList el hm [] true (fun _ => rfl)
      simp only [List.append_nil, Array.toArray_toList, List.length_nil, Nat.add_zero, Array.length_toList, size_madeCells] at hres
      refine ⟨_, .slice (some ⟨w.heap.size, 0, none⟩) l.toNat l.toNat, _, _, ?_, .inl rfl, ?_, hres⟩
      · simp [execOp, ho, hxv, hyv, hr]
      · exact ⟨_, _, put_same _ _ _, rfl, Nat.le_refl _, by simp only [maxLen]; omega, by simp⟩
    · cases h
  · cases h

/-! ### len -/
def evLen : C → Option Nat
  | .str l => some l.length
  | .sl _ _ len _ => some len
  | .emp _ => some 0
  | .q _ _ _ => some 0
  | .flat (.slice none 0 0) => some 0
  | _ => none
variable (P)
def evLenT (T : TypeId) (c : C) : Option Nat := match P.underlying T, c with
  | some .string, .str l => some l.length
  | some (.slice _), .str _ => none
  | some (.slice _), c => evLen c
  | _, _ => none
variable {P}
theorem len_spec {m : M} {w : World} {a : Act} {e : Look} {o : Oper} {T : TypeId} {x : Operand} {c : C} {n : Nat} {ts : Array TypeId} (he : EL m e a) (ho : o.op = .call { callee := .builtin .len, args := #[x], argTypes := ts }) (hts : ts[0]? = some T) (hx : evX e x = some (.s (.c c))) (h : evLenT P T c = some n) :
    DoesS P m w a o (.s (.c (.flat (.int .i64 (n : Int))))) := by
  have hc : VC m c (a.eval x) := evX_spec he hx
  have key : ∀ {d : TypeDesc}, P.underlying T = some d → ((match d, a.eval x with | .string, .string s => s.size = n | .slice _, .slice _ k _ => k = n | _, _ => False)) → DoesS P m w a o (.s (.c (.flat (.int .i64 (n : Int))))) := fun {d} hd hk => by
    refine DoesS.same (v := .int .i64 (n : Int)) ?_ ⟨rfl, rfl⟩
    cases d <;> cases hv : a.eval x <;> simp only [hv] at hk <;> try exact hk.elim
    · subst hk; simp [execOp, ho, resolve, invoke, builtin, Builtin.len_, hts, hv, run_underlying hd, Sem.run_bind, goInt]
    · subst hk; simp [execOp, ho, resolve, invoke, builtin, Builtin.len_, hts, hv, run_underlying hd, Sem.run_bind, goInt]
  unfold evLenT at h
  cases hd : P.underlying T with
  | none => rw [hd] at h; cases c <;> cases h
  | some d =>
    rw [hd] at h
    cases d <;> cases c <;> try (cases h; done)
    · rename_i l
      cases h
      have hv : a.eval x = str' l := hc
      exact key hd (by rw [hv]; simp [str', ByteArray.size])
    · rename_i el v
      simp only [evLen] at h
      split at h
      · rename_i hcc; cases hcc
      · rename_i hcc; cases hcc
      · rename_i hcc; cases hcc
      · rename_i hcc; cases hcc
      · rename_i hcc; cases h; cases hcc; exact key hd (by rw [hc.1])
      · cases h
    · cases h; obtain ⟨x0, cap, hv, _⟩ := hc; exact key hd (by rw [hv])
    · cases h; obtain ⟨p, cap, _, hv, _⟩ := hc; exact key hd (by rw [hv])
    · cases h; obtain ⟨p, a, cap, _, hv, _⟩ := hc; exact key hd (by rw [hv])
end Ev
end Go.Proofs.Ytmjonmahecdngaa

/- Ev: a function's code, run on what is known of its values. Fifth part: what is built, appended, added, compared; what asks nothing of the world. No program. -/
import Derived.Test.YtmjonmahecdngaaEv4
namespace Go.Proofs.Ytmjonmahecdngaa
open Go.RowKit
namespace Ev
variable {P : Program}

/-! ### struct{..}, []T{..} -/
def fillC (place : Nat → Option (Nat × Nat)) (cells : List C) : List (Nat × S) → Option (List C)
  | [] => some cells
  | (i, s) :: rest => match place i with
    | none => none
    | some (off, size) => if (cellsOf s).length = size ∧ off + size ≤ cells.length then fillC place (cells.take off ++ cellsOf s ++ cells.drop (off + size)) rest else none
def setAt (off : Nat) (vs : List Value) (k : Nat) (cells : Array Value) : Array Value := (vs.zipIdx k).foldl (fun cs x => cs.setIfInBounds (off + x.2) x.1) cells
theorem setAt_spec (off : Nat) : ∀ (vs : List Value) (k : Nat) (cells : Array Value), off + k + vs.length ≤ cells.size → (setAt off vs k cells).toList = cells.toList.take (off + k) ++ vs ++ cells.toList.drop (off + k + vs.length)
  | [], k, cells, _ => by simp [setAt]
  | v :: vs, k, cells, h => by
    simp only [List.length_cons] at h
    have ih := setAt_spec off vs (k + 1) (cells.setIfInBounds (off + k) v) (by simp; omega)
    have e : setAt off (v :: vs) k cells = setAt off vs (k + 1) (cells.setIfInBounds (off + k) v) := by simp [setAt, List.zipIdx_cons]
    rw [e, ih, Array.toList_setIfInBounds]
    refine List.ext_getElem? fun j => ?_
    have hlen : cells.toList.length = cells.size := by simp
    rcases Nat.lt_trichotomy j (off + k) with hj | hj | hj
    · rw [List.append_assoc, List.append_assoc, List.getElem?_append_left (by simp; omega), List.getElem?_append_left (by simp; omega), List.getElem?_take, List.getElem?_take, if_pos (by omega), if_pos hj, List.getElem?_set_ne (by omega)]
    · subst hj
      rw [List.append_assoc, List.append_assoc, List.getElem?_append_left (by simp; omega), List.getElem?_take, if_pos (by omega), List.getElem?_set_self (by omega), List.getElem?_append_right (by simp; omega)]
      have : min (off + k) cells.size = off + k := by omega
      simp [this]
    · have m1 : min (off + (k + 1)) cells.size = off + (k + 1) := by omega
      have m2 : min (off + k) cells.size = off + k := by omega
      have r1 := List.getElem?_append_right (l₁ := List.take (off + (k + 1)) (cells.toList.set (off + k) v)) (l₂ := vs ++ List.drop (off + (k + 1) + vs.length) (cells.toList.set (off + k) v)) (i := j) (by simp; omega)
      have r2 := List.getElem?_append_right (l₁ := List.take (off + k) cells.toList) (l₂ := v :: vs ++ List.drop (off + k + (v :: vs).length) cells.toList) (i := j) (by simp; omega)
      rw [List.append_assoc, List.append_assoc, r1, r2]
      simp only [List.length_take, List.length_set, hlen, m1, m2]
      rw [show j - (off + k) = (j - (off + (k + 1))) + 1 by omega]
      simp only [List.cons_append, List.getElem?_cons_succ]
      by_cases hv : j - (off + (k + 1)) < vs.length
      · rw [List.getElem?_append_left hv, List.getElem?_append_left hv]
      · rw [List.getElem?_append_right (by omega), List.getElem?_append_right (by omega), List.getElem?_drop, List.getElem?_drop, List.getElem?_set_ne (by omega)]
        congr 1
        simp only [List.length_cons]
        omega
theorem fill_spec {m : M} (place : Nat → Option (Nat × Nat)) : ∀ {ps : List (Nat × S)} {cells : List C} {out : List C} {vs : Array Value} {qs : List (Nat × Value)}, fillC place cells ps = some out → All2 (VC m) cells vs.toList → All2 (fun p q => p.1 = q.1 ∧ VS m p.2 q.2) ps qs →
    ∃ us, Instr.fill place vs qs = some us ∧ All2 (VC m) out us.toList
  | [], cells, out, vs, qs, h, hv, hq => by
    have : qs = [] := List.eq_nil_of_length_eq_zero hq.1.symm
    subst this
    cases h
    exact ⟨vs, rfl, hv⟩
  | (i, s) :: ps, cells, out, vs, qs, h, hv, hq => by
    cases qs with
    | nil => exact absurd hq.1 (by simp)
    | cons q qs =>
      obtain ⟨h1, h2⟩ : i = q.1 ∧ VS m s q.2 := hq.2 0 _ _ rfl rfl
      have hq' : All2 (fun p q => p.1 = q.1 ∧ VS m p.2 q.2) ps qs := ⟨by have := hq.1; simpa using this, fun j x v hx hv => hq.2 (j + 1) x v (by simpa using hx) (by simpa using hv)⟩
      simp only [fillC] at h
      split at h
      · cases h
      rename_i off size hp
      split at h
      · rename_i hc
        have hcs := cellsOf_spec h2
        have hsz : q.2.cells.size = size := by have := hcs.1; simp at this; omega
        have hvl : cells.length = vs.size := by simpa using hv.1
        have hset : (q.2.cells.zipIdx.foldl (fun cs (x : Value × Nat) => cs.setIfInBounds (off + x.2) x.1) vs) = setAt off q.2.cells.toList 0 vs := by
          rw [setAt, ← Array.foldl_toList, Array.toList_zipIdx]
        have hsp := setAt_spec off q.2.cells.toList 0 vs (by simp; omega)
        have hnew : All2 (VC m) (cells.take off ++ cellsOf s ++ cells.drop (off + size)) (setAt off q.2.cells.toList 0 vs).toList := by
          rw [hsp, Nat.add_zero]
          have : q.2.cells.toList.length = size := by simpa using hsz
          rw [this]
          exact ((hv.take _).append hcs).append (hv.drop _)
        obtain ⟨us, hf, hu⟩ := fill_spec place h hnew hq'
        refine ⟨us, ?_, hu⟩
        obtain ⟨qi, qv⟩ := q
        simp only at h1 hsz hset hf
        subst h1
        simp only [Instr.fill, hp]
        rw [if_neg (by simp; omega), ← hf]
        congr 1
      · cases h
variable (P)
def evParts (e : Look) (ps : List (Nat × Operand)) : Option (List (Nat × S)) := all? (fun p => match evX e p.2 with | some (.s s) => some (p.1, s) | _ => none) ps
variable {P}
theorem evParts_spec {m : M} {e : Look} {a : Act} (he : EL m e a) {ps : Array (Nat × Operand)} {qs : List (Nat × S)} (h : evParts e ps.toList = some qs) :
    All2 (fun p q => p.1 = q.1 ∧ VS m p.2 q.2) qs (ps.map fun p => (p.1, a.eval p.2)).toList := by
  have hs := all?_spec h
  refine ⟨by rw [← hs.1]; simp, fun j x v hx hv => ?_⟩
  have hj : j < ps.toList.length := by rw [hs.1]; exact (List.getElem?_eq_some_iff.1 hx).1
  have h1 : (match evX e (ps.toList[j]).2 with | some (.s s) => some ((ps.toList[j]).1, s) | _ => none) = some x := hs.2 j ps.toList[j] x (by simp) hx
  have hv' : v = ((ps.toList[j]).1, a.eval (ps.toList[j]).2) := by
    have hj' : j < ps.size := by simpa using hj
    simp [hj'] at hv
    simp [← hv]
  subst hv'
  split at h1
  · rename_i s hs'
    cases h1
    exact ⟨rfl, evX_spec he hs'⟩
  · cases h1
variable (P)
def zeroC (T : TypeId) : Option (List C) := match P.info? T with
  | none => none
  | some i => match i.zero with
    | none => none
    | some z => all? ofCell z.cells.toList
def evBuild (T : TypeId) (ps : List (Nat × S)) : Option PV :=
  match zeroC P T with
  | none => none
  | some zc => match P.underlying T with
    | some (.struct fields) => match dry P (fields.mapM fun f => do pure (f.offset, ← sizeOf f.type)) with
      | none => none
      | some places => match fillC (places[·]?) zc ps with | some cs => some (.s (.a cs)) | none => none
    | some (.array _ el) => match sizeT P el with
      | none => none
      | some size => match fillC (fun i => some (i * size, size)) zc ps with | some cs => some (.s (.a cs)) | none => none
    | _ => none
variable {P}
theorem zeroC_spec {m : M} {T : TypeId} {zc : List C} (h : zeroC P T = some zc) : ∃ z, (∀ w, (zeroValue T).run P w = .ok z w) ∧ All2 (VC m) zc z.cells.toList := by
  unfold zeroC at h
  split at h
  · cases h
  rename_i i hi
  split at h
  · cases h
  rename_i z hz
  exact ⟨z, fun w => by simp [zeroValue, typeInfo, hi, hz], (all?_spec h).flip.imp fun _ _ h => ofCell_spec h⟩
theorem build_spec {m : M} {w : World} {a : Act} {e : Look} {o : Oper} {T : TypeId} {ps : Array (Nat × Operand)} {qs : List (Nat × S)} {pv : PV} (he : EL m e a) (ho : o.op = .build T ps) (hp : evParts e ps.toList = some qs) (h : evBuild P T qs = some pv) : DoesS P m w a o pv := by
  have hps := evParts_spec he hp
  unfold evBuild at h
  split at h
  · cases h
  rename_i zc hzc
  obtain ⟨z, hz, hzv⟩ := zeroC_spec (m := m) hzc
  split at h
  · rename_i fields hu
    split at h
    · cases h
    rename_i places hpl
    have hrun := dry_run hpl w
    split at h
    · rename_i cs hf
      cases h
      obtain ⟨us, hfill, hus⟩ := fill_spec _ hf hzv hps
      refine DoesS.same (v := .agg us) ?_ ⟨us.toList, by simp, hus⟩
      simp only [execOp, ho, Instr.build, Sem.run_bind, hz w, Result.andThen_ok, run_underlying hu, hrun, hfill, Sem.run_pure]
    · cases h
  · rename_i el hu
    split at h
    · cases h
    rename_i size hsz
    split at h
    · rename_i cs hf
      cases h
      obtain ⟨us, hfill, hus⟩ := fill_spec _ hf hzv hps
      refine DoesS.same (v := .agg us) ?_ ⟨us.toList, by simp, hus⟩
      simp only [execOp, ho, Instr.build, Sem.run_bind, hz w, Result.andThen_ok, run_underlying hu, run_sizeOf hsz, hfill, Sem.run_pure]
    · cases h
  · cases h
variable (P)
def evBuildSlice (st : St) (T : TypeId) (n : Nat) (ps : List (Nat × S)) : Option (PV × St) :=
  match P.underlying T with
  | some (.slice el) => match zeroC P el with
    | none => none
    | some zc => match sizeT P el with
      | none => none
      | some size => if n * size ≤ 16777216 ∧ 0 < size ∧ zc.length = size then match fillC (fun i => some (i * size, size)) (repC zc (n * size)) ps with
          | some cs => some (.s (.c (.sl st.h.length 0 n size)), ⟨st.h ++ [⟨cs, el, true, true, true⟩], st.lo⟩)
          | none => none
        else none
  | _ => none
variable {P}
theorem buildSlice_spec {m : M} {st st' : St} {w : World} {a : Act} {e : Look} {o : Oper} {T : TypeId} {n : Nat} {ps : Array (Nat × Operand)} {qs : List (Nat × S)} {pv : PV} (hs : SR m st.h w) (he : EL m e a) (ho : o.op = .buildSlice T n ps) (hp : evParts e ps.toList = some qs) (h : evBuildSlice P st T n qs = some (pv, st')) : Does P m st w a o pv st' := by
  have hps := evParts_spec he hp
  unfold evBuildSlice at h
  split at h
  · rename_i el hu
    split at h
    · cases h
    rename_i zc hzc
    obtain ⟨z, hz, hzv⟩ := zeroC_spec (m := m) hzc
    split at h
    · cases h
    rename_i size hsz
    split at h
    · rename_i hh
      obtain ⟨h24, h0, hzl⟩ := hh
      split at h
      · rename_i cs hf
        cases h
        have hmade := made_spec hzv (n * size) (fun _ => by omega)
        obtain ⟨us, hfill, hus⟩ := fill_spec _ hf hmade hps
        have hlen : cs.length = n * size := by
          have key : ∀ {ps : List (Nat × S)} {cells out : List C} {place : Nat → Option (Nat × Nat)}, fillC place cells ps = some out → out.length = cells.length := by
            intro ps
            induction ps with
            | nil => intro cells out place h; cases h; rfl
            | cons p ps ih =>
              intro cells out place h
              obtain ⟨i, s⟩ := p
              simp only [fillC] at h
              split at h
              · cases h
              · split at h
                · rename_i hc
                  rw [ih h]
                  simp only [List.length_append, List.length_take, List.length_drop]
                  omega
                · cases h
          rw [key hf, repC_len]
        have hul : us.size = n * size := by have := hus.1; simp at this; omega
        have hres := Res.alloc hs cs us.toList el hus [] true (fun _ => rfl)
        simp only [List.append_nil, Array.toArray_toList, List.length_nil, Nat.add_zero, Array.length_toList, hul] at hres
        refine ⟨_, .slice (some ⟨w.heap.size, 0, none⟩) n n, _, _, ?_, .inl rfl, ?_, hres⟩
        · have h24' : ¬ (n * size > 2 ^ 24) := by omega
          have hfill' : Instr.fill (fun i => some (i * size, size)) ((Array.range (n * size)).map (z.cells[· % z.cells.size]!)) (ps.map fun p => (p.1, a.eval p.2)).toList = some us := hfill
          by_cases hn : n * size = 0
          · have hn0 : Instr.fill (fun i => some (i * size, size)) ((Array.range (n * size)).map ((#[] : Array Value)[· % (#[] : Array Value).size]!)) (ps.map fun p => (p.1, a.eval p.2)).toList = some us := by
              rw [← hfill', hn, show Array.range 0 = #[] from rfl]; simp
            simp only [execOp, ho, Instr.buildSlice, Sem.run_bind, run_underlying hu, Result.andThen_ok, run_sizeOf hsz, if_neg h24', if_pos hn, Sem.run_pure, hn0]
            rfl
          · simp only [execOp, ho, Instr.buildSlice, Sem.run_bind, run_underlying hu, Result.andThen_ok, run_sizeOf hsz, if_neg h24', if_neg hn, hz w, Sem.run_pure, hfill']
            rfl
        · exact ⟨_, _, put_same _ _ _, by simp, Nat.le_refl _, by
            have : n ≤ n * size := Nat.le_mul_of_pos_right _ h0
            simp only [maxLen]; omega, by simp⟩
      · cases h
    · cases h
  · cases h
end Ev
end Go.Proofs.Ytmjonmahecdngaa

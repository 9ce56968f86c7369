/- Ev: an operation that makes an object, come up late: the object has its number already. No program. -/
import Derived.Test.YtepianllbfnpoaaMEvc
namespace Go.Proofs.Ytepianllbfnpoaa
open Go.RowKit
namespace Ev
variable {P : Program}

/-- an object that is known, and lies nowhere as yet, is laid in a new block -/
theorem SR.putAt {m : M} {h : List O} {w : World} (hs : SR m h w) {i : Nat} {cs : List C} {T : TypeId} {fl : Bool} (hi : h[i]? = some ⟨cs, T, true, true, fl⟩) (hm : m i = none) {vs : List Value} (hv : All2 (VC m) cs vs) :
    SR (put m i ⟨w.heap.size, 0, vs.length⟩) h (w.alloc (.cells vs.toArray T)) := by
  have hext : ∀ j p, m j = some p → put m i ⟨w.heap.size, 0, vs.length⟩ j = some p := fun j p hj => by
    by_cases e : j = i
    · subst e; rw [hm] at hj; cases hj
    · rw [put_ne _ _ e]; exact hj
  have hold : ∀ b, b < w.heap.size → (w.alloc (.cells vs.toArray T)).heap[b]? = w.heap[b]? := fun b hb => Below.heap_alloc w _ b hb
  refine ⟨fun j p hj => ?_, fun j p o hj ho hl => ?_, fun j k p q o o' hj hk ho ho' hrw hl hl' hne => ?_⟩
  · by_cases e : j = i
    · subst e; exact (List.getElem?_eq_some_iff.1 hi).1
    · rw [put_ne _ _ e] at hj; exact hs.dom j p hj
  · by_cases e : j = i
    · subst e
      rw [put_same] at hj; cases hj
      rw [hi] at ho; cases ho
      refine ⟨_, _, heap_alloc_new w _, by simp, by simp [hv.1], fun q c hc => ?_, (fun _ => rfl), (fun h => ⟨rfl, by simp [hv.1]⟩)⟩
      have hq : q < vs.length := by rw [← hv.1]; exact (List.getElem?_eq_some_iff.1 hc).1
      exact ⟨vs[q], by simp [hq], (hv.2 q c vs[q] hc (by simp [hq])).ext hext⟩
    · rw [put_ne _ _ e] at hj
      obtain ⟨cur, fr, h1, h2, h3, h4, h5⟩ := hs.obj j p o hj ho hl
      exact ⟨cur, fr, by rw [hold _ (Array.getElem?_eq_some_iff.1 h1).1]; exact h1, h2, h3, fun q c hc => by obtain ⟨v, a, b⟩ := h4 q c hc; exact ⟨v, a, b.ext hext⟩, h5⟩
  · by_cases ej : j = i
    · subst ej
      rw [put_same] at hj; cases hj
      rw [put_ne _ _ (Ne.symm hne)] at hk
      have := hs.lt hk ho' hl'
      show w.heap.size ≠ q.b
      omega
    · rw [put_ne _ _ ej] at hj
      by_cases ek : k = i
      · subst ek
        rw [put_same] at hk; cases hk
        have := hs.lt hj ho hl
        show p.b ≠ w.heap.size
        omega
      · rw [put_ne _ _ ek] at hk
        exact hs.sep j k p q o o' hj hk ho ho' hrw hl hl' hne

/-- the number of the object that was made -/
def idPV : PV → Option Nat
  | .s (.c (.ptr i 0)) => some i
  | .s (.c (.sl i 0 _ _)) => some i
  | _ => none
def isMk (o : Oper) : Bool := match o.op with
  | .alloc _ => o.guard.isNone
  | .buildSlice _ _ _ => o.guard.isNone
  | _ => false
theorem isMk_guard {o : Oper} (h : isMk o = true) : o.guard = none := by
  unfold isMk at h
  split at h
  · simpa using h
  · simpa using h
  · cases h
/-- what it makes, wherever it comes to lie, whichever number it has -/
def MkDo (P : Program) (m : M) (w : World) (a : Act) (o : Oper) (cs : List C) (T : TypeId) (pv : Nat → PV) : Prop :=
  ∃ (vs : List Value) (v : Value), All2 (VC m) cs vs ∧ (execOp a.eval o).run P w = .ok (.value v) (w.alloc (.cells vs.toArray T)) ∧ ∀ (m' : M) (i : Nat), m' i = some ⟨w.heap.size, 0, vs.length⟩ → VP m' (pv i) v
theorem mk_alloc {e : Look} {st st' : St} {o : Oper} {T : TypeId} {pv : PV} (ho : o.op = .alloc T) (h : evAlloc P st T = some (pv, st')) :
    ∃ cs fl f, idPV pv = some st.h.length ∧ pv = f st.h.length ∧ st' = ⟨st.h ++ [⟨cs, T, true, true, fl⟩], st.lo⟩ ∧ ∀ m w a, EL m e a → MkDo P m w a o cs T f := by
  unfold evAlloc at h
  split at h
  · cases h
  rename_i i hi
  split at h
  · cases h
  rename_i z hz
  split at h
  · cases h
  rename_i cs hcs
  cases h
  refine ⟨cs, false, fun i => .s (.c (.ptr i 0)), rfl, rfl, rfl, fun m w a _ => ?_⟩
  have hv : All2 (VC m) cs z.cells.toList := (all?_spec hcs).flip.imp fun _ _ h => ofCell_spec h
  refine ⟨z.cells.toList, .pointer (some ⟨w.heap.size, 0, none⟩), hv, ?_, fun m' i hm => ⟨_, hm, by simp⟩⟩
  simp [execOp, ho, Instr.alloc, zeroValue, typeInfo, hi, hz, Sem.run_bind, run_newVar]
theorem mk_buildSlice {e : Look} {st st' : St} {o : Oper} {T : TypeId} {n : Nat} {ps : Array (Nat × Operand)} {qs : List (Nat × S)} {pv : PV} (ho : o.op = .buildSlice T n ps) (hp : evParts e ps.toList = some qs) (h : evBuildSlice P st T n qs = some (pv, st')) :
    ∃ cs el fl f, idPV pv = some st.h.length ∧ pv = f st.h.length ∧ st' = ⟨st.h ++ [⟨cs, el, true, true, fl⟩], st.lo⟩ ∧ ∀ m w a, EL m e a → MkDo P m w a o cs el f := by
  unfold evBuildSlice at h
  split at h
  · rename_i el hu
    split at h
    · cases h
    rename_i zc hzc
    split at h
    · cases h
    rename_i size hsz
    split at h
    · rename_i hh
      obtain ⟨h24, h0, hzl⟩ := hh
      split at h
      · rename_i cs hf
        cases h
        refine ⟨cs, el, true, fun i => .s (.c (.sl i 0 n size)), rfl, rfl, rfl, fun m w a he => ?_⟩
        have hps := evParts_spec he hp
        obtain ⟨z, hz, hzv⟩ := zeroC_spec (m := m) hzc
        have hmade := made_spec hzv (n * size) (fun _ => by omega)
        obtain ⟨us, hfill, hus⟩ := fill_spec _ hf hmade hps
        have hlen : cs.length = n * size := by
          have key : ∀ {ps : List (Nat × S)} {cells out : List C} {place : Nat → Option (Nat × Nat)}, fillC place cells ps = some out → out.length = cells.length := by
            intro ps
            induction ps with
            | nil => intro cells out place h; cases h; rfl
            | cons p ps ih =>
              intro cells out place h
              obtain ⟨i, s⟩ := p
              simp only [fillC] at h
              split at h
              · cases h
              · split at h
                · rename_i hc
                  rw [ih h]
                  simp only [List.length_append, List.length_take, List.length_drop]
                  omega
                · cases h
          rw [key hf, repC_len]
        have hul : us.size = n * size := by have := hus.1; simp at this; omega
        refine ⟨us.toList, .slice (some ⟨w.heap.size, 0, none⟩) n n, hus, ?_, fun m' i hm => ⟨_, _, hm, by simp, Nat.le_refl _, by
            have : n ≤ n * size := Nat.le_mul_of_pos_right _ h0
            simp only [maxLen]; omega, by simp [hul]⟩⟩
        rw [Array.toArray_toList]
        have h24' : ¬ (n * size > 2 ^ 24) := by omega
        have hfill' : Instr.fill (fun i => some (i * size, size)) ((Array.range (n * size)).map (z.cells[· % z.cells.size]!)) (ps.map fun p => (p.1, a.eval p.2)).toList = some us := hfill
        by_cases hn : n * size = 0
        · have hn0 : Instr.fill (fun i => some (i * size, size)) ((Array.range (n * size)).map ((#[] : Array Value)[· % (#[] : Array Value).size]!)) (ps.map fun p => (p.1, a.eval p.2)).toList = some us := by
            rw [← hfill', hn, show Array.range 0 = #[] from rfl]; simp
          simp only [execOp, ho, Instr.buildSlice, Sem.run_bind, run_underlying hu, Result.andThen_ok, run_sizeOf hsz, if_neg h24', if_pos hn, Sem.run_pure, hn0]
          rfl
        · simp only [execOp, ho, Instr.buildSlice, Sem.run_bind, run_underlying hu, Result.andThen_ok, run_sizeOf hsz, if_neg h24', if_neg hn, hz w, Sem.run_pure, hfill']
          rfl
      · cases h
    · cases h
  · cases h
theorem mk_step {ev : CallE} {e : Look} {st st' : St} {o : Oper} {pv : PV} (hmk : isMk o = true) (h : evStep P ev e st o = some (pv, st')) :
    ∃ cs T fl f, idPV pv = some st.h.length ∧ pv = f st.h.length ∧ st' = ⟨st.h ++ [⟨cs, T, true, true, fl⟩], st.lo⟩ ∧ ∀ m w a, EL m e a → MkDo P m w a o cs T f := by
  rw [evStep_old] at h
  unfold isMk at hmk
  split at hmk
  · rename_i T ho
    simp only [evStepO, ho, evOp] at h
    obtain ⟨cs, fl, f, h1⟩ := mk_alloc (e := e) ho h
    exact ⟨cs, T, fl, f, h1⟩
  · rename_i T n ps ho
    simp only [evStepO, ho, evOp] at h
    split at h
    · rename_i qs hq
      exact mk_buildSlice ho hq h
    · cases h
  · cases hmk
/-- **A MAKER THAT COMES UP LATE** -/
theorem late_wp {m0 m : M} {h0 : List O} {lo : Nat} {w0 w : World} {stq : St} {a : Act} {o : Oper} {i : Nat} {cs : List C} {T : TypeId} {fl : Bool} {f : Nat → PV} {Q : Exit → Act → World → Prop} (hdo : MkDo P m w a o cs T f)
    (hres : Res m0 ⟨h0, lo⟩ w0 m stq w) (hi0 : h0.length ≤ i) (hi : stq.h[i]? = some ⟨cs, T, true, true, fl⟩) (hm : m i = none) :
    o.wp P a w (fun a' w' => ∃ v m', a' = a.put o.dst v ∧ VP m' (f i) v ∧ (∀ k p, m k = some p → m' k = some p) ∧ (∀ k, k ≠ i → m' k = m k) ∧ Res m0 ⟨h0, lo⟩ w0 m' stq w') Q := by
  obtain ⟨vs, v, hv, hr, hp⟩ := hdo
  have hext : ∀ j p, m j = some p → put m i ⟨w.heap.size, 0, vs.length⟩ j = some p := fun j p hj => by
    by_cases e : j = i
    · subst e; rw [hm] at hj; cases hj
    · rw [put_ne _ _ e]; exact hj
  have hf := hres.fr
  unfold Oper.wp
  rw [hr]
  refine ⟨v, put m i ⟨w.heap.size, 0, vs.length⟩, rfl, hp _ i (put_same _ _ _), hext, fun k hk => put_ne _ _ hk, hres.sr.putAt hi hm hv, ⟨fun j p hj => hext j p (hf.same j p hj), fun j hj => ?_, fun j p hj hjm => ?_, ?_, hf.os, hf.tape, hf.output, fun b hb hn => ?_⟩, hres.len, hres.lo, hres.old⟩
  · have hj' : j < h0.length := hj
    rw [put_ne _ _ (by omega)]; exact hf.back j hj
  · by_cases e : j = i
    · subst e
      rw [put_same] at hjm; cases hjm
      exact .inl hf.size
    · rw [put_ne _ _ e] at hjm; exact hf.new j p hj hjm
  · have := hf.size; simp; omega
  · rw [Below.heap_alloc w _ b (by have := hf.size; omega)]
    exact hf.keep b hb hn
end Ev
end Go.Proofs.Ytepianllbfnpoaa

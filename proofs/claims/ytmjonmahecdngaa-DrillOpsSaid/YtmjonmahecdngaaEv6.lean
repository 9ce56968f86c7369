/- Ev: a function's code, run on what is known of its values. Sixth part: append, texts, comparisons; what asks nothing of the world. No program. -/
import Derived.Test.YtmjonmahecdngaaEv5
namespace Go.Proofs.Ytmjonmahecdngaa
open Go.RowKit
namespace Ev
variable {P : Program}

/-- an object of which another slice is known no more lies where it lay -/
theorem Res.killed {m : M} {st : St} {w : World} (hs : SR m st.h w) {i : Nat} {o : O} (ho : st.h[i]? = some o) : Res m st w m ⟨st.h.set i { o with live := false, cells := [] }, min st.lo i⟩ w := by
  have hi := (List.getElem?_eq_some_iff.1 ho).1
  refine ⟨hs.kill i o ho, Fr.refl _ w hs.dom, by simp, Nat.min_le_left _ _, fun j hj hjl => ?_⟩
  have : j ≠ i := by
    have h1 : min st.lo i ≤ i := Nat.min_le_right _ _
    have hjl' : j < min st.lo i := hjl
    omega
  simp [Ne.symm this]
theorem Res.draw {m : M} {st : St} {w w' : World} (hr : Res m st w m st w') : Res m st w m st w'.drew :=
  ⟨hr.sr.drew, ⟨hr.fr.same, hr.fr.back, hr.fr.new, hr.fr.size, hr.fr.os, hr.fr.tape, hr.fr.output, hr.fr.keep⟩, hr.len, hr.lo, hr.old⟩
theorem Res.draw2 {m : M} {st st1 : St} {w : World} (hr : Res m st w m st1 w) : Res m st w m st1 w.drew :=
  ⟨hr.sr.drew, ⟨hr.fr.same, hr.fr.back, hr.fr.new, hr.fr.size, hr.fr.os, hr.fr.tape, hr.fr.output, hr.fr.keep⟩, hr.len, hr.lo, hr.old⟩
theorem Res.drew {m : M} {st : St} {w : World} (hs : SR m st.h w) : Res m st w m st w.drew := (Res.refl hs).draw

theorem Res.draw' {m m' : M} {st st1 st' : St} {w w' : World} (hr : Res m st w m st1 w) (k : Res m st1 w.drew m' st' w') : Res m st w m' st' w' :=
  hr.draw2.trans k
/-- the killed object's block is written, and is a new object's -/
theorem Res.room {m : M} {st : St} {w : World} (hs : SR m st.h w) {i : Nat} {p : Pl} {o : O} (hm : m i = some p) (ho : st.h[i]? = some o) (hl : o.live = true) (hrw : o.rw = true)
    {cur : Array Value} (hb : w.heap[p.b]? = some (.cells cur o.ty (0, 0))) (cs : List C) (cur' : Array Value) (hsz : cur'.size = cur.size) (q : Pl) (hqb : q.b = p.b) (hqn : q.n = p.n) (hn : q.o + cs.length ≤ cur'.size)
    (hc : ∀ (j : Nat) c, cs[j]? = some c → ∃ v, cur'[q.o + j]? = some v ∧ VC m c v) :
    Res m st w (put m st.h.length q) ⟨st.h.set i { o with live := false, cells := [] } ++ [⟨cs, o.ty, true, true, false⟩], min st.lo i⟩ (w.setRow p.b cur') := by
  have hi : i < st.h.length := hs.dom i p hm
  have hpn : cur.size = p.n := by
    obtain ⟨cur0, fr, h1, h2, _⟩ := hs.obj i p o hm ho hl
    rw [hb] at h1; cases h1; exact h2
  have hext := put_ext (n := st.h.length) q hs.dom
  have hlen : (st.h.set i { o with live := false, cells := [] }).length = st.h.length := by simp
  have old : ∀ (j : Nat) (oj : O) (q : Pl), m j = some q → (st.h.set i { o with live := false, cells := [] } ++ [⟨cs, o.ty, true, true, false⟩])[j]? = some oj → oj.live = true → j ≠ i ∧ st.h[j]? = some oj := fun j oj q hmj hj hlj => by
    have hjl := hs.dom j q hmj
    rw [List.getElem?_append_left (by rw [hlen]; exact hjl)] at hj
    by_cases e : j = i
    · subst e
      have : oj = { o with live := false, cells := [] } := by simpa [List.getElem?_set, hi] using hj.symm
      subst this
      cases hlj
    · exact ⟨e, by simpa [List.getElem?_set, Ne.symm e] using hj⟩
  refine ⟨⟨?_, ?_, ?_⟩, ⟨hext, fun j hj => put_ne _ _ (by omega), ?_, by simp, rfl, rfl, rfl, fun b hb' hne => ?_⟩, by simp, Nat.min_le_left _ _, fun j hj hjl => ?_⟩
  · intro j q' hj
    by_cases e : j = st.h.length
    · subst e; simp
    · rw [put_ne _ _ e] at hj; have := hs.dom j q' hj; simp; omega
  · intro j q' oj hj hoj hlj
    by_cases e : j = st.h.length
    · subst e
      rw [put_same] at hj; cases hj
      have : oj = ⟨cs, o.ty, true, true, false⟩ := by
        rw [List.getElem?_append_right (by rw [hlen]; exact Nat.le_refl _), hlen] at hoj
        simpa using hoj.symm
      subst this
      refine ⟨cur', (0, 0), by rw [hqb]; exact setRow_heap w p.b cur cur' _ _ hb, by rw [hsz, hpn, hqn], by show q.o + cs.length ≤ q.n; rw [hqn, ← hpn, ← hsz]; omega, fun j c hcj => ?_, (fun _ => rfl), (fun h => by cases h)⟩
      obtain ⟨v, h1, h2⟩ := hc j c hcj
      exact ⟨v, h1, h2.ext hext⟩
    · rw [put_ne _ _ e] at hj
      obtain ⟨hne, hoj'⟩ := old j oj q' hj hoj hlj
      obtain ⟨c1, fr, h1, h2, h3, h4, h5⟩ := hs.obj j q' oj hj hoj' hlj
      exact ⟨c1, fr, by rw [setRow_other w p.b q'.b cur' (hs.sep i j p q' o oj hm hj ho hoj' hrw hl hlj (Ne.symm hne)).symm]; exact h1, h2, h3, fun k c hk => by obtain ⟨v, a, b⟩ := h4 k c hk; exact ⟨v, a, b.ext hext⟩, h5⟩
  · intro a b pa pb oa ob ha hb1 hoa hob hrwa hla hlb hne
    by_cases ea : a = st.h.length
    · subst ea
      rw [put_same] at ha; cases ha
      rw [put_ne _ _ (Ne.symm hne)] at hb1
      obtain ⟨k1, k2⟩ := old b ob pb hb1 hob hlb
      rw [hqb]
      exact hs.sep i b p pb o ob hm hb1 ho k2 hrw hl hlb (Ne.symm k1)
    · rw [put_ne _ _ ea] at ha
      obtain ⟨k1, k2⟩ := old a oa pa ha hoa hla
      by_cases eb : b = st.h.length
      · subst eb
        rw [put_same] at hb1; cases hb1
        rw [hqb]
        exact (hs.sep i a p pa o oa hm ha ho k2 hrw hl hla (Ne.symm k1)).symm
      · rw [put_ne _ _ eb] at hb1
        obtain ⟨j1, j2⟩ := old b ob pb hb1 hob hlb
        exact hs.sep a b pa pb oa ob ha hb1 k2 j2 hrwa hla hlb hne
  · intro j q' hj hmj
    by_cases e : j = st.h.length
    · subst e; rw [put_same] at hmj; cases hmj; exact .inr ⟨i, p, Nat.min_le_right _ _, hi, hm, hqb.symm⟩
    · rw [put_ne _ _ e] at hmj; have := hs.dom j q' hmj; omega
  · exact setRow_other w p.b b cur' (fun e => hne i p (Nat.min_le_right _ _) hi hm e.symm)
  · have : j ≠ i := by
      have h1 : min st.lo i ≤ i := Nat.min_le_right _ _
      have hjl' : j < min st.lo i := hjl
      omega
    rw [List.getElem?_append_left (by simpa using hj)]
    simp [Ne.symm this]

/-- the cells that a slice shows -/
def evCells (st : St) : C → Option (List C × Nat)
  | .flat (.slice none 0 0) => some ([], 0)
  | .emp _ => some ([], 0)
  | .q _ _ _ => some ([], 0)
  | .sl i off len sz => match st.h[i]? with
    | none => none
    | some o => if o.live = true ∧ (o.full = true ∨ off + len * sz ≤ o.cells.length) then some ((o.cells.drop off).take (len * sz), len) else none
  | _ => none
theorem evCells_spec {m : M} {st : St} {w : World} (hs : SR m st.h w) {c : C} {v : Value} (hv : VC m c v) {cs : List C} {n : Nat} (h : evCells st c = some (cs, n)) :
    ∃ ad cap vs, v = .slice ad n cap ∧ All2 (VC m) cs vs ∧ (∀ a, ad = some a → ∀ j u, vs[j]? = some u → w.cell? (a.add j) = some u) ∧ (0 < n → ad ≠ none) := by
  unfold evCells at h
  split at h
  · cases h; exact ⟨none, 0, [], hv.1, All2.nil, by simp, by simp⟩
  · cases h; obtain ⟨a, cap, rfl, _⟩ := hv; exact ⟨some a, cap, [], rfl, All2.nil, fun a _ j u hu => by simp at hu, by simp⟩
  · cases h; obtain ⟨p, a, cap, _, rfl, _⟩ := hv; exact ⟨some a, cap, [], rfl, All2.nil, fun a _ j u hu => by simp at hu, by simp⟩
  · rename_i i off len sz
    split at h
    · cases h
    rename_i o ho
    split at h
    · rename_i hh
      cases h
      obtain ⟨p, cap, hm, rfl, hle, _, hcp⟩ := hv
      obtain ⟨cur, fr, hb, hsz, hlen, hcell, hff⟩ := hs.obj i p o hm ho hh.1
      have hh : o.live = true ∧ off + n * sz ≤ o.cells.length := ⟨hh.1, hh.2.elim (fun hf => by
        obtain ⟨f1, f2⟩ := hff.2 hf
        have : n * sz ≤ cap * sz := Nat.mul_le_mul_right _ hle
        rw [f1] at hcp
        omega) id⟩
      refine ⟨_, cap, (cur.toList.drop (p.o + off)).take (n * sz), rfl, ⟨by simp; omega, fun j c v hc hv => ?_⟩, fun a ha j u hu => ?_, by simp⟩
      · rw [List.getElem?_take] at hc hv
        split at hc
        · rw [if_pos (by assumption), List.getElem?_drop] at hv
          rw [List.getElem?_drop] at hc
          obtain ⟨u, hu, hvc⟩ := hcell _ c hc
          rw [← Nat.add_assoc] at hu
          have hv' : cur[p.o + off + j]? = some v := by simpa using hv
          rw [hv'] at hu; cases hu; exact hvc
        · cases hc
      · cases ha
        rw [Addr.add_lit, cell_of_row w p.b _ cur _ _ hb]
        rw [List.getElem?_take] at hu
        split at hu
        · rw [List.getElem?_drop] at hu; simpa using hu
        · cases hu
    · cases h
  · cases h

variable (P)
def evAppend (st : St) (T : TypeId) (s x : C) : Option (PV × St) :=
  match P.underlying T with
  | some (.slice el) => match P.info? el with
    | none => none
    | some inf => if inf.size = 0 ∨ inf.zero.map (·.cells.size) ≠ some inf.size then none else match evCells st x with
      | none => none
      | some (news, k) =>
        if k = 0 then (match s with
          | .flat (.slice none 0 0) => some (.s (.c s), st)
          | .sl _ _ _ _ => some (.s (.c s), st)
          | .emp _ => some (.s (.c s), st)
          | .q _ _ _ => some (.s (.c s), st)
          | _ => none)
        else if news.length ≠ k * inf.size then none
        else match s with
        | .flat (.slice none 0 0) => if k ≤ maxLen ∧ k * inf.bytes ≤ 140737488355328 then
            some (.s (.c (.sl st.h.length 0 k inf.size)), ⟨st.h ++ [⟨news, el, true, true, false⟩], st.lo⟩) else none
        | .emp true => if k ≤ maxLen ∧ k * inf.bytes ≤ 140737488355328 then
            some (.s (.c (.sl st.h.length 0 k inf.size)), ⟨st.h ++ [⟨news, el, true, true, false⟩], st.lo⟩) else none
        | .sl i off len sz => match st.h[i]? with
          | none => none
          | some o => if o.live = true ∧ o.full = true ∧ off = 0 ∧ sz = inf.size ∧ o.cells.length = len * sz ∧ o.rw = false ∧ len + k ≤ maxLen ∧ (len + k) * inf.bytes ≤ 140737488355328 then
              some (.s (.c (.sl st.h.length 0 (len + k) sz)), ⟨st.h ++ [⟨o.cells ++ news, el, true, true, false⟩], st.lo⟩)
            else if o.live = true ∧ o.rw = true ∧ o.ty = el ∧ sz = inf.size ∧ o.cells.length = off + len * sz ∧ len + k ≤ maxLen ∧ (len + k) * inf.bytes ≤ 140737488355328 then
              some (.s (.c (.sl st.h.length 0 (len + k) sz)), ⟨st.h.set i { o with live := false, cells := [] } ++ [⟨o.cells.drop off ++ news, el, true, true, false⟩], min st.lo i⟩) else none
        | .q i off sz => match st.h[i]? with
          | none => none
          | some o => if o.live = true ∧ o.rw = true ∧ o.ty = el ∧ sz = inf.size ∧ k ≤ maxLen ∧ k * inf.bytes ≤ 140737488355328 then
              some (.s (.c (.sl st.h.length 0 k sz)), ⟨st.h.set i { o with live := false, cells := [] } ++ [⟨news, el, true, true, false⟩], min st.lo i⟩) else none
        | _ => none
  | _ => none
variable {P}
theorem run_append_room_at (w : World) (t ty e : TypeId) (i : TypeInfo) (ht : P.underlying t = some (.slice e)) (hi : P.info? e = some i)
    (g off sLen sCap : Nat) (cur : Array Value) (hg : w.heap[g]? = some (.cells cur e (0, 0)))
    (a : Addr) (m c : Nat) (news : List Value) (hl : news.length = m * i.size) (hnews : ∀ j u, news[j]? = some u → w.cell? (a.add j) = some u) (h1 : ∀ u ∈ news, u.oneCell' = true)
    (hroom : sLen + m ≤ sCap) (hfit : off + sLen * i.size + news.length ≤ cur.size) :
    (Builtin.append_ #[t, t] ty #[.slice (some ⟨g, off, none⟩) sLen sCap, .slice (some a) m c]).run P w =
      .ok (.slice (some ⟨g, off, none⟩) (sLen + m) sCap) (w.setRow g (cur.toList.take (off + sLen * i.size) ++ news ++ cur.toList.drop (off + sLen * i.size + news.length)).toArray) := by
  have hf := run_firstCells_some (P := P) w i.size m a m c news hl hnews
  have hst := run_storeCells_at P g (off + sLen * i.size) e news 0 cur w hg (by simpa using hfit) h1
  simp only [Nat.add_zero] at hst
  simp [Builtin.append_, run_underlying ht, sizeOf, typeInfo, hi, Builtin.lenOf, hroom, hf, Addr.add_lit, hst]
/-- in place, at any place of a block: the cells that were ahead are known no more -/
theorem room_cells {m : M} {cur : Array Value} {d k : Nat} {olds news : List C} {ovs vs : List Value} (hold : All2 (VC m) olds ovs) (hov : ∀ (j : Nat) v, ovs[j]? = some v → cur[d + j]? = some v) (hall : All2 (VC m) news vs) (hk : k = d + ovs.length) (hfit : k + vs.length ≤ cur.size) :
    (cur.toList.take k ++ vs ++ cur.toList.drop (k + vs.length)).toArray.size = cur.size ∧ d + (olds ++ news).length ≤ (cur.toList.take k ++ vs ++ cur.toList.drop (k + vs.length)).toArray.size ∧
    ∀ (j : Nat) c, (olds ++ news)[j]? = some c → ∃ v, (cur.toList.take k ++ vs ++ cur.toList.drop (k + vs.length)).toArray[d + j]? = some v ∧ VC m c v := by
  subst hk
  have e1 : (cur.toList.take (d + ovs.length) ++ vs ++ cur.toList.drop (d + ovs.length + vs.length)).toArray.size = cur.size := by simp; omega
  refine ⟨e1, by rw [e1, List.length_append, hold.1, hall.1]; omega, fun j c hj => ?_⟩
  simp only [List.getElem?_toArray, List.append_assoc]
  have ht : (cur.toList.take (d + ovs.length)).length = d + ovs.length := by simp; omega
  by_cases h1 : j < olds.length
  · rw [List.getElem?_append_left h1] at hj
    have h2 : j < ovs.length := by rw [← hold.1]; exact h1
    have hv := hov j _ (List.getElem?_eq_getElem h2)
    refine ⟨ovs[j], ?_, hold.2 j c _ hj (List.getElem?_eq_getElem h2)⟩
    rw [List.getElem?_append_left (by rw [ht]; omega), List.getElem?_take, if_pos (by omega)]
    simpa using hv
  · rw [List.getElem?_append_right (by omega)] at hj
    have h2 : j - olds.length < vs.length := by rw [← hall.1]; exact (List.getElem?_eq_some_iff.1 hj).1
    refine ⟨vs[j - olds.length], ?_, hall.2 _ c _ hj (List.getElem?_eq_getElem h2)⟩
    have := hold.1
    rw [List.getElem?_append_right (by rw [ht]; omega), ht, show d + j - (d + ovs.length) = j - olds.length by omega, List.getElem?_append_left h2, List.getElem?_eq_getElem h2]
theorem exec_append {a : Act} {o : Oper} {s x : Operand} {T : TypeId} (ho : o.op = .call { callee := .builtin .append, args := #[s, x], argTypes := #[T, T] }) {w w' : World} {v : Value}
    (h : (Builtin.append_ #[T, T] o.type #[a.eval s, a.eval x]).run P w = .ok v w') : (execOp a.eval o).run P w = .ok (.value v) w' := by
  simp [execOp, ho, resolve, invoke, builtin, h]
theorem append_spec {m : M} {st st' : St} {w : World} {a : Act} {e : Look} {o : Oper} {T : TypeId} {s x : Operand} {cs cx : C} {pv : PV} (hs : SR m st.h w) (he : EL m e a) (ho : o.op = .call { callee := .builtin .append, args := #[s, x], argTypes := #[T, T] })
    (hsx : evX e s = some (.s (.c cs))) (hxx : evX e x = some (.s (.c cx))) (h : evAppend P st T cs cx = some (pv, st')) : Does P m st w a o pv st' := by
  have hcs : VC m cs (a.eval s) := evX_spec he hsx
  have hcx : VC m cx (a.eval x) := evX_spec he hxx
  unfold evAppend at h
  split at h
  · rename_i el hu
    split at h
    · cases h
    rename_i inf hi
    split at h
    · cases h
    rename_i hnz
    obtain ⟨z, hz, hzs⟩ : ∃ z, inf.zero = some z ∧ z.cells.size = inf.size := by
      cases hh : inf.zero with
      | none => simp [hh] at hnz
      | some z => exact ⟨z, rfl, by simpa [hh] using (not_or.1 hnz).2⟩
    have hsz : inf.size ≠ 0 := fun hh => hnz (.inl hh)
    split at h
    · cases h
    rename_i news k hcells
    obtain ⟨ad, cap, vs, hxv, hall, hmem, hnone⟩ := evCells_spec hs hcx hcells
    split at h
    · rename_i hk
      subst hk
      have hvs : ∀ (base : Option Addr) (len sc : Nat), len ≤ sc → a.eval s = .slice base len sc → (execOp a.eval o).run P w = .ok (.value (.slice base len sc)) w := fun base len sc hle hsv => by
        refine exec_append ho ?_
        rw [hsv, hxv]
        have hf : (Builtin.firstCells inf.size 0 (.slice ad 0 cap)).run P w = .ok #[] w := by cases ad <;> simp [Builtin.firstCells, loadCells, loadCellsFrom]
        cases base <;> simp [Builtin.append_, run_underlying hu, sizeOf, typeInfo, hi, Builtin.lenOf, hf, hle, storeCells]
      split at h
      · cases h; exact Does.same hs (hvs none 0 0 (Nat.le_refl _) hcs.1) ⟨rfl, rfl⟩
      · cases h; obtain ⟨p, sc, h1, h2, h3, h4, h5⟩ := hcs; exact Does.same hs (hvs _ _ _ h3 h2) ⟨p, sc, h1, rfl, h3, h4, h5⟩
      · cases h; obtain ⟨x0, sc, h2, h3⟩ := hcs; exact Does.same hs (hvs _ _ _ (Nat.zero_le _) h2) ⟨_, _, rfl, h3⟩
      · cases h; obtain ⟨p, x0, sc, h1, h2, h3⟩ := hcs; exact Does.same hs (hvs _ _ _ (Nat.zero_le _) h2) ⟨p, _, _, h1, rfl, h3⟩
      · cases h
    · rename_i hk
      split at h
      · cases h
      rename_i hnl
      have hnl : news.length = k * inf.size := by simpa using hnl
      have hvl : vs.length = k * inf.size := by rw [← hall.1]; exact hnl
      cases ad with
      | none => exact absurd rfl (hnone (by omega))
      | some ad =>
      have hone : ∀ u ∈ vs, u.oneCell' = true := fun u hu' => by
        obtain ⟨j, hj, rfl⟩ := List.mem_iff_getElem.1 hu'
        have hj' : j < news.length := by rw [hall.1]; exact hj
        exact (hall.2 j news[j] _ (by simp) (by simp)).one
      split at h
      · split at h
        · rename_i hb
          cases h
          have hr := run_append_nil (P := P) w T o.type el inf z hu hi hz ad k cap vs hvl (hmem ad rfl) (by omega) (by have := hb.1; simp only [maxLen] at this; omega) (by omega)
          have hres := (Res.drew hs).trans (Res.alloc (hs.drew) news vs el hall (Builtin.zeroCells z.cells (grownCap w k 0 el - k)).toList false (fun h => by cases h))
          have e1 : (vs ++ (Builtin.zeroCells z.cells (grownCap w k 0 el - k)).toList).toArray = vs.toArray ++ Builtin.zeroCells z.cells (grownCap w k 0 el - k) := by apply Array.ext'; simp
          rw [e1] at hres
          refine ⟨_, .slice (some ⟨w.heap.size, 0, none⟩) k (grownCap w k 0 el), _, _, exec_append ho (by rw [hcs.1, hxv]; exact hr), .inl rfl, ?_, hres⟩
          refine ⟨_, grownCap w k 0 el, put_same _ _ _, rfl, grownCap_ge w k 0 el, grownCap_le_maxLen w k 0 el hb.1, ?_⟩
          simp only [Nat.zero_add, Array.length_toList, size_zeroCells, hzs, hvl, Nat.add_zero]
          have hg := grownCap_ge w k 0 el
          rw [← Nat.add_mul]
          exact Nat.mul_le_mul_right _ (by omega)
        · cases h
      · split at h
        · rename_i hb
          cases h
          obtain ⟨x0, sc, hsv, hsc⟩ := hcs
          have hsc := hsc rfl
          subst hsc
          have hr : (Builtin.append_ #[T, T] o.type #[.slice (some x0) 0 0, .slice (some ad) k cap]).run P w = .ok (.slice (some ⟨w.heap.size, 0, none⟩) k (grownCap w k 0 el)) (w.drew.alloc (.cells (vs.toArray ++ Builtin.zeroCells z.cells (grownCap w k 0 el - k)) el)) := by
            have := run_append_grow (P := P) w T o.type el inf z hu hi hz x0 0 0 [] (by simp) (by simp) ad k cap vs hvl (hmem ad rfl) (by omega) (by have := hb.1; simp only [maxLen] at this; omega) (growslice_fits (by omega) (by rw [Nat.zero_add]; omega))
            simpa using this
          have hres := (Res.drew hs).trans (Res.alloc (hs.drew) news vs el hall (Builtin.zeroCells z.cells (grownCap w k 0 el - k)).toList false (fun h => by cases h))
          have e1 : (vs ++ (Builtin.zeroCells z.cells (grownCap w k 0 el - k)).toList).toArray = vs.toArray ++ Builtin.zeroCells z.cells (grownCap w k 0 el - k) := by apply Array.ext'; simp
          rw [e1] at hres
          refine ⟨_, .slice (some ⟨w.heap.size, 0, none⟩) k (grownCap w k 0 el), _, _, exec_append ho (by rw [hsv, hxv]; exact hr), .inl rfl, ?_, hres⟩
          refine ⟨_, grownCap w k 0 el, put_same _ _ _, rfl, grownCap_ge w k 0 el, grownCap_le_maxLen w k 0 el hb.1, ?_⟩
          simp only [Nat.zero_add, Array.length_toList, size_zeroCells, hzs, hvl, Nat.add_zero]
          have hg := grownCap_ge w k 0 el
          rw [← Nat.add_mul]
          exact Nat.mul_le_mul_right _ (by omega)
        · cases h
      · rename_i i off len sz
        split at h
        · cases h
        rename_i ob hob
        split at h
        · rename_i hh
          obtain ⟨hl, hfu, rfl, rfl, hcl, _, hmx, hbt⟩ := hh
          cases h
          obtain ⟨p, sc, hm, hsv, hle, hsm, hcap⟩ := hcs
          obtain ⟨cur, fr, hb, hcz, hpl, hcell, hf⟩ := hs.obj i p ob hm hob hl
          obtain ⟨hpo, hpn⟩ := hf.2 hfu
          simp only [hpo, Nat.zero_add] at hsv hcap hcell hpl
          have hscl : sc ≤ len := by
            rw [← hpn, hcl] at hcap
            exact Nat.le_of_mul_le_mul_right hcap (by omega)
          have holen : (cur.toList.take (len * inf.size)).length = len * inf.size := by simp; omega
          have hold : All2 (VC m) ob.cells (cur.toList.take (len * inf.size)) := ⟨by rw [holen, hcl], fun j c v hc hv => by
            rw [List.getElem?_take] at hv
            split at hv
            · obtain ⟨u, hu', hvc⟩ := hcell j c hc
              have hv' : cur[j]? = some v := by simpa using hv
              rw [hv'] at hu'; cases hu'; exact hvc
            · cases hv⟩
          have hholds : ∀ j v, (cur.toList.take (len * inf.size))[j]? = some v → w.cell? ((⟨p.b, 0, none⟩ : Addr).add j) = some v := fun j v hv => by
            rw [Addr.add_lit, cell_of_row w p.b _ cur _ _ hb, Nat.zero_add]
            rw [List.getElem?_take] at hv
            split at hv
            · simpa using hv
            · cases hv
          have hr := run_append_grow (P := P) w T o.type el inf z hu hi hz ⟨p.b, 0, none⟩ len sc (cur.toList.take (len * inf.size)) holen hholds ad k cap vs hvl (hmem ad rfl) (by omega) (by simp only [maxLen] at hmx; omega) (growslice_fits (by omega) hbt)
          have hres := (Res.drew hs).trans (Res.alloc hs.drew (ob.cells ++ news) (cur.toList.take (len * inf.size) ++ vs) el (hold.append hall) (Builtin.zeroCells z.cells (grownCap w (len + k) sc el - (len + k))).toList false (fun h => by cases h))
          have e1 : (cur.toList.take (len * inf.size) ++ vs ++ (Builtin.zeroCells z.cells (grownCap w (len + k) sc el - (len + k))).toList).toArray = (cur.toList.take (len * inf.size)).toArray ++ vs.toArray ++ Builtin.zeroCells z.cells (grownCap w (len + k) sc el - (len + k)) := by apply Array.ext'; simp
          rw [e1] at hres
          refine ⟨_, .slice (some ⟨w.heap.size, 0, none⟩) (len + k) (grownCap w (len + k) sc el), _, _, exec_append ho (by rw [hsv, hxv]; exact hr), .inl rfl, ?_, hres⟩
          have hg := grownCap_ge w (len + k) sc el
          refine ⟨_, grownCap w (len + k) sc el, put_same _ _ _, rfl, hg, grownCap_le_maxLen w (len + k) sc el hmx, ?_⟩
          simp only [Nat.zero_add, Array.length_toList, size_zeroCells, hzs, List.length_append, holen, hvl, Nat.add_zero]
          rw [← Nat.add_mul, ← Nat.add_mul]
          exact Nat.mul_le_mul_right _ (by omega)
        split at h
        · rename_i hh
          obtain ⟨hl, hrw, rfl, rfl, hcl, hmx, hbt⟩ := hh
          cases h
          obtain ⟨p, sc, hm, hsv, hle, hsm, hcap⟩ := hcs
          obtain ⟨cur, fr, hb, hcz, hpl, hcell, hf⟩ := hs.obj i p ob hm hob hl
          obtain rfl := hf.1 hrw
          have hdl : (ob.cells.drop off).length = len * inf.size := by rw [List.length_drop]; omega
          have holen : ((cur.toList.drop (p.o + off)).take (len * inf.size)).length = len * inf.size := by simp; omega
          have hov : ∀ (j : Nat) v, ((cur.toList.drop (p.o + off)).take (len * inf.size))[j]? = some v → cur[p.o + off + j]? = some v := fun j v hv => by
            rw [List.getElem?_take] at hv
            split at hv
            · rw [List.getElem?_drop] at hv; simpa using hv
            · cases hv
          have hold : All2 (VC m) (ob.cells.drop off) ((cur.toList.drop (p.o + off)).take (len * inf.size)) := ⟨by rw [holen, hdl], fun j c v hc hv => by
            rw [List.getElem?_drop] at hc
            obtain ⟨u, hu', hvc⟩ := hcell _ c hc
            have hv' := hov j v hv
            rw [← Nat.add_assoc] at hu'
            rw [hv'] at hu'; cases hu'; exact hvc⟩
          by_cases hroom : len + k ≤ sc
          · have hfit : p.o + off + len * inf.size + vs.length ≤ cur.size := by
              have : (len + k) * inf.size ≤ sc * inf.size := Nat.mul_le_mul_right _ hroom
              rw [Nat.add_mul] at this
              omega
            have hr := run_append_room_at (P := P) w T o.type ob.ty inf hu hi p.b (p.o + off) len sc cur hb ad k cap vs hvl (hmem ad rfl) hone hroom hfit
            obtain ⟨r1, r2, r3⟩ := room_cells (k := p.o + off + len * inf.size) hold hov hall (by rw [holen]) hfit
            have hres := Res.room hs hm hob hl hrw hb (ob.cells.drop off ++ news) _ r1 ⟨p.b, p.o + off, p.n⟩ rfl rfl r2 r3
            refine ⟨_, .slice (some ⟨p.b, p.o + off, none⟩) (len + k) sc, _, _, exec_append ho (by rw [hsv, hxv]; exact hr), .inl rfl, ?_, hres⟩
            exact ⟨_, sc, put_same _ _ _, rfl, hroom, hsm, hcap⟩
          · have hholds : ∀ j v, ((cur.toList.drop (p.o + off)).take (len * inf.size))[j]? = some v → w.cell? ((⟨p.b, p.o + off, none⟩ : Addr).add j) = some v := fun j v hv => by
              rw [Addr.add_lit, cell_of_row w p.b _ cur _ _ hb]
              exact hov j v hv
            have hr := run_append_grow (P := P) w T o.type ob.ty inf z hu hi hz ⟨p.b, p.o + off, none⟩ len sc ((cur.toList.drop (p.o + off)).take (len * inf.size)) holen hholds ad k cap vs hvl (hmem ad rfl) (by omega) (by simp only [maxLen] at hmx; omega) (growslice_fits (by omega) hbt)
            have hres := (Res.killed hs hob).draw' (Res.alloc ((hs.kill i ob hob).drew) (ob.cells.drop off ++ news) ((cur.toList.drop (p.o + off)).take (len * inf.size) ++ vs) ob.ty (hold.append hall) (Builtin.zeroCells z.cells (grownCap w (len + k) sc ob.ty - (len + k))).toList false (fun h => by cases h))
            have e1 : ((cur.toList.drop (p.o + off)).take (len * inf.size) ++ vs ++ (Builtin.zeroCells z.cells (grownCap w (len + k) sc ob.ty - (len + k))).toList).toArray = ((cur.toList.drop (p.o + off)).take (len * inf.size)).toArray ++ vs.toArray ++ Builtin.zeroCells z.cells (grownCap w (len + k) sc ob.ty - (len + k)) := by apply Array.ext'; simp
            rw [e1] at hres
            simp only [List.length_set] at hres
            refine ⟨_, .slice (some ⟨w.heap.size, 0, none⟩) (len + k) (grownCap w (len + k) sc ob.ty), _, _, exec_append ho (by rw [hsv, hxv]; exact hr), .inl rfl, ?_, hres⟩
            have hg := grownCap_ge w (len + k) sc ob.ty
            refine ⟨_, grownCap w (len + k) sc ob.ty, put_same _ _ _, rfl, hg, grownCap_le_maxLen w (len + k) sc ob.ty hmx, ?_⟩
            simp only [Nat.zero_add, Array.length_toList, size_zeroCells, hzs, List.length_append, holen, hvl, Nat.add_zero]
            rw [← Nat.add_mul, ← Nat.add_mul]
            exact Nat.mul_le_mul_right _ (by omega)
        · cases h
      · rename_i i off sz
        split at h
        · cases h
        rename_i ob hob
        split at h
        · rename_i hh
          obtain ⟨hl, hrw, rfl, rfl, hmx, hbt⟩ := hh
          cases h
          obtain ⟨p, x0, sc, hm, hsv, hsm, hcap⟩ := hcs
          obtain ⟨cur, fr, hb, hcz, hpl, hcell, hf⟩ := hs.obj i p ob hm hob hl
          obtain rfl := hf.1 hrw
          by_cases hroom : k ≤ sc
          · obtain ⟨rfl, hcap'⟩ := hcap (by omega)
            have hfit : p.o + off + 0 * inf.size + vs.length ≤ cur.size := by
              have : k * inf.size ≤ sc * inf.size := Nat.mul_le_mul_right _ hroom
              omega
            have hr := run_append_room_at (P := P) w T o.type ob.ty inf hu hi p.b (p.o + off) 0 sc cur hb ad k cap vs hvl (hmem ad rfl) hone (by omega) hfit
            obtain ⟨r1, r2, r3⟩ := room_cells (k := p.o + off + 0 * inf.size) (d := p.o + off) (olds := []) (ovs := []) All2.nil (by simp) hall (by simp) hfit
            have hres := Res.room hs hm hob hl hrw hb ([] ++ news) _ r1 ⟨p.b, p.o + off, p.n⟩ rfl rfl r2 r3
            rw [Nat.zero_add] at hr
            refine ⟨_, .slice (some ⟨p.b, p.o + off, none⟩) k sc, _, _, exec_append ho (by rw [hsv, hxv]; exact hr), .inl rfl, ?_, hres⟩
            exact ⟨_, sc, put_same _ _ _, rfl, hroom, hsm, by simpa using hcap'⟩
          · have hr : (Builtin.append_ #[T, T] o.type #[.slice (some x0) 0 sc, .slice (some ad) k cap]).run P w = .ok (.slice (some ⟨w.heap.size, 0, none⟩) k (grownCap w k sc ob.ty)) (w.drew.alloc (.cells (vs.toArray ++ Builtin.zeroCells z.cells (grownCap w k sc ob.ty - k)) ob.ty)) := by
              have := run_append_grow (P := P) w T o.type ob.ty inf z hu hi hz x0 0 sc [] (by simp) (by simp) ad k cap vs hvl (hmem ad rfl) (by omega) (by simp only [maxLen] at hmx; omega) (growslice_fits (by omega) (by rw [Nat.zero_add]; omega))
              simpa using this
            have hres := (Res.killed hs hob).draw' (Res.alloc ((hs.kill i ob hob).drew) news vs ob.ty hall (Builtin.zeroCells z.cells (grownCap w k sc ob.ty - k)).toList false (fun h => by cases h))
            have e1 : (vs ++ (Builtin.zeroCells z.cells (grownCap w k sc ob.ty - k)).toList).toArray = vs.toArray ++ Builtin.zeroCells z.cells (grownCap w k sc ob.ty - k) := by apply Array.ext'; simp
            rw [e1] at hres
            simp only [List.length_set] at hres
            refine ⟨_, .slice (some ⟨w.heap.size, 0, none⟩) k (grownCap w k sc ob.ty), _, _, exec_append ho (by rw [hsv, hxv]; exact hr), .inl rfl, ?_, hres⟩
            have hg := grownCap_ge w k sc ob.ty
            refine ⟨_, grownCap w k sc ob.ty, put_same _ _ _, rfl, hg, grownCap_le_maxLen w k sc ob.ty hmx, ?_⟩
            simp only [Nat.zero_add, Array.length_toList, size_zeroCells, hzs, hvl, Nat.add_zero]
            rw [← Nat.add_mul]
            exact Nat.mul_le_mul_right _ (by omega)
        · cases h
      · cases h
  · cases h
end Ev
end Go.Proofs.Ytmjonmahecdngaa

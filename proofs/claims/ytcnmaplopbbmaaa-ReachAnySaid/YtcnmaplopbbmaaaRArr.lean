/- '==' on arrays of truths comes to a truth; a struct or an array is read out of the middle of a row; tokens of an array. No program but its types. -/
import Derived.Test.YtcnmaplopbbmaaaRAny
import Derived.Deep.MidRow
import Derived.Laws.StructEq
namespace Go.Proofs.Ytcnmaplopbbmaaa
open Go.RowKit
theorem run_part {P : Program} (w : World) (e : TypeId) (he : P.underlying e = some .bool) (_hi : (P.info? e).map (·.size) = some 1) (xs : Array Value) (i : Nat) (b : Bool) (hx : xs[i]? = some (.bool b)) : (part e xs i).run P w = .ok (.bool b) w := by
  have hz : xs[i]?.getD undef = .bool b := by rw [hx]; rfl
  have ha : (isAgg e).run P w = .ok false w := by
    unfold isAgg
    rw [Sem.run_bind, run_underlying he w]
    rfl
  unfold part
  simp [Sem.run_bind, ha, hx]
theorem run_equal_bools {P : Program} (w : World) (d : Nat) (t e : TypeId) (n : Nat) (xs ys : Array Value) (ht : P.underlying t = some (.array n e)) (he : P.underlying e = some .bool) (hi : (P.info? e).map (·.size) = some 1)
    (hx : ∀ i, i < n → ∃ b, xs[i]? = some (.bool b)) (hy : ∀ i, i < n → ∃ b, ys[i]? = some (.bool b)) :
    ∃ b, (Op.equalIn (d + 2) t (.agg xs) (.agg ys)).run P w = .ok b w := by
  have hsz : (sizeOf e).run P w = .ok 1 w := by
    cases hq : P.info? e with
    | none => rw [hq] at hi; cases hi
    | some q =>
      rw [hq] at hi
      have : q.size = 1 := by simpa using hi
      simp [sizeOf, typeInfo, hq, this]
  rw [Op.equalIn]
  simp only [Sem.run_bind, run_underlying ht, Result.andThen_ok, hsz, Nat.mul_one]
  rw [Std.Legacy.Range.forIn_eq_forIn_range']
  have hl : ∀ i ∈ List.range' 0 n 1, i < n := by simp
  have hr : ({ stop := n, step_pos := Nat.zero_lt_one } : Std.Legacy.Range).size = n := by simp [Std.Legacy.Range.size]
  simp only [hr]
  generalize List.range' 0 n 1 = l at hl ⊢
  induction l with
  | nil => exact ⟨true, by simp⟩
  | cons i l ih =>
    obtain ⟨a, ha⟩ := hx i (hl i (by simp))
    obtain ⟨b, hb⟩ := hy i (hl i (by simp))
    simp only [List.forIn_cons, Sem.run_bind, run_part w e he hi xs i a ha, run_part w e he hi ys i b hb, Result.andThen_ok, run_equalIn_bool w d e a b he]
    cases hab : (a == b) with
    | false => exact ⟨false, by simp⟩
    | true =>
      obtain ⟨c, hc⟩ := ih (fun j hj => hl j (by simp [hj]))
      exact ⟨c, by simpa using hc⟩
theorem exec_load_mid {P : Program} {o : Oper} {ρ : Operand → Value} {w : World} (ty : TypeId) (x : Operand) (ho : o.op = .load ty x)
    (b of : Nat) (hx : ρ x = .pointer (some ⟨b, of, none⟩)) (cs : List Value) (d : TypeDesc) (hc : w.rangeAt b of cs)
    (hu : P.underlying ty = some d) (hd : d.isRow = true) (hi : (P.info? ty).map (·.size) = some cs.length) :
    (execOp ρ o).run P w = .ok (.value (.agg cs.toArray)) w := by
  unfold execOp
  simp only [ho, hx, Sem.run_bind, run_loadAt_mid w b of ty cs d hc hu hd hi, Result.andThen_ok, Sem.run_pure]
namespace Gr
/-- tokens, as cells, always 65 -/
def kc (t : Tk) : List Value := (List.range 64).map (fun i => Value.bool (t.1.getD i false)) ++ [.bool t.2]
theorem kc_len (t : Tk) : (kc t).length = 65 := by simp [kc]
theorem kc_eq {t : Tk} (h : t.1.length = 64) : kc t = (tcs t).toList := by
  have := rc_eq (t := ((0 : Int), t)) h
  simp only [rc, Array.toList_append] at this
  injection this
theorem kc_one (t : Tk) : ∀ u ∈ kc t, u.oneCell' = true := by
  intro u hu
  rw [kc, List.mem_append, List.mem_map] at hu
  rcases hu with ⟨i, _, rfl⟩ | hu
  · rfl
  · rw [List.mem_singleton] at hu; subst hu; rfl
theorem rc_kc (t : Tn) : rc t = .int .i64 t.1 :: kc t.2 := rfl
/-- the truths alone -/
def bc (l : List Bool) : Array Value := (l.map Value.bool).toArray
theorem bc_tcs (l : List Bool) (b : Bool) : tcs (l, b) = bc l ++ #[.bool b] := by simp [tcs, bc]
theorem bc_size (l : List Bool) : (bc l).size = l.length := by simp [bc]
theorem bc_bool {l : List Bool} (h : l.length = 64) : ∀ i, i < 64 → ∃ b, (bc l)[i]? = some (.bool b) := fun i hi => ⟨l[i], by simp [bc, show i < l.length by omega]⟩
end Gr
/-- '==' of two arrays of truths -/
theorem exec_eql_arr {ρ : Operand → Value} {w : World} (x y : Operand) {l m : List Bool} (hl : l.length = 64) (hm : m.length = 64) (hx : ρ x = .agg (Gr.bc l)) (hy : ρ y = .agg (Gr.bc m)) :
    ∃ b, ∀ o : Oper, o.op = .binOp .eql 78 x y 78 → (execOp ρ o).run Try.prog w = .ok (.value (.bool b)) w := by
  obtain ⟨b, hb⟩ := run_equal_bools (P := Try.prog) w 9998 78 4 64 (Gr.bc l) (Gr.bc m) Try.underlying78 Try.underlying4 (by kernel_rfl) (Gr.bc_bool hl) (Gr.bc_bool hm)
  have hg := run_eqGuard_agg (P := Try.prog) w .eql 78 x y (Gr.bc l) (Gr.bc m) (by kernel_rfl)
  refine ⟨b, fun o ho => ?_⟩
  unfold execOp
  simp only [ho, hx, hy, Sem.run_bind, hg, Result.andThen_ok, run_eql_struct, hb, Sem.run_pure]
theorem info_tok : ∃ i z, Try.prog.info? 80 = some i ∧ i.zero = some z ∧ i.size = 65 ∧ i.bytes = 65 ∧ z.cells.size = 65 := by
  have h : (Try.prog.info? 80).map (fun i => (i.zero.map (·.cells.size), i.size, i.bytes)) = some (some 65, 65, 65) := by kernel_rfl
  cases hi : Try.prog.info? 80 with
  | none => rw [hi] at h; cases h
  | some i =>
    rw [hi] at h
    simp only [Option.map_some, Option.some.injEq, Prod.mk.injEq, Option.map_eq_some_iff] at h
    obtain ⟨⟨z, hz, hs⟩, h1, h2⟩ := h
    exact ⟨i, z, rfl, hz, h1, h2, hs⟩
theorem built_tok0 (parts : List (Nat × Value)) : Try.prog.built 80 parts = Instr.fill (fun i => (#[(0, 64), (64, 1)] : Array (Nat × Nat))[i]?) (Gr.tcs Gr.tz) parts := by kernel_rfl
set_option maxRecDepth 100000 in
theorem built_tok (l : List Bool) (hl : l.length = 64) : Try.prog.built 80 [(0, .agg (Gr.bc l))] = some (Gr.tcs (l, false)) := by
  rw [built_tok0, fill_step (off := 0) (size := 64) rfl (by exact (Gr.bc_size l).trans hl) (by simp [Gr.tcs, Gr.tz]), Instr.fill]
  congr 1
theorem built_tok_nil : Try.prog.built 80 [] = some (Gr.tcs Gr.tz) := by rw [built_tok0, Instr.fill]
set_option maxRecDepth 100000 in
theorem run_slice_tok (w : World) (A : Array Value) (hA : A.size = 65) : (Instr.buildSlice 81 1 #[(0, .agg A)]).run Try.prog w = .ok (.slice (some ⟨w.heap.size, 0, none⟩) 1 1) (w.alloc (.cells A 80)) := by
  obtain ⟨i, z, hi, hz, h1, h2, h3⟩ := info_tok
  refine run_buildSlice w _ 80 1 _ A i z Try.underlying81 hi hz (by rw [h1]; decide) (by rw [h1]; decide) ?_
  rw [h1, fill_step (off := 0) (size := 65) rfl (by exact hA) (by simp), Instr.fill]
  congr 1
  apply Array.ext'
  simp [Value.cells]
theorem exec_slice_tok {o : Oper} {ρ : Operand → Value} {w : World} {x : Operand} {A : Array Value} (ho : o.op = .buildSlice 81 1 #[(0, x)]) (hx : ρ x = .agg A) (hA : A.size = 65) :
    (execOp ρ o).run Try.prog w = .ok (.value (.slice (some ⟨w.heap.size, 0, none⟩) 1 1)) (w.alloc (.cells A 80)) := by
  simp only [execOp, ho, Sem.run_bind, List.map_toArray, List.map_cons, List.map_nil, hx]
  rw [run_slice_tok w A hA]
  rfl
/-- a struct out of the middle of a slice of one's own -/
theorem own_range {w : World} {bs e sz n g c : Nat} {α : Type} {f : α → List Value} {xs : List α} (hk : ∀ x, (f x).length = sz) (h : w.ownsRow bs e sz (.slice (some ⟨g, 0, none⟩) n c) n (xs.flatMap f)) {j : Nat} {x : α} (hx : xs[j]? = some x) : w.rangeAt g (j * sz) (f x) := fun q v hq => by
  have hl := (List.getElem?_eq_some_iff.1 hq).1
  rw [hk] at hl
  have := h.cells (g := g) rfl (j * sz + q) v (by rw [Gr.flat_get hk xs j x hx q hl]; exact hq)
  rwa [Addr.add_lit, Nat.zero_add] at this
theorem range_grow {w w' : World} {b o : Nat} {cs : List Value} (h : w.rangeAt b o cs) (k : Flow.Grow w w') : w'.rangeAt b o cs := fun j v hj => Xm2.cell_grow k (h j v hj)
end Go.Proofs.Ytcnmaplopbbmaaa

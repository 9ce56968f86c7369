/- tree: caught, as it is deferred. -/
import Derived.Test.YtfkdjdmbgednkaaDoorTr7
import Derived.Recover
namespace Go.Proofs.YtfkdjdmbgednkaaDoor
open Go.RowKit
theorem wpS_recover {P : Program} {id ty : Nat} {pos : String} {d : Tmp} {Q : Exit → Act → List Frame → World → Prop} {a : Act} {cs : List Frame} {w : World}
    (h : match recoverD cs with | some (v, cs') => Q .normal (a.put (some d) v) cs' w | none => Q .normal (a.put (some d) .nilIface) cs w) :
    (Code.region id #[{ dst := some d, op := Op.call { callee := Callee.builtin Builtin.recover, args := #[], argTypes := #[] }, type := ty, pos := pos, after := #[], guard := none }] false).wpS P Q a cs w := by
  apply wpS_region
  simp [wpOpsS, go_sem, Region.wanted]
  cases hr : recoverD cs with
  | none => rw [hr] at h; exact h
  | some p => rw [hr] at h; exact h
set_option maxRecDepth 100000 in
set_option maxHeartbeats 1000000 in
theorem caught_idle (x a q : Addr) (w : World) :
    CallsD Tryd.prog 44 #[.pointer (some x), .pointer (some a), .pointer (some q)] .returning w fun e u' w' => e = .returned (.tuple #[]) ∧ u' = .returning ∧ w = w' := by
  refine callsD_of_wpS Tryd.func44 rfl fun c₀ cs hu => ?_
  refine wpS_seq (wpS_recover ?_)
  have hr : recoverD (c₀ :: cs) = none := by simp [recoverD, hu]
  rw [hr]
  simp only [Tryd.ntmps44, List.size_toArray, List.length_cons, List.length_nil, Nat.reduceAdd, Nat.reduceSub, Array.replicate_succ, Array.replicate_zero, List.push_toArray, List.append_toArray, List.nil_append, List.cons_append, Act.put, List.setIfInBounds_toArray, List.set_cons_succ, List.set_cons_zero]
  refine wpS_of_wp ?_
  have he1 : ∀ w : World, (binOp BinOp.eql 20 .nilIface .nilIface).run Tryd.prog w = .ok (.bool true) w := fun _ => by kernel_rfl
  go_wp2
  exact ⟨rfl, .returning, by rw [← hu], .tuple #[], results_none (by kernel_rfl) _ _ _, rfl, rfl, rfl⟩
/-- what caught leaves -/
structure Caught (w : World) (X A E : Nat) (z b : Int) (w' : World) : Prop where
  x : Xm.RowN w' X #[.string ⟨#[]⟩, .string ⟨#[]⟩, .slice none 0 0, .slice none 0 0, .string ⟨#[]⟩]
  a : w'.heap[A]? = some (.cells #[.int .i64 b] 3 (0, 0))
  e : w'.heap[E]? = some (.cells #[.int .i64 z] 34 (0, 0))
  os : w'.os = w.os
  tape : w'.tape = w.tape
  output : w'.output = w.output
  size : w.heap.size ≤ w'.heap.size
  block : ∀ i, i < w.heap.size → i ≠ X → i ≠ A → i ≠ E → w'.heap[i]? = w.heap[i]?
set_option maxRecDepth 100000 in
set_option maxHeartbeats 2000000 in
theorem caught_fail (X A E : Nat) (z b a0 e0 : Int) (x0 x1 x4 : ByteArray) (x2 x3 : Option Addr) (n2 n3 c2 c3 : Nat) (w : World) (hx : Xm.RowN w X #[.string x0, .string x1, .slice x2 n2 c2, .slice x3 n3 c3, .string x4]) (ha : w.heap[A]? = some (.cells #[.int .i64 a0] 3 (0, 0)))
    (he : w.heap[E]? = some (.cells #[.int .i64 e0] 34 (0, 0))) (hXA : X ≠ A) (hXE : X ≠ E) (hAE : A ≠ E) :
    CallsD Tryd.prog 44 #[.pointer (some ⟨X, 0, none⟩), .pointer (some ⟨A, 0, none⟩), .pointer (some ⟨E, 0, none⟩)] (.panicking (Xm.failV z b)) w fun e u' w' => e = .returned (.tuple #[]) ∧ u' = .panicking [{ v := .iface 100 (.agg #[.int .i64 z, .int .i64 b]), recovered := true }] ∧ Caught w X A E z b w' := by
  refine callsD_of_wpS Tryd.func44 rfl fun c₀ cs hu => ?_
  refine wpS_seq (wpS_recover ?_)
  have hr : recoverD (c₀ :: cs) = some (.iface 100 (.agg #[.int .i64 z, .int .i64 b]), { c₀ with mode := .panicking [{ v := .iface 100 (.agg #[.int .i64 z, .int .i64 b]), recovered := true }] } :: cs) := by simp [recoverD, hu, Xm.failV]
  rw [hr]
  simp only [Tryd.ntmps44, List.size_toArray, List.length_cons, List.length_nil, Nat.reduceAdd, Nat.reduceSub, Array.replicate_succ, Array.replicate_zero, List.push_toArray, List.append_toArray, List.nil_append, List.cons_append, Act.put, List.setIfInBounds_toArray, List.set_cons_succ, List.set_cons_zero]
  refine wpS_of_wp ?_
  have he2 : ∀ (v : Value) (w : World), (binOp BinOp.eql 20 (.iface 100 v) .nilIface).run Tryd.prog w = .ok (.bool false) w := fun _ _ => by kernel_rfl
  have hg := Flow.grow_alloc w (.cells #[.int .i64 z, .int .i64 b] 100)
  have hta : ∀ (v : Value) (w : World), (Instr.typeAssert (.iface 100 v) 20 100 true).run Tryd.prog w = .ok (.tuple #[v, .bool true]) w := fun _ _ => by kernel_rfl
  have HF : Hid ((w.alloc (.cells #[.int .i64 z, .int .i64 b] 100)).heap[w.heap.size]? = some (.cells #[.int .i64 z, .int .i64 b] 100 (0, 0))) := Lib.hid (heap_alloc_new _ _)
  go_upto_region 7 with fail
  have HX : Hid (Xm.RowN (w.alloc (.cells #[.int .i64 z, .int .i64 b] 100)) X #[.string x0, .string x1, .slice x2 n2 c2, .slice x3 n3 c3, .string x4]) := Lib.hid (hx.grow hg)
  have HA : Hid ((w.alloc (.cells #[.int .i64 z, .int .i64 b] 100)).heap[A]? = some (.cells #[.int .i64 a0] 3 (0, 0))) := Lib.hid ((hg.block A (Array.getElem?_eq_some_iff.1 ha).1 (by simp)).trans ha)
  have HE : Hid ((w.alloc (.cells #[.int .i64 z, .int .i64 b] 100)).heap[E]? = some (.cells #[.int .i64 e0] 34 (0, 0))) := Lib.hid ((hg.block E (Array.getElem?_eq_some_iff.1 he).1 (by simp)).trans he)
  have HN : Hid (w.heap.size ≠ X ∧ w.heap.size ≠ A ∧ w.heap.size ≠ E) := Lib.hid ⟨by have := hx.lt; omega, by have := (Array.getElem?_eq_some_iff.1 ha).1; omega, by have := (Array.getElem?_eq_some_iff.1 he).1; omega⟩
  have Hg := Lib.hid hg
  obtain ⟨F, hF⟩ : ∃ F, F = w.heap.size := ⟨_, rfl⟩
  rw [← hF] at HF HN ⊢
  clear hg hx ha he hF hta he2 hr
  generalize w.alloc (.cells #[.int .i64 z, .int .i64 b] 100) = w1 at *
  have f0 := (cell_of_row w1 F 0 _ _ _ HF.out).trans rfl
  have f1 := (cell_of_row w1 F 1 _ _ _ HF.out).trans rfl
  have y0 := (cell_of_row w1 X 0 _ _ _ HX.out).trans rfl
  have y1 := (cell_of_row w1 X 1 _ _ _ HX.out).trans rfl
  have y2 := (cell_of_row w1 X 2 _ _ _ HX.out).trans rfl
  have y3 := (cell_of_row w1 X 3 _ _ _ HX.out).trans rfl
  have y4 := (cell_of_row w1 X 4 _ _ _ HX.out).trans rfl
  have yf : ∀ j, w1.frozen? ⟨X, j, none⟩ = false := fun j => frozen_of_row w1 X _ _ _ HX.out
  have ya := (cell_of_row w1 A 0 _ _ _ HA.out).trans rfl
  have yaf : w1.frozen? ⟨A, 0, none⟩ = false := frozen_of_row w1 A _ _ _ HA.out
  have ye := (cell_of_row w1 E 0 _ _ _ HE.out).trans rfl
  have yef : w1.frozen? ⟨E, 0, none⟩ = false := frozen_of_row w1 E _ _ _ HE.out
  have nXA : ¬ A = X := fun h => hXA h.symm
  have nXE : ¬ E = X := fun h => hXE h.symm
  have nAE : ¬ E = A := fun h => hAE h.symm
  have nFX : ¬ F = X := HN.out.1
  have nFA : ¬ F = A := HN.out.2.1
  have nFE : ¬ F = E := HN.out.2.2
  have mFX : ¬ X = F := fun h => nFX h.symm
  have mFA : ¬ A = F := fun h => nFA h.symm
  have mFE : ¬ E = F := fun h => nFE h.symm
  have hXA' : ¬ X = A := hXA
  have hXE' : ¬ X = E := hXE
  have hAE' : ¬ A = E := hAE
  go_region
  refine ⟨rfl, .panicking [{ v := .iface 100 (.agg #[.int .i64 z, .int .i64 b]), recovered := true }], rfl, .tuple #[], results_none (by kernel_rfl) _ _ _, rfl, rfl, ?_⟩
  have m5 : Xm.Mv w1 X (((((w1.setCell ⟨X, 0, none⟩ (.string ⟨#[]⟩)).setCell ⟨X, 1, none⟩ (.string ⟨#[]⟩)).setCell ⟨X, 2, none⟩ (.slice none 0 0)).setCell ⟨X, 3, none⟩ (.slice none 0 0)).setCell ⟨X, 4, none⟩ (.string ⟨#[]⟩)) := Xm.Mv.set5
  have hx2 := setN HX.out (.string ⟨#[]⟩) (.string ⟨#[]⟩) (.slice none 0 0) (.slice none 0 0) (.string ⟨#[]⟩)
  generalize ((((w1.setCell ⟨X, 0, none⟩ (.string ⟨#[]⟩)).setCell ⟨X, 1, none⟩ (.string ⟨#[]⟩)).setCell ⟨X, 2, none⟩ (.slice none 0 0)).setCell ⟨X, 3, none⟩ (.slice none 0 0)).setCell ⟨X, 4, none⟩ (.string ⟨#[]⟩) = w2 at *
  have ha2 := (m5.block A (Array.getElem?_eq_some_iff.1 HA.out).1 (by simp; omega)).trans HA.out
  have he2 := (m5.block E (Array.getElem?_eq_some_iff.1 HE.out).1 (by simp; omega)).trans HE.out
  have ma : Xm.Mv w2 A (w2.setCell ⟨A, 0, none⟩ (.int .i64 b)) := Xm.Mv.set
  have hx3 := hx2.mv ma hXA
  have ha3 : (w2.setCell ⟨A, 0, none⟩ (.int .i64 b)).heap[A]? = some (.cells #[.int .i64 b] 3 (0, 0)) := heap_setCell_same w2 A 0 _ _ _ ha2
  have he3 := (ma.block E (Array.getElem?_eq_some_iff.1 he2).1 (by simp; omega)).trans he2
  generalize w2.setCell ⟨A, 0, none⟩ (.int .i64 b) = w3 at *
  have me : Xm.Mv w3 E (w3.setCell ⟨E, 0, none⟩ (.int .i64 z)) := Xm.Mv.set
  have hx4 := hx3.mv me hXE
  have ha4 := (me.block A (Array.getElem?_eq_some_iff.1 ha3).1 (by simp; omega)).trans ha3
  have he4 : (w3.setCell ⟨E, 0, none⟩ (.int .i64 z)).heap[E]? = some (.cells #[.int .i64 z] 34 (0, 0)) := heap_setCell_same w3 E 0 _ _ _ he3
  generalize w3.setCell ⟨E, 0, none⟩ (.int .i64 z) = w4 at *
  have gd := Flow.grow_drew w4
  have s1 := Hg.out.size
  have s2 := m5.size
  have s3 := ma.size
  have s4 := me.size
  refine ⟨hx4.grow gd, (gd.block A (Array.getElem?_eq_some_iff.1 ha4).1 (by simp)).trans ha4, (gd.block E (Array.getElem?_eq_some_iff.1 he4).1 (by simp)).trans he4, gd.os.trans (me.os.trans (ma.os.trans (m5.os.trans Hg.out.os))), gd.tape.trans (me.tape.trans (ma.tape.trans (m5.tape.trans Hg.out.tape))), gd.output.trans (me.output.trans (ma.output.trans (m5.output.trans Hg.out.output))), by have := gd.size; omega, fun i hi h1 h2 h3 => ?_⟩
  exact (gd.block i (by omega) (by simp)).trans ((me.block i (by omega) (by simp; omega)).trans ((ma.block i (by omega) (by simp; omega)).trans ((m5.block i (by omega) (by simp; omega)).trans (Hg.out.block i hi (by simp)))))
end Go.Proofs.YtfkdjdmbgednkaaDoor

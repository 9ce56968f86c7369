/- galliardref13: tokens by value; put and without by their contracts. -/
/- det.May by its contract: the rows, and the whole. -/
/- An automaton that is being made: its block, its lists, its rows. No program but for types' numbers. -/
/- One more element at the end of a slice of the call's own: in plain words. No program. -/
import Derived.Test.YtcnmaplopbbmaaaMAa
import Derived.Test.YtcnmaplopbbmaaaMAd
import Derived.Test.YtcnmaplopbbmaaaMAe
import Derived.Test.YtcnmaplopbbmaaaProg
import Derived.Test.YtcnmaplopbbmaaaOwn
import Derived.Deep.WholeRow
import Derived.Deep.DeepCutAuto
import Derived.Outline
import Derived.Below
import Derived.Lib.Builder
import Derived.Laws.MakeOwn
import Derived.Deep.AppendLies
namespace Go.Proofs.Ytcnmaplopbbmaaa
open Go.RowKit
namespace Gr
/-- tokens, as cells -/
def tcs (t : Tk) : Array Value := (t.1.map Value.bool ++ [Value.bool t.2]).toArray
def tz : Tk := (List.replicate 64 false, false)
theorem tcs_size (t : Tk) : (tcs t).size = t.1.length + 1 := by simp [tcs]
theorem tcs_get {t : Tk} {i : Nat} (h : i < t.1.length) : (tcs t)[i]? = some (.bool (t.1.getD i false)) := by simp [tcs, List.getElem?_append, h]
theorem tcs_bad (t : Tk) : (tcs t)[t.1.length]? = some (.bool t.2) := by simp [tcs]
theorem tcs_set {t : Tk} {i : Nat} {b : Bool} (h : i < t.1.length) : (tcs t).setIfInBounds i (.bool b) = tcs (t.1.set i b, t.2) := by
  apply Array.ext'
  simp [tcs, List.map_set, h]
theorem tcs_setBad (t : Tk) (b : Bool) : (tcs t).setIfInBounds t.1.length (.bool b) = tcs (t.1, b) := by
  apply Array.ext'
  simp [tcs]
theorem tcs_one (t : Tk) : ∀ u ∈ (tcs t).toList, u.oneCell' = true := by
  intro u hu
  rw [tcs, List.mem_append] at hu
  rcases hu with hu | hu
  · obtain ⟨b, _, rfl⟩ := List.mem_map.1 hu
    rfl
  · rw [List.mem_singleton] at hu
    subst hu
    rfl
theorem tcs_all (t : Tk) : (tcs t).all (·.oneCell') = true := by
  rw [Array.all_eq_true_iff_forall_mem]
  exact fun u hu => tcs_one t u (by simpa using hu)
end Gr
theorem tk_size {t : Gr.Tk} (h : t.1.length = 64) : (Try.prog.info? 80).map (·.size) = some (Gr.tcs t).size := by
  rw [Gr.tcs_size, h]
  kernel_rfl
theorem zeroTk (w : World) : (zeroValue 80).run Try.prog w = .ok (.agg (Gr.tcs Gr.tz)) w := by kernel_rfl
theorem row_set {w : World} {g : Nat} {T : TypeId} {cs ds : Array Value} {fr : Nat × Nat} (h : w.heap[g]? = some (.cells cs T fr)) : (w.setRow g ds).heap[g]? = some (.cells ds T fr) := by
  unfold World.setRow
  rw [Array.getElem?_modify, if_pos rfl, h]
  rfl
theorem row_other {w : World} {g k : Nat} {ds : Array Value} (hk : k ≠ g) : (w.setRow g ds).heap[k]? = w.heap[k]? := by
  unfold World.setRow
  rw [Array.getElem?_modify, if_neg (fun e => hk e.symm)]
theorem row_store (P : Program) {w : World} {g : Nat} {T : TypeId} {cs ds : Array Value} (h : w.heap[g]? = some (.cells cs T (0, 0))) (hs : ds.size = cs.size) (h1 : ds.all (·.oneCell') = true) :
    (storeCells ⟨g, 0, none⟩ ds.toList).run P w = .ok () (w.setRow g ds) := by
  rw [run_storeCells_at P g 0 T ds.toList 0 cs w h (by simp [hs]) (fun u hu => by rw [Array.all_eq_true_iff_forall_mem] at h1; exact h1 u (by simpa using hu))]
  congr 2
  rw [List.take_zero, List.nil_append, List.drop_eq_nil_of_le (by simp [hs]), List.append_nil]
theorem row_grow {w0 w : World} {g : Nat} {ds : Array Value} (h : Flow.Grow w0 w) (hg : w0.heap.size ≤ g) : Flow.Grow w0 (w.setRow g ds) :=
  ⟨h.os, h.tape, h.output, by simpa [World.setRow] using h.size, fun i hi hne => by rw [row_other (by omega)]; exact h.block i hi hne⟩
set_option maxRecDepth 100000 in
set_option maxHeartbeats 1000000 in
theorem put_any (t : Gr.Tk) (p : Int) (W : World) (hl : t.1.length = 64) (h0 : 0 ≤ p) (h1 : p < 64) :
    Calls Try.prog 55 #[.agg (Gr.tcs t), .int .i64 p] W fun e w' => e = .returned (.agg (Gr.tcs (Gr.put1 t p))) ∧ Flow.Grow W w' := by
  obtain ⟨q, rfl⟩ := Int.eq_ofNat_of_zero_le h0
  have hq : q < 64 := by omega
  clear h0 h1
  have Hp1 : Hid (Gr.put1 t (q : Int) = (t.1.set q true, t.2 || t.1.getD q false)) := Lib.hid rfl
  generalize Gr.put1 t (q : Int) = r at *
  obtain ⟨l, b⟩ := t
  have Hl : Hid (l.length = 64) := Lib.hid hl
  have Hrl : Hid (r.1.length = 64) := Lib.hid (by rw [Hp1.out]; simp; exact Hl.out)
  clear hl
  have hz0 := zeroTk
  obtain ⟨z, hz⟩ : ∃ z, z = Gr.tcs Gr.tz := ⟨_, rfl⟩
  have Hz : Hid (z.size = 65) := Lib.hid (by rw [hz]; rfl)
  rw [← hz] at hz0
  clear hz
  obtain ⟨c, hc⟩ : ∃ c, c = Gr.tcs (l, b) := ⟨_, rfl⟩
  have Hc : Hid (c[64]? = some (.bool b) ∧ c[q]? = some (.bool (l.getD q false)) ∧ ∀ x, (c.setIfInBounds 64 (.bool x)).setIfInBounds q (.bool true) = Gr.tcs (l.set q true, x)) := Lib.hid (by
    have e1 := Gr.tcs_bad (l, b)
    have e2 := Gr.tcs_get (t := (l, b)) (i := q) (by rw [Hl.out]; exact hq)
    refine ⟨by rw [hc]; have := Hl.out; simp only [this] at e1; exact e1, by rw [hc]; exact e2, fun x => ?_⟩
    have e3 := Gr.tcs_setBad (l, b) x
    have := Hl.out
    simp only [this] at e3
    rw [hc, e3, Gr.tcs_set (t := (l, x)) (by rw [Hl.out]; exact hq)])
  rw [← hc]
  clear hc
  go_enter Try.func55, Try.ntmps55
  go_upto_region 1 with fail
  clear hz0
  have HBw10 : Hid (((W.alloc (.cells c 80)).alloc (.cells z 80)).heap[W.heap.size]? = some (.cells c 80 (0, 0))) := Lib.hid (lay2_0 _ _ _)
  have HBw11 : Hid (((W.alloc (.cells c 80)).alloc (.cells z 80)).heap[W.heap.size + 1]? = some (.cells z 80 (0, 0))) := Lib.hid (lay2_1 _ _ _)
  have HGw1 : Hid (Flow.Grow W ((W.alloc (.cells c 80)).alloc (.cells z 80))) := Lib.hid (lay2_g _ _ _)
  have HSw1 : Hid (((W.alloc (.cells c 80)).alloc (.cells z 80)).heap.size = W.heap.size + 1 + 1) := Lib.hid (by simp)
  generalize (W.alloc (.cells c 80)).alloc (.cells z 80) = w1 at *
  obtain ⟨X, hX⟩ : ∃ X, X = W.heap.size := ⟨_, rfl⟩
  rw [← hX] at HBw10 HBw11 HSw1 ⊢
  have HXw1 := Lib.hid hX
  clear hX
  have FXw1 : Hid (∀ wq, Flow.Grow w1 wq → (∀ k, wq.frozen? ⟨X, k, none⟩ = false) ∧ (∀ k, wq.frozen? ⟨X + 1, k, none⟩ = false)) := Lib.hid (fun wq g => ⟨fun k => lay_frozen g HBw10.out k, fun k => lay_frozen g HBw11.out k⟩)
  have c64 : w1.cell? ⟨X, 64, none⟩ = some (.bool b) := (cell_of_row w1 X 64 _ _ _ HBw10.out).trans Hc.out.1
  have cq : w1.cell? ⟨X, q, none⟩ = some (.bool (l.getD q false)) := (cell_of_row w1 X q _ _ _ HBw10.out).trans Hc.out.2.1
  have f64 : w1.frozen? ⟨X, 64, none⟩ = false := frozen_of_row w1 X 64 _ _ HBw10.out
  obtain ⟨w2, hw2⟩ : ∃ w2, w2 = w1.setCell ⟨X, 64, none⟩ (.bool (b || l.getD q false)) := ⟨_, rfl⟩
  have fq : w2.frozen? ⟨X, q, none⟩ = false := by rw [hw2]; exact frozen_of_row _ X q _ _ (set_cells HBw10.out 64 _)
  have gq2 : w2.cell? ⟨X, q, none⟩ = some (.bool (l.getD q false)) := by
    rw [hw2, cell_of_row _ X q _ _ _ (set_cells HBw10.out 64 _), Array.getElem?_setIfInBounds, if_neg (by omega)]
    exact Hc.out.2.1
  have HR : Hid ((w2.setCell ⟨X, q, none⟩ (.bool true)).heap[X]? = some (.cells (Gr.tcs r) 80 (0, 0))) := Lib.hid (by
    rw [hw2, set_cells (set_cells HBw10.out 64 _) q _, Hc.out.2.2, Hp1.out])
  have HY : Hid ((w2.setCell ⟨X, q, none⟩ (.bool true)).heap[X + 1]? = some (.cells z 80 (0, 0))) := Lib.hid (by
    rw [hw2]; exact set_other (set_other HBw11.out (by omega)) (by omega))
  have HG : Hid (Flow.Grow W (w2.setCell ⟨X, q, none⟩ (.bool true))) := Lib.hid (by
    rw [hw2]; exact set_grow (set_grow HGw1.out (by have := HXw1.out; omega) _ _) (by have := HXw1.out; omega) _ _)
  have hts := tk_size Hrl.out
  have Hw2 := Lib.hid hw2
  clear hw2
  have HRa := Lib.hid (Gr.tcs_all r)
  have HS : Hid ((Try.prog.info? 80).map (·.size) = some (Gr.tcs r).size ∧ z.size = (Gr.tcs r).size) := Lib.hid ⟨hts, by rw [Hz.out, Gr.tcs_size, Hrl.out]⟩
  clear hts
  generalize l.getD q false = gq at *
  cases b with
  | true =>
    have Hw3 : Hid (w1.setCell ⟨X, 64, none⟩ (.bool true) = w2) := Lib.hid (by rw [Hw2.out]; rfl)
    clear Hc Hp1 Hw2
    go_upto_region 2 with fail
    rw [Hw3.out]
    clear c64 cq f64
    generalize hrr : Gr.tcs r = R at HR HRa HS ⊢
    have Hrr := Lib.hid hrr
    clear hrr
    go_upto_region 3 with fail
    generalize w2.setCell ⟨X, q, none⟩ (.bool true) = w3 at *
    have hst := row_store Try.prog HY.out HS.out.2.symm HRa.out
    have hsz : R.size = 65 := by have := HS.out.2; have := Hz.out; omega
    go_wp2_with (with_reducible refine wpList_load_row rfl 80 (.tmp 2) rfl X rfl 80 R (0, 0) _ HR.out Try.underlying80 rfl HS.out.1 ?_)
    refine bodyPost_ret (results_cell_row rfl _ _ (X + 1) _ _ _ _ rfl (row_set HY.out) Try.underlying80 rfl HS.out.1) rfl ⟨by rw [Hrr.out], row_grow HG.out (by have := HXw1.out; omega)⟩
  | false =>
    cases gq with
    | true =>
      have Hw3 : Hid (w1.setCell ⟨X, 64, none⟩ (.bool true) = w2) := Lib.hid (by rw [Hw2.out]; rfl)
      clear Hc Hp1 Hw2
      go_upto_region 2 with fail
      rw [Hw3.out]
      clear c64 cq f64
      generalize hrr : Gr.tcs r = R at HR HRa HS ⊢
      have Hrr := Lib.hid hrr
      clear hrr
      go_upto_region 3 with fail
      generalize w2.setCell ⟨X, q, none⟩ (.bool true) = w3 at *
      have hst := row_store Try.prog HY.out HS.out.2.symm HRa.out
      have hsz : R.size = 65 := by have := HS.out.2; have := Hz.out; omega
      go_wp2_with (with_reducible refine wpList_load_row rfl 80 (.tmp 2) rfl X rfl 80 R (0, 0) _ HR.out Try.underlying80 rfl HS.out.1 ?_)
      refine bodyPost_ret (results_cell_row rfl _ _ (X + 1) _ _ _ _ rfl (row_set HY.out) Try.underlying80 rfl HS.out.1) rfl ⟨by rw [Hrr.out], row_grow HG.out (by have := HXw1.out; omega)⟩
    | false =>
      have Hw3 : Hid (w1.setCell ⟨X, 64, none⟩ (.bool false) = w2) := Lib.hid (by rw [Hw2.out]; rfl)
      clear Hc Hp1 Hw2
      go_upto_region 2 with fail
      rw [Hw3.out]
      clear c64 cq f64
      generalize hrr : Gr.tcs r = R at HR HRa HS ⊢
      have Hrr := Lib.hid hrr
      clear hrr
      go_upto_region 3 with fail
      generalize w2.setCell ⟨X, q, none⟩ (.bool true) = w3 at *
      have hst := row_store Try.prog HY.out HS.out.2.symm HRa.out
      have hsz : R.size = 65 := by have := HS.out.2; have := Hz.out; omega
      go_wp2_with (with_reducible refine wpList_load_row rfl 80 (.tmp 2) rfl X rfl 80 R (0, 0) _ HR.out Try.underlying80 rfl HS.out.1 ?_)
      refine bodyPost_ret (results_cell_row rfl _ _ (X + 1) _ _ _ _ rfl (row_set HY.out) Try.underlying80 rfl HS.out.1) rfl ⟨by rw [Hrr.out], row_grow HG.out (by have := HXw1.out; omega)⟩
set_option maxRecDepth 100000 in
set_option maxHeartbeats 1000000 in
theorem without_any (t : Gr.Tk) (p : Int) (W : World) (hl : t.1.length = 64) (h0 : 0 ≤ p) (h1 : p < 64) :
    Calls Try.prog 53 #[.agg (Gr.tcs t), .int .i64 p] W fun e w' => e = .returned (.agg (Gr.tcs (Gr.wo t p))) ∧ Flow.Grow W w' := by
  obtain ⟨q, rfl⟩ := Int.eq_ofNat_of_zero_le h0
  have hq : q < 64 := by omega
  clear h0 h1
  have Hp1 : Hid (Gr.wo t (q : Int) = (t.1.set q false, t.2)) := Lib.hid rfl
  generalize Gr.wo t (q : Int) = r at *
  have Hl : Hid (t.1.length = 64) := Lib.hid hl
  have Hrl : Hid (r.1.length = 64) := Lib.hid (by rw [Hp1.out]; simp; exact Hl.out)
  clear hl
  have hz0 := zeroTk
  obtain ⟨z, hz⟩ : ∃ z, z = Gr.tcs Gr.tz := ⟨_, rfl⟩
  have Hz : Hid (z.size = 65) := Lib.hid (by rw [hz]; rfl)
  rw [← hz] at hz0
  clear hz
  have Hc : Hid ((Gr.tcs t).setIfInBounds q (.bool false) = Gr.tcs r) := Lib.hid (by rw [Hp1.out, Gr.tcs_set (by rw [Hl.out]; exact hq)])
  have HS : Hid ((Try.prog.info? 80).map (·.size) = some (Gr.tcs r).size ∧ z.size = (Gr.tcs r).size) := Lib.hid ⟨tk_size Hrl.out, by rw [Hz.out, Gr.tcs_size, Hrl.out]⟩
  have HRa := Lib.hid (Gr.tcs_all r)
  have Hsz : Hid ((Gr.tcs t).size = 65) := Lib.hid (by rw [Gr.tcs_size, Hl.out])
  generalize Gr.tcs t = c at *
  generalize Gr.tcs r = R at *
  clear Hp1 Hl Hrl
  go_enter Try.func53, Try.ntmps53
  go_upto_region 1 with fail
  clear hz0
  have HBw10 : Hid (((W.alloc (.cells c 80)).alloc (.cells z 80)).heap[W.heap.size]? = some (.cells c 80 (0, 0))) := Lib.hid (lay2_0 _ _ _)
  have HBw11 : Hid (((W.alloc (.cells c 80)).alloc (.cells z 80)).heap[W.heap.size + 1]? = some (.cells z 80 (0, 0))) := Lib.hid (lay2_1 _ _ _)
  have HGw1 : Hid (Flow.Grow W ((W.alloc (.cells c 80)).alloc (.cells z 80))) := Lib.hid (lay2_g _ _ _)
  have HSw1 : Hid (((W.alloc (.cells c 80)).alloc (.cells z 80)).heap.size = W.heap.size + 1 + 1) := Lib.hid (by simp)
  generalize (W.alloc (.cells c 80)).alloc (.cells z 80) = w1 at *
  obtain ⟨X, hX⟩ : ∃ X, X = W.heap.size := ⟨_, rfl⟩
  rw [← hX] at HBw10 HBw11 HSw1 ⊢
  have HXw1 := Lib.hid hX
  clear hX
  have FXw1 : Hid (∀ wq, Flow.Grow w1 wq → (∀ k, wq.frozen? ⟨X, k, none⟩ = false) ∧ (∀ k, wq.frozen? ⟨X + 1, k, none⟩ = false)) := Lib.hid (fun wq g => ⟨fun k => lay_frozen g HBw10.out k, fun k => lay_frozen g HBw11.out k⟩)
  have cq : ∃ v, w1.cell? ⟨X, q, none⟩ = some v := ⟨_, (cell_of_row w1 X q _ _ _ HBw10.out).trans (Array.getElem?_eq_getElem (by rw [Hsz.out]; omega))⟩
  obtain ⟨v, cq⟩ := cq
  have fq : w1.frozen? ⟨X, q, none⟩ = false := frozen_of_row w1 X q _ _ HBw10.out
  have HR : Hid ((w1.setCell ⟨X, q, none⟩ (.bool false)).heap[X]? = some (.cells R 80 (0, 0))) := Lib.hid (by
    rw [set_cells HBw10.out q _, Hc.out])
  have HY : Hid ((w1.setCell ⟨X, q, none⟩ (.bool false)).heap[X + 1]? = some (.cells z 80 (0, 0))) := Lib.hid (set_other HBw11.out (by omega))
  have HG : Hid (Flow.Grow W (w1.setCell ⟨X, q, none⟩ (.bool false))) := Lib.hid (set_grow HGw1.out (by have := HXw1.out; omega) _ _)
  go_upto_region 2 with fail
  generalize w1.setCell ⟨X, q, none⟩ (.bool false) = w3 at *
  have hst := row_store Try.prog HY.out HS.out.2.symm HRa.out
  have hsz : R.size = 65 := by have := HS.out.2; have := Hz.out; omega
  go_wp2_with (with_reducible refine wpList_load_row rfl 80 (.tmp 2) rfl X rfl 80 R (0, 0) _ HR.out Try.underlying80 rfl HS.out.1 ?_)
  refine bodyPost_ret (results_cell_row rfl _ _ (X + 1) _ _ _ _ rfl (row_set HY.out) Try.underlying80 rfl HS.out.1) rfl ⟨rfl, row_grow HG.out (by have := HXw1.out; omega)⟩
end Go.Proofs.Ytcnmaplopbbmaaa
namespace Go.Proofs.Ytcnmaplopbbmaaa
open Go.RowKit

/-- no list is too long to be counted -/
def Short (zss : List (List Int)) : Prop := ∀ l ∈ zss, l.length ≤ 9223372036854775807

/-- an automaton that lies in memory -/
structure DfaAt (w : World) (c : Array Value) (labels start : Int) (final : List Bool) (next : List (List Int)) : Prop where
  cells : ∃ vf vn, c = #[.int .i64 labels, .int .i64 start, vf, vn] ∧ Bools w vf final ∧ Rows2 w vn next
  fin : final.length ≤ 9223372036854775807
  len : next.length ≤ 9223372036854775807
  short : Short next
theorem DfaAt.grow {w w' : World} {c : Array Value} {labels start : Int} {final : List Bool} {next : List (List Int)} (h : DfaAt w c labels start final next) (g : Flow.Grow w w') : DfaAt w' c labels start final next :=
  ⟨by obtain ⟨vf, vn, h1, h2, h3⟩ := h.cells; exact ⟨vf, vn, h1, h2.grow g, h3.grow g⟩, h.fin, h.len, h.short⟩

end Go.Proofs.Ytcnmaplopbbmaaa
namespace Go.Proofs.Ytcnmaplopbbmaaa
open Go.RowKit

theorem grow_row {W w w1 : World} {row : Option Nat} (h : Flow.Grow W w) (k : w.grownBy w1 row) (hr : ∀ b, row = some b → W.heap.size ≤ b) : Flow.Grow W w1 :=
  ⟨k.os.trans h.os, k.tape.trans h.tape, k.output.trans h.output, Nat.le_trans h.size k.size, fun i hi hne => (k.block i (Nat.lt_of_lt_of_le hi h.size) (fun e => by have := hr i e.symm; omega)).trans (h.block i hi hne)⟩

end Go.Proofs.Ytcnmaplopbbmaaa
namespace Go.Proofs.Ytcnmaplopbbmaaa
open Go.RowKit
theorem own_keep {w w' : World} {base e sz n : Nat} {v : Value} {xs : List Value} (h : w.ownsRow base e sz v n xs) (g : Flow.Grow w w') : w'.ownsRow base e sz v n xs := h.kept (row := none) g (by cases v.ownBlock <;> simp)
theorem own_form {w : World} {e sz n : Nat} {v : Value} {xs : List Value} {B : Nat} (h : w.ownsRow B e sz v n xs) : ∃ a cap, v = .slice a n cap := by
  rcases h.2 with ⟨rfl, rfl⟩ | ⟨g, cap, cur, hv, _⟩
  · exact ⟨none, 0, rfl⟩
  · exact ⟨_, _, hv⟩
theorem hp_new2 (w : World) (p r : Obj) : ((w.alloc p).alloc r).heap[w.heap.size + 1]? = some r := by simpa using heap_alloc_new (w.alloc p) r
section
variable {P : Program} {W w : World} {ops : Array Oper} {rest : List Oper} {o : Oper} {a : Act} {Q : Exit → Act → World → Prop}
/-- an element of few cells, laid in a block of its own, is appended to a slice that is the call's own (its block is newer than W) -/
theorem wpList_app1 (hgd : o.guard = none) (s x : Operand) (t : TypeId) (ho : o.op = .call { callee := .builtin .append, args := #[s, x], argTypes := #[t, t] })
    (e : TypeId) (i : TypeInfo) (z : Value) (size bytes : Nat) (ht : P.underlying t = some (.slice e)) (hi : P.info? e = some i) (hz : i.zero = some z)
    (hsize : i.size = size) (hby : i.bytes = bytes) (hzs : z.cells.size = size) (hsz : 0 < size)
    (v : Value) (n : Nat) (xs : List Value) (hs : a.eval s = v) (hown : w.ownsRow W.heap.size e size v n xs) (hg : Flow.Grow W w)
    (q : Nat) (cs : Array Value) (qt : TypeId) (hx : a.eval x = .slice (some ⟨q, 0, none⟩) 1 1) (hq : w.heap[q]? = some (.cells cs qt (0, 0))) (hcs : cs.size = size) (h1 : ∀ u ∈ cs.toList, u.oneCell' = true)
    (hn : n ≤ 1000000) (hb : bytes ≤ 1000000)
    (h : ∀ v' w', w'.ownsRow W.heap.size e size v' (n + 1) (xs ++ cs.toList) → Flow.Grow W w' → (∃ g c, v' = .slice (some ⟨g, 0, none⟩) (n + 1) c ∧ W.heap.size ≤ g) → w.grownBy w' v.ownBlock → wpList P ops Q rest (a.put o.dst v') w') : wpList P ops Q (o :: rest) a w := by
  refine wpList_append_lies (P := P) w hgd s x t ho W.heap.size e i z size bytes ht hi hz hsize hby hzs hsz v n xs hs hown ⟨q, 0, none⟩ 1 1 cs.toList hx (by rw [Nat.one_mul, Array.length_toList]; exact hcs)
    (fun j u hj => ?_) h1 (by decide) (by unfold maxLen; omega) ?_ hg.size _ rfl fun g cap w' h2 h3 h4 h5 => ?_
  · rw [Addr.add_lit, cell_of_row w q _ _ _ _ hq, Nat.zero_add]
    rw [← hj]
    exact Array.getElem?_toList.symm
  · have : (n + 1) * bytes ≤ 1000001 * 1000000 := Nat.mul_le_mul (by omega) hb
    omega
  · have hlo : W.heap.size ≤ g := by
      rcases h4 with h4 | h4
      · exact (hown.lt g h4).1
      · have := hg.size; omega
    exact h _ _ h2 (grow_row hg h3 fun b e => (hown.lt b e).1) ⟨g, cap, rfl, hlo⟩ h3
end
end Go.Proofs.Ytcnmaplopbbmaaa

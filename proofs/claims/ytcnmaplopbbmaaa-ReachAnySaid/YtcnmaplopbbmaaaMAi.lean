/- graph.Busy, Done, Places, Start, node by their contracts. -/
/- mark.Take by its contract. -/
/- mark's functions on lists of truths; game.Game.move by its contract. -/
import Derived.Test.YtcnmaplopbbmaaaGIn
import Derived.Test.YtcnmaplopbbmaaaMAe
import Derived.Test.YtcnmaplopbbmaaaFlow
import Derived.Test.YtcnmaplopbbmaaaShelf
import Derived.Test.YtcnmaplopbbmaaaMAa
import Derived.Test.YtcnmaplopbbmaaaMAd
import Derived.Outline
namespace Go.Proofs.Ytcnmaplopbbmaaa
open Go.RowKit
theorem Ints.of_own {w : World} {B : Nat} {v : Value} {zs : List Int} {e : TypeId} (h : w.ownsRow B e 1 v zs.length (zs.map (Value.int .i64))) : Ints w v zs := Seg.of_own h
theorem index_int_any (v : Value) (zs : List Int) (x : Int) (w : World) (hz : zs.length ≤ 1000000) (h : Ints w v zs) : Calls Try.prog 99 #[v, .int .i64 x] w fun e w' => e = .returned (.int .i64 (Lib.idxOf zs x)) ∧ w = w' := by
  by_cases hl : zs = []
  · subst hl
    obtain ⟨a, c, rfl, _⟩ := h
    exact (Try.slices_Index_int_empty a c x w).mono fun e w' ⟨a, b⟩ => ⟨a, b.symm⟩
  · obtain ⟨b, off, c, rfl, _, hc⟩ := h.shape hl
    exact (Try.slices_Index_int b off zs.length c zs x w (Nat.le_refl _) (by omega) hc).mono fun e w' ⟨a, b⟩ => ⟨by rw [a, List.take_length], b.symm⟩
set_option maxRecDepth 100000 in
set_option maxHeartbeats 1000000 in
theorem busy_any (v0 v1 v2 v3 : Value) (n : Int) (g : Gr.G) (W : World) (hf : g.Few) (h : Gr.GAt W v0 v1 v2 v3 g) :
    Calls Try.prog 70 #[.agg #[v0, v1, v2, v3], .int .i64 n] W fun e w' => e = .returned (.int .i64 (g.busy n)) ∧ Flow.Grow W w' := by
  obtain ⟨ae, ce, rfl⟩ := Gr.Recs.form h.edges
  have HT : Hid (∀ w, Flow.Grow W w → Calls Try.prog 42 #[.agg #[v0, v1, v2, .slice ae g.es.length ce]] w fun e w' => (∃ va, e = .returned va ∧ Ints w' va g.tasks) ∧ Flow.Grow w w') := Lib.hid fun w hg => (graphTasks_any v0 v1 v2 _ g.ns w hf.ns (Gr.Recs.grow h.nodes hg)).mono fun e w' ⟨⟨va, a, b⟩, c⟩ => ⟨⟨va, a, Ints.of_own b⟩, c⟩
  have hl : g.tasks.length ≤ 1000000 := Nat.le_trans (Gr.tasks_len g.ns _) hf.ns
  have hi := Gr.idxOf_lt g.tasks n
  have hes := hf.es
  have HB : Hid (g.busy n = if Lib.idxOf g.tasks n < 0 then -1 else (g.es.length : Int) + 2 * Lib.idxOf g.tasks n) := Lib.hid rfl
  have Hl := Lib.hid hl
  generalize g.busy n = r at *
  generalize g.tasks = L at *
  generalize hj : Lib.idxOf L n = j at *
  generalize hm : g.es.length = m at *
  have Hj := Lib.hid hj
  have hj1 : j < 1000000 := by omega
  have hj0 := hi.1
  clear hi hj hl h hf
  go_enter Try.func70, Try.ntmps70
  go_upto_region 2 with (first
    | (go_at_call 42; refine (HT.out _ (Flow.grow_alloc _ _)).mono ?_; rintro e w1 ⟨⟨va, rfl, hv⟩, hg⟩; have c3 := Xm2.cell_grow hg ((cell_of_row _ _ 3 _ _ _ (heap_alloc_new W _)).trans rfl); have HG := Lib.hid ((Flow.grow_alloc W _).trans hg); have HV := Lib.hid hv; clear hg hv)
    | (go_at_call 99; refine (index_int_any va L n w1 Hl.out HV.out).mono ?_; rintro e w2 ⟨rfl, rfl⟩; rw [Hj.out]))
  by_cases h0 : j < 0
  · have d0 : decide (j < 0) = true := by simp [h0]
    have HB2 : Hid (r = -1) := Lib.hid (by rw [HB.out, if_pos h0])
    go_wp2_with fail
    go_ret
    exact ⟨by rw [HB2.out]; rfl, HG.out⟩
  · have d0 : decide (j < 0) = false := by simp [h0]
    have HB2 : Hid (r = (m : Int) + 2 * j) := Lib.hid (by rw [HB.out, if_neg h0])
    go_wp2_with fail
    go_ret
    exact ⟨by rw [HB2.out]; go_num, HG.out⟩
theorem Gr.G.busy_lt (g : Gr.G) (n : Int) (hf : g.Few) : -1 ≤ g.busy n ∧ g.busy n < 4000000 := by
  have hl : g.tasks.length ≤ 1000000 := Nat.le_trans (Gr.tasks_len g.ns _) hf.ns
  have hi := Gr.idxOf_lt g.tasks n
  have hes := hf.es
  unfold Gr.G.busy
  split <;> omega
set_option maxRecDepth 100000 in
set_option maxHeartbeats 1000000 in
theorem done_any (v0 v1 v2 v3 : Value) (n : Int) (g : Gr.G) (W : World) (hf : g.Few) (h : Gr.GAt W v0 v1 v2 v3 g) :
    Calls Try.prog 73 #[.agg #[v0, v1, v2, v3], .int .i64 n] W fun e w' => e = .returned (.int .i64 (g.done n)) ∧ Flow.Grow W w' := by
  have HT : Hid (∀ w, Flow.Grow W w → Calls Try.prog 70 #[.agg #[v0, v1, v2, v3], .int .i64 n] w fun e w' => e = .returned (.int .i64 (g.busy n)) ∧ Flow.Grow W w') := Lib.hid fun w hg => (busy_any v0 v1 v2 v3 n g w hf (h.grow hg)).mono fun e w' ⟨a, c⟩ => ⟨a, hg.trans c⟩
  have hb := g.busy_lt n hf
  have HB : Hid (g.done n = if g.busy n < 0 then -1 else g.busy n + 1) := Lib.hid rfl
  generalize g.done n = r at *
  generalize g.busy n = j at *
  obtain ⟨⟨a0, c0, rfl⟩, ⟨a1, c1, rfl⟩, h2, h3⟩ := h
  obtain ⟨a2, c2, rfl⟩ := Gr.Recs.form h2
  obtain ⟨a3, c3, rfl⟩ := Gr.Recs.form h3
  clear h2 h3 hf
  go_enter Try.func73, Try.ntmps73
  go_upto_region 2 with (go_at_call 70; refine (HT.out _ (Flow.grow_alloc _ _)).mono ?_; rintro e w1 ⟨rfl, hg⟩; have HG := Lib.hid hg; clear hg)
  by_cases h0 : j < 0
  · have d0 : decide (j < 0) = true := by simp [h0]
    have HB2 : Hid (r = -1) := Lib.hid (by rw [HB.out, if_pos h0])
    go_wp2_with fail
    go_ret
    exact ⟨by rw [HB2.out]; rfl, HG.out⟩
  · have d0 : decide (j < 0) = false := by simp [h0]
    have HB2 : Hid (r = j + 1) := Lib.hid (by rw [HB.out, if_neg h0])
    go_wp2_with fail
    go_ret
    exact ⟨by rw [HB2.out]; go_num, HG.out⟩
/-- the place of the start -/
def Gr.start1 (ns : List Gr.Nd) : Nat → Nat → Int
  | _, 0 => -1
  | i, k + 1 => if (ns.getD i Gr.nd0).kind = 1 then (i : Int) else Gr.start1 ns (i + 1) k
def Gr.G.start (g : Gr.G) : Int := Gr.start1 g.ns 0 g.ns.length
set_option maxRecDepth 100000 in
set_option maxHeartbeats 400000 in
theorem start1_any (n : Gr.Nd) (w : World) : Calls Try.prog 51 #[.agg n.cells.toArray] w fun e w' => e = .returned (.bool (n.kind == 1)) ∧ Flow.Grow w w' := by
  obtain ⟨x0, x1, x2, x3, x4, x5, x6⟩ := n
  show Calls _ _ #[.agg #[.int .i64 x0, .string x1, .int .i64 x2, .int .i64 x3, .int .i64 x4, .int .i64 x5, .bool x6]] w fun e w' => e = .returned (.bool (x0 == 1)) ∧ Flow.Grow w w'
  go_enter Try.func51, Try.ntmps51
  go_wp2
  go_ret
  exact ⟨rfl, Flow.grow_alloc _ _⟩
set_option maxRecDepth 100000 in
set_option maxHeartbeats 1000000 in
theorem index_start (v : Value) (ns : List Gr.Nd) (W : World) (hn : ns.length ≤ 1000000) (h : Gr.NdsAt W v ns) :
    Calls Try.prog 50 #[v, .func (.func 51) #[] #[]] W fun e w' => e = .returned (.int .i64 (Gr.start1 ns 0 ns.length)) ∧ Flow.Grow W w' := by
  have H := Lib.hid h
  obtain ⟨ao, ac, rfl⟩ := h.form
  clear h
  obtain ⟨k, hK⟩ : ∃ k, k = ns.length := ⟨_, rfl⟩
  have HK := Lib.hid hK
  rw [← hK] at hn H ⊢
  clear hK
  obtain ⟨r, hr⟩ : ∃ r, r = Gr.start1 ns 0 k := ⟨_, rfl⟩
  rw [← hr]
  have Hr := Lib.hid hr
  clear hr
  go_enter Try.func50, Try.ntmps50
  go_wp2_with fail
  go_loopw [8] (fun i wr => ∃ j : Nat, j ≤ k ∧ i = .int .i64 j ∧ Hid (r = Gr.start1 ns j (k - j)) ∧ Hid (Flow.Grow W wr)) (fun i _ => k - (intOf i).toNat)
  case atStart => exact ⟨0, by omega, rfl, Lib.hid Hr.out, Lib.hid (Flow.grow_refl _)⟩
  case round =>
    obtain ⟨j, hj, rfl, HR, HG⟩ := hrel
    rename World => wr
    by_cases hjn : j < k
    · obtain ⟨b, off, rfl, q0, q1, q2, q3, q4, q5, q6⟩ := Gr.NdsAt.at H.out (j := j) (by rw [← HK.out]; exact hjn)
      have c0 := Xm2.cell_grow HG.out q0
      have c1 := Xm2.cell_grow HG.out q1
      have c2 := Xm2.cell_grow HG.out q2
      have c3 := Xm2.cell_grow HG.out q3
      have c4 := Xm2.cell_grow HG.out q4
      have c5 := Xm2.cell_grow HG.out q5
      have c6 := Xm2.cell_grow HG.out q6
      have HA : Hid (r = if (ns.getD j Gr.nd0).kind = 1 then (j : Int) else Gr.start1 ns (j + 1) (k - (j + 1))) := Lib.hid (by rw [HR.out, show k - j = (k - (j + 1)) + 1 by omega]; rfl)
      clear q0 q1 q2 q3 q4 q5 q6
      have HC := Lib.hid (start1_any (ns.getD j Gr.nd0))
      generalize ns.getD j Gr.nd0 = x at *
      obtain ⟨x0, x1, x2, x3, x4, x5, x6⟩ := x
      simp only at c0 c1 c2 c3 c4 c5 c6 HA
      by_cases h0 : x0 = 1
      · have d0 : (x0 == 1) = true := by simp [h0]
        have HE : Hid (r = (j : Int)) := Lib.hid (by rw [HA.out, if_pos h0])
        clear h0
        go_wp2_with (go_at_call 51; refine (HC.out _).mono ?_; rintro e w1 ⟨rfl, hg⟩; have HG1 := Lib.hid (HG.out.trans hg); clear hg; simp only [d0])
        go_ret
        exact ⟨by rw [HE.out]; rfl, HG1.out⟩
      · have d0 : (x0 == 1) = false := by simp [h0]
        have HE : Hid (r = Gr.start1 ns (j + 1) (k - (j + 1))) := Lib.hid (by rw [HA.out, if_neg h0])
        clear h0
        go_wp2_with (go_at_call 51; refine (HC.out _).mono ?_; rintro e w1 ⟨rfl, hg⟩; have HG1 := Lib.hid (HG.out.trans hg); clear hg; simp only [d0])
        go_roundw
        case rel => exact ⟨j + 1, by omega, by go_num, HE, HG1⟩
        case measure => simp [intOf]; omega
    · have ej : j = k := by omega
      subst ej
      have HE : Hid (r = -1) := Lib.hid (by rw [HR.out, Nat.sub_self]; rfl)
      go_wp2_with fail
      go_ret
      exact ⟨by rw [HE.out]; rfl, HG.out⟩
set_option maxRecDepth 100000 in
set_option maxHeartbeats 1000000 in
theorem start_any (v0 v1 v2 v3 : Value) (g : Gr.G) (W : World) (hf : g.Few) (h : Gr.GAt W v0 v1 v2 v3 g) :
    Calls Try.prog 30 #[.agg #[v0, v1, v2, v3]] W fun e w' => e = .returned (.int .i64 g.start) ∧ Flow.Grow W w' := by
  have HT : Hid (∀ w, Flow.Grow W w → Calls Try.prog 50 #[v2, .func (.func 51) #[] #[]] w fun e w' => e = .returned (.int .i64 g.start) ∧ Flow.Grow W w') := Lib.hid fun w hg => (index_start v2 g.ns w hf.ns (Gr.Recs.grow h.nodes hg)).mono fun e w' ⟨a, c⟩ => ⟨a, hg.trans c⟩
  generalize g.start = r at *
  obtain ⟨⟨a0, c0, rfl⟩, ⟨a1, c1, rfl⟩, h2, h3⟩ := h
  obtain ⟨a2, c2, rfl⟩ := Gr.Recs.form h2
  obtain ⟨a3, c3, rfl⟩ := Gr.Recs.form h3
  clear h2 h3 hf
  go_enter Try.func30, Try.ntmps30
  go_wp2_with (go_at_call 50; refine (HT.out _ (Flow.grow_alloc _ _)).mono ?_; rintro e w1 ⟨rfl, hg⟩; have HG := Lib.hid hg; clear hg)
  go_ret
  exact ⟨rfl, HG.out⟩
end Go.Proofs.Ytcnmaplopbbmaaa
namespace Go.Proofs.Ytcnmaplopbbmaaa
open Go.RowKit

set_option maxRecDepth 100000 in
set_option maxHeartbeats 400000 in
theorem take_no (m : Nat) (p : Int) (w : World) (hm : m < 2 ^ 64) (h : Mark.has m p = false) :
    Calls Try.prog 74 #[.int .u64 (m : Int), .int .i64 p] w fun e w' => e = .returned (.tuple #[.int .u64 (m : Int), .bool false]) ∧ w = w' := by
  have hlt := Mark.bit_lt p
  have hand := bits_and_u64_nat m (Mark.bit p) (by omega) (by omega)
  have hn : (((m &&& Mark.bit p : Nat) : Int) == 0) = true := by
    have := mt (Mark.and_bit_ne m p).1 (by simp [h])
    simp; omega
  go_enter Try.func74, Try.ntmps74
  clear h
  go_wp2_with (go_at_call 49; refine (bit_any p _).mono ?_; rintro e w' ⟨rfl, rfl⟩)
  go_ret2
  exact ⟨rfl, rfl⟩

set_option maxRecDepth 100000 in
set_option maxHeartbeats 400000 in
theorem take_yes (m : Nat) (p : Int) (w : World) (hm : m < 2 ^ 64) (h : Mark.has m p = true) :
    Calls Try.prog 74 #[.int .u64 (m : Int), .int .i64 p] w fun e w' => e = .returned (.tuple #[.int .u64 ((m &&& (18446744073709551615 - 2 ^ p.toNat) : Nat) : Int), .bool true]) ∧ w = w' := by
  have hlt := Mark.bit_lt p
  have hand := bits_and_u64_nat m (Mark.bit p) (by omega) (by omega)
  have hnot := u64_andNot_nat m (Mark.bit p) (by omega) (by omega)
  have Hnot := Lib.hid hnot
  have hn : (((m &&& Mark.bit p : Nat) : Int) == 0) = false := by
    have := (Mark.and_bit_ne m p).2 h
    simp; omega
  have hin : 0 ≤ p ∧ p < 64 := by
    refine Decidable.byContradiction fun hp => ?_
    rw [Mark.has_out hp] at h; cases h
  have Hb : Hid (_ = _) := Lib.hid (Mark.bit_in hin.1 hin.2)
  go_enter Try.func74, Try.ntmps74
  clear h hnot
  go_wp2_with (go_at_call 49; refine (bit_any p _).mono ?_; rintro e w' ⟨rfl, rfl⟩)
  go_ret2
  exact ⟨ret_mark (by rw [← Hb.out]; exact Hnot.out), rfl⟩
end Go.Proofs.Ytcnmaplopbbmaaa
namespace Go.Proofs.Ytcnmaplopbbmaaa
open Go.RowKit
theorem Mark.has_l {l : List Bool} {p : Int} (h0 : 0 ≤ p) (h1 : p < 64) : Mark.has (Mark.ofBools l) p = l.getD p.toNat false := by
  rw [Mark.has_in h0 h1, Mark.testBit_ofBools]
theorem Mark.l_lt {l : List Bool} (hl : l.length = 64) : Mark.ofBools l < 2 ^ 64 := by
  have := Mark.ofBools_lt l
  rwa [hl] at this
theorem set_getD {l : List Bool} {i : Nat} {b : Bool} (h : l.getD i false = b) (hi : i < l.length) : l.set i b = l := by
  subst h
  refine List.ext_getElem? fun j => ?_
  rw [List.getElem?_set]
  split
  · rename_i e
    subst e
    simp [hi]
  · rfl
theorem markHas_l (l : List Bool) (p : Int) (w : World) (hl : l.length = 64) (h0 : 0 ≤ p) (h1 : p < 64) : Calls Try.prog 48 #[.int .u64 (Mark.ofBools l : Int), .int .i64 p] w fun e w' => e = .returned (.bool (l.getD p.toNat false)) ∧ w = w' :=
  (has_any _ p w (Mark.l_lt hl)).mono fun e w' ⟨a, b⟩ => ⟨by rw [a, Mark.has_l h0 h1], b⟩
theorem markTake_l (l : List Bool) (p : Int) (w : World) (hl : l.length = 64) (h0 : 0 ≤ p) (h1 : p < 64) : Calls Try.prog 74 #[.int .u64 (Mark.ofBools l : Int), .int .i64 p] w fun e w' => e = .returned (.tuple #[.int .u64 (Mark.ofBools (l.set p.toNat false) : Int), .bool (l.getD p.toNat false)]) ∧ w = w' := by
  have hp : p.toNat < l.length := by omega
  have hb := Mark.has_l (l := l) h0 h1
  cases hh : l.getD p.toNat false with
  | false =>
    rw [hh] at hb
    rw [set_getD hh hp]
    exact take_no _ p w (Mark.l_lt hl) hb
  | true =>
    rw [hh] at hb
    rw [← Mark.set_false hl (by omega)]
    exact take_yes _ p w (Mark.l_lt hl) hb
theorem markPut_l (l : List Bool) (p : Int) (w : World) (hl : l.length = 64) (h0 : 0 ≤ p) (h1 : p < 64) : Calls Try.prog 75 #[.int .u64 (Mark.ofBools l : Int), .int .i64 p] w fun e w' => e = .returned (.tuple #[.int .u64 (Mark.ofBools (l.set p.toNat true) : Int), .bool (!l.getD p.toNat false)]) ∧ w = w' := by
  have hp : p.toNat < l.length := by omega
  have hb := Mark.has_l (l := l) h0 h1
  cases hh : l.getD p.toNat false with
  | false =>
    rw [hh] at hb
    rw [← Mark.set_true hl (by omega)]
    exact put_yes _ p w (Mark.l_lt hl) h0 h1 hb
  | true =>
    rw [hh] at hb
    rw [set_getD hh hp]
    exact put_no _ p w (Mark.l_lt hl) (.inr hb)
theorem foldl_take {α β : Type} (f : β → α → β) (a : β) (l : List α) (j : Nat) (x : α) (h : l[j]? = some x) : (l.take (j + 1)).foldl f a = f ((l.take j).foldl f a) x := by
  rw [List.take_add_one, h, List.foldl_append]
  rfl
theorem Ints.at1 {w : World} {a : Option Addr} {n cap : Nat} {zs : List Int} (h : Ints w (.slice a n cap) zs) {k : Nat} (hk : k < zs.length) :
    ∃ b off, a = some ⟨b, off, none⟩ ∧ w.cell? ⟨b, off + k, none⟩ = some (.int .i64 (zs.getD k 0)) := by
  obtain ⟨b, off, c, e, _, hc⟩ := h.shape (fun e => by subst e; simp at hk)
  cases e
  exact ⟨b, off, rfl, hc k hk⟩
/-- places are places -/
def Gr.InP (l : List Int) : Prop := ∀ p ∈ l, 0 ≤ p ∧ p < 64
/-- the game's block -/
def Gr.gcells (c0 c1 c2 c3 c4 : Value) (e : Int) : Array Value := #[c0, c1, c2, c3, c4, .int .i64 e]
def Gr.err (b : Bool) (e : Int) : Int := if b then 11 else e
set_option maxRecDepth 100000 in
set_option maxHeartbeats 4000000 in
theorem move_any (B : Nat) (c0 c1 c2 c3 c4 : Value) (e0 : Int) (l : List Bool) (vf vt : Value) (fr zt : List Int) (W : World) (hl : l.length = 64) (hfr : Gr.InP fr) (hto : Gr.InP zt) (hfl : fr.length ≤ 1000000) (htl : zt.length ≤ 1000000)
    (hB : W.heap[B]? = some (.cells (Gr.gcells c0 c1 c2 c3 c4 e0) 68 (0, 0))) (hf : Ints (mask W [B]) vf fr) (ht : Ints (mask W [B]) vt zt) :
    Calls Try.prog 47 #[.pointer (some ⟨B, 0, none⟩), .int .u64 (Mark.ofBools l : Int), vf, vt] W fun e w' => e = .returned (.int .u64 (Mark.ofBools (zt.foldl Gr.put1 (fr.foldl Gr.wo (l, false))).1 : Int)) ∧
      W.grownBy w' (some B) ∧ w'.heap[B]? = some (.cells (Gr.gcells c0 c1 c2 c3 c4 (Gr.err (zt.foldl Gr.put1 (fr.foldl Gr.wo (l, false))).2 e0)) 68 (0, 0)) := by
  have HB := Lib.hid hB
  have HF := Lib.hid hf
  have HT := Lib.hid ht
  have Hfr := Lib.hid hfr
  have Hto := Lib.hid hto
  obtain ⟨af, cf, rfl, _⟩ := id hf
  obtain ⟨at', ct, rfl, _⟩ := id ht
  obtain ⟨n1, hn1⟩ : ∃ k, k = fr.length := ⟨_, rfl⟩
  have Hn1 := Lib.hid hn1
  obtain ⟨n2, hn2⟩ : ∃ k, k = zt.length := ⟨_, rfl⟩
  have Hn2 := Lib.hid hn2
  rw [← hn1] at hfl HF ⊢
  rw [← hn2] at htl HT ⊢
  clear hB hf ht hfr hto hn1 hn2
  have Hl := Lib.hid hl
  clear hl
  go_enter Try.func47, Try.ntmps47
  go_wp2_with fail
  go_loop [1, 16] (fun m i => ∃ j : Nat, j ≤ n1 ∧ i = .int .i64 j ∧ m = .int .u64 (Mark.ofBools ((fr.take j).foldl Gr.wo (l, false)).1 : Int)) (fun _ i => n1 - (intOf i).toNat)
  case atStart => exact ⟨0, by omega, rfl, rfl⟩
  case round =>
    obtain ⟨j, hj, rfl, rfl⟩ := hrel
    by_cases hjn : j < n1
    · have hx : fr[j]? = some (fr.getD j 0) := by rw [List.getD_eq_getElem?_getD, List.getElem?_eq_getElem (by rw [← Hn1.out]; exact hjn)]; rfl
      have HX := Lib.hid (foldl_take Gr.wo (l, false) fr j _ hx)
      have hp := Hfr.out _ (List.mem_of_getElem? hx)
      obtain ⟨b, off, rfl, q⟩ := Ints.at1 HF.out (k := j) (by rw [← Hn1.out]; exact hjn)
      have c := (mask_self W [B]).cell _ _ q
      clear q hx
      have HLt : Hid (((fr.take j).foldl Gr.wo (l, false)).1.length = 64) := Lib.hid (by rw [Gr.wos_len]; exact Hl.out)
      generalize fr.getD j 0 = p at *
      generalize (fr.take j).foldl Gr.wo (l, false) = t at *
      have HC := Lib.hid fun w => markTake_l t.1 p w HLt.out hp.1 hp.2
      go_wp2_with (go_at_call 74; refine (HC.out _).mono ?_; rintro e w' ⟨rfl, rfl⟩)
      go_round
      case rel => exact ⟨j + 1, by omega, by go_num, by rw [HX.out]; rfl⟩
      case measure => simp [intOf]; omega
    · obtain rfl : j = n1 := by omega
      have ht0 : (fr.take j).foldl Gr.wo (l, false) = fr.foldl Gr.wo (l, false) := by rw [List.take_of_length_le (by rw [← Hn1.out]; exact Nat.le_refl _)]
      rw [ht0]
      have HLt : Hid ((fr.foldl Gr.wo (l, false)).1.length = 64) := Lib.hid (by rw [Gr.wos_len]; exact Hl.out)
      have HB2 : Hid ((fr.foldl Gr.wo (l, false)).2 = false) := Lib.hid (by
        have key : ∀ (zs : List Int) (t : Gr.Tk), (zs.foldl Gr.wo t).2 = t.2 := fun zs => by
          induction zs with
          | nil => intro t; rfl
          | cons z zs ih => intro t; rw [List.foldl_cons, ih]; rfl
        rw [key])
      generalize hT1 : fr.foldl Gr.wo (l, false) = t1 at *
      have HT1 := Lib.hid hT1
      clear ht0 hT1
      go_wp2_with fail
      go_loopw [1, 29] (fun m i wr => ∃ k : Nat, k ≤ n2 ∧ i = .int .i64 k ∧ m = .int .u64 (Mark.ofBools ((zt.take k).foldl Gr.put1 t1).1 : Int) ∧ Hid (wr.heap[B]? = some (.cells (Gr.gcells c0 c1 c2 c3 c4 (Gr.err ((zt.take k).foldl Gr.put1 t1).2 e0)) 68 (0, 0))) ∧ Hid (W.grownBy wr (some B))) (fun _ i _ => n2 - (intOf i).toNat)
      case atStart => exact ⟨0, by omega, rfl, rfl, Lib.hid (by show _ = some (Obj.cells (Gr.gcells c0 c1 c2 c3 c4 (Gr.err t1.2 e0)) _ _); rw [HB2.out]; exact HB.out), Lib.hid (by_grow (Flow.grow_refl _))⟩
      case round =>
        obtain ⟨k, hk, rfl, rfl, HBk, HG⟩ := hrel
        rename World => wr
        by_cases hkn : k < n2
        · have hx : zt[k]? = some (zt.getD k 0) := by rw [List.getD_eq_getElem?_getD, List.getElem?_eq_getElem (by rw [← Hn2.out]; exact hkn)]; rfl
          have HX := Lib.hid (foldl_take Gr.put1 t1 zt k _ hx)
          have hp := Hto.out _ (List.mem_of_getElem? hx)
          obtain ⟨b, off, rfl, q⟩ := Ints.at1 HT.out (k := k) (by rw [← Hn2.out]; exact hkn)
          have c := (mask_self wr [B]).cell _ _ ((mask_by HG.out (fun g hg => by cases hg; simp)).cell _ _ q)
          clear q hx
          have HLk : Hid (((zt.take k).foldl Gr.put1 t1).1.length = 64) := Lib.hid (by rw [Gr.puts_len]; exact HLt.out)
          generalize zt.getD k 0 = p at *
          generalize (zt.take k).foldl Gr.put1 t1 = t at *
          have HC := Lib.hid fun w => markPut_l t.1 p w HLk.out hp.1 hp.2
          have HX2 : Hid (((zt.take (k + 1)).foldl Gr.put1 t1).2 = (t.2 || t.1.getD p.toNat false)) := Lib.hid (by rw [HX.out]; rfl)
          have c5 : wr.cell? ⟨B, 5, none⟩ = some (.int .i64 (Gr.err t.2 e0)) := (cell_of_row wr B 5 _ _ _ HBk.out).trans rfl
          cases hb : t.1.getD p.toNat false with
          | false =>
            have HC2 := Lib.hid fun w => (hb ▸ HC.out w : Calls _ _ _ w fun e w' => e = .returned (.tuple #[.int .u64 (Mark.ofBools (t.1.set p.toNat true) : Int), .bool (!false)]) ∧ w = w')
            go_wp2_with (go_at_call 75; refine (HC2.out _).mono ?_; rintro e w' ⟨rfl, rfl⟩)
            go_roundw
            case rel => exact ⟨k + 1, by omega, by go_num, by rw [HX.out]; rfl, Lib.hid (by rw [HX2.out, hb, Bool.or_false]; exact HBk.out), HG⟩
            case measure => simp [intOf]; omega
          | true =>
            have HC2 := Lib.hid fun w => (hb ▸ HC.out w : Calls _ _ _ w fun e w' => e = .returned (.tuple #[.int .u64 (Mark.ofBools (t.1.set p.toNat true) : Int), .bool (!true)]) ∧ w = w')
            have f5 : wr.frozen? ⟨B, 5, none⟩ = false := by simp [World.frozen?, HBk.out]
            go_wp2_with (go_at_call 75; refine (HC2.out _).mono ?_; rintro e w' ⟨rfl, rfl⟩)
            go_roundw
            case rel => exact ⟨k + 1, by omega, by go_num, by rw [HX.out]; rfl, Lib.hid (by rw [HX2.out, hb, Bool.or_true]; exact (heap_setCell_same wr B 5 _ _ _ HBk.out).trans rfl), Lib.hid (by_trans HG.out (by_set wr B 5 _))⟩
            case measure => simp [intOf]; omega
        · obtain rfl : k = n2 := by omega
          have ht0 : (zt.take k).foldl Gr.put1 t1 = zt.foldl Gr.put1 t1 := by rw [List.take_of_length_le (by rw [← Hn2.out]; exact Nat.le_refl _)]
          have HBk2 := HBk.out
          rw [ht0] at HBk2 ⊢
          go_wp2_with fail
          go_ret
          exact ⟨by rw [HT1.out]; rfl, HG.out, by rw [HT1.out]; exact HBk2⟩
end Go.Proofs.Ytcnmaplopbbmaaa

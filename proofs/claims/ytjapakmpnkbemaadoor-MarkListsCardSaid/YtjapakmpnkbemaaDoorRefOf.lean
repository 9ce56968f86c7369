/- galliardref13.Of by its contract: the tokens of a number's bits. -/
import Derived.Test.YtjapakmpnkbemaaDoorMarkWalk
import Derived.Test.YtjapakmpnkbemaaDoorSeg
import Derived.Deep.WholeRow
namespace Go.Proofs.YtjapakmpnkbemaaDoor
open Go.RowKit

theorem zeroTok (w : World) : (zeroValue 27).run Tryd.prog w = .ok (.agg (tokCells (List.replicate 64 false))) w := by kernel_rfl
theorem tok_size {l : List Bool} (h : l.length = 64) : (Tryd.prog.info? 27).map (·.size) = some (tokCells l).size := by
  rw [tokCells_size, h]
  kernel_rfl
theorem tok_set {w : World} {g e : Nat} {l : List Bool} {q : Nat} {b : Bool} (h : w.heap[g]? = some (.cells (tokCells l) e (0, 0))) (hq : q < l.length) :
    (w.setCell ⟨g, q, none⟩ (.bool b)).heap[g]? = some (.cells (tokCells (l.set q b)) e (0, 0)) := by
  rw [heap_setCell_same w g q _ e _ h]
  congr 2
  apply Array.ext'
  simp [tokCells, hq, List.map_set]
theorem grow_set {w wr : World} (h : Flow.Grow w wr) (q : Nat) (u : Value) : Flow.Grow w (wr.setCell ⟨w.heap.size, q, none⟩ u) :=
  ⟨h.os, h.tape, h.output, by simpa [World.setCell] using h.size, fun i hi hne => by
    rw [Below.heap_setCell _ _ _ _ (by show i ≠ w.heap.size; omega)]; exact h.block i hi hne⟩
theorem store_same (P : Program) {w : World} {g e : Nat} {cs : Array Value} (h : w.heap[g]? = some (.cells cs e (0, 0))) (h1 : ∀ u ∈ cs.toList, u.oneCell' = true) :
    (storeCells ⟨g, 0, none⟩ cs.toList).run P w = .ok () w := by
  rw [run_storeCells_at P g 0 e cs.toList 0 cs w h (by simp) h1, List.take_zero, List.nil_append, List.drop_eq_nil_of_le (by simp), List.append_nil, Array.toArray_toList, setRow_self w g cs e (0, 0) h]
theorem tok_one (l : List Bool) : ∀ u ∈ (tokCells l).toList, u.oneCell' = true := by
  intro u hu
  rw [tokCells, List.mem_append] at hu
  rcases hu with hu | hu
  · obtain ⟨b, _, rfl⟩ := List.mem_map.1 hu
    rfl
  · rw [List.mem_singleton] at hu
    subst hu
    rfl

/-- the k lowest bits, as 64 truths -/
def bitsL (x k : Nat) : List Bool := (List.range 64).map fun j => decide (j < k) && x.testBit j
theorem bitsL_len (x k : Nat) : (bitsL x k).length = 64 := by simp [bitsL]
theorem bitsL_zero (x : Nat) : bitsL x 0 = List.replicate 64 false := by
  unfold bitsL
  simp only [Nat.not_lt_zero, decide_false, Bool.false_and]
  rfl
theorem bitsL_succ (x k : Nat) (b : Bool) (hb : x.testBit k = b) : (bitsL x k).set k b = bitsL x (k + 1) := by
  subst hb
  refine List.ext_getElem (by simp [bitsL]) fun i h1 h2 => ?_
  rw [List.getElem_set]
  simp only [bitsL, List.getElem_map, List.getElem_range]
  by_cases h : k = i
  · subst h; simp
  · have : (i < k) = (i < k + 1) := by apply propext; omega
    simp [h, this]
theorem bitsL_at {x i : Nat} (hi : i < 64) : (bitsL x 64).getD i false = x.testBit i := by
  simp [bitsL, List.getD_eq_getElem?_getD, hi]

set_option maxRecDepth 100000 in
set_option maxHeartbeats 1000000 in
theorem refOf_any (x : Nat) (hx : x < 18446744073709551616) (w : World) : Calls Tryd.prog 4 #[.int .u64 (x : Int)] w fun e w' => e = .returned (.agg (tokCells (bitsL x 64))) ∧ Flow.Grow w w' := by
  have hz0 := zeroTok
  have Hb0 : Hid (_ = _) := Lib.hid (bitsL_zero x)
  generalize List.replicate 64 false = bl0 at *
  go_enter Tryd.func4, Tryd.ntmps4
  go_wp2_with fail
  clear hz0
  go_loopw [0, 3] (fun m i wr => ∃ k : Nat, k ≤ 64 ∧ i = .int .i64 k ∧ m = .int .u64 ((x / 2 ^ k : Nat) : Int) ∧ wr.heap[w.heap.size]? = some (.cells (tokCells (bitsL x k)) 27 (0, 0)) ∧ Flow.Grow w wr) (fun _ i _ => 64 - (intOf i).toNat)
  case atStart => exact ⟨0, by omega, rfl, by simp, by rw [Hb0.out]; exact heap_alloc_new w _, Flow.grow_alloc _ _⟩
  case round =>
    obtain ⟨k, hk, rfl, rfl, hh, hg⟩ := hrel
    by_cases hkl : k < 64
    · have Hl := Lib.hid (bitsL_len x k)
      have hfr : wr.frozen? ⟨w.heap.size, k, none⟩ = false := frozen_of_row wr _ _ _ _ hh
      have hs : Hid (x / 2 ^ (k + 1) = x / 2 ^ k / 2) := Lib.hid (by rw [Nat.pow_succ, Nat.div_div_eq_div_mul])
      have hle : x / 2 ^ k ≤ x := Nat.div_le_self _ _
      have ht : x.testBit k = decide (x / 2 ^ k % 2 = 1) := Nat.testBit_eq_decide_div_mod_eq
      generalize hy : x / 2 ^ k = y at *
      clear hy
      have hyh : y / 2 ≤ y := Nat.div_le_self _ _
      have hcq := (cell_of_row wr w.heap.size k _ _ _ hh).trans (tokCells_get (by rw [Hl.out]; exact hkl))
      by_cases h1 : y % 2 = 1
      · have Hset : Hid (_ = _) := Lib.hid (bitsL_succ x k true (by rw [ht]; simp [h1]))
        have Hh : Hid ((wr.setCell ⟨w.heap.size, k, none⟩ (.bool true)).heap[w.heap.size]? = some (.cells (tokCells ((bitsL x k).set k true)) 27 (0, 0))) := Lib.hid (tok_set hh (by rw [Hl.out]; omega))
        have h2 : (((y : Int) % 2) == 1) = true := by simp; omega
        clear ht hh h1
        go_wp2
        go_roundw
        case rel => exact ⟨k + 1, by omega, by go_num, by rw [hs.out]; go_num, by rw [← Hset.out]; exact Hh.out, grow_set hg k (.bool true)⟩
        case measure => simp [intOf]; omega
      · have Hset : Hid (_ = _) := Lib.hid (bitsL_succ x k false (by rw [ht]; simp [h1]))
        have Hh : Hid ((wr.setCell ⟨w.heap.size, k, none⟩ (.bool false)).heap[w.heap.size]? = some (.cells (tokCells ((bitsL x k).set k false)) 27 (0, 0))) := Lib.hid (tok_set hh (by rw [Hl.out]; omega))
        have h2 : (((y : Int) % 2) == 1) = false := by simp; omega
        clear ht hh h1
        go_wp2
        go_roundw
        case rel => exact ⟨k + 1, by omega, by go_num, by rw [hs.out]; go_num, by rw [← Hset.out]; exact Hh.out, grow_set hg k (.bool false)⟩
        case measure => simp [intOf]; omega
    · have : k = 64 := by omega
      subst this
      have Hl := Lib.hid (bitsL_len x 64)
      have Hh := Lib.hid hh
      have hst := store_same Tryd.prog hh (tok_one _)
      have hsz : (tokCells (bitsL x 64)).size = 65 := by rw [tokCells_size, Hl.out]
      clear hh
      obtain ⟨bl, hbl⟩ : ∃ bl, bl = bitsL x 64 := ⟨_, rfl⟩
      rw [← hbl] at Hl Hh hst hsz
      have Hbl := Lib.hid hbl
      clear hbl
      go_wp2_with (with_reducible refine wpList_load_row rfl 27 (.tmp 2) rfl w.heap.size rfl 27 (tokCells bl) (0, 0) _ Hh.out Tryd.underlying27 rfl (tok_size Hl.out) ?_)
      refine bodyPost_ret (results_cell_row rfl _ _ w.heap.size _ _ _ _ rfl Hh.out Tryd.underlying27 rfl (tok_size Hl.out)) rfl ⟨by rw [Hbl.out], hg⟩
end Go.Proofs.YtjapakmpnkbemaaDoor

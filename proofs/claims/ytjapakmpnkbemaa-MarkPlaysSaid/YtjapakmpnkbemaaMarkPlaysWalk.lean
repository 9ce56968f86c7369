/- galliardlaw15.MarkPlays returns true: the walk. -/
import Derived.Test.YtjapakmpnkbemaaLaw15a
import Derived.Deep.DeepCutAuto
namespace Go.Proofs.Ytjapakmpnkbemaa
open Go.RowKit

theorem zeroTok (w : World) : (zeroValue 34).run Try.prog w = .ok (.agg (tokCells (List.replicate 64 false))) w := by kernel_rfl

theorem store_new (P : Program) (w : World) (cs ds : Array Value) (e : TypeId) (hs : ds.size = cs.size) (h1 : ∀ u ∈ ds.toList, u.oneCell' = true) :
    (storeCells ⟨w.heap.size, 0, none⟩ ds.toList).run P (w.alloc (.cells cs e)) = .ok () (w.alloc (.cells ds e)) := by
  have h := run_storeCells_at P w.heap.size 0 e ds.toList 0 cs (w.alloc (.cells cs e)) (heap_alloc_new w _) (by simp [hs]) h1
  rw [h]
  congr 1
  have e1 : (cs.toList.take (0 + 0) ++ ds.toList ++ cs.toList.drop (0 + 0 + ds.toList.length)).toArray = ds := by
    rw [List.take_zero, List.nil_append, List.drop_eq_nil_of_le (by simp [hs]), List.append_nil]
  rw [e1]
  unfold World.setRow World.alloc
  simp only [World.mk.injEq, and_true]
  refine Array.ext (by simp) fun i h1 h2 => ?_
  rw [Array.getElem_modify]
  split
  · rename_i hi
    subst hi
    simp
  · rename_i hi
    simp at h1
    rw [Array.getElem_push_lt (by omega), Array.getElem_push_lt (by omega)]

theorem tok_size {l : List Bool} (h : l.length = 64) : (Try.prog.info? 34).map (·.size) = some (tokCells l).size := by
  rw [tokCells_size, h]
  kernel_rfl
theorem heap_keep {w : World} {g : Nat} {o : Obj} (x : Obj) (h : w.heap[g]? = some o) : (w.alloc x).heap[g]? = some o := by
  rw [Below.heap_alloc w x g (Array.getElem?_eq_some_iff.1 h).1]
  exact h
theorem tok_set {w : World} {g e : Nat} {l : List Bool} {q : Nat} {b : Bool} (h : w.heap[g]? = some (.cells (tokCells l) e (0, 0))) (hq : q < l.length) :
    (w.setCell ⟨g, q, none⟩ (.bool b)).heap[g]? = some (.cells (tokCells (l.set q b)) e (0, 0)) := by
  rw [heap_setCell_same w g q _ e _ h]
  congr 2
  apply Array.ext'
  simp [tokCells, hq, List.map_set]
theorem grow_set {w wr : World} (h : Flow.Grow w wr) (q : Nat) (u : Value) : Flow.Grow w (wr.setCell ⟨w.heap.size, q, none⟩ u) :=
  ⟨h.os, h.tape, h.output, by simpa [World.setCell] using h.size, fun i hi hne => by
    rw [Below.heap_setCell _ _ _ _ (by show i ≠ w.heap.size; omega)]; exact h.block i hi hne⟩

set_option maxRecDepth 100000 in
set_option maxHeartbeats 1000000 in
theorem plays_walk (v : Value) (zs : List Int) (w : World) (hz : zs.length ≤ 9223372036854775807) (h : Ints w v zs) :
    Calls Try.prog 4 #[v] w fun e w' => e = .returned (.bool true) ∧ Flow.Grow w w' := by
  obtain ⟨a, cap, rfl, hlen, hno, hc⟩ := h
  obtain ⟨len, hlen⟩ : ∃ len, len = zs.length := ⟨_, rfl⟩
  rw [← hlen] at hz hno ⊢
  have Hc : Hid (∀ k, k < len → ∃ b off, a = some ⟨b, off, none⟩ ∧ b < w.heap.size ∧ w.cell? ⟨b, off + k, none⟩ = some (.int .i64 (zs.getD k 0))) := Lib.hid fun k hk => by
    obtain ⟨b, off, h1, h2, h3⟩ := hc k (by simp; omega)
    exact ⟨b, off, h1, h2, by rw [h3]; simp [show k < zs.length by omega]⟩
  clear hc hlen hno
  have hz0 := zeroTok
  have hst : (storeCells ⟨w.heap.size, 0, none⟩ (tokCells (List.replicate 64 false)).toList).run Try.prog (w.alloc (.cells (tokCells (List.replicate 64 false)) 34)) = .ok () (w.alloc (.cells (tokCells (List.replicate 64 false)) 34)) :=
    store_new _ w _ _ _ rfl (by intro u hu; simp [tokCells] at hu; rcases hu with rfl | rfl <;> rfl)
  have Hbl : Hid ((List.replicate 64 false).length = 64) := Lib.hid (by simp)
  have H0 : Hid (Mark.ofBools (List.replicate 64 false) = 0) := Lib.hid (Mark.ofBools_false 64)
  have hts : (tokCells (List.replicate 64 false)).size = 65 := rfl
  generalize List.replicate 64 false = bl0 at *
  go_enter Try.func4, Try.ntmps4
  go_wp2_with fail
  clear hst hz0 hts
  go_loopw [3, 5] (fun m i wr => ∃ (k : Nat) (bl : List Bool), k ≤ len ∧ i = .int .i64 k ∧ m = .int .u64 (Mark.ofBools bl : Int) ∧ Hid (bl.length = 64) ∧ wr.heap[w.heap.size]? = some (.cells (tokCells bl) 34 (0, 0)) ∧ Flow.Grow w wr) (fun _ i _ => len - (intOf i).toNat)
  case atStart => exact ⟨0, bl0, by omega, rfl, by rw [H0.out]; rfl, Hbl, heap_alloc_new w _, Flow.grow_alloc _ _⟩
  case round =>
    obtain ⟨k, bl, hk, rfl, rfl, Hl, hh, hg⟩ := hrel
    by_cases hkl : k < len
    · obtain ⟨b, off, rfl, hb, hcell⟩ := Hc.out k hkl
      have hcell : wr.cell? ⟨b, off + k, none⟩ = some (.int .i64 (zs.getD k 0)) := (World.cell?_of_block (hg.block b hb (by simp))).trans hcell
      clear Hc
      generalize zs.getD k 0 = z at hcell
      by_cases hk80 : k < 80
      --CASES
      · have hand := Bits.i64_mask (z / 2) 7 (by omega) 127 (by decide)
        have hP : 0 ≤ z / 2 % 2 ^ 7 ∧ z / 2 % 2 ^ 7 < 128 := by omega
        generalize z / 2 % 2 ^ 7 = P at hand hP
        obtain ⟨hP0, hP1⟩ := hP
        have Hm : Hid (Mark.ofBools bl < 2 ^ 64) := Lib.hid (by have := Mark.ofBools_lt bl; rwa [Hl.out] at this)
        by_cases hin : 20 ≤ P ∧ P < 84
        · obtain ⟨q, hq⟩ : ∃ q : Nat, P = 20 + (q : Int) := ⟨(P - 20).toNat, by omega⟩
          subst hq
          have hq64 : q < 64 := by omega
          have hcq := (cell_of_row wr w.heap.size q _ _ _ hh).trans (tokCells_get (by rw [Hl.out]; exact hq64))
          have hpq : (20 : Int) + (q : Int) - 20 = (q : Int) := by omega
          have hm1 : min (q : Int) 63 = (q : Int) := by omega
          have hm2 : max (q : Int) 0 = (q : Int) := by omega
          have Hh0 : Hid (Mark.has (Mark.ofBools bl) (q : Int) = bl.getD q false) := Lib.hid (by rw [Mark.has_in (by omega) (by omega), Int.toNat_natCast, Mark.testBit_ofBools])
          clear hin hP0 hP1
          cases hbq : bl.getD q false with
          | true =>
            rw [hbq] at hcq
            have Hhas : Hid (_ = _) := Lib.hid (Hh0.out.trans hbq)
            clear hbq Hh0
            have hp2 := Bits.i64_mask z 1 (by omega) 1 (by decide)
            rw [show (2 : Int) ^ 1 = 2 by decide] at hp2
            have hz2 : z % 2 = 0 ∨ z % 2 = 1 := by omega
            rcases hz2 with hz2 | hz2
            · rw [hz2] at hp2
              clear hz2
              have Hl' := Hl
              have Hh := Lib.hid hh
              go_wp2_with (first | (go_at_call 11; refine (has_any _ _ _ Hm.out).mono ?_; rintro e w' ⟨rfl, rfl⟩; rw [Hhas.out]) | (go_at_call 12; refine (put_no _ _ _ Hm.out (.inr Hhas.out)).mono ?_; rintro e w' ⟨rfl, rfl⟩) | (with_reducible refine wpList_load_row rfl 34 (.tmp 4) rfl w.heap.size rfl 34 (tokCells bl) (0, 0) _ Hh.out Try.underlying34 rfl (tok_size Hl'.out) ?_) | (go_at_call 14; refine (tokens_mark _ _ Hl'.out).mono ?_; rintro e w' ⟨rfl, rfl⟩))
              go_roundw
              case rel => exact ⟨k + 1, bl, by omega, by go_num, rfl, Hl', (heap_keep _ Hh.out), Flow.Grow.trans hg (Flow.grow_alloc _ _)⟩
              case measure => simp [intOf]; omega
            · rw [hz2] at hp2
              clear hz2
              have Hl' : Hid ((bl.set q false).length = 64) := Lib.hid (by simpa using Hl.out)
              have Hh : Hid ((wr.setCell ⟨w.heap.size, q, none⟩ (.bool false)).heap[w.heap.size]? = some (.cells (tokCells (bl.set q false)) 34 (0, 0))) := Lib.hid (tok_set hh (by rw [Hl.out]; omega))
              have hfr : wr.frozen? ⟨w.heap.size, q, none⟩ = false := frozen_of_row wr _ _ _ _ hh
              have Hset : Hid (_ = _) := Lib.hid (Mark.set_false Hl.out (show q < 64 by omega))
              clear hh
              go_wp2_with (first | (go_at_call 11; refine (has_any _ _ _ Hm.out).mono ?_; rintro e w' ⟨rfl, rfl⟩; rw [Hhas.out]) | (go_at_call 13; refine (take_yes _ _ _ Hm.out Hhas.out).mono ?_; rintro e w' ⟨rfl, rfl⟩; rw [Int.toNat_natCast, Hset.out]) | (with_reducible refine wpList_load_row rfl 34 (.tmp 4) rfl w.heap.size rfl 34 (tokCells (bl.set q false)) (0, 0) _ Hh.out Try.underlying34 rfl (tok_size Hl'.out) ?_) | (go_at_call 14; refine (tokens_mark _ _ Hl'.out).mono ?_; rintro e w' ⟨rfl, rfl⟩))
              go_roundw
              case rel => exact ⟨k + 1, (bl.set q false), by omega, by go_num, rfl, Hl', (heap_keep _ Hh.out), (grow_set hg q (.bool false)).trans (Flow.grow_alloc _ _)⟩
              case measure => simp [intOf]; omega
          | false =>
            rw [hbq] at hcq
            have Hhas : Hid (_ = _) := Lib.hid (Hh0.out.trans hbq)
            clear hbq Hh0
            have hp2 := Bits.i64_mask z 1 (by omega) 1 (by decide)
            rw [show (2 : Int) ^ 1 = 2 by decide] at hp2
            have hz2 : z % 2 = 0 ∨ z % 2 = 1 := by omega
            rcases hz2 with hz2 | hz2
            · rw [hz2] at hp2
              clear hz2
              have Hl' : Hid ((bl.set q true).length = 64) := Lib.hid (by simpa using Hl.out)
              have Hh : Hid ((wr.setCell ⟨w.heap.size, q, none⟩ (.bool true)).heap[w.heap.size]? = some (.cells (tokCells (bl.set q true)) 34 (0, 0))) := Lib.hid (tok_set hh (by rw [Hl.out]; omega))
              have hfr : wr.frozen? ⟨w.heap.size, q, none⟩ = false := frozen_of_row wr _ _ _ _ hh
              have Hset : Hid (_ = _) := Lib.hid (Mark.set_true Hl.out (show q < 64 by omega))
              clear hh
              go_wp2_with (first | (go_at_call 11; refine (has_any _ _ _ Hm.out).mono ?_; rintro e w' ⟨rfl, rfl⟩; rw [Hhas.out]) | (go_at_call 12; refine (put_yes _ _ _ Hm.out (by omega) (by omega) Hhas.out).mono ?_; rintro e w' ⟨rfl, rfl⟩; rw [Int.toNat_natCast, Hset.out]) | (with_reducible refine wpList_load_row rfl 34 (.tmp 4) rfl w.heap.size rfl 34 (tokCells (bl.set q true)) (0, 0) _ Hh.out Try.underlying34 rfl (tok_size Hl'.out) ?_) | (go_at_call 14; refine (tokens_mark _ _ Hl'.out).mono ?_; rintro e w' ⟨rfl, rfl⟩))
              go_roundw
              case rel => exact ⟨k + 1, (bl.set q true), by omega, by go_num, rfl, Hl', (heap_keep _ Hh.out), (grow_set hg q (.bool true)).trans (Flow.grow_alloc _ _)⟩
              case measure => simp [intOf]; omega
            · rw [hz2] at hp2
              clear hz2
              have Hl' := Hl
              have Hh := Lib.hid hh
              go_wp2_with (first | (go_at_call 11; refine (has_any _ _ _ Hm.out).mono ?_; rintro e w' ⟨rfl, rfl⟩; rw [Hhas.out]) | (go_at_call 13; refine (take_no _ _ _ Hm.out Hhas.out).mono ?_; rintro e w' ⟨rfl, rfl⟩) | (with_reducible refine wpList_load_row rfl 34 (.tmp 4) rfl w.heap.size rfl 34 (tokCells bl) (0, 0) _ Hh.out Try.underlying34 rfl (tok_size Hl'.out) ?_) | (go_at_call 14; refine (tokens_mark _ _ Hl'.out).mono ?_; rintro e w' ⟨rfl, rfl⟩))
              go_roundw
              case rel => exact ⟨k + 1, bl, by omega, by go_num, rfl, Hl', (heap_keep _ Hh.out), Flow.Grow.trans hg (Flow.grow_alloc _ _)⟩
              case measure => simp [intOf]; omega
        · have Hhas : Hid (Mark.has (Mark.ofBools bl) (P - 20) = false) := Lib.hid (Mark.has_out (by omega))
          by_cases hlo : P < 20
          · clear hin
            have hp2 := Bits.i64_mask z 1 (by omega) 1 (by decide)
            rw [show (2 : Int) ^ 1 = 2 by decide] at hp2
            have hz2 : z % 2 = 0 ∨ z % 2 = 1 := by omega
            rcases hz2 with hz2 | hz2
            · rw [hz2] at hp2
              clear hz2
              have Hl' := Hl
              have Hh := Lib.hid hh
              go_wp2_with (first | (go_at_call 11; refine (has_any _ _ _ Hm.out).mono ?_; rintro e w' ⟨rfl, rfl⟩; rw [Hhas.out]) | (go_at_call 12; refine (put_no _ _ _ Hm.out (.inl (by omega))).mono ?_; rintro e w' ⟨rfl, rfl⟩) | (with_reducible refine wpList_load_row rfl 34 (.tmp 4) rfl w.heap.size rfl 34 (tokCells bl) (0, 0) _ Hh.out Try.underlying34 rfl (tok_size Hl'.out) ?_) | (go_at_call 14; refine (tokens_mark _ _ Hl'.out).mono ?_; rintro e w' ⟨rfl, rfl⟩))
              go_roundw
              case rel => exact ⟨k + 1, bl, by omega, by go_num, rfl, Hl', (heap_keep _ Hh.out), Flow.Grow.trans hg (Flow.grow_alloc _ _)⟩
              case measure => simp [intOf]; omega
            · rw [hz2] at hp2
              clear hz2
              have Hl' := Hl
              have Hh := Lib.hid hh
              go_wp2_with (first | (go_at_call 11; refine (has_any _ _ _ Hm.out).mono ?_; rintro e w' ⟨rfl, rfl⟩; rw [Hhas.out]) | (go_at_call 13; refine (take_no _ _ _ Hm.out Hhas.out).mono ?_; rintro e w' ⟨rfl, rfl⟩) | (with_reducible refine wpList_load_row rfl 34 (.tmp 4) rfl w.heap.size rfl 34 (tokCells bl) (0, 0) _ Hh.out Try.underlying34 rfl (tok_size Hl'.out) ?_) | (go_at_call 14; refine (tokens_mark _ _ Hl'.out).mono ?_; rintro e w' ⟨rfl, rfl⟩))
              go_roundw
              case rel => exact ⟨k + 1, bl, by omega, by go_num, rfl, Hl', (heap_keep _ Hh.out), Flow.Grow.trans hg (Flow.grow_alloc _ _)⟩
              case measure => simp [intOf]; omega
          · have hhi : 84 ≤ P := by omega
            clear hin
            have hp2 := Bits.i64_mask z 1 (by omega) 1 (by decide)
            rw [show (2 : Int) ^ 1 = 2 by decide] at hp2
            have hz2 : z % 2 = 0 ∨ z % 2 = 1 := by omega
            rcases hz2 with hz2 | hz2
            · rw [hz2] at hp2
              clear hz2
              have Hl' := Hl
              have Hh := Lib.hid hh
              go_wp2_with (first | (go_at_call 11; refine (has_any _ _ _ Hm.out).mono ?_; rintro e w' ⟨rfl, rfl⟩; rw [Hhas.out]) | (go_at_call 12; refine (put_no _ _ _ Hm.out (.inl (by omega))).mono ?_; rintro e w' ⟨rfl, rfl⟩) | (with_reducible refine wpList_load_row rfl 34 (.tmp 4) rfl w.heap.size rfl 34 (tokCells bl) (0, 0) _ Hh.out Try.underlying34 rfl (tok_size Hl'.out) ?_) | (go_at_call 14; refine (tokens_mark _ _ Hl'.out).mono ?_; rintro e w' ⟨rfl, rfl⟩))
              go_roundw
              case rel => exact ⟨k + 1, bl, by omega, by go_num, rfl, Hl', (heap_keep _ Hh.out), Flow.Grow.trans hg (Flow.grow_alloc _ _)⟩
              case measure => simp [intOf]; omega
            · rw [hz2] at hp2
              clear hz2
              have Hl' := Hl
              have Hh := Lib.hid hh
              go_wp2_with (first | (go_at_call 11; refine (has_any _ _ _ Hm.out).mono ?_; rintro e w' ⟨rfl, rfl⟩; rw [Hhas.out]) | (go_at_call 13; refine (take_no _ _ _ Hm.out Hhas.out).mono ?_; rintro e w' ⟨rfl, rfl⟩) | (with_reducible refine wpList_load_row rfl 34 (.tmp 4) rfl w.heap.size rfl 34 (tokCells bl) (0, 0) _ Hh.out Try.underlying34 rfl (tok_size Hl'.out) ?_) | (go_at_call 14; refine (tokens_mark _ _ Hl'.out).mono ?_; rintro e w' ⟨rfl, rfl⟩))
              go_roundw
              case rel => exact ⟨k + 1, bl, by omega, by go_num, rfl, Hl', (heap_keep _ Hh.out), Flow.Grow.trans hg (Flow.grow_alloc _ _)⟩
              case measure => simp [intOf]; omega
      · have hk80' : ¬ ((k : Int) < 80) := by omega
        go_wp2_with (go_at_call 15; refine (awake15 _).mono ?_; rintro e w' ⟨rfl, hga⟩)
        go_ret
        exact ⟨rfl, hg.trans hga⟩
    · go_wp2_with (go_at_call 15; refine (awake15 _).mono ?_; rintro e w' ⟨rfl, hga⟩)
      go_ret
      exact ⟨rfl, hg.trans hga⟩
end Go.Proofs.Ytjapakmpnkbemaa

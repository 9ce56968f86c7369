/- strings.Builder: copyCheck, WriteString by their contracts. (After the shelf's own walks: the cut program's copyCheck lacks the branch that panics.) -/
/- strings.Builder: WriteByte, String by their contracts (after the shelf's own walks, turned to this program). -/
/- entity.Open by its contract. -/
import Derived.Test.YtdpkhmfolmcejaaGreatDoorShelf
import Derived.Test.YtdpkhmfolmcejaaGreatDoorMFlow
import Derived.Test.YtdpkhmfolmcejaaGreatDoorUput
import Derived.Outline
import Derived.Lib.Builder
import Derived.Lib.AppendStr
import Derived.Lib.UnsafeStr
import Derived.Lib.Slices
import Derived.Lib.Walk
import Derived.Laws.Externs
import Derived.Laws.BitsLemmas
import Derived.RegionTactic
import Derived.ChangeAlike
namespace Go.Proofs.YtdpkhmfolmcejaaGreatDoor
open Go.RowKit

theorem sizeBuilder : (Tryz.prog.info? 45).map (·.size) = some 2 := by kernel_rfl
theorem liesBuilder : liesAt Tryz.prog Tryz.prog.depth 45 (2 / Tryz.prog.cellsOf 45) 0 45 1 = true := by kernel_rfl
theorem info_byte : (Tryz.prog.info? 5).map (fun i => (i.zero, i.size, i.bytes)) = some (some (.int .u8 0), 1, 1) := by kernel_rfl

set_option maxHeartbeats 1000000 in
set_option maxRecDepth 100000 in
theorem copyCheck_used (b : Nat) (w : World) (h0 : w.cell? ⟨b, 0, none⟩ = some (.pointer (some ⟨b, 0, none⟩))) :
    Calls Tryz.prog 44 #[.pointer (some ⟨b, 0, none⟩)] w fun e w' => e = .returned (.tuple #[]) ∧ w' = w := by
  obtain ⟨j, hj, _⟩ := Option.map_eq_some_iff.1 sizeBuilder
  have hne := Lib.run_neq_ptr_same (P := Tryz.prog) w ⟨b, 0, none⟩ Tryz.underlying43 hj
  go_enter Tryz.func44, Tryz.ntmps44
  go_wp2
  go_end0
  exact ⟨rfl, rfl⟩

set_option maxHeartbeats 1000000 in
set_option maxRecDepth 100000 in
theorem copyCheck_fresh (b : Nat) (w : World) (h0 : w.cell? ⟨b, 0, none⟩ = some (.pointer none)) (hsh : w.shape? b = some (45, 2)) (hfz : w.frozen? ⟨b, 0, none⟩ = false) :
    Calls Tryz.prog 44 #[.pointer (some ⟨b, 0, none⟩)] w fun e w' => e = .returned (.tuple #[]) ∧ w' = w.setCell ⟨b, 0, none⟩ (.pointer (some ⟨b, 0, none⟩)) := by
  obtain ⟨j, hj, hjs⟩ := Option.map_eq_some_iff.1 sizeBuilder
  have hto := Lib.run_to_unsafe (P := Tryz.prog) w ⟨b, 0, none⟩ Tryz.underlying43 Tryz.underlying105 hj (by rw [hjs]; decide) hsh (Nat.zero_lt_succ 1)
  have hfrom := Lib.run_from_unsafe (P := Tryz.prog) w ⟨b, 0, none⟩ Tryz.underlying105 Tryz.underlying43 hj hsh liesBuilder
  have hex := run_callFunc_extern Tryz.func62 (by kernel_rfl) (by kernel_rfl) (by kernel_rfl) (e := Extern.AbiNoEscape.same) (by kernel_rfl)
  have hne := Lib.run_noEscape (P := Tryz.prog) w (.pointer (some ⟨b, 0, none⟩))
  have Hto := Lib.hid hto
  have Hfrom := Lib.hid hfrom
  have Hex := Lib.hid hex
  have Hne := Lib.hid hne
  clear hto hfrom hex hne hj hjs
  go_enter Tryz.func44, Tryz.ntmps44
  go_wp2
  rw [Hto.out]
  simp only [Result.andThen]
  rw [Oper.upon_value]
  go_wp2
  rw [Hex.out]
  rw [Hne.out]
  simp only [Result.andThen]
  rw [Oper.upon_value]
  go_wp2
  rw [Hfrom.out]
  simp only [Result.andThen]
  rw [Oper.upon_value]
  go_wp2
  go_end0
  exact ⟨rfl, rfl⟩

theorem copyCheck_any (B b : Nat) (bs : List Value) (w : World) (h : Lib.IsBuilder 45 5 B b bs w) :
    Calls Tryz.prog 44 #[.pointer (some ⟨b, 0, none⟩)] w fun e w' => e = .returned (.tuple #[]) ∧ (Lib.BuilderAt 45 5 B b (.pointer (some ⟨b, 0, none⟩)) bs w' ∧ Below B w w') := by
  rcases h with h | h
  · refine (copyCheck_fresh b w h.cell0 h.shape h.frozen0).mono ?_
    rintro e w' ⟨rfl, rfl⟩
    exact ⟨rfl, h.used _, (Below.refl B w).setCell (p := ⟨b, 0, none⟩) h.1 _⟩
  · refine (copyCheck_used b w h.cell0).mono ?_
    rintro e w' ⟨rfl, rfl⟩
    exact ⟨rfl, h, Below.refl B _⟩

set_option maxHeartbeats 2000000 in
set_option maxRecDepth 100000 in
theorem writeString_any (B b : Nat) (bs : List Value) (s : ByteArray) (w : World) (h : Lib.IsBuilder 45 5 B b bs w) (hlen : bs.length + s.size ≤ 140737488355328) (hBw : B ≤ w.heap.size) :
    Calls Tryz.prog 29 #[.pointer (some ⟨b, 0, none⟩), .string s] w fun e w' => e = .returned (.tuple #[.int .i64 s.size, .nilIface]) ∧ (Lib.BuilderAt 45 5 B b (.pointer (some ⟨b, 0, none⟩)) (bs ++ Lib.strCells s) w' ∧ Below B w w') := by
  obtain ⟨i0, hi, hz0, hz1, hz2⟩ := info_parts info_byte
  go_enter Tryz.func29, Tryz.ntmps29
  go_wp2_with (go_at_call 44; refine (copyCheck_any B b bs _ h).mono ?_)
  rintro e w1 ⟨rfl, h1, hb1⟩
  obtain ⟨hB, v, hbk, hown, hne⟩ := h1
  have c0 : w1.cell? ⟨b, 0, none⟩ = some (.pointer (some ⟨b, 0, none⟩)) := by rw [Lib.cell_of_heap hbk]; rfl
  have c1 : w1.cell? ⟨b, 1, none⟩ = some v := by rw [Lib.cell_of_heap hbk]; rfl
  go_wp2_with (at_builtin; refine Lib.wpList_append_own_string _ rfl _ _ 42 9 rfl B 5 i0 Tryz.underlying42 Tryz.underlying9 hi hz0 hz1 hz2 _ _ _ rfl hown s rfl ?c3 ?c4 ?c5 ?_)
  case c3 => unfold maxLen; omega
  case c4 => omega
  case c5 => have := hb1.size; omega
  intro v' w2 hown' hgrow _
  have hlt : b < w1.heap.size := by
    rcases Nat.lt_or_ge b w1.heap.size with h' | h'
    · exact h'
    · simp [Array.getElem?_eq_none h'] at hbk
  have hb2 : w2.heap[b]? = some (.cells #[.pointer (some ⟨b, 0, none⟩), v] 45 (0, 0)) := by
    rw [hgrow.block b hlt (fun e => hne e.symm)]
    exact hbk
  have d0 : w2.cell? ⟨b, 0, none⟩ = some (.pointer (some ⟨b, 0, none⟩)) := by rw [Lib.cell_of_heap hb2]; rfl
  have d1 : w2.cell? ⟨b, 1, none⟩ = some v := by rw [Lib.cell_of_heap hb2]; rfl
  have f1 : w2.frozen? ⟨b, 1, none⟩ = false := Lib.frozen_of_heap hb2 1
  obtain ⟨ao, n', cap, rfl⟩ : ∃ ao n' cap, v' = .slice ao n' cap := by
    rcases hown'.2 with ⟨hv, _⟩ | ⟨g, cap, cur, hv, _⟩
    · exact ⟨_, _, _, hv⟩
    · exact ⟨_, _, _, hv⟩
  go_wp2
  go_ret2
  refine ⟨rfl, ?_, ?_⟩
  · exact Lib.BuilderAt.put (T := 45) (e := 5) hB hb2 (bs' := bs ++ Lib.strCells s) (by simpa [Lib.strCells_length] using hown') (by decide)
  · exact (hb1.grown hgrow (by have := hb1.size; omega) (fun k hk => (hown.lt k hk).1)).setCell (p := ⟨b, 1, none⟩) hB _
end Go.Proofs.YtdpkhmfolmcejaaGreatDoor
namespace Go.Proofs.YtdpkhmfolmcejaaGreatDoor
open Go.RowKit
theorem neBuilder : (45 : TypeId) ≠ 5 := by decide
theorem cellsByte : Tryz.prog.cellsOf 5 = 1 := by kernel_rfl

set_option maxHeartbeats 2000000 in
set_option maxRecDepth 100000 in
theorem writeByte_any (B b : Nat) (bs : List Value) (c : Int) (w : World) (h : Lib.IsBuilder 45 5 B b bs w) (hlen : bs.length + 1 ≤ 140737488355328) (hBw : B ≤ w.heap.size) :
    Calls Tryz.prog 45 #[.pointer (some ⟨b, 0, none⟩), .int .u8 c] w fun e w' => e = .returned .nilIface ∧ (Lib.BuilderAt 45 5 B b (.pointer (some ⟨b, 0, none⟩)) (bs ++ [.int .u8 c]) w' ∧ Below B w w') := by
  obtain ⟨i0, hi, hz0, hz1, hz2⟩ := info_parts info_byte
  go_enter Tryz.func45, Tryz.ntmps45
  go_wp2_with (go_at_call 44; refine (copyCheck_any B b bs _ h).mono ?_)
  rintro e w1 ⟨rfl, h1, hb1⟩
  obtain ⟨hB, v, hbk, hown, hne⟩ := h1
  have c0 : w1.cell? ⟨b, 0, none⟩ = some (.pointer (some ⟨b, 0, none⟩)) := by rw [Lib.cell_of_heap hbk]; rfl
  have c1 : w1.cell? ⟨b, 1, none⟩ = some v := by rw [Lib.cell_of_heap hbk]; rfl
  go_wp2_with (at_builtin; refine wpList_append_own _ rfl _ _ 42 rfl B 5 i0 (.int .u8 0) 1 1 Tryz.underlying42 hi hz0 hz1 hz2 rfl (by decide) _ _ _ rfl (hown.alloc _) ⟨w1.heap.size, 0, none⟩ 1 1 [.int .u8 c] rfl rfl ?c1 ?c2 ?c3 ?c4 ?c5 ?_)
  case c1 =>
    intro j u hj
    match j, hj with
    | 0, hj => simp at hj; subst hj; simp [Addr.add]
  case c2 => intro u hu; simp at hu; subst hu; rfl
  case c3 => unfold maxLen; omega
  case c4 => omega
  case c5 => have := hb1.size; simp; omega
  intro v' w2 hown' hgrow _
  have hlt : b < w1.heap.size := by
    rcases Nat.lt_or_ge b w1.heap.size with h' | h'
    · exact h'
    · simp [Array.getElem?_eq_none h'] at hbk
  have hb2 : w2.heap[b]? = some (.cells #[.pointer (some ⟨b, 0, none⟩), v] 45 (0, 0)) := by
    rw [hgrow.block b (by simp; omega) (fun e => hne e.symm), Lib.alloc_old w1 _ b hlt]
    exact hbk
  have d0 : w2.cell? ⟨b, 0, none⟩ = some (.pointer (some ⟨b, 0, none⟩)) := by rw [Lib.cell_of_heap hb2]; rfl
  have d1 : w2.cell? ⟨b, 1, none⟩ = some v := by rw [Lib.cell_of_heap hb2]; rfl
  have f1 : w2.frozen? ⟨b, 1, none⟩ = false := Lib.frozen_of_heap hb2 1
  obtain ⟨g, cap, rfl⟩ : ∃ g cap, v' = .slice (some ⟨g, 0, none⟩) (bs.length + 1) cap := by
    rcases hown'.2 with ⟨_, h0⟩ | ⟨g, cap, cur, hv, _⟩
    · omega
    · exact ⟨g, cap, hv⟩
  go_wp2
  go_ret
  refine ⟨rfl, ?_, ?_⟩
  · exact Lib.BuilderAt.put (T := 45) (e := 5) hB hb2 (bs' := bs ++ [.int .u8 c]) (by simpa using hown') neBuilder
  · exact ((hb1.alloc (by have := hb1.size; omega) _).grown hgrow (by have := hb1.size; simp; omega) (fun k hk => (hown.lt k hk).1)).setCell (p := ⟨b, 1, none⟩) hB _

set_option maxHeartbeats 2000000 in
set_option maxRecDepth 100000 in
theorem builder_String (B b : Nat) (l : List UInt8) (w : World) (h : Lib.IsBuilder 45 5 B b (Lib.byteCells l) w) (h0 : l ≠ []) :
    Calls Tryz.prog 17 #[.pointer (some ⟨b, 0, none⟩)] w fun e w' => e = .returned (.string ⟨l.toArray⟩) ∧ Below B w w' := by
  obtain ⟨p, hB, v, hbk, hown, hne⟩ : ∃ p, Lib.BuilderAt 45 5 B b p (Lib.byteCells l) w := by
    rcases h with h | h
    · exact ⟨_, h⟩
    · exact ⟨_, h⟩
  have hl0 : l.length ≠ 0 := by simpa using h0
  rw [Lib.byteCells_length] at hown
  obtain ⟨g, cap, cur, rfl, hbg, hg, hnc, hcm, hcs, htake⟩ : ∃ g cap cur, v = .slice (some ⟨g, 0, none⟩) l.length cap ∧ B ≤ g ∧ w.heap[g]? = some (.cells cur 5 (0, 0)) ∧ l.length ≤ cap ∧ cap ≤ maxLen ∧ cur.size = cap * 1 ∧ cur.toList.take (l.length * 1) = Lib.byteCells l := by
    rcases hown.2 with ⟨_, hz⟩ | ⟨g, cap, cur, hv, r⟩
    · exact absurd hz hl0
    · exact ⟨g, cap, cur, hv, r⟩
  have c1 : w.drew.cell? ⟨b, 1, none⟩ = some (.slice (some ⟨g, 0, none⟩) l.length cap) := by
    have : w.drew.heap[b]? = some (.cells #[p, .slice (some ⟨g, 0, none⟩) l.length cap] 45 (0, 0)) := hbk
    rw [Lib.cell_of_heap this]; rfl
  have hSD : (Builtin.unsafeSliceData_ #[42] 70 #[.slice (some ⟨g, 0, none⟩) l.length cap]).run Tryz.prog w.drew = .ok (.pointer (some ⟨g, 0, none⟩)) w.drew :=
    Lib.run_unsafeSliceData_row _ _ _ _ _ _ (by omega)
  have hUS : (Builtin.unsafeString_ #[70, 3] 9 #[.pointer (some ⟨g, 0, none⟩), .int .i64 l.length]).run Tryz.prog w.drew = .ok (.string ⟨l.toArray⟩) (w.drew.freeze ⟨g, 0, none⟩ l.length) := by
    refine Lib.run_unsafeString_row w.drew 70 3 9 5 Tryz.underlying70 cellsByte g cur.size (by have hg' : w.drew.heap[g]? = some (.cells cur 5 (0, 0)) := hg; simp [World.shape?, hg']) l h0 (by omega) (by unfold maxLen at hcm; omega) ?_
    intro j x hx
    have := hown.cells (g := g) rfl j (.int .u8 x.toNat) (by simp [Lib.byteCells, hx])
    exact this
  go_enter Tryz.func17, Tryz.ntmps17
  go_wp2
  go_region
  all_goals (go_wp2; go_ret; exact ⟨rfl, Lib.below_freeze (Below.drew (Below.refl B w)) (p := ⟨g, 0, none⟩) hbg _⟩)

set_option maxHeartbeats 2000000 in
set_option maxRecDepth 100000 in
theorem builder_String_nil (B b : Nat) (p : Value) (w : World) (hbk : w.heap[b]? = some (.cells #[p, .slice none 0 0] 45 (0, 0))) :
    Calls Tryz.prog 17 #[.pointer (some ⟨b, 0, none⟩)] w fun e w' => e = .returned (.string ⟨#[]⟩) ∧ Below B w w' := by
  have hUS := fun (W : World) (q : Option Addr) => Lib.run_unsafeString_none (P := Tryz.prog) W 70 3 9 q
  have c1 : w.drew.cell? ⟨b, 1, none⟩ = some (.slice none 0 0) := by
    have : w.drew.heap[b]? = some (.cells #[p, .slice none 0 0] 45 (0, 0)) := hbk
    rw [Lib.cell_of_heap this]; rfl
  have hSD : (Builtin.unsafeSliceData_ #[42] 70 #[.slice none 0 0]).run Tryz.prog w.drew = .ok (.pointer none) w.drew := rfl
  go_enter Tryz.func17, Tryz.ntmps17
  go_wp2
  go_region
  all_goals (go_wp2; go_ret; exact ⟨rfl, Below.drew (Below.refl B w)⟩)

set_option maxHeartbeats 2000000 in
set_option maxRecDepth 100000 in
theorem builder_String_noroom (B b g : Nat) (p : Value) (cur : Array Value) (w : World) (hBw : B ≤ w.heap.size) (hbk : w.heap[b]? = some (.cells #[p, .slice (some ⟨g, 0, none⟩) 0 0] 45 (0, 0))) (hg : w.heap[g]? = some (.cells cur 5 (0, 0))) :
    Calls Tryz.prog 17 #[.pointer (some ⟨b, 0, none⟩)] w fun e w' => e = .returned (.string ⟨#[]⟩) ∧ Below B w w' := by
  have hUS := fun (W : World) (q : Option Addr) => Lib.run_unsafeString_none (P := Tryz.prog) W 70 3 9 q
  have hlt : b < w.heap.size := by
    rcases Nat.lt_or_ge b w.heap.size with h' | h'
    · exact h'
    · simp [Array.getElem?_eq_none h'] at hbk
  have c1 : w.drew.cell? ⟨b, 1, none⟩ = some (.slice (some ⟨g, 0, none⟩) 0 0) := by
    have : w.drew.heap[b]? = some (.cells #[p, .slice (some ⟨g, 0, none⟩) 0 0] 45 (0, 0)) := hbk
    rw [Lib.cell_of_heap this]; rfl
  have hSD : (Builtin.unsafeSliceData_ #[42] 70 #[.slice (some ⟨g, 0, none⟩) 0 0]).run Tryz.prog w.drew = .ok (.pointer (some ⟨w.drew.heap.size, 0, none⟩)) (w.drew.alloc (.view ⟨g, 0, none⟩ 5)) :=
    Lib.run_unsafeSliceData_zero w.drew _ _ 5 Tryz.underlying70 ⟨g, 0, none⟩ 0 (5, cur.size) (by have hg' : w.drew.heap[g]? = some (.cells cur 5 (0, 0)) := hg; simp [World.shape?, hg'])
  have c2 : (w.drew.alloc (.view ⟨g, 0, none⟩ 5)).cell? ⟨b, 1, none⟩ = some (.slice (some ⟨g, 0, none⟩) 0 0) := by
    have : (w.drew.alloc (.view ⟨g, 0, none⟩ 5)).heap[b]? = _ := (Lib.alloc_old w.drew _ b hlt).trans hbk
    rw [Lib.cell_of_heap this]; rfl
  have c3 : (w.alloc (.view ⟨g, 0, none⟩ 5)).drew.cell? ⟨b, 1, none⟩ = some (.slice (some ⟨g, 0, none⟩) 0 0) := c2
  have c0 : w.cell? ⟨b, 1, none⟩ = some (.slice (some ⟨g, 0, none⟩) 0 0) := c1
  go_enter Tryz.func17, Tryz.ntmps17
  go_wp2
  go_region
  all_goals (go_wp2; go_ret; exact ⟨rfl, (Below.drew (Below.refl B w)).alloc hBw _⟩)

set_option maxHeartbeats 2000000 in
set_option maxRecDepth 100000 in
theorem builder_String_room (B b g cap : Nat) (p : Value) (w : World) (hc0 : cap ≠ 0) (hbk : w.heap[b]? = some (.cells #[p, .slice (some ⟨g, 0, none⟩) 0 cap] 45 (0, 0))) :
    Calls Tryz.prog 17 #[.pointer (some ⟨b, 0, none⟩)] w fun e w' => e = .returned (.string ⟨#[]⟩) ∧ Below B w w' := by
  have hUS := fun (W : World) (q : Option Addr) => Lib.run_unsafeString_none (P := Tryz.prog) W 70 3 9 q
  have c1 : w.drew.cell? ⟨b, 1, none⟩ = some (.slice (some ⟨g, 0, none⟩) 0 cap) := by
    have : w.drew.heap[b]? = some (.cells #[p, .slice (some ⟨g, 0, none⟩) 0 cap] 45 (0, 0)) := hbk
    rw [Lib.cell_of_heap this]; rfl
  have hSD : (Builtin.unsafeSliceData_ #[42] 70 #[.slice (some ⟨g, 0, none⟩) 0 cap]).run Tryz.prog w.drew = .ok (.pointer (some ⟨g, 0, none⟩)) w.drew :=
    Lib.run_unsafeSliceData_row _ _ _ _ _ _ hc0
  clear hc0
  go_enter Tryz.func17, Tryz.ntmps17
  go_wp2
  go_region
  all_goals (go_wp2; go_ret; exact ⟨rfl, Below.drew (Below.refl B w)⟩)

theorem builder_String_any (B b : Nat) (l : List UInt8) (w : World) (h : Lib.IsBuilder 45 5 B b (Lib.byteCells l) w) (hBw : B ≤ w.heap.size) :
    Calls Tryz.prog 17 #[.pointer (some ⟨b, 0, none⟩)] w fun e w' => e = .returned (.string (str l)) ∧ Below B w w' := by
  cases l with
  | nil =>
    obtain ⟨p, hB, v, hbk, hown, hne⟩ : ∃ p, Lib.BuilderAt 45 5 B b p [] w := by
      rcases h with h | h
      · exact ⟨_, h⟩
      · exact ⟨_, h⟩
    rcases hown.2 with ⟨rfl, _⟩ | ⟨g, cap, cur, rfl, hbg, hg, _, _, _, _⟩
    · exact builder_String_nil B b p w hbk
    · by_cases hc0 : cap = 0
      · subst hc0
        exact builder_String_noroom B b g p cur w hBw hbk hg
      · exact builder_String_room B b g cap p w hc0 hbk
  | cons x r => exact builder_String B b (x :: r) w h (by simp)
end Go.Proofs.YtdpkhmfolmcejaaGreatDoor
namespace Go.Proofs.YtdpkhmfolmcejaaGreatDoor
open Go.RowKit
namespace Xm
theorem idxB_lt : ∀ (l : List UInt8) (c : UInt8), -1 ≤ Lib.indexByte l c ∧ Lib.indexByte l c < l.length
  | [], c => by simp [Lib.indexByte]
  | b :: l, c => by
    have := idxB_lt l c
    unfold Lib.indexByte
    simp only [List.length_cons]
    split
    · omega
    · split <;> omega
theorem idxB_get : ∀ (l : List UInt8) (c : UInt8) (n : Nat), Lib.indexByte l c = (n : Int) → l[n]? = some c
  | [], c, n, h => by simp only [Lib.indexByte] at h; omega
  | b :: l, c, n, h => by
    unfold Lib.indexByte at h
    split at h
    · rename_i hb
      obtain rfl : n = 0 := by omega
      have : b = c := by simpa using hb
      rw [this]; rfl
    · have hl := idxB_lt l c
      split at h
      · omega
      · rename_i h1
        have h1' : Lib.indexByte l c ≠ -1 := by simpa using h1
        obtain ⟨m, rfl⟩ : ∃ m, n = m + 1 := ⟨n - 1, by omega⟩
        simpa using idxB_get l c m (by omega)
/-- how far it is to a byte, from a place on; -1 -/
def far (s : ByteArray) (k : Nat) (c : UInt8) : Int := Lib.indexByte (cut s k s.size).data.toList c
theorem far_bd {s : ByteArray} {k : Nat} (hk : k ≤ s.size) (c : UInt8) : -1 ≤ far s k c ∧ (0 ≤ far s k c → k + (far s k c).toNat < s.size) := by
  have h := idxB_lt (cut s k s.size).data.toList c
  have e : (cut s k s.size).data.toList.length = s.size - k := by
    have := cut_size (s := s) (a := k) (b := s.size) (Nat.le_refl _)
    rw [Array.length_toList]
    exact this
  rw [e] at h
  unfold far
  omega
theorem far_at {s : ByteArray} {k n : Nat} {c : UInt8} (hk : k ≤ s.size) (h : far s k c = (n : Int)) : bt s (k + n) = (c.toNat : Int) := by
  have hb := (far_bd hk c).2 (by rw [h]; omega)
  rw [h, Int.toNat_natCast] at hb
  have hg := idxB_get _ _ _ h
  rw [← cut_bt (s := s) (a := k) (b := s.size) (k := n) (Nat.le_refl _) (by omega)]
  have hz := cut_size (s := s) (a := k) (b := s.size) (Nat.le_refl _)
  unfold bt
  rw [dif_pos (by omega)]
  have : (cut s k s.size)[n]'(by omega) = c := by
    rw [Array.getElem?_toList] at hg
    exact (Array.getElem?_eq_some_iff.1 hg).2
  rw [this]
/-- a text with its names opened, from a place on: the text, and -1; or the place of the first & that is none's -/
def openS (s : ByteArray) (k : Nat) (acc : List UInt8) : List UInt8 × Int :=
  if h : k < s.size then
    if bt s k = 38 then
      if _hf : far s k 59 < 0 then ([], k)
      else if one (cut s (k + 1) (k + (far s k 59).toNat)) = 0 then ([], k)
      else openS s (k + (far s k 59).toNat + 1) (acc ++ put (one (cut s (k + 1) (k + (far s k 59).toNat))))
    else openS s (k + 1) (acc ++ [UInt8.ofNat (bt s k).toNat])
  else (acc, -1)
  termination_by s.size - k
  decreasing_by
    · have := (far_bd (Nat.le_of_lt h) 59).2 (by omega); omega
    · omega
end Xm
theorem run_cut (s : ByteArray) (a b : Nat) (h1 : a ≤ b) (h2 : b ≤ s.size) (x y : Int) (hx : x = a) (hy : y = b) (w : World) :
    (Instr.slice 9 (.string s) (some (.int .i64 x)) (some (.int .i64 y)) none).run Tryz.prog w = .ok (.string (s.extract a b)) w := by
  subst hx hy
  simp [Instr.slice, run_underlying Tryz.underlying9, Sem.run_bind, Instr.sliceBounds, Instr.sliceBound, asIntOf, h1, h2]
theorem bat_grow {T e : TypeId} {B b : Nat} {p : Value} {bs : List Value} {w w' : World} (h : Lib.BuilderAt T e B b p bs w) (g : Flow.Grow w w') : Lib.BuilderAt T e B b p bs w' := by
  have hlt := h.lt
  obtain ⟨hB, v, hb, hown, hne⟩ := h
  exact ⟨hB, v, by rw [g.block b hlt (by simp)]; exact hb, hown.kept (row := none) g (by cases h : v.ownBlock with | none => exact .inl rfl | some b => exact .inr (by simp)), hne⟩
theorem isB_grow {T e : TypeId} {B b : Nat} {bs : List Value} {w w' : World} (h : Lib.IsBuilder T e B b bs w) (g : Flow.Grow w w') : Lib.IsBuilder T e B b bs w' := h.imp (fun h => bat_grow h g) (fun h => bat_grow h g)
theorem strCells_str (l : List UInt8) : Lib.strCells (str l) = Lib.byteCells l := rfl
set_option maxRecDepth 100000 in
set_option maxHeartbeats 2000000 in
theorem open_any (s : ByteArray) (w : World) (hT : Xm.Tab w) (hs : s.size ≤ 1000000000) : Calls Tryz.prog 89 #[.string s] w fun e w' => e = .returned (.tuple #[.string (str (Xm.openS s 0 []).1), .int .i64 (Xm.openS s 0 []).2]) ∧ Flow.Grow w w' := by
  have HT := Lib.hid hT
  clear hT
  have HB0 : Hid (Lib.IsBuilder 45 5 w.heap.size w.heap.size [] (w.alloc (.cells #[.pointer none, .slice none 0 0] 45))) := Lib.hid (Lib.fresh_isBuilder _ _ w)
  have HG0 : Hid (Below w.heap.size w (w.alloc (.cells #[.pointer none, .slice none 0 0] 45))) := Lib.hid ((Below.refl _ _).alloc (Nat.le_refl _) _)
  go_enter Tryz.func89, Tryz.ntmps89
  go_wp2
  go_loopw [5] (fun i wr => ∃ (k : Nat) (acc : List UInt8), k ≤ s.size ∧ i = .int .i64 k ∧ acc.length ≤ 4 * k ∧ Hid (Lib.IsBuilder 45 5 w.heap.size w.heap.size (Lib.byteCells acc) wr) ∧ Hid (Below w.heap.size w wr) ∧ Hid (Xm.openS s 0 [] = Xm.openS s k acc)) (fun i _ => s.size - (intOf i).toNat)
  case atStart => exact ⟨0, [], by omega, rfl, by simp, HB0, HG0, Lib.hid rfl⟩
  case round =>
    clear HB0 HG0
    obtain ⟨k, acc, hk, rfl, hal, HB, HG, HO⟩ := hrel
    by_cases hlt : k < s.size
    · have Hb := Lib.hid (Xm.bt_eq hlt)
      by_cases h38 : Xm.bt s k = 38
      · have g : (Xm.bt s k != 38) = false := by simpa using h38
        have hf := Xm.far_bd hk 59
        obtain ⟨f, hfe⟩ : ∃ f, f = Xm.far s k 59 := ⟨_, rfl⟩
        rw [← hfe] at hf
        have Hf := Lib.hid hfe
        have hff : Lib.indexByte (s.extract k s.size).data.toList 59 = f := hfe.symm
        have HfC := Lib.hid hff
        clear hfe hff
        by_cases hf0 : f < 0
        · have HE : Hid (Xm.openS s 0 [] = ([], (k : Int))) := Lib.hid (by rw [HO.out, Xm.openS, dif_pos hlt, if_pos h38, dif_pos (by rw [← Hf.out]; exact hf0)])
          clear h38 hf
          go_wp2_with (first | rw [Hb.out] | (go_at_call 71; refine (Tryz.strings_IndexByte _ _ _).mono ?_; rintro e w' ⟨rfl, rfl⟩; rw [show (Int.toNat 59).toUInt8 = (59 : UInt8) from rfl, HfC.out]))
          go_ret2
          exact ⟨by rw [HE.out]; rfl, Flow.grow_below HG.out⟩
        · obtain ⟨n, rfl⟩ := Int.eq_ofNat_of_zero_le (Int.not_lt.1 hf0)
          have hn : k + n < s.size := by have := hf.2 (by omega); omega
          have hn1 : 1 ≤ n := by
            have h1 := Xm.far_at hk Hf.out.symm
            rcases Nat.eq_zero_or_pos n with h0 | h0
            · subst h0; rw [Nat.add_zero, h38] at h1; exact absurd h1 (by decide)
            · exact h0
          obtain ⟨r, hr⟩ : ∃ r, r = Xm.one (s.extract (k + 1) (k + n)) := ⟨_, rfl⟩
          have Hr := Lib.hid hr
          clear hr
          have hxm : (s.extract (k + 1) (k + n)).size ≤ 9223372036854775807 := by simp; omega
          have Hxm := Lib.hid hxm
          have Hle := Lib.hid (Xm.put_len r)
          have HP : Hid (Xm.far s k 59 = (n : Int)) := Lib.hid Hf.out.symm
          clear hxm hf hf0 Hf
          have en : (0 : Int) ≤ n := by omega
          by_cases hr0 : r = 0
          · have HE : Hid (Xm.openS s 0 [] = ([], (k : Int))) := Lib.hid (by
              rw [HO.out, Xm.openS, dif_pos hlt, if_pos h38, dif_neg (by rw [HP.out]; omega), if_pos]
              rw [HP.out, Int.toNat_natCast]
              exact Hr.out.symm.trans hr0)
            subst hr0
            have hsl := run_cut s (k + 1) (k + n) (by omega) (by omega) ((k : Int) + 1) ((k : Int) + n) (by omega) (by omega)
            clear h38
            go_wp2_with (first | rw [Hb.out] | (go_at_call 71; refine (Tryz.strings_IndexByte _ _ _).mono ?_; rintro e w' ⟨rfl, rfl⟩; rw [show (Int.toNat 59).toUInt8 = (59 : UInt8) from rfl, HfC.out]) | (go_at_call 95; refine (one_any _ _ (HT.out.grow (Flow.grow_below HG.out)) Hxm.out).mono ?_; rintro e w' ⟨rfl, hg1⟩; rw [← Hr.out]))
            go_ret2
            exact ⟨by rw [HE.out]; rfl, (Flow.grow_below HG.out).trans hg1⟩
          · have HE : Hid (Xm.openS s 0 [] = Xm.openS s (k + n + 1) (acc ++ Xm.put r)) := Lib.hid (by
              rw [HO.out, Xm.openS, dif_pos hlt, if_pos h38, dif_neg (by rw [HP.out]; omega), if_neg]
              · rw [HP.out, Int.toNat_natCast]
                show _ = Xm.openS s (k + n + 1) (acc ++ Xm.put r)
                rw [Hr.out]; rfl
              · rw [HP.out, Int.toNat_natCast]
                exact fun h => hr0 (Hr.out.trans h))
            have g2 : (r == 0) = false := by simpa using hr0
            have hlen : (Lib.byteCells acc).length + (str (Xm.put r)).size ≤ 140737488355328 := by rw [Lib.byteCells_length, str_size]; have := Hle.out; omega
            have Hlen := Lib.hid hlen
            have Hsz := Lib.hid HG.out.size
            have hsl := run_cut s (k + 1) (k + n) (by omega) (by omega) ((k : Int) + 1) ((k : Int) + n) (by omega) (by omega)
            clear h38 hr0 hlen
            go_wp2_with (first | rw [Hb.out] | (go_at_call 71; refine (Tryz.strings_IndexByte _ _ _).mono ?_; rintro e w' ⟨rfl, rfl⟩; rw [show (Int.toNat 59).toUInt8 = (59 : UInt8) from rfl, HfC.out]) | (go_at_call 95; refine (one_any _ _ (HT.out.grow (Flow.grow_below HG.out)) Hxm.out).mono ?_; rintro e w' ⟨rfl, hg1⟩; rw [← Hr.out]) | (go_at_call 96; refine (uput_any _ _).mono ?_; rintro e w' ⟨rfl, hg2⟩))
            have HB1 := Lib.hid (isB_grow HB.out (hg1.trans hg2))
            have HG1 := Lib.hid (HG.out.trans ((hg1.trans hg2).below HG.out.size))
            have Hsz1 := Lib.hid HG1.out.size
            clear hg1 hg2 hsl g g2 HB HG Hsz
            go_wp2_with (go_at_call 29; refine (writeString_any _ _ _ _ _ HB1.out Hlen.out Hsz1.out).mono ?_; rintro e w' ⟨rfl, hb1, hg1⟩)
            go_roundw
            case rel => exact ⟨k + n + 1, acc ++ Xm.put r, by omega, by go_num, by rw [List.length_append]; have := Hle.out; omega, Lib.hid (by rw [strCells_str, ← Lib.byteCells_append] at hb1; exact .inr hb1), Lib.hid (HG1.out.trans hg1), HE⟩
            case measure => simp [intOf]; omega
      · have g : (Xm.bt s k != 38) = true := by simpa using h38
        have hbd := Xm.bt_bd s k
        have HE : Hid (Xm.openS s 0 [] = Xm.openS s (k + 1) (acc ++ [UInt8.ofNat (Xm.bt s k).toNat])) := Lib.hid (by rw [HO.out, Xm.openS, dif_pos hlt, if_neg h38])
        have HC : Hid (Lib.byteCells acc ++ [.int .u8 (Xm.bt s k)] = Lib.byteCells (acc ++ [UInt8.ofNat (Xm.bt s k).toNat])) := Lib.hid (by
          rw [Lib.byteCells_append]
          congr 1
          have : (Xm.bt s k).toNat < 256 := by omega
          simp [Lib.byteCells, UInt8.toNat_ofNat', Nat.mod_eq_of_lt this]
          omega)
        have hlen : (Lib.byteCells acc).length + 1 ≤ 140737488355328 := by rw [Lib.byteCells_length]; omega
        have Hlen := Lib.hid hlen
        have Hsz := Lib.hid HG.out.size
        clear h38 hlen
        go_wp2_with (first | rw [Hb.out] | (go_at_call 45; refine (writeByte_any _ _ _ _ _ HB.out Hlen.out Hsz.out).mono ?_; rintro e w' ⟨rfl, hb1, hg1⟩))
        go_roundw
        case rel => exact ⟨k + 1, _, by omega, by go_num, by rw [List.length_append, List.length_singleton]; omega, Lib.hid (by rw [HC.out] at hb1; exact .inr hb1), Lib.hid (HG.out.trans hg1), HE⟩
        case measure => simp [intOf]; omega
    · have HE : Hid (Xm.openS s 0 [] = (acc, -1)) := Lib.hid (by rw [HO.out, Xm.openS, dif_neg hlt])
      have Hsz := Lib.hid HG.out.size
      go_wp2_with (go_at_call 17; refine (builder_String_any _ _ _ _ HB.out Hsz.out).mono ?_; rintro e w' ⟨rfl, hg1⟩)
      go_ret2
      exact ⟨by rw [HE.out]; rfl, Flow.grow_below (HG.out.trans hg1)⟩
end Go.Proofs.YtdpkhmfolmcejaaGreatDoor

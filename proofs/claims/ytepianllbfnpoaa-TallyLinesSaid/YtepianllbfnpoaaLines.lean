/- tally.Lines by its contract. -/
import Derived.Test.YtepianllbfnpoaaLab
import Derived.Test.YtepianllbfnpoaaShow
import Derived.Test.YtepianllbfnpoaaDec
import Derived.Test.YtepianllbfnpoaaBuilder
import Derived.Deep.DeepCutAuto
import Derived.BigRegion
import Derived.Deep.RegionWith
namespace Go.Proofs.Ytepianllbfnpoaa
open Go.RowKit
theorem bat_grow {T e : TypeId} {B b : Nat} {p : Value} {bs : List Value} {w w' : World} (h : Lib.BuilderAt T e B b p bs w) (g : Flow.Grow w w') : Lib.BuilderAt T e B b p bs w' := by
  have hlt := h.lt
  obtain ⟨hB, v, hb, hown, hne⟩ := h
  exact ⟨hB, v, by rw [g.block b hlt (by simp)]; exact hb, hown.kept (row := none) g (by cases h : v.ownBlock with | none => exact .inl rfl | some b => exact .inr (by simp)), hne⟩
theorem isB_grow {T e : TypeId} {B b : Nat} {bs : List Value} {w w' : World} (h : Lib.IsBuilder T e B b bs w) (g : Flow.Grow w w') : Lib.IsBuilder T e B b bs w' := h.imp (fun h => bat_grow h g) (fun h => bat_grow h g)
theorem below_grow {W w w' : World} {B : Nat} (h : Below B w w') (g : Flow.Grow W w) (hB : W.heap.size ≤ B) : Flow.Grow W w' :=
  ⟨h.os.trans g.os, h.tape.trans g.tape, h.output.trans g.output, Nat.le_trans g.size h.size, fun k hk hn => (h.block k (by omega)).trans (g.block k hk hn)⟩
theorem grow_below' {W w w' : World} {B : Nat} (h : Below B W w) (g : Flow.Grow w w') (hB : B ≤ w.heap.size) : Below B W w' :=
  h.trans ⟨g.os, g.tape, g.output, g.size, fun k hk => g.block k (by omega) (by simp)⟩
theorem byteCells_app (a b : List UInt8) : Lib.byteCells (a ++ b) = Lib.byteCells a ++ Lib.strCells (str b) := by
  show _ = Lib.byteCells a ++ Lib.byteCells b
  simp [Lib.byteCells]
theorem Xm2.cell_grow {w w' : World} {a : Addr} {v : Value} (g : Flow.Grow w w') (h : w.cell? a = some v) : w'.cell? a = some v := by
  have hlt := World.block_lt_of_cell? w a h
  unfold World.cell? at h ⊢
  rw [g.block a.block hlt (by simp)]
  exact h
namespace Tal
def lab (i : Nat) : Int × Int × Int := Ref23.labs.getD i (0, 0, 0)
def pas : List (List UInt8) := [[112, 97], [112, 98], [112, 99]]
def mss : List (List UInt8) := [[109], [110]]
def sho (i : Nat) : List UInt8 := Alpha.show3 pas mss (lab i).1 (lab i).2.1 (lab i).2.2
/-- what a move is told by -/
def cell (z : Int) (i : Nat) : List UInt8 := if 0 ≤ z then 32 :: (sho i ++ 61 :: Dec.dec z.toNat) else []
def cells (row : List Int) : Nat → List UInt8
  | 0 => []
  | i + 1 => cells row i ++ cell (row.getD i 0) i
def line (L : Nat) (fin : List Bool) (rows : List (List Int)) (s : Nat) : List UInt8 := Dec.dec s ++ (if fin.getD s false then [42] else []) ++ cells (rows.getD s []) L ++ [10]
def lines (L : Nat) (fin : List Bool) (rows : List (List Int)) : Nat → List UInt8
  | 0 => []
  | s + 1 => lines L fin rows s ++ line L fin rows s
theorem sho_len : ∀ i, i < 5 → (sho i).length = 7 := by
  intro i hi
  have : i = 0 ∨ i = 1 ∨ i = 2 ∨ i = 3 ∨ i = 4 := by omega
  rcases this with rfl | rfl | rfl | rfl | rfl <;> rfl
/-- moves of few states -/
structure Few (L : Nat) (fin : List Bool) (rows : List (List Int)) : Prop where
  hL : L ≤ 4
  hk : rows.length ≤ 8
  hf : fin.length = rows.length
  hr : ∀ l ∈ rows, l.length = L ∧ ∀ z ∈ l, -1 ≤ z ∧ z < 8
theorem dec_one {z : Int} (h : z < 8) : (Dec.dec z.toNat).length = 1 := by rw [Dec.dec_lo (by omega)]; rfl
theorem cell_len {z : Int} (h : z < 8) {i : Nat} (hi : i < 5) : (cell z i).length ≤ 10 := by
  unfold cell
  split
  · simp only [List.length_cons, List.length_append, sho_len i hi, dec_one h]; omega
  · exact Nat.zero_le _
theorem cells_len {row : List Int} (h : ∀ i, row.getD i 0 < 8) : ∀ i, i ≤ 5 → (cells row i).length ≤ 10 * i
  | 0, _ => Nat.le_refl _
  | i + 1, hi => by
    have h1 := cells_len h i (by omega)
    have h2 := cell_len (h i) (i := i) (by omega)
    rw [cells, List.length_append]
    omega
theorem Few.at {L : Nat} {fin : List Bool} {rows : List (List Int)} (h : Few L fin rows) {s : Nat} (hs : s < rows.length) : (rows.getD s []).length = L ∧ ∀ i, -1 ≤ (rows.getD s []).getD i 0 ∧ (rows.getD s []).getD i 0 < 8 := by
  have e : rows.getD s [] = rows[s] := by simp [hs]
  rw [e]
  obtain ⟨h1, h2⟩ := h.hr _ (List.getElem_mem hs)
  refine ⟨h1, fun i => ?_⟩
  by_cases hi : i < (rows[s]).length
  · rw [List.getD_eq_getElem?_getD, List.getElem?_eq_getElem hi]
    exact h2 _ (List.getElem_mem hi)
  · rw [List.getD_eq_getElem?_getD, List.getElem?_eq_none (by omega)]
    show -1 ≤ (0 : Int) ∧ (0 : Int) < 8
    omega
theorem line_len {L : Nat} {fin : List Bool} {rows : List (List Int)} (h : Few L fin rows) {s : Nat} (hs : s < rows.length) : (line L fin rows s).length ≤ 50 := by
  have h1 := cells_len (row := rows.getD s []) (fun i => ((h.at hs).2 i).2) L (by have := h.hL; omega)
  have h2 := h.hL
  have h3 := h.hk
  have h4 : (Dec.dec s).length = 1 := by rw [Dec.dec_lo (by omega)]; rfl
  unfold line
  simp only [List.length_append, h4, List.length_cons, List.length_nil]
  split <;> simp only [List.length_cons, List.length_nil] <;> omega
theorem lines_len {L : Nat} {fin : List Bool} {rows : List (List Int)} (h : Few L fin rows) : ∀ s, s ≤ rows.length → (lines L fin rows s).length ≤ 50 * s
  | 0, _ => Nat.le_refl _
  | s + 1, hs => by
    have h1 := lines_len h s (by omega)
    have h2 := line_len h (s := s) (by omega)
    rw [lines, List.length_append]
    omega
/-- an interaction's cells -/
theorem lab_cells {w : World} {a : Option Addr} {n cap L : Nat} (h : Ref23.LabAt w (.slice a n cap) L) (hL : L ≤ 5) {i : Nat} (hi : i < L) : ∃ b off, a = some ⟨b, off, none⟩ ∧ n = L ∧ b < w.heap.size ∧
    w.cell? ⟨b, off + i * 3, none⟩ = some (.int .i64 (lab i).1) ∧ w.cell? ⟨b, off + i * 3 + 1, none⟩ = some (.int .i64 (lab i).2.1) ∧ w.cell? ⟨b, off + i * 3 + 2, none⟩ = some (.int .i64 (lab i).2.2) := by
  have hn := h.len
  obtain ⟨a', cap', e, hl, _, hc⟩ := h
  cases e
  rw [List.length_take] at hc
  have h15 : Ref23.labV.length = 15 := rfl
  obtain ⟨b, off, rfl, hb, c0⟩ := hc (i * 3) (by rw [h15]; omega)
  obtain ⟨_, _, e1, _, c1⟩ := hc (i * 3 + 1) (by rw [h15]; omega)
  cases e1
  obtain ⟨_, _, e2, _, c2⟩ := hc (i * 3 + 2) (by rw [h15]; omega)
  cases e2
  rw [List.getElem?_take_of_lt (by omega)] at c0 c1 c2
  refine ⟨b, off, rfl, hn.1, hb, c0.trans ?_, c1.trans ?_, c2.trans ?_⟩
  all_goals
    have : i = 0 ∨ i = 1 ∨ i = 2 ∨ i = 3 ∨ i = 4 := by omega
    rcases this with rfl | rfl | rfl | rfl | rfl <;> rfl
end Tal
set_option maxRecDepth 100000 in
set_option maxHeartbeats 4000000 in
theorem lines_any (vp vm vl vf vd : Value) (L : Nat) (start : Int) (fin : List Bool) (rows : List (List Int)) (W : World) (hp : Strs W vp Tal.pas) (hm : Strs W vm Tal.mss) (hl : Ref23.LabAt W vl L) (hF : Tal.Few L fin rows) (hd : DfaAt W #[.int .i64 L, .int .i64 start, vf, vd] L start fin rows) (hmay : Det.may L start fin.length rows = true) :
    Calls Try.prog 12 #[.agg #[vp, vm, .slice none 0 0, .slice none 0 0], vl, .agg #[.int .i64 L, .int .i64 start, vf, vd]] W fun e w' => e = .returned (.string (str (Tal.lines L fin rows rows.length))) ∧ Flow.Grow W w' := by
  have HP := Lib.hid hp
  have HM := Lib.hid hm
  have HL := Lib.hid hl
  have HF := Lib.hid hF
  have HD := Lib.hid hd
  have HY := Lib.hid hmay
  obtain ⟨⟨vf', vd', hv, hvf, hvd⟩, _, _, _⟩ := hd
  injection hv with hv
  simp only [List.cons.injEq, true_and, and_true] at hv
  obtain ⟨rfl, rfl⟩ := hv
  obtain ⟨fa, fc, rfl, hf2⟩ := id hvf
  obtain ⟨da, dc, rfl⟩ := hvd.val
  obtain ⟨la, lc, rfl, hl2⟩ := id hl
  obtain ⟨pa, pc, hpv⟩ := hp.val
  replace hpv : vp = .slice pa 3 pc := hpv
  subst hpv
  obtain ⟨ma, mc, hmv⟩ := hm.val
  replace hmv : vm = .slice ma 2 mc := hmv
  subst hmv
  have HVF := Lib.hid hvf
  have HVD := Lib.hid hvd
  clear hp hm hl hF hvf hvd hf2 hl2
  obtain ⟨k, hk⟩ : ∃ k, k = rows.length := ⟨_, rfl⟩
  have HK := Lib.hid hk
  have hk8 : k ≤ 8 := by rw [hk]; exact HF.out.hk
  have hL4 := HF.out.hL
  have hfk : fin.length = k := by rw [hk]; exact HF.out.hf
  have Hfk := Lib.hid hfk
  rw [hfk] at HD HVF HY ⊢
  rw [← hk] at HD HVD ⊢
  clear hk hmay hfk
  have HMAY := Lib.hid (may_any #[.int .i64 L, .int .i64 start, .slice fa k fc, .slice da k dc] L start fin rows)
  go_enter Try.func12, Try.ntmps12
  go_upto_region 2 with fail
  obtain ⟨X, hX⟩ : ∃ X, X = W.heap.size := ⟨_, rfl⟩
  have HX := Lib.hid hX
  have RG : Hid (((((W.alloc (.cells #[.slice pa 3 pc, .slice ma 2 mc, .slice none 0 0, .slice none 0 0] 35)).alloc (.cells #[.int .i64 L, .int .i64 start, .slice fa k fc, .slice da k dc] 27)).alloc (.cells #[.pointer none, .slice none 0 0] 114))).heap[W.heap.size]? = some (.cells #[.slice pa 3 pc, .slice ma 2 mc, .slice none 0 0, .slice none 0 0] 35 (0, 0))) := Lib.hid (by
    rw [Below.heap_alloc _ _ _ (by simp; omega), Below.heap_alloc _ _ _ (by simp)]; exact heap_alloc_new _ _)
  have RD : Hid (((((W.alloc (.cells #[.slice pa 3 pc, .slice ma 2 mc, .slice none 0 0, .slice none 0 0] 35)).alloc (.cells #[.int .i64 L, .int .i64 start, .slice fa k fc, .slice da k dc] 27)).alloc (.cells #[.pointer none, .slice none 0 0] 114))).heap[W.heap.size + 1]? = some (.cells #[.int .i64 L, .int .i64 start, .slice fa k fc, .slice da k dc] 27 (0, 0))) := Lib.hid (by
    rw [Below.heap_alloc _ _ _ (by simp)]
    simpa using heap_alloc_new (W.alloc (.cells #[.slice pa 3 pc, .slice ma 2 mc, .slice none 0 0, .slice none 0 0] 35)) (.cells #[.int .i64 L, .int .i64 start, .slice fa k fc, .slice da k dc] 27))
  have RB : Hid (Lib.IsBuilder 114 5 (W.heap.size + 1 + 1) (W.heap.size + 1 + 1) (Lib.byteCells []) (((W.alloc (.cells #[.slice pa 3 pc, .slice ma 2 mc, .slice none 0 0, .slice none 0 0] 35)).alloc (.cells #[.int .i64 L, .int .i64 start, .slice fa k fc, .slice da k dc] 27)).alloc (.cells #[.pointer none, .slice none 0 0] 114))) := Lib.hid (by
    have h := Lib.fresh_isBuilder 114 5 ((W.alloc (.cells #[.slice pa 3 pc, .slice ma 2 mc, .slice none 0 0, .slice none 0 0] 35)).alloc (.cells #[.int .i64 L, .int .i64 start, .slice fa k fc, .slice da k dc] 27))
    rw [show ((W.alloc (.cells #[.slice pa 3 pc, .slice ma 2 mc, .slice none 0 0, .slice none 0 0] 35)).alloc (.cells #[.int .i64 L, .int .i64 start, .slice fa k fc, .slice da k dc] 27)).heap.size = W.heap.size + 1 + 1 by simp] at h
    exact h)
  have HSZ : Hid (W.heap.size + 1 + 1 + 1 ≤ (((W.alloc (.cells #[.slice pa 3 pc, .slice ma 2 mc, .slice none 0 0, .slice none 0 0] 35)).alloc (.cells #[.int .i64 L, .int .i64 start, .slice fa k fc, .slice da k dc] 27)).alloc (.cells #[.pointer none, .slice none 0 0] 114)).heap.size) := Lib.hid (by simp)
  have G3 : Hid (Flow.Grow W (((W.alloc (.cells #[.slice pa 3 pc, .slice ma 2 mc, .slice none 0 0, .slice none 0 0] 35)).alloc (.cells #[.int .i64 L, .int .i64 start, .slice fa k fc, .slice da k dc] 27)).alloc (.cells #[.pointer none, .slice none 0 0] 114))) := Lib.hid (((Flow.grow_alloc _ _).trans (Flow.grow_alloc _ _)).trans (Flow.grow_alloc _ _))
  rw [← hX] at RG RD RB HSZ ⊢
  clear hX
  generalize ((W.alloc (.cells #[.slice pa 3 pc, .slice ma 2 mc, .slice none 0 0, .slice none 0 0] 35)).alloc (.cells #[.int .i64 L, .int .i64 start, .slice fa k fc, .slice da k dc] 27)).alloc (.cells #[.pointer none, .slice none 0 0] 114) = w3 at *
  have c0 : w3.cell? ⟨X + 1, 0, none⟩ = some (.int .i64 L) := (cell_of_row w3 _ 0 _ _ _ RD.out).trans rfl
  have c1 : w3.cell? ⟨X + 1, 1, none⟩ = some (.int .i64 start) := (cell_of_row w3 _ 1 _ _ _ RD.out).trans rfl
  have c2 : w3.cell? ⟨X + 1, 2, none⟩ = some (.slice fa k fc) := (cell_of_row w3 _ 2 _ _ _ RD.out).trans rfl
  have c3 : w3.cell? ⟨X + 1, 3, none⟩ = some (.slice da k dc) := (cell_of_row w3 _ 3 _ _ _ RD.out).trans rfl
  have hLL : la = la := rfl
  have hMay : Hid (Calls Try.prog 43 #[.agg #[.int .i64 L, .int .i64 start, .slice fa k fc, .slice da k dc]] w3 fun e w' => e = .returned (.bool true) ∧ Flow.Grow w3 w') := Lib.hid ((HMAY.out w3 (HD.out.grow G3.out)).mono fun e w' ⟨h1, h2⟩ => ⟨by rw [h1, Hfk.out, HY.out], by rw [h2]; exact Flow.grow_alloc _ _⟩)
  clear HMAY hLL
  go_upto_region 4 with (go_at_call 43; refine hMay.out.mono ?_; rintro e w4 ⟨rfl, hg4⟩; have d0 := (Xm2.cell_grow hg4 c0); have d3 := (Xm2.cell_grow hg4 c3))
  have G4 := Lib.hid (G3.out.trans hg4)
  have B4 := Lib.hid (isB_grow RB.out hg4)
  have RG4 : Hid (w4.heap[X]? = _) := Lib.hid ((hg4.block X (by have := HSZ.out; omega) (by simp)).trans RG.out)
  have RD4 : Hid (w4.heap[X + 1]? = _) := Lib.hid ((hg4.block (X + 1) (by have := HSZ.out; omega) (by simp)).trans RD.out)
  have S4 : Hid (X + 1 + 1 + 1 ≤ w4.heap.size) := Lib.hid (by have := HSZ.out; have := hg4.size; omega)
  clear RG RD RB c0 c1 c2 c3 hMay hg4 HSZ
  have HSH : Hid (∀ (c : Nat) (wq : World), c < L → Flow.Grow W wq → Calls Try.prog 10 #[.agg #[.slice pa 3 pc, .slice ma 2 mc, .slice none 0 0, .slice none 0 0], .agg #[.int .i64 (Tal.lab c).1, .int .i64 (Tal.lab c).2.1, .int .i64 (Tal.lab c).2.2]] wq fun e w' => e = .returned (.string (str (Tal.sho c))) ∧ Flow.Grow wq w') := Lib.hid (fun c wq hc hg =>
    show_any _ _ _ _ Tal.pas Tal.mss _ _ _ wq (HP.out.grow hg) (HM.out.grow hg) (by have := Tal.sho_len c (by omega); unfold Tal.sho at this; omega))
  go_wp2_with fail
  go_loopw [25] (fun i wr => ∃ j : Nat, j ≤ k ∧ i = .int .i64 j ∧ Hid (Lib.IsBuilder 114 5 (X + 1 + 1) (X + 1 + 1) (Lib.byteCells (Tal.lines L fin rows j)) wr) ∧ Hid (Below (X + 1 + 1) w4 wr)) (fun i _ => k - (intOf i).toNat)
  case atStart => exact ⟨0, by omega, rfl, B4, Lib.hid (Below.refl _ _)⟩
  case round =>
    obtain ⟨j, hj, rfl, HB, HW⟩ := hrel
    rename World => wr
    have HGr : Hid (Flow.Grow W wr) := Lib.hid (below_grow HW.out G4.out (by have := HX.out; omega))
    have HS : Hid (X + 1 + 1 ≤ wr.heap.size) := Lib.hid (by have := S4.out; have := HW.out.size; omega)
    have RDr : Hid (wr.heap[X + 1]? = _) := Lib.hid ((HW.out.block (X + 1) (by omega)).trans RD4.out)
    have RGr : Hid (wr.heap[X]? = _) := Lib.hid ((HW.out.block X (by omega)).trans RG4.out)
    by_cases hjk : j < k
    · have hrow := HF.out.at (s := j) (by rw [← HK.out]; exact hjk)
      obtain ⟨b, off, cp, hdv, _, hcell⟩ := HVD.out.shape (by intro e; have := HK.out; rw [e] at this; simp at this; omega)
      rw [← HK.out] at hcell hdv
      injection hdv with hd1 hd2 hd3
      subst hd1
      obtain ⟨u, hu, hui⟩ := hcell j hjk
      obtain ⟨row, hrw⟩ : ∃ row, row = rows.getD j [] := ⟨_, rfl⟩
      rw [← hrw] at hrow hui
      have Hrow := Lib.hid hrow
      have Hrw := Lib.hid hrw
      obtain ⟨ua, uc, rfl, _⟩ := id hui
      rw [hrow.1] at hu
      have HU : Hid (Ints W (.slice ua L uc) row) := Lib.hid (by rw [hrow.1] at hui; exact hui)
      obtain ⟨b2, off2, cp2, hfv, _, hfin⟩ := HVF.out.shape (by intro e; have := Hfk.out; rw [e] at this; simp at this; omega)
      rw [Hfk.out] at hfin hfv
      injection hfv with hf1 hf2 hf3
      subst hf1
      have hfj := hfin j hjk
      have hur := Xm2.cell_grow HGr.out hu
      obtain ⟨x, hx⟩ : ∃ x, x = fin.getD j false := ⟨_, rfl⟩
      rw [← hx] at hfj
      have Hx := Lib.hid hx
      have HFJ := Lib.hid hfj
      clear hu hfj hrw hx hfin hcell hui hrow hd2 hd3 hf2 hf3
      obtain ⟨acc, hacc⟩ : ∃ acc, acc = Tal.lines L fin rows j := ⟨_, rfl⟩
      have Hacc := Lib.hid hacc
      have Hal : Hid (acc.length ≤ 400) := Lib.hid (by rw [hacc]; have := Tal.lines_len HF.out j (by rw [← HK.out]; omega); omega)
      rw [← hacc] at HB
      clear hacc
      obtain ⟨dj, hdj⟩ : ∃ dj, dj = Dec.dec j := ⟨_, rfl⟩
      have Hdl : Hid (dj.length = 1) := Lib.hid (by rw [hdj, Dec.dec_lo (by omega)]; rfl)
      have HDJ : Hid (∀ wq, Calls Try.prog 45 #[.int .i64 j] wq fun e w' => e = .returned (.string (str dj)) ∧ Flow.Grow wq w') := Lib.hid (fun wq => by rw [hdj]; exact digits_calls j (by omega) wq)
      have Hdj := Lib.hid hdj
      clear hdj
      have r2 : wr.cell? ⟨X + 1, 2, none⟩ = some (.slice (some ⟨b2, off2, none⟩) k fc) := (cell_of_row wr _ 2 _ _ _ RDr.out).trans rfl
      go_upto_region 8 with (first
        | (go_at_call 45; refine (HDJ.out _).mono ?_; rintro e w5 ⟨rfl, hg5⟩)
        | (go_at_call 44; refine (writeString_any (X + 1 + 1) (X + 1 + 1) (Lib.byteCells acc) (str dj) w5 (isB_grow HB.out hg5) (by rw [Lib.byteCells_length, str_size]; have := Hal.out; have := Hdl.out; omega) (by have := HS.out; have := hg5.size; omega)).mono ?_; rintro e w6 ⟨rfl, hb6, hbl6⟩))
      have HB6 : Hid (Lib.IsBuilder 114 5 (X + 1 + 1) (X + 1 + 1) (Lib.byteCells (acc ++ dj)) w6) := Lib.hid (.inr (by rw [byteCells_app]; exact hb6))
      have HW6 : Hid (Below (X + 1 + 1) w4 w6) := Lib.hid ((grow_below' HW.out hg5 HS.out).trans hbl6)
      clear hb6 hbl6 hg5 HB HW r2 hur
      have HG6 : Hid (Flow.Grow W w6) := Lib.hid (below_grow HW6.out G4.out (by have := HX.out; omega))
      have RD6 : Hid (w6.heap[X + 1]? = _) := Lib.hid ((HW6.out.block (X + 1) (by omega)).trans RD4.out)
      clear HS RDr RGr HGr
      have r2 : w6.cell? ⟨X + 1, 2, none⟩ = some (.slice (some ⟨b2, off2, none⟩) k fc) := (cell_of_row w6 _ 2 _ _ _ RD6.out).trans rfl
      have rf := Xm2.cell_grow HG6.out HFJ.out
      obtain ⟨ac2, hac2⟩ : ∃ ac2, ac2 = (acc ++ dj) ++ (if x then [42] else []) := ⟨_, rfl⟩
      have Hac2 := Lib.hid hac2
      have Hal2 : Hid (ac2.length ≤ 402) := Lib.hid (by
        have := Hal.out; have := Hdl.out
        rw [hac2]
        cases x <;> simp <;> omega)
      clear hac2
      go_upto_if 37 with fail
      go_cut [25] from 25 to 62 (fun v25 wx => v25 = .int .i64 (j : Int) ∧ Hid (Lib.IsBuilder 114 5 (X + 1 + 1) (X + 1 + 1) (Lib.byteCells ac2) wx) ∧ Hid (Below (X + 1 + 1) w4 wx))
      case first =>
        cases x with
        | true =>
          go_wp2_with (go_at_call 44; refine (writeString_any (X + 1 + 1) (X + 1 + 1) (Lib.byteCells (acc ++ dj)) (str [42]) w6 HB6.out (by rw [Lib.byteCells_length, str_size]; have := Hal.out; have := Hdl.out; simp; omega) (by have := S4.out; have := HW6.out.size; omega)).mono ?_; rintro e w7 ⟨rfl, hb7, hbl7⟩)
          go_meet
          case rel => exact ⟨rfl, Lib.hid (.inr (by rw [Hac2.out]; show Lib.BuilderAt _ _ _ _ _ (Lib.byteCells ((acc ++ dj) ++ [42])) _; rw [byteCells_app]; exact hb7)), Lib.hid (HW6.out.trans hbl7)⟩
        | false =>
          go_wp2_with fail
          go_meet
          case rel => exact ⟨rfl, by rw [Hac2.out]; simpa using HB6, HW6⟩
      case rest =>
        obtain ⟨rfl, HB7, HW7⟩ := hcut
        rename World => w7
        clear HB6 HW6 HG6 RD6 r2 rf
        go_wp2_with fail
        go_loopw [41] (fun v wx => ∃ c : Nat, c ≤ L ∧ v = .int .i64 c ∧ Hid (Lib.IsBuilder 114 5 (X + 1 + 1) (X + 1 + 1) (Lib.byteCells (ac2 ++ Tal.cells row c)) wx) ∧ Hid (Below (X + 1 + 1) w4 wx)) (fun v _ => L - (intOf v).toNat)
        case atStart => exact ⟨0, by omega, rfl, by simpa [Tal.cells] using HB7, HW7⟩
        case round =>
          clear HB7 HW7
          obtain ⟨c, hc, rfl, HBi, HWi⟩ := hrel
          rename World => wi
          have HGi : Hid (Flow.Grow W wi) := Lib.hid (below_grow HWi.out G4.out (by have := HX.out; omega))
          have HSi : Hid (X + 1 + 1 ≤ wi.heap.size) := Lib.hid (by have := S4.out; have := HWi.out.size; omega)
          obtain ⟨ac3, hac3⟩ : ∃ ac3, ac3 = ac2 ++ Tal.cells row c := ⟨_, rfl⟩
          have Hac3 := Lib.hid hac3
          have Hal3 : Hid (ac3.length ≤ 450) := Lib.hid (by
            rw [hac3, List.length_append]
            have h1 := Hal2.out
            have h2 := Tal.cells_len (row := row) (fun i => (Hrow.out.2 i).2) c (by omega)
            omega)
          rw [← hac3] at HBi
          clear hac3
          by_cases hcL : c < L
          · obtain ⟨rb, ro, rcap, hv, _, hrc⟩ := HU.out.shape (by intro e; have := Hrow.out.1; rw [e] at this; simp at this; omega)
            rw [Hrow.out.1] at hv hrc
            injection hv with h1 h2 h3
            subst h1
            have hz0 := Xm2.cell_grow HGi.out (hrc c hcL)
            obtain ⟨z, hz⟩ : ∃ z, z = row.getD c 0 := ⟨_, rfl⟩
            rw [← hz] at hz0
            have Hz : Hid (-1 ≤ z ∧ z < 8) := Lib.hid (by rw [hz]; exact Hrow.out.2 c)
            have HCS : Hid (Tal.cells row (c + 1) = Tal.cells row c ++ Tal.cell z c) := Lib.hid (by rw [Tal.cells, hz])
            obtain ⟨lb, lo, hla, _, _, q0, q1, q2⟩ := Tal.lab_cells HL.out (by omega) hcL
            subst hla
            have l0 := Xm2.cell_grow HGi.out q0
            have l1 := Xm2.cell_grow HGi.out q1
            have l2 := Xm2.cell_grow HGi.out q2
            have RGi : Hid (wi.heap[X]? = _) := Lib.hid ((HWi.out.block X (by omega)).trans RG4.out)
            have g0 : wi.cell? ⟨X, 0, none⟩ = some (.slice pa 3 pc) := (cell_of_row wi _ 0 _ _ _ RGi.out).trans rfl
            have g1 : wi.cell? ⟨X, 1, none⟩ = some (.slice ma 2 mc) := (cell_of_row wi _ 1 _ _ _ RGi.out).trans rfl
            have g2 : wi.cell? ⟨X, 2, none⟩ = some (.slice none 0 0) := (cell_of_row wi _ 2 _ _ _ RGi.out).trans rfl
            have g3 : wi.cell? ⟨X, 3, none⟩ = some (.slice none 0 0) := (cell_of_row wi _ 3 _ _ _ RGi.out).trans rfl
            have HSHc : Hid (∀ wq, Flow.Grow W wq → Calls Try.prog 10 #[.agg #[.slice pa 3 pc, .slice ma 2 mc, .slice none 0 0, .slice none 0 0], .agg #[.int .i64 (Tal.lab c).1, .int .i64 (Tal.lab c).2.1, .int .i64 (Tal.lab c).2.2]] wq fun e w' => e = .returned (.string (str (Tal.sho c))) ∧ Flow.Grow wq w') := Lib.hid (fun wq => HSH.out c wq hcL)
            clear q0 q1 q2 hrc hz h2 h3
            generalize (Tal.lab c).1 = t0 at *
            generalize (Tal.lab c).2.1 = t1 at *
            generalize (Tal.lab c).2.2 = t2 at *
            by_cases hz1 : 0 ≤ z
            · have HCE : Hid (Tal.cell z c = 32 :: (Tal.sho c ++ 61 :: Dec.dec z.toNat)) := Lib.hid (by rw [Tal.cell, if_pos hz1])
              obtain ⟨sb, hsb⟩ : ∃ sb, sb = str (Tal.sho c) := ⟨_, rfl⟩
              have hsz : sb.size = 7 := by rw [hsb, str_size, Tal.sho_len c (by omega)]
              obtain ⟨db, hdb⟩ : ∃ db, db = str (Dec.dec z.toNat) := ⟨_, rfl⟩
              have hdz : db.size = 1 := by rw [hdb, str_size, Tal.dec_one Hz.out.2]
              have HDZ : Hid (∀ wq, Calls Try.prog 45 #[.int .i64 z] wq fun e w' => e = .returned (.string db) ∧ Flow.Grow wq w') := Lib.hid (fun wq => by
                have := digits_calls z.toNat (by have := Hz.out.2; omega) wq
                rw [Int.toNat_of_nonneg hz1] at this
                rw [hdb]; exact this)
              rw [← hsb] at HSHc
              have HTX : Hid (((⟨#[32]⟩ : ByteArray) ++ sb ++ ⟨#[61]⟩ ++ db) = str (Tal.cell z c)) := Lib.hid (by
                rw [HCE.out, hsb, hdb]
                show (str [32] ++ str (Tal.sho c) ++ str [61] ++ str _) = _
                rw [str_append, str_append, str_append]
                simp)
              have HWS : Hid (∀ (wq : World) (s : ByteArray), Flow.Grow wi wq → s.size ≤ 100 → Calls Try.prog 44 #[.pointer (some ⟨X + 1 + 1, 0, none⟩), .string s] wq fun e w' => e = .returned (.tuple #[.int .i64 s.size, .nilIface]) ∧ Lib.IsBuilder 114 5 (X + 1 + 1) (X + 1 + 1) (Lib.byteCells ac3 ++ Lib.strCells s) w' ∧ Below (X + 1 + 1) w4 w') := Lib.hid (fun wq s hg hs =>
                (writeString_any (X + 1 + 1) (X + 1 + 1) (Lib.byteCells ac3) s wq (isB_grow HBi.out hg) (by rw [Lib.byteCells_length]; have := Hal3.out; omega) (by have := HSi.out; have := hg.size; omega)).mono fun e w' ⟨h1, h2, h3⟩ => ⟨h1, .inr h2, (grow_below' HWi.out hg HSi.out).trans h3⟩)
              clear hsb hdb HBi HSH
              go_upto_region 14 with fail
              go_region_with (go_simp; first
                | (go_at_call 45; refine (HDZ.out _).mono ?_; rintro e wd ⟨rfl, hgd⟩)
                | (go_at_call 10; refine (HSHc.out _ (by first | exact HGi.out.trans (Flow.grow_drew _) | exact (HGi.out.trans (Flow.grow_drew _)).trans hgd)).mono ?_; rintro e ws ⟨rfl, hgs⟩)
                | (go_at_call 44; refine (HWS.out _ _ (by first | exact ((Flow.grow_drew _).trans hgs).trans hgd | exact ((Flow.grow_drew _).trans hgd).trans hgs) (by simp [ByteArray.size_append, hsz, hdz]; try decide)).mono ?_; rintro e wz ⟨rfl, hbz, hwz⟩))
              all_goals
                have HBZ : Hid (Lib.IsBuilder 114 5 (X + 1 + 1) (X + 1 + 1) (Lib.byteCells (ac2 ++ Tal.cells row (c + 1))) wz) := Lib.hid (by
                  rw [HCS.out, ← List.append_assoc, byteCells_app, ← HTX.out, ← Hac3.out]; exact hbz)
                have HWZ := Lib.hid hwz
                clear hbz hwz
                go_wp2_with fail
                go_roundw
                case rel => exact ⟨c + 1, by omega, by go_num, HBZ, HWZ⟩
                case measure => simp [intOf]; omega
            · have HCE : Hid (Tal.cell z c = []) := Lib.hid (by rw [Tal.cell, if_neg hz1])
              clear HSH HSHc
              go_wp2_with fail
              go_roundw
              case rel => exact ⟨c + 1, by omega, by go_num, by rw [HCS.out, HCE.out, List.append_nil, ← Hac3.out]; exact HBi, HWi⟩
              case measure => simp [intOf]; omega
          · have ec : c = L := by omega
            subst ec
            have HLN : Hid (Tal.lines c fin rows (j + 1) = ac3 ++ [10]) := Lib.hid (by
              rw [Tal.lines, Tal.line, Hac3.out, Hac2.out, ← Hacc.out, ← Hdj.out, ← Hx.out, ← Hrw.out]
              simp)
            go_wp2_with (go_at_call 44; refine (writeString_any (X + 1 + 1) (X + 1 + 1) (Lib.byteCells ac3) (str [10]) wi HBi.out (by rw [Lib.byteCells_length, str_size]; have := Hal3.out; simp; omega) HSi.out).mono ?_; rintro e w9 ⟨rfl, hb9, hbl9⟩)
            go_roundw
            case rel => exact ⟨j + 1, by omega, by go_num, Lib.hid (.inr (by rw [HLN.out, byteCells_app]; exact hb9)), Lib.hid (HWi.out.trans hbl9)⟩
            case measure => simp [intOf]; omega
    · have ej : j = k := by omega
      subst ej
      have hsz := HS.out
      go_wp2_with (go_at_call 46; refine (Try.Builder_String_any (X + 1 + 1) (X + 1 + 1) _ wr HB.out hsz).mono ?_; rintro e w9 ⟨rfl, hbl9⟩)
      go_ret
      exact ⟨rfl, below_grow (HW.out.trans hbl9) G4.out (by have := HX.out; omega)⟩
end Go.Proofs.Ytepianllbfnpoaa

/- space.Spaces: what it is in a world; Depth, Leave by their contracts. -/
/- The shelf's contracts at this dump, a second part. -/
/- space.Spaces: Of, Name, and what an attribute tells of, by their contracts. -/
import Derived.Test.YtdpkhmfolmcejaaGreatDoorMNew
import Derived.Test.YtdpkhmfolmcejaaGreatDoorShelf
import Derived.StillTailTactics
namespace Go.Proofs.YtdpkhmfolmcejaaGreatDoor
open Go.RowKit
namespace Xm
/-- what a prefix stands for, from a depth on; the newest first -/
abbrev Bd := ByteArray × ByteArray × Nat
def bdCells (R : List Bd) : List Value := R.flatMap fun b => [.string b.1, .string b.2.1, .int .i64 (b.2.2 : Int)]
theorem bdCells_len (R : List Bd) : (bdCells R).length = R.length * 3 := by
  induction R with
  | nil => rfl
  | cons b R ih => simp only [bdCells, List.flatMap_cons, List.length_append, List.length_cons, List.length_nil] at ih ⊢; omega
theorem bdCells_append (R T : List Bd) : bdCells (R ++ T) = bdCells R ++ bdCells T := by simp [bdCells]
theorem bdCells_get (R T : List Bd) (b : Bd) : (bdCells (R ++ b :: T))[R.length * 3]? = some (.string b.1) ∧ (bdCells (R ++ b :: T))[R.length * 3 + 1]? = some (.string b.2.1) ∧ (bdCells (R ++ b :: T))[R.length * 3 + 2]? = some (.int .i64 (b.2.2 : Int)) := by
  have e : bdCells (R ++ b :: T) = bdCells R ++ ([.string b.1, .string b.2.1, .int .i64 (b.2.2 : Int)] ++ bdCells T) := by rw [bdCells_append]; rfl
  have hl := bdCells_len R
  rw [e]
  refine ⟨?_, ?_, ?_⟩
  · rw [List.getElem?_append_right (by omega), hl, Nat.sub_self]; rfl
  · rw [List.getElem?_append_right (by omega), hl, Nat.add_sub_cancel_left]; rfl
  · rw [List.getElem?_append_right (by omega), hl, Nat.add_sub_cancel_left]; rfl
def Row2 (w : World) (q : Nat) (lv : Value) (d : Int) : Prop := w.heap[q]? = some (.cells #[lv, .int .i64 d] 80 (0, 0))
def OwnB (w : World) (lv : Value) (R : List Bd) : Prop := w.ownsRow 0 77 3 lv R.length (bdCells R.reverse)
structure Sp (w : World) (q : Nat) (lv : Value) (R : List Bd) (d : Nat) : Prop where
  blk : Row2 w q lv (d : Int)
  own : OwnB w lv R
  ne : lv.ownBlock ≠ some q
/-- what a step turns: some blocks, and the row of a slice of its own -/
structure Fr (S : Nat → Prop) (w : World) (lv : Value) (w' : World) (lv' : Value) : Prop where
  os : w'.os = w.os
  tape : w'.tape = w.tape
  output : w'.output = w.output
  size : w.heap.size ≤ w'.heap.size
  block : ∀ i, i < w.heap.size → ¬ S i → lv.ownBlock ≠ some i → w'.heap[i]? = w.heap[i]?
  mv : Moved w lv lv'
theorem Fr.refl (S : Nat → Prop) (w : World) (lv : Value) : Fr S w lv w lv := ⟨rfl, rfl, rfl, Nat.le_refl _, fun _ _ _ _ => rfl, .inl rfl⟩
theorem Fr.trans {S : Nat → Prop} {w w1 w2 : World} {a b c : Value} (h : Fr S w a w1 b) (k : Fr S w1 b w2 c) : Fr S w a w2 c :=
  ⟨k.os.trans h.os, k.tape.trans h.tape, k.output.trans h.output, Nat.le_trans h.size k.size, fun i hi hS ha => (k.block i (Nat.lt_of_lt_of_le hi h.size) hS (by
    rcases h.mv with e | ⟨g, e, hg⟩
    · rw [e]; exact ha
    · rw [e]; intro e2; cases e2; omega)).trans (h.block i hi hS ha), h.mv.trans k.mv h.size⟩
theorem Fr.mono {S T : Nat → Prop} {w w1 : World} {a b : Value} (h : Fr S w a w1 b) (hT : ∀ i, S i → T i) : Fr T w a w1 b :=
  ⟨h.os, h.tape, h.output, h.size, fun i hi hS ha => h.block i hi (fun s => hS (hT i s)) ha, h.mv⟩
theorem Fr.of {S : Nat → Prop} {w w1 : World} {a : Value} (g : Flow.Grow w w1) : Fr S w a w1 a := ⟨g.os, g.tape, g.output, g.size, fun i hi _ _ => g.block i hi (by simp), .inl rfl⟩
theorem Fr.ofMv {S : Nat → Prop} {w w1 : World} {a : Value} {b : Nat} (g : Mv w b w1) (hb : S b) : Fr S w a w1 a :=
  ⟨g.os, g.tape, g.output, g.size, fun i hi hS _ => g.block i hi (fun e => by cases e; exact hS hb), .inl rfl⟩
theorem Fr.setIn {S : Nat → Prop} {w w1 : World} {a b : Value} (h : Fr S w a w1 b) {q j : Nat} {v : Value} (hq : S q) : Fr S w a (w1.setCell ⟨q, j, none⟩ v) b :=
  ⟨h.os, h.tape, h.output, by simpa [World.setCell] using h.size, fun i hi hS ha => (Below.heap_setCell _ _ _ _ (by show i ≠ q; rintro rfl; exact hS hq)).trans (h.block i hi hS ha), h.mv⟩
/-- a slice of its own in place of another over the same row -/
theorem Fr.same {S : Nat → Prop} {w w1 : World} {a b c : Value} (h : Fr S w a w1 b) (e : c.ownBlock = b.ownBlock) : Fr S w a w1 c :=
  ⟨h.os, h.tape, h.output, h.size, h.block, by
    rcases h.mv with e1 | ⟨g, e1, hg⟩
    · exact .inl (e.trans e1)
    · exact .inr ⟨g, e.trans e1, hg⟩⟩
theorem OwnB.kept {w w' : World} {row : Option Nat} {lv : Value} {R : List Bd} (h : OwnB w lv R) (g : w.grownBy w' row) (hr : lv.ownBlock = none ∨ lv.ownBlock ≠ row) : OwnB w' lv R := World.ownsRow.kept h g hr
theorem OwnB.grow {w w' : World} {lv : Value} {R : List Bd} (h : OwnB w lv R) (g : Flow.Grow w w') : OwnB w' lv R := World.ownsRow.kept h (row := none) g (by cases lv.ownBlock <;> simp)
theorem OwnB.set {w : World} {lv : Value} {R : List Bd} {q j : Nat} {v : Value} (h : OwnB w lv R) (hq : lv.ownBlock ≠ some q) : OwnB (w.setCell ⟨q, j, none⟩ v) lv R := h.kept (row := some q) (Mv.set) (.inr hq)
theorem OwnB.cons {w : World} {lv : Value} {R : List Bd} {r : Bd} (h : OwnB w lv (r :: R)) : ∃ g cap, lv = .slice (some ⟨g, 0, none⟩) (R.length + 1) cap ∧ R.length + 1 ≤ cap ∧ cap ≤ maxLen ∧ OwnB w (.slice (some ⟨g, 0, none⟩) R.length cap) R ∧
    w.cell? ⟨g, R.length * 3, none⟩ = some (.string r.1) ∧ w.cell? ⟨g, R.length * 3 + 1, none⟩ = some (.string r.2.1) ∧ w.cell? ⟨g, R.length * 3 + 2, none⟩ = some (.int .i64 (r.2.2 : Int)) := by
  have hh := h
  rcases h.2 with ⟨_, hn⟩ | ⟨g, cap, cur, hv, hb, hg, hnc, hcm, hcs, htake⟩
  · simp at hn
  · have hlen : (r :: R).length = R.length + 1 := rfl
    rw [hlen] at hv hnc htake
    have hrev : (r :: R).reverse = R.reverse ++ r :: [] := by simp
    rw [hrev] at htake
    have hc := World.ownsRow.cells hh (g := g) (by rw [hv]; rfl)
    have hG := bdCells_get R.reverse [] r
    rw [List.length_reverse] at hG
    rw [hrev] at hc
    refine ⟨g, cap, hv, hnc, hcm, ⟨by rw [bdCells_len, List.length_reverse], .inr ⟨g, cap, cur, rfl, hb, hg, by omega, hcm, hcs, ?_⟩⟩, ?_, ?_, ?_⟩
    · have h2 := congrArg (List.take (R.length * 3)) htake
      rw [List.take_take, bdCells_append, List.take_append, bdCells_len, List.length_reverse, Nat.sub_self, List.take_zero, List.append_nil, Nat.min_eq_left (by omega)] at h2
      rw [h2, List.take_of_length_le (by rw [bdCells_len, List.length_reverse]; omega)]
    · have := hc _ _ hG.1; rwa [Addr.add_lit, Nat.zero_add] at this
    · have := hc _ _ hG.2.1; rwa [Addr.add_lit, Nat.zero_add] at this
    · have := hc _ _ hG.2.2; rwa [Addr.add_lit, Nat.zero_add] at this
theorem OwnB.nil {w : World} {lv : Value} (h : OwnB w lv []) : ∃ a cap, lv = .slice a 0 cap := by
  rcases h.2 with ⟨hv, _⟩ | ⟨g, cap, cur, hv, _⟩
  · exact ⟨none, 0, hv⟩
  · exact ⟨_, cap, hv⟩
theorem OwnB.shape {w : World} {lv : Value} {R : List Bd} (h : OwnB w lv R) : ∃ a cap, lv = .slice a R.length cap := by
  cases R with
  | nil => exact h.nil
  | cons r R => obtain ⟨g, cap, hv, _⟩ := h.cons; exact ⟨_, cap, hv⟩
theorem Row2.c0 {w : World} {q : Nat} {lv : Value} {d : Int} (h : Row2 w q lv d) : w.cell? ⟨q, 0, none⟩ = some lv := (cell_of_row w q 0 _ _ _ h).trans rfl
theorem Row2.c1 {w : World} {q : Nat} {lv : Value} {d : Int} (h : Row2 w q lv d) : w.cell? ⟨q, 1, none⟩ = some (.int .i64 d) := (cell_of_row w q 1 _ _ _ h).trans rfl
theorem Row2.fz {w : World} {q : Nat} {lv : Value} {d : Int} (h : Row2 w q lv d) (j : Nat) : w.frozen? ⟨q, j, none⟩ = false := frozen_of_row w q _ _ _ h
theorem Row2.set0 {w : World} {q : Nat} {lv v : Value} {d : Int} (h : Row2 w q lv d) : Row2 (w.setCell ⟨q, 0, none⟩ v) q v d := heap_setCell_same w q 0 _ _ v h
theorem Row2.set1 {w : World} {q : Nat} {lv : Value} {d e : Int} (h : Row2 w q lv d) : Row2 (w.setCell ⟨q, 1, none⟩ (.int .i64 e)) q lv e := heap_setCell_same w q 1 _ _ _ h
theorem Row2.lt {w : World} {q : Nat} {lv : Value} {d : Int} (h : Row2 w q lv d) : q < w.heap.size := (Array.getElem?_eq_some_iff.1 h).1
theorem Row2.grow {w w' : World} {q : Nat} {lv : Value} {d : Int} (h : Row2 w q lv d) (g : Flow.Grow w w') : Row2 w' q lv d := (g.block q h.lt (by simp)).trans h
theorem Sp.grow {w w' : World} {q : Nat} {lv : Value} {R : List Bd} {d : Nat} (h : Sp w q lv R d) (g : Flow.Grow w w') : Sp w' q lv R d := ⟨h.blk.grow g, h.own.grow g, h.ne⟩
theorem Sp.mv {w w' : World} {q b : Nat} {lv : Value} {R : List Bd} {d : Nat} (h : Sp w q lv R d) (g : Mv w b w') (hb : b ≠ q) (hl : lv.ownBlock ≠ some b) : Sp w' q lv R d :=
  ⟨(g.block q h.blk.lt (by simp; omega)).trans h.blk, h.own.kept g (.inr hl), h.ne⟩
/-- what is left where an element is left -/
def leaveL (R : List Bd) (d : Nat) : List Bd := if d = 0 then R else R.dropWhile fun r => r.2.2 == d
end Xm
set_option maxRecDepth 100000 in
theorem depth_any (q : Nat) (lv : Value) (R : List Xm.Bd) (d : Nat) (w : World) (h : Xm.Sp w q lv R d) : Calls Tryz.prog 74 #[.pointer (some ⟨q, 0, none⟩)] w fun e w' => e = .returned (.int .i64 (d : Int)) ∧ w = w' := by
  have c1 := h.blk.c1
  clear h
  go_enter Tryz.func74, Tryz.ntmps74
  go_wp2
  go_ret
  exact ⟨rfl, rfl⟩
set_option maxRecDepth 100000 in
set_option maxHeartbeats 1000000 in
theorem leave_any (q : Nat) (lv : Value) (R : List Xm.Bd) (d : Nat) (w : World) (h : Xm.Sp w q lv R d) (hd : d ≤ 1000000) :
    Calls Tryz.prog 52 #[.pointer (some ⟨q, 0, none⟩)] w fun e w' => e = .returned (.tuple #[]) ∧ ∃ lv', Xm.Sp w' q lv' (Xm.leaveL R d) (d - 1) ∧ Xm.Fr (· = q) w lv w' lv' := by
  have c1 := h.blk.c1
  have H := Lib.hid h
  clear h
  by_cases h0 : d = 0
  · subst h0
    have c1 : w.cell? ⟨q, 1, none⟩ = some (.int .i64 0) := H.out.blk.c1
    go_enter Tryz.func52, Tryz.ntmps52
    go_wp2
    (try simp only [Exit.inBlock, Exit.then])
    exact bodyPost_ret (results_none (by kernel_rfl) _ _ _) rfl ⟨rfl, lv, H.out, Xm.Fr.refl _ _ _⟩
  have hb : ((d : Int) == 0) = false := by simpa using h0
  have HL : Hid (Xm.leaveL R d = R.dropWhile fun r => r.2.2 == d) := Lib.hid (by rw [Xm.leaveL, if_neg h0])
  go_enter Tryz.func52, Tryz.ntmps52
  go_wp2
  clear c1
  go_loopw [] (fun wr => ∃ (R' : List Xm.Bd) (lv' : Value), Hid (Xm.Sp wr q lv' R' d) ∧ Hid (Xm.Fr (· = q) w lv wr lv') ∧ Hid ((R.dropWhile fun r => r.2.2 == d) = R'.dropWhile fun r => r.2.2 == d)) (fun wr => match wr.cell? ⟨q, 0, none⟩ with | some (.slice _ n _) => n | _ => 0)
  case atStart => exact ⟨R, lv, H, Lib.hid (Xm.Fr.refl _ _ _), Lib.hid rfl⟩
  case round =>
    obtain ⟨R', lv', HS, HF, HE⟩ := hrel
    have c0 := HS.out.blk.c0
    have c1 := HS.out.blk.c1
    have fz0 := HS.out.blk.fz 0
    have fz1 := HS.out.blk.fz 1
    have e1 : IntKind.i64.wrap ((d : Int) - 1) = ((d - 1 : Nat) : Int) := (IntWalk.i64_in _ (by omega)).trans (by omega)
    have Hend : ∀ wz, Flow.Grow wr wz → Hid (Xm.leaveL R d = R') → Hid (Xm.Sp (wz.setCell ⟨q, 1, none⟩ (.int .i64 ((d - 1 : Nat) : Int))) q lv' (Xm.leaveL R d) (d - 1) ∧ Xm.Fr (· = q) w lv (wz.setCell ⟨q, 1, none⟩ (.int .i64 ((d - 1 : Nat) : Int))) lv') := fun wz gz he => Lib.hid ⟨by
      have h1 := HS.out.grow gz
      rw [he.out]; exact ⟨h1.blk.set1, h1.own.set h1.ne, h1.ne⟩, (HF.out.trans (Xm.Fr.of gz)).setIn rfl⟩
    cases R' with
    | nil =>
      obtain ⟨a, cap, hv⟩ := HS.out.own.nil
      subst hv
      have HEe : Hid (Xm.leaveL R d = []) := Lib.hid (by rw [HL.out, HE.out]; rfl)
      go_wp2_with fail
      go_quiet (fail)
      generalize hw2 : wr.drewN nq = w2 at *
      have HH := Hend w2 (by rw [← hw2]; exact Flow.grow_drewN _ _) HEe
      have c1' : w2.cell? ⟨q, 1, none⟩ = some (.int .i64 (d : Int)) := (HS.out.grow (by rw [← hw2]; exact Flow.grow_drewN _ _)).blk.c1
      have fz1' : w2.frozen? ⟨q, 1, none⟩ = false := (HS.out.grow (by rw [← hw2]; exact Flow.grow_drewN _ _)).blk.fz 1
      clear Hend hw2
      go_wp2
      go_end0
      exact ⟨rfl, _, HH.out⟩
    | cons r R'' =>
      obtain ⟨g, cap, rfl, hcap, hcm, ho, k0, k1, k2⟩ := HS.out.own.cons
      obtain ⟨m, hm⟩ : ∃ m, m = R''.length := ⟨_, rfl⟩
      rw [← hm] at hcap k0 k1 k2 c0
      have HM := Lib.hid hm
      clear hm
      have hd1 : decide ((0 : Int) < (m : Int) + 1) = true := decide_eq_true (by omega)
      have hd2 : decide ((0 : Int) < ((m + 1 : Nat) : Int)) = true := by simp
      have HO := Lib.hid ho
      clear ho
      have hz : ((m + 1 : Nat) : Int) - 1 = (m : Int) := by omega
      have e2 : IntKind.i64.wrap (m : Int) = (m : Int) := IntWalk.i64_in _ (by unfold maxLen at hcm; omega)
      have hm0 : (0 : Int) < (m : Int) + 1 := by omega
      have hm1 : ¬ (m : Int) + 1 ≤ (m : Int) := by omega
      by_cases hr : r.2.2 = d
      · have HEe : Hid ((R.dropWhile fun r => r.2.2 == d) = R''.dropWhile fun r => r.2.2 == d) := Lib.hid (by rw [HE.out, List.dropWhile_cons_of_pos (by simpa using hr)])
        have hr' : ((r.2.2 : Int) == (d : Int)) = true := by rw [hr]; simp
        have hr2 : (r.2.2 == d) = true := by simpa using hr
        clear Hend hr
        go_wp2_with fail
        go_quiet (fail)
        generalize hw2 : wr.drewN nq = w2 at *
        have gz : Flow.Grow wr w2 := by rw [← hw2]; exact Flow.grow_drewN _ _
        have HS2 := Lib.hid (HS.out.grow gz)
        have HO2 := Lib.hid (HO.out.grow gz)
        have HF2 := Lib.hid (HF.out.trans (Xm.Fr.of (S := (· = q)) gz))
        have c0 := HS2.out.blk.c0
        rw [← HM.out] at c0
        have fz0 := HS2.out.blk.fz 0
        clear hw2 gz HS HF HO
        have hi1 : (m : Int) ≤ (cap : Int) := by omega
        have hi2 : m ≤ cap := by omega
        go_wp2_with fail
        go_still_tail 14, (by kernel_rfl)
        change wpList _ _ _ _ _ (w2.drewN 1)
        have gd := Flow.grow_drewN w2 1
        have HS3 := Lib.hid (HS2.out.grow gd)
        have HO3 := Lib.hid (HO2.out.grow gd)
        have HF3 := Lib.hid (HF2.out.trans (Xm.Fr.of (S := (· = q)) gd))
        have fz0 := HS3.out.blk.fz 0
        clear gd HS2 HO2 HF2 c0
        have c03 := HS3.out.blk.c0
        rw [← HM.out] at c03
        generalize w2.drewN 1 = w3 at *
        go_wp2_with fail
        go_roundw
        case rel => exact ⟨R'', .slice (some ⟨g, 0, none⟩) R''.length cap, Lib.hid ⟨by rw [← HM.out]; exact HS3.out.blk.set0, HO3.out.set HS3.out.ne, HS3.out.ne⟩, Lib.hid ((HF3.out.setIn rfl).same rfl), HEe⟩
        case measure =>
          have h1 : (w3.setCell ⟨q, 0, none⟩ (.slice (some ⟨g, 0, none⟩) m cap)).cell? ⟨q, 0, none⟩ = some (.slice (some ⟨g, 0, none⟩) m cap) := (Xm.Row2.set0 HS3.out.blk).c0
          simp only [h1, c0]
          omega
      · have HEe : Hid (Xm.leaveL R d = r :: R'') := Lib.hid (by rw [HL.out, HE.out, List.dropWhile_cons_of_neg (by simpa using hr)])
        have hr' : ((r.2.2 : Int) == (d : Int)) = false := by simpa using (fun h : (r.2.2 : Int) = d => hr (by omega))
        go_wp2_with fail
        go_quiet (fail)
        generalize hw2 : wr.drewN nq = w2 at *
        have HH := Hend w2 (by rw [← hw2]; exact Flow.grow_drewN _ _) HEe
        have c1' : w2.cell? ⟨q, 1, none⟩ = some (.int .i64 (d : Int)) := (HS.out.grow (by rw [← hw2]; exact Flow.grow_drewN _ _)).blk.c1
        have fz1' : w2.frozen? ⟨q, 1, none⟩ = false := (HS.out.grow (by rw [← hw2]; exact Flow.grow_drewN _ _)).blk.fz 1
        clear Hend hw2
        go_wp2
        go_end0
        exact ⟨rfl, _, HH.out⟩
end Go.Proofs.YtdpkhmfolmcejaaGreatDoor

namespace Go.Proofs.YtdpkhmfolmcejaaGreatDoor
open Go.RowKit
namespace Xm
def ofT (R : List Bd) (p : ByteArray) : ByteArray × Bool := match R.find? (fun r => r.1.toList == p.toList) with | some r => (r.2.1, true) | none => (ByteArray.empty, false)
theorem OwnB.at' {w : World} {lv : Value} {A R : List Bd} {r : Bd} (h : OwnB w lv (A ++ r :: R)) : ∃ g cap, lv = .slice (some ⟨g, 0, none⟩) (A.length + (R.length + 1)) cap ∧ A.length + (R.length + 1) ≤ cap ∧ cap ≤ maxLen ∧
    w.cell? ⟨g, R.length * 3, none⟩ = some (.string r.1) ∧ w.cell? ⟨g, R.length * 3 + 1, none⟩ = some (.string r.2.1) := by
  have hh := h
  rcases h.2 with ⟨_, hn⟩ | ⟨g, cap, cur, hv, hb, hg, hnc, hcm, hcs, htake⟩
  · simp at hn
  · have hlen : (A ++ r :: R).length = A.length + (R.length + 1) := by simp
    rw [hlen] at hv hnc
    have hrev : (A ++ r :: R).reverse = R.reverse ++ r :: A.reverse := by simp
    have hc := World.ownsRow.cells hh (g := g) (by rw [hv]; rfl)
    have hG := bdCells_get R.reverse A.reverse r
    rw [List.length_reverse] at hG
    rw [hrev] at hc
    refine ⟨g, cap, hv, hnc, hcm, ?_, ?_⟩
    · have := hc _ _ hG.1; rwa [Addr.add_lit, Nat.zero_add] at this
    · have := hc _ _ hG.2.1; rwa [Addr.add_lit, Nat.zero_add] at this
def xmlnsS : ByteArray := ⟨#[120, 109, 108, 110, 115]⟩
def xmlnsC : ByteArray := ⟨#[120, 109, 108, 110, 115, 58]⟩
def tellP (n : ByteArray) : ByteArray × Bool := if n.toList == [120, 109, 108, 110, 115] then (ByteArray.empty, true) else (⟨(Lib.trimPrefix n.data.toList xmlnsC.data.toList).toArray⟩, Lib.hasPrefix n.data.toList xmlnsC.data.toList)
def nameP (R : List Bd) (n : ByteArray) : ByteArray × ByteArray × Bool :=
  if (split n).2.2 = true then (if (ofT R (split n).1).2 = true then ((ofT R (split n).1).1, (split n).2.1, true) else (ByteArray.empty, ByteArray.empty, false)) else (ByteArray.empty, ByteArray.empty, false)
end Xm
theorem ret_pair {p : ByteArray × Bool} {a : ByteArray} {b : Bool} (h : p = (a, b)) : Ending.returned (.tuple #[.string a, .bool b]) = .returned (.tuple #[.string p.1, .bool p.2]) := by rw [h]
set_option maxRecDepth 100000 in
set_option maxHeartbeats 1000000 in
theorem of_any (q : Nat) (lv : Value) (R : List Xm.Bd) (d : Nat) (p : ByteArray) (w : World) (h : Xm.Sp w q lv R d) (hR : R.length ≤ 1000000) :
    Calls Tryz.prog 91 #[.pointer (some ⟨q, 0, none⟩), .string p] w fun e w' => e = .returned (.tuple #[.string (Xm.ofT R p).1, .bool (Xm.ofT R p).2]) ∧ w = w' := by
  have c0 := h.blk.c0
  have H := Lib.hid h.own
  clear h
  obtain ⟨a, cap, hv⟩ := H.out.shape
  subst hv
  go_enter Tryz.func91, Tryz.ntmps91
  have e0 : IntKind.i64.wrap ((R.length : Int) - 1) = (R.length : Int) - 1 := IntWalk.i64_in _ (by omega)
  go_wp2
  go_loop [6] (fun v => ∃ A R' : List Xm.Bd, R = A ++ R' ∧ v = .int .i64 ((R'.length : Int) - 1) ∧ Hid (Xm.ofT R p = Xm.ofT R' p)) (fun v => (intOf v + 1).toNat)
  case atStart => exact ⟨[], R, rfl, rfl, Lib.hid rfl⟩
  case round =>
    obtain ⟨A, R', hAR, rfl, HE⟩ := hrel
    cases R' with
    | nil =>
      rw [List.append_nil] at hAR
      subst hAR
      have HN : Hid (Xm.ofT R p = (ByteArray.empty, false)) := Lib.hid (by rw [HE.out]; rfl)
      go_wp2
      go_ret2
      exact ⟨ret_pair HN.out, rfl⟩
    | cons r R' =>
      subst hAR
      obtain ⟨g, cap2, hv, hcap, hcm, k0, k1⟩ := H.out.at'
      simp only [Value.slice.injEq] at hv
      obtain ⟨rfl, -, rfl⟩ := hv
      obtain ⟨m, hm⟩ : ∃ m, m = R'.length := ⟨_, rfl⟩
      rw [← hm] at k0 k1
      have HM := Lib.hid hm
      obtain ⟨N, hN⟩ : ∃ N, N = (A ++ r :: R').length := ⟨_, rfl⟩
      have hNm : N = A.length + (m + 1) := by rw [hN, hm]; simp
      rw [← hN] at c0
      have g0 : ((List.length (r :: R') : Nat) : Int) - 1 = (m : Int) := by rw [List.length_cons, hm]; omega
      rw [g0]
      have e1 : IntKind.i64.wrap ((m : Int) - 1) = (m : Int) - 1 := IntWalk.i64_in _ (by rw [hN] at hNm; omega)
      have g1 : ¬ (N : Int) ≤ (m : Int) := by omega
      have g2 : m < N := by omega
      have g3 : (0 : Int) ≤ (m : Int) := by omega
      have hA1 : Hid ((A ++ r :: R') = (A ++ [r]) ++ R') := Lib.hid (by simp)
      clear hN g0 hm hcap
      cases hc : (r.1.toList == p.toList)
      · have HF : Hid (Xm.ofT (A ++ r :: R') p = Xm.ofT R' p) := Lib.hid (by rw [HE.out]; simp only [Xm.ofT, List.find?_cons, hc])
        go_wp2
        go_round
        case rel => exact ⟨A ++ [r], R', hA1.out, by rw [← HM.out], HF⟩
        case measure => simp only [intOf]; omega
      · have HF : Hid (Xm.ofT (A ++ r :: R') p = (r.2.1, true)) := Lib.hid (by rw [HE.out]; simp only [Xm.ofT, List.find?_cons, hc])
        clear hA1
        go_wp2
        go_ret2
        exact ⟨ret_pair HF.out, rfl⟩
set_option maxRecDepth 100000 in
theorem tells_any (n v : ByteArray) (w : World) : Calls Tryz.prog 90 #[.agg #[.string n, .string v]] w fun e w' => e = .returned (.tuple #[.string (Xm.tellP n).1, .bool (Xm.tellP n).2]) ∧ Flow.Grow w w' := by
  have hg := Flow.grow_alloc w (.cells #[.string n, .string v] 41)
  have HG := Lib.hid hg
  clear hg
  cases hc : (n.toList == [120, 109, 108, 110, 115])
  · have HE : Hid (Xm.tellP n = (⟨(Lib.trimPrefix n.data.toList Xm.xmlnsC.data.toList).toArray⟩, Lib.hasPrefix n.data.toList Xm.xmlnsC.data.toList)) := Lib.hid (by rw [Xm.tellP, hc]; rfl)
    go_enter Tryz.func90, Tryz.ntmps90
    go_wp2_with (go_at_call 97; refine (Tryz.strings_CutPrefix _ Xm.xmlnsC _).mono ?_; rintro e w2 ⟨rfl, rfl⟩)
    go_ret2
    exact ⟨ret_pair HE.out, HG.out⟩
  · have HE : Hid (Xm.tellP n = (ByteArray.empty, true)) := Lib.hid (by rw [Xm.tellP, hc]; rfl)
    go_enter Tryz.func90, Tryz.ntmps90
    go_wp2
    go_ret2
    exact ⟨ret_pair HE.out, HG.out⟩
theorem ret_three {p : ByteArray × ByteArray × Bool} {a b : ByteArray} {c : Bool} (h : p = (a, b, c)) : Ending.returned (.tuple #[.string a, .string b, .bool c]) = .returned (.tuple #[.string p.1, .string p.2.1, .bool p.2.2]) := by rw [h]
set_option maxRecDepth 100000 in
set_option maxHeartbeats 1000000 in
theorem spname_any (q : Nat) (lv : Value) (R : List Xm.Bd) (d : Nat) (n : ByteArray) (w : World) (h : Xm.Sp w q lv R d) (hR : R.length ≤ 1000000) (hn : n.size ≤ 9223372036854775807) :
    Calls Tryz.prog 76 #[.pointer (some ⟨q, 0, none⟩), .string n] w fun e w' => e = .returned (.tuple #[.string (Xm.nameP R n).1, .string (Xm.nameP R n).2.1, .bool (Xm.nameP R n).2.2]) ∧ Flow.Grow w w' := by
  have H := Lib.hid h
  clear h
  obtain ⟨p, l, ok, hs⟩ : ∃ p l ok, (p, l, ok) = Xm.split n := ⟨_, _, _, rfl⟩
  obtain ⟨u, k, ho⟩ : ∃ u k, (u, k) = Xm.ofT R p := ⟨_, _, rfl⟩
  have HS := Lib.hid hs
  have HO := Lib.hid ho
  have HE : Hid (Xm.nameP R n = if ok = true then (if k = true then (u, l, true) else (ByteArray.empty, ByteArray.empty, false)) else (ByteArray.empty, ByteArray.empty, false)) := Lib.hid (by rw [Xm.nameP, ← hs, ← ho])
  clear hs ho
  go_enter Tryz.func76, Tryz.ntmps76
  cases ok
  · go_wp2_with (go_at_call 85; refine (split_any _ _ hn).mono ?_; rintro e w2 ⟨rfl, n2, rfl⟩; rw [← HS.out])
    go_ret3
    exact ⟨ret_three (by rw [HE.out]; rfl), Flow.grow_drewN _ _⟩
  · cases k
    · go_wp2_with (first | (go_at_call 85; refine (split_any _ _ hn).mono ?_; rintro e w2 ⟨rfl, n2, rfl⟩; rw [← HS.out]) | (go_at_call 91; refine (of_any q lv R d p _ (H.out.grow (Flow.grow_drewN _ _)) hR).mono ?_; rintro e w3 ⟨rfl, rfl⟩; rw [← HO.out]))
      go_ret3
      exact ⟨ret_three (by rw [HE.out]; rfl), Flow.grow_drewN _ _⟩
    · go_wp2_with (first | (go_at_call 85; refine (split_any _ _ hn).mono ?_; rintro e w2 ⟨rfl, n2, rfl⟩; rw [← HS.out]) | (go_at_call 91; refine (of_any q lv R d p _ (H.out.grow (Flow.grow_drewN _ _)) hR).mono ?_; rintro e w3 ⟨rfl, rfl⟩; rw [← HO.out]))
      go_ret3
      exact ⟨ret_three (by rw [HE.out]; rfl), Flow.grow_drewN _ _⟩
end Go.Proofs.YtdpkhmfolmcejaaGreatDoor

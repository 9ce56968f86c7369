/- scan.Scanner: what it is in a world; has, Wrong, Err, At, blanks, until by their contracts. -/
import Derived.Test.YtfkdjdmbgednkaaDoorOpen
import Derived.Deep.QuietTactic
import Derived.BigQuiet
namespace Go.Proofs.YtfkdjdmbgednkaaDoor
open Go.RowKit
namespace Xm
/-- a scanner in a world -/
def Sc (w : World) (b : Nat) (s : ByteArray) (k e bad : Int) : Prop := w.heap[b]? = some (.cells #[.string s, .int .i64 k, .int .i64 e, .int .i64 bad] 66 (0, 0))
/-- nothing turns but a block -/
def Mv (w : World) (b : Nat) (w' : World) : Prop := w.grownBy w' (some b)
theorem Mv.refl (w : World) (b : Nat) : Mv w b w := ⟨rfl, rfl, rfl, Nat.le_refl _, fun _ _ _ => rfl⟩
theorem Mv.of {w w' : World} (b : Nat) (g : Flow.Grow w w') : Mv w b w' := ⟨g.os, g.tape, g.output, g.size, fun i hi _ => g.block i hi (by simp)⟩
theorem Mv.trans {w w1 w2 : World} {b : Nat} (h : Mv w b w1) (k : Mv w1 b w2) : Mv w b w2 :=
  ⟨k.os.trans h.os, k.tape.trans h.tape, k.output.trans h.output, Nat.le_trans h.size k.size, fun i hi hne => (k.block i (Nat.lt_of_lt_of_le hi h.size) hne).trans (h.block i hi hne)⟩
theorem Mv.set {w : World} {b q : Nat} {v : Value} : Mv w b (w.setCell ⟨b, q, none⟩ v) := ⟨rfl, rfl, rfl, by simp [World.setCell], fun i hi hne => Below.heap_setCell _ _ _ _ (fun e => hne (by rw [e]))⟩
theorem Mv.drew {w : World} {b n : Nat} : Mv w b (w.drewN n) := Mv.of b (Flow.grow_drewN _ _)
theorem Sc.grow {w w' : World} {b : Nat} {s : ByteArray} {k e bad : Int} (h : Sc w b s k e bad) (g : Flow.Grow w w') : Sc w' b s k e bad := by
  have hlt : b < w.heap.size := (Array.getElem?_eq_some_iff.1 h).1
  unfold Sc
  rw [g.block b hlt (by simp)]
  exact h
theorem Sc.c {w : World} {b : Nat} {s : ByteArray} {k e bad : Int} (h : Sc w b s k e bad) : w.cell? ⟨b, 0, none⟩ = some (.string s) ∧ w.cell? ⟨b, 1, none⟩ = some (.int .i64 k) ∧ w.cell? ⟨b, 2, none⟩ = some (.int .i64 e) ∧ w.cell? ⟨b, 3, none⟩ = some (.int .i64 bad) ∧
    w.frozen? ⟨b, 1, none⟩ = false ∧ w.frozen? ⟨b, 2, none⟩ = false ∧ w.frozen? ⟨b, 3, none⟩ = false :=
  ⟨(cell_of_row w b 0 _ _ _ h).trans rfl, (cell_of_row w b 1 _ _ _ h).trans rfl, (cell_of_row w b 2 _ _ _ h).trans rfl, (cell_of_row w b 3 _ _ _ h).trans rfl, frozen_of_row w b _ _ _ h, frozen_of_row w b _ _ _ h, frozen_of_row w b _ _ _ h⟩
theorem Sc.at' {w : World} {b : Nat} {s : ByteArray} {k e bad : Int} (h : Sc w b s k e bad) (z : Int) : Sc (w.setCell ⟨b, 1, none⟩ (.int .i64 z)) b s z e bad := by
  unfold Sc; rw [heap_setCell_same w b 1 _ _ _ h]; rfl
theorem Sc.err {w : World} {b : Nat} {s : ByteArray} {k e bad : Int} (h : Sc w b s k e bad) (z : Int) : Sc (w.setCell ⟨b, 2, none⟩ (.int .i64 z)) b s k z bad := by
  unfold Sc; rw [heap_setCell_same w b 2 _ _ _ h]; rfl
theorem Sc.bad' {w : World} {b : Nat} {s : ByteArray} {k e bad : Int} (h : Sc w b s k e bad) (z : Int) : Sc (w.setCell ⟨b, 3, none⟩ (.int .i64 z)) b s k e z := by
  unfold Sc; rw [heap_setCell_same w b 3 _ _ _ h]; rfl
theorem Tab.mv {w w' : World} {b : Nat} (h : Tab w) (g : Mv w b w') (hb : 1 < b) : Tab w' := ⟨Nat.lt_of_lt_of_le h.1 g.size, fun j v hv => by
  have := h.2 j v hv
  unfold World.cell? at this ⊢
  rw [g.block 1 h.1 (by simp; omega)]
  exact this⟩
/-- of what was wrong first -/
def errOf (e z : Int) : Int := if e = 0 then z else e
def badOf (e bad a : Int) : Int := if e = 0 then a else bad
def atOf (e k bad : Int) : Int := if e = 0 then k else bad
/-- does a text begin with another one; .. at a place -/
def pre (t x : ByteArray) : Bool := decide (x.size ≤ t.size) && (t.extract 0 x.size).toList == x.toList
def hasAt (s : ByteArray) (k : Nat) (x : ByteArray) : Bool := pre (s.extract k s.size) x
end Xm

set_option maxRecDepth 100000 in
set_option maxHeartbeats 400000 in
theorem lpre_any (t x : ByteArray) (w : World) (_ht : t.size ≤ 9223372036854775807) : Calls Tryd.prog 74 #[.string t, .string x] w fun e w' => e = .returned (.bool (Xm.pre t x)) ∧ w = w' := by
  by_cases h : x.size ≤ t.size
  · go_enter Tryd.func74, Tryd.ntmps74
    go_wp2
    go_ret
    exact ⟨ret_bool (by simp [Xm.pre, h]), rfl⟩
  · have h' : decide (x.size ≤ t.size) = false := by simpa using h
    go_enter Tryd.func74, Tryd.ntmps74
    go_wp2
    go_ret
    exact ⟨ret_bool (by simp [Xm.pre, h]), rfl⟩
set_option maxRecDepth 100000 in
set_option maxHeartbeats 400000 in
theorem pre_any (t x : ByteArray) (w : World) (ht : t.size ≤ 9223372036854775807) : Calls Tryd.prog 56 #[.string t, .string x] w fun e w' => e = .returned (.bool (Xm.pre t x)) ∧ w = w' := by
  go_enter Tryd.func56, Tryd.ntmps56
  go_wp2_with (go_at_call 74; refine (lpre_any _ _ _ ht).mono ?_; rintro e w' ⟨rfl, rfl⟩)
  go_ret
  exact ⟨rfl, rfl⟩
theorem pre_quiet (t x : ByteArray) (w : World) (ht : t.size ≤ 9223372036854775807) : Calls Tryd.prog 56 #[.string t, .string x] w fun e w' => e = .returned (.bool (Xm.pre t x)) ∧ w' = w :=
  (pre_any t x w ht).mono fun _ _ ⟨h1, h2⟩ => ⟨h1, h2.symm⟩

set_option maxRecDepth 100000 in
set_option maxHeartbeats 400000 in
theorem has_any (b : Nat) (s x : ByteArray) (k : Nat) (e bad : Int) (w : World) (h : Xm.Sc w b s k e bad) (hk : k ≤ s.size) (hs : s.size ≤ 1000000000) :
    Calls Tryd.prog 34 #[.pointer (some ⟨b, 0, none⟩), .string x] w fun e w' => e = .returned (.bool (Xm.hasAt s k x)) ∧ ∃ n, w' = w.drewN n := by
  obtain ⟨c0, c1, c2, c3, f1, f2, f3⟩ := h.c
  have hsz : (s.extract k s.size).size ≤ 9223372036854775807 := by simp; omega
  clear h c2 c3 f1 f2 f3
  go_enter Tryd.func34, Tryd.ntmps34
  go_wp2
  go_quiet ((go_at_call 56; exact Calls.quiet_of_same (pre_quiet _ _ _ hsz)))
  go_wp2
  go_ret
  exact ⟨rfl, _, rfl⟩

set_option maxRecDepth 100000 in
set_option maxHeartbeats 400000 in
theorem err_any (b : Nat) (s : ByteArray) (k e bad : Int) (w : World) (h : Xm.Sc w b s k e bad) :
    Calls Tryd.prog 14 #[.pointer (some ⟨b, 0, none⟩)] w fun r w' => r = .returned (.int .i64 e) ∧ w = w' := by
  obtain ⟨c0, c1, c2, c3, f1, f2, f3⟩ := h.c
  clear h c0 c1 c3 f1 f2 f3
  go_enter Tryd.func14, Tryd.ntmps14
  go_wp2
  go_ret
  exact ⟨rfl, rfl⟩
set_option maxRecDepth 100000 in
set_option maxHeartbeats 400000 in
theorem at_any (b : Nat) (s : ByteArray) (k e bad : Int) (w : World) (h : Xm.Sc w b s k e bad) :
    Calls Tryd.prog 16 #[.pointer (some ⟨b, 0, none⟩)] w fun r w' => r = .returned (.int .i64 (Xm.atOf e k bad)) ∧ w = w' := by
  obtain ⟨c0, c1, c2, c3, f1, f2, f3⟩ := h.c
  clear h c0 f1 f2 f3
  by_cases he : e = 0
  · subst he
    go_enter Tryd.func16, Tryd.ntmps16
    go_wp2
    go_ret
    exact ⟨rfl, rfl⟩
  · have g : (e != 0) = true := by simpa using he
    have HE : Hid ((Xm.atOf e k bad) = bad) := Lib.hid (by rw [Xm.atOf, if_neg he])
    clear he
    go_enter Tryd.func16, Tryd.ntmps16
    go_wp2
    go_ret
    exact ⟨ret_int HE.out.symm, rfl⟩
set_option maxRecDepth 100000 in
set_option maxHeartbeats 400000 in
theorem wrong_any (b : Nat) (s : ByteArray) (k e bad z at' : Int) (w : World) (h : Xm.Sc w b s k e bad) (hz : z ≠ 0) :
    Calls Tryd.prog 18 #[.pointer (some ⟨b, 0, none⟩), .int .i64 z, .int .i64 at'] w fun r w' => r = .returned (.tuple #[]) ∧ Xm.Sc w' b s k (Xm.errOf e z) (Xm.badOf e bad at') ∧ Xm.Mv w b w' := by
  have HS := Lib.hid h
  obtain ⟨c0, c1, c2, c3, f1, f2, f3⟩ := h.c
  have gz : (z != 0) = true := by simpa using hz
  clear h c0 c1 f1 hz
  by_cases he : e = 0
  · subst he
    go_enter Tryd.func18, Tryd.ntmps18
    go_wp2
    go_end0
    exact ⟨rfl, (HS.out.err z).bad' at', Xm.Mv.set.trans Xm.Mv.set⟩
  · have g : (e == 0) = false := by simpa using he
    have HE : Hid ((Xm.errOf e z) = e ∧ (Xm.badOf e bad at') = bad) := Lib.hid ⟨by rw [Xm.errOf, if_neg he], by rw [Xm.badOf, if_neg he]⟩
    clear he
    go_enter Tryd.func18, Tryd.ntmps18
    go_wp2
    go_end0
    exact ⟨rfl, by rw [HE.out.1, HE.out.2]; exact HS.out, Xm.Mv.refl _ _⟩
end Go.Proofs.YtfkdjdmbgednkaaDoor

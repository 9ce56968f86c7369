/- scan.Scanner: what it is in a world; has, Wrong, Err, At, blanks, until by their contracts. -/
/- scan.Scanner: blanks, until, New by their contracts. -/
/- scan.Scanner: New, name, open by their contracts. -/
/- scan.Scanner: skip, attr by their contracts. -/
import Derived.Test.YtdpkhmfolmcejaaGreatDoorMBu
import Derived.Deep.QuietTactic
import Derived.BigQuiet
namespace Go.Proofs.YtdpkhmfolmcejaaGreatDoor
open Go.RowKit
namespace Xm
/-- a scanner in a world -/
def Sc (w : World) (b : Nat) (s : ByteArray) (k e bad : Int) : Prop := w.heap[b]? = some (.cells #[.string s, .int .i64 k, .int .i64 e, .int .i64 bad] 74 (0, 0))
/-- nothing turns but a block -/
def Mv (w : World) (b : Nat) (w' : World) : Prop := w.grownBy w' (some b)
theorem Mv.refl (w : World) (b : Nat) : Mv w b w := ⟨rfl, rfl, rfl, Nat.le_refl _, fun _ _ _ => rfl⟩
theorem Mv.of {w w' : World} (b : Nat) (g : Flow.Grow w w') : Mv w b w' := ⟨g.os, g.tape, g.output, g.size, fun i hi _ => g.block i hi (by simp)⟩
theorem Mv.trans {w w1 w2 : World} {b : Nat} (h : Mv w b w1) (k : Mv w1 b w2) : Mv w b w2 :=
  ⟨k.os.trans h.os, k.tape.trans h.tape, k.output.trans h.output, Nat.le_trans h.size k.size, fun i hi hne => (k.block i (Nat.lt_of_lt_of_le hi h.size) hne).trans (h.block i hi hne)⟩
theorem Mv.set {w : World} {b q : Nat} {v : Value} : Mv w b (w.setCell ⟨b, q, none⟩ v) := ⟨rfl, rfl, rfl, by simp [World.setCell], fun i hi hne => Below.heap_setCell _ _ _ _ (fun e => hne (by rw [e]))⟩
theorem Mv.drew {w : World} {b n : Nat} : Mv w b (w.drewN n) := Mv.of b (Flow.grow_drewN _ _)
theorem Sc.grow {w w' : World} {b : Nat} {s : ByteArray} {k e bad : Int} (h : Sc w b s k e bad) (g : Flow.Grow w w') : Sc w' b s k e bad := by
  have hlt : b < w.heap.size := (Array.getElem?_eq_some_iff.1 h).1
  unfold Sc
  rw [g.block b hlt (by simp)]
  exact h
theorem Sc.c {w : World} {b : Nat} {s : ByteArray} {k e bad : Int} (h : Sc w b s k e bad) : w.cell? ⟨b, 0, none⟩ = some (.string s) ∧ w.cell? ⟨b, 1, none⟩ = some (.int .i64 k) ∧ w.cell? ⟨b, 2, none⟩ = some (.int .i64 e) ∧ w.cell? ⟨b, 3, none⟩ = some (.int .i64 bad) ∧
    w.frozen? ⟨b, 1, none⟩ = false ∧ w.frozen? ⟨b, 2, none⟩ = false ∧ w.frozen? ⟨b, 3, none⟩ = false :=
  ⟨(cell_of_row w b 0 _ _ _ h).trans rfl, (cell_of_row w b 1 _ _ _ h).trans rfl, (cell_of_row w b 2 _ _ _ h).trans rfl, (cell_of_row w b 3 _ _ _ h).trans rfl, frozen_of_row w b _ _ _ h, frozen_of_row w b _ _ _ h, frozen_of_row w b _ _ _ h⟩
theorem Sc.at' {w : World} {b : Nat} {s : ByteArray} {k e bad : Int} (h : Sc w b s k e bad) (z : Int) : Sc (w.setCell ⟨b, 1, none⟩ (.int .i64 z)) b s z e bad := by
  unfold Sc; rw [heap_setCell_same w b 1 _ _ _ h]; rfl
theorem Sc.err {w : World} {b : Nat} {s : ByteArray} {k e bad : Int} (h : Sc w b s k e bad) (z : Int) : Sc (w.setCell ⟨b, 2, none⟩ (.int .i64 z)) b s k z bad := by
  unfold Sc; rw [heap_setCell_same w b 2 _ _ _ h]; rfl
theorem Sc.bad' {w : World} {b : Nat} {s : ByteArray} {k e bad : Int} (h : Sc w b s k e bad) (z : Int) : Sc (w.setCell ⟨b, 3, none⟩ (.int .i64 z)) b s k e z := by
  unfold Sc; rw [heap_setCell_same w b 3 _ _ _ h]; rfl
theorem Tab.mv {w w' : World} {b : Nat} (h : Tab w) (g : Mv w b w') (hb : 1 < b) : Tab w' := ⟨Nat.lt_of_lt_of_le h.1 g.size, fun j v hv => by
  have := h.2 j v hv
  unfold World.cell? at this ⊢
  rw [g.block 1 h.1 (by simp; omega)]
  exact this⟩
/-- of what was wrong first -/
def errOf (e z : Int) : Int := if e = 0 then z else e
def badOf (e bad a : Int) : Int := if e = 0 then a else bad
def atOf (e k bad : Int) : Int := if e = 0 then k else bad
/-- does a text begin with another one; .. at a place -/
def pre (t x : ByteArray) : Bool := decide (x.size ≤ t.size) && (t.extract 0 x.size).toList == x.toList
def hasAt (s : ByteArray) (k : Nat) (x : ByteArray) : Bool := pre (s.extract k s.size) x
end Xm

set_option maxRecDepth 100000 in
set_option maxHeartbeats 400000 in
theorem lpre_any (t x : ByteArray) (w : World) (_ht : t.size ≤ 9223372036854775807) : Calls Tryz.prog 60 #[.string t, .string x] w fun e w' => e = .returned (.bool (Xm.pre t x)) ∧ w = w' := by
  by_cases h : x.size ≤ t.size
  · go_enter Tryz.func60, Tryz.ntmps60
    go_wp2
    go_ret
    exact ⟨ret_bool (by simp [Xm.pre, h]), rfl⟩
  · have h' : decide (x.size ≤ t.size) = false := by simpa using h
    go_enter Tryz.func60, Tryz.ntmps60
    go_wp2
    go_ret
    exact ⟨ret_bool (by simp [Xm.pre, h]), rfl⟩
set_option maxRecDepth 100000 in
set_option maxHeartbeats 400000 in
theorem pre_any (t x : ByteArray) (w : World) (ht : t.size ≤ 9223372036854775807) : Calls Tryz.prog 42 #[.string t, .string x] w fun e w' => e = .returned (.bool (Xm.pre t x)) ∧ w = w' := by
  go_enter Tryz.func42, Tryz.ntmps42
  go_wp2_with (go_at_call 60; refine (lpre_any _ _ _ ht).mono ?_; rintro e w' ⟨rfl, rfl⟩)
  go_ret
  exact ⟨rfl, rfl⟩
theorem pre_quiet (t x : ByteArray) (w : World) (ht : t.size ≤ 9223372036854775807) : Calls Tryz.prog 42 #[.string t, .string x] w fun e w' => e = .returned (.bool (Xm.pre t x)) ∧ w' = w :=
  (pre_any t x w ht).mono fun _ _ ⟨h1, h2⟩ => ⟨h1, h2.symm⟩

set_option maxRecDepth 100000 in
set_option maxHeartbeats 400000 in
theorem has_any (b : Nat) (s x : ByteArray) (k : Nat) (e bad : Int) (w : World) (h : Xm.Sc w b s k e bad) (hk : k ≤ s.size) (hs : s.size ≤ 1000000000) :
    Calls Tryz.prog 66 #[.pointer (some ⟨b, 0, none⟩), .string x] w fun e w' => e = .returned (.bool (Xm.hasAt s k x)) ∧ ∃ n, w' = w.drewN n := by
  obtain ⟨c0, c1, c2, c3, f1, f2, f3⟩ := h.c
  have hsz : (s.extract k s.size).size ≤ 9223372036854775807 := by simp; omega
  clear h c2 c3 f1 f2 f3
  go_enter Tryz.func66, Tryz.ntmps66
  go_wp2
  go_quiet ((go_at_call 42; exact Calls.quiet_of_same (pre_quiet _ _ _ hsz)))
  go_wp2
  go_ret
  exact ⟨rfl, _, rfl⟩

set_option maxRecDepth 100000 in
set_option maxHeartbeats 400000 in
theorem err_any (b : Nat) (s : ByteArray) (k e bad : Int) (w : World) (h : Xm.Sc w b s k e bad) :
    Calls Tryz.prog 48 #[.pointer (some ⟨b, 0, none⟩)] w fun r w' => r = .returned (.int .i64 e) ∧ w = w' := by
  obtain ⟨c0, c1, c2, c3, f1, f2, f3⟩ := h.c
  clear h c0 c1 c3 f1 f2 f3
  go_enter Tryz.func48, Tryz.ntmps48
  go_wp2
  go_ret
  exact ⟨rfl, rfl⟩
set_option maxRecDepth 100000 in
set_option maxHeartbeats 400000 in
theorem at_any (b : Nat) (s : ByteArray) (k e bad : Int) (w : World) (h : Xm.Sc w b s k e bad) :
    Calls Tryz.prog 49 #[.pointer (some ⟨b, 0, none⟩)] w fun r w' => r = .returned (.int .i64 (Xm.atOf e k bad)) ∧ w = w' := by
  obtain ⟨c0, c1, c2, c3, f1, f2, f3⟩ := h.c
  clear h c0 f1 f2 f3
  by_cases he : e = 0
  · subst he
    go_enter Tryz.func49, Tryz.ntmps49
    go_wp2
    go_ret
    exact ⟨rfl, rfl⟩
  · have g : (e != 0) = true := by simpa using he
    have HE : Hid ((Xm.atOf e k bad) = bad) := Lib.hid (by rw [Xm.atOf, if_neg he])
    clear he
    go_enter Tryz.func49, Tryz.ntmps49
    go_wp2
    go_ret
    exact ⟨ret_int HE.out.symm, rfl⟩
set_option maxRecDepth 100000 in
set_option maxHeartbeats 400000 in
theorem wrong_any (b : Nat) (s : ByteArray) (k e bad z at' : Int) (w : World) (h : Xm.Sc w b s k e bad) (hz : z ≠ 0) :
    Calls Tryz.prog 31 #[.pointer (some ⟨b, 0, none⟩), .int .i64 z, .int .i64 at'] w fun r w' => r = .returned (.tuple #[]) ∧ Xm.Sc w' b s k (Xm.errOf e z) (Xm.badOf e bad at') ∧ Xm.Mv w b w' := by
  have HS := Lib.hid h
  obtain ⟨c0, c1, c2, c3, f1, f2, f3⟩ := h.c
  have gz : (z != 0) = true := by simpa using hz
  clear h c0 c1 f1 hz
  by_cases he : e = 0
  · subst he
    go_enter Tryz.func31, Tryz.ntmps31
    go_wp2
    go_end0
    exact ⟨rfl, (HS.out.err z).bad' at', Xm.Mv.set.trans Xm.Mv.set⟩
  · have g : (e == 0) = false := by simpa using he
    have HE : Hid ((Xm.errOf e z) = e ∧ (Xm.badOf e bad at') = bad) := Lib.hid ⟨by rw [Xm.errOf, if_neg he], by rw [Xm.badOf, if_neg he]⟩
    clear he
    go_enter Tryz.func31, Tryz.ntmps31
    go_wp2
    go_end0
    exact ⟨rfl, by rw [HE.out.1, HE.out.2]; exact HS.out, Xm.Mv.refl _ _⟩
end Go.Proofs.YtdpkhmfolmcejaaGreatDoor
namespace Go.Proofs.YtdpkhmfolmcejaaGreatDoor
open Go.RowKit
namespace Xm
theorem idx_bd : ∀ (l x : List UInt8), -1 ≤ Lib.index l x ∧ (0 ≤ Lib.index l x → Lib.index l x + x.length ≤ l.length)
  | [], x => by
    unfold Lib.index
    split
    · rename_i h
      have : x = [] := by simpa using h
      subst this; simp
    · simp
  | b :: l, x => by
    have ih := idx_bd l x
    unfold Lib.index
    split
    · rename_i h
      have := (List.isPrefixOf_iff_prefix.1 h).length_le
      simp at this ⊢
      omega
    · split
      · simp
      · rename_i h
        have h' : Lib.index l x ≠ -1 := by simpa using h
        simp only [List.length_cons]
        omega
/-- how far it is to a text, from a place on; -1 -/
def farS (s : ByteArray) (k : Nat) (x : ByteArray) : Int := Lib.index (s.extract k s.size).data.toList x.data.toList
theorem farS_bd {s : ByteArray} {k : Nat} (hk : k ≤ s.size) (x : ByteArray) : -1 ≤ farS s k x ∧ (0 ≤ farS s k x → k + (farS s k x).toNat + x.size ≤ s.size) := by
  have h := idx_bd (s.extract k s.size).data.toList x.data.toList
  have e : (s.extract k s.size).data.toList.length = s.size - k := by
    have := cut_size (s := s) (a := k) (b := s.size) (Nat.le_refl _)
    rw [Array.length_toList]
    exact this
  have e2 : x.data.toList.length = x.size := by rw [Array.length_toList]; rfl
  rw [e, e2] at h
  unfold farS
  omega
/-- the library's variable is some number -/
def Max (w : World) : Prop := 0 < w.heap.size ∧ ∃ m, w.cell? ⟨0, 0, none⟩ = some (.int .i64 m)
theorem Max.mv {w w' : World} {b : Nat} (h : Max w) (g : Mv w b w') (hb : 1 < b) : Max w' := ⟨Nat.lt_of_lt_of_le h.1 g.size, by
  obtain ⟨m, hm⟩ := h.2
  refine ⟨m, ?_⟩
  unfold World.cell? at hm ⊢
  rw [g.block 0 h.1 (by simp; omega)]
  exact hm⟩
theorem Max.grow {w w' : World} (h : Max w) (g : Flow.Grow w w') : Max w' := h.mv (b := 2) (Mv.of 2 g) (by omega)
end Xm
theorem blank_quiet {c d : Int} {x : Bool} (hc : c = d) (hx : x = Xm.blank d) (w : World) : Calls Tryz.prog 73 #[.int .u8 c] w fun e w' => e = .returned (.bool x) ∧ w' = w := (blank_any c w).mono fun _ _ ⟨h1, h2⟩ => ⟨by rw [h1, hx, hc], h2.symm⟩
theorem index_quiet (s x : ByteArray) (w : World) (n : Int) (hn : Lib.index s.data.toList x.data.toList = n) (hs : s.size < 4294967281) (hm : ∃ m, w.cell? ⟨0, 0, none⟩ = some (.int .i64 m)) :
    Calls Tryz.prog 84 #[.string s, .string x] w fun e w' => e = .returned (.int .i64 n) ∧ w' = w := by
  obtain ⟨m, hm⟩ := hm
  subst hn
  exact Tryz.strings_Index s x m w hs hm

set_option maxRecDepth 100000 in
set_option maxHeartbeats 1000000 in
theorem blanks_any (b : Nat) (s : ByteArray) (k : Nat) (e bad : Int) (w : World) (h : Xm.Sc w b s k e bad) (hk : k ≤ s.size) (hs : s.size ≤ 1000000000) :
    Calls Tryz.prog 69 #[.pointer (some ⟨b, 0, none⟩)] w fun r w' => r = .returned (.bool (decide (k < Xm.skip s k))) ∧ Xm.Sc w' b s (Xm.skip s k : Nat) e bad ∧ Xm.Mv w b w' := by
  have HS0 := Lib.hid h
  obtain ⟨c0, c1, c2, c3, f1, f2, f3⟩ := h.c
  clear h c0 c2 c3 f1 f2 f3
  go_enter Tryz.func69, Tryz.ntmps69
  go_wp2
  clear c1
  go_loopw [29] (fun _ wr => ∃ j : Nat, k ≤ j ∧ j ≤ s.size ∧ wr.cell? ⟨b, 1, none⟩ = some (.int .i64 j) ∧ Hid (Xm.Sc wr b s j e bad) ∧ Hid (Xm.Mv w b wr) ∧ Hid (Xm.skip s k = Xm.skip s j)) (fun _ wr => match wr.cell? ⟨b, 1, none⟩ with | some (.int _ j) => s.size - j.toNat | _ => 0)
  case atStart => exact ⟨k, by omega, hk, HS0.out.c.2.1, HS0, Lib.hid (Xm.Mv.refl _ _), Lib.hid rfl⟩
  case round =>
    obtain ⟨j, hkj, hj, c1, HS, HM, HK⟩ := hrel
    clear HS0
    rename World => wr
    have c0 := HS.out.c.1
    have f1 := HS.out.c.2.2.2.2.1
    by_cases hlt : j < s.size
    · have Hb := Lib.hid (Xm.bt_eq hlt)
      have hd : decide ((j : Int) < (s.size : Int)) = true := by simp; omega
      obtain ⟨x, hx⟩ : ∃ x, x = Xm.blank (Xm.bt s j) := ⟨_, rfl⟩
      have Hx := Lib.hid hx
      clear hx
      go_wp2_with fail
      go_quiet ((go_at_call 73; exact Calls.quiet_of_same (blank_quiet Hb.out Hx.out _)))
      cases x
      · have HK2 : Hid (Xm.skip s k = j) := Lib.hid (by rw [HK.out, Xm.skip, if_pos hlt, if_neg (by rw [← Hx.out]; simp)])
        go_wp2
        go_ret
        exact ⟨ret_bool (by rw [HK2.out]), by rw [HK2.out]; exact HS.out.grow (Flow.grow_drewN _ _), HM.out.trans Xm.Mv.drew⟩
      · have HK2 : Hid (Xm.skip s k = Xm.skip s (j + 1)) := Lib.hid (by rw [HK.out, Xm.skip, if_pos hlt, if_pos (by rw [← Hx.out])])
        go_wp2
        have hc2 := ((HS.out.grow (Flow.grow_drewN wr nq)).at' ((j : Int) + 1)).c.2.1
        go_roundw
        case rel => exact ⟨j + 1, by omega, by omega, hc2, Lib.hid ((HS.out.grow (Flow.grow_drewN _ _)).at' _), Lib.hid ((HM.out.trans Xm.Mv.drew).trans Xm.Mv.set), HK2⟩
        case measure => simp only [hc2, c1]; omega
    · have HK2 : Hid (Xm.skip s k = j) := Lib.hid (by rw [HK.out, Xm.skip, if_neg hlt])
      have hd : decide ((j : Int) < (s.size : Int)) = false := by simp; omega
      go_wp2_with fail
      go_quiet (fail)
      go_wp2
      go_ret
      exact ⟨ret_bool (by rw [HK2.out]), by rw [HK2.out]; exact HS.out.grow (Flow.grow_drewN _ _), HM.out.trans Xm.Mv.drew⟩

set_option maxRecDepth 100000 in
set_option maxHeartbeats 1000000 in
theorem until_any (b : Nat) (s x : ByteArray) (k : Nat) (e bad : Int) (w : World) (h : Xm.Sc w b s k e bad) (hk : k ≤ s.size) (hs : s.size ≤ 1000000000) (hx : x.size ≤ 100) (hm : Xm.Max w) :
    Calls Tryz.prog 67 #[.pointer (some ⟨b, 0, none⟩), .string x] w fun r w' =>
      (Xm.farS s k x < 0 → r = .returned (.tuple #[.string ByteArray.empty, .bool false]) ∧ Xm.Sc w' b s k e bad ∧ Xm.Mv w b w') ∧
      (0 ≤ Xm.farS s k x → r = .returned (.tuple #[.string (s.extract k (k + (Xm.farS s k x).toNat)), .bool true]) ∧ Xm.Sc w' b s (k + (Xm.farS s k x).toNat + x.size : Nat) e bad ∧ Xm.Mv w b w') := by
  have HS := Lib.hid h
  obtain ⟨c0, c1, c2, c3, f1, f2, f3⟩ := h.c
  have hb := Xm.farS_bd hk x
  obtain ⟨n, hn⟩ : ∃ n, n = Xm.farS s k x := ⟨_, rfl⟩
  have Hn : Hid (Lib.index (s.extract k s.size).data.toList x.data.toList = n) := Lib.hid hn.symm
  rw [← hn] at hb ⊢
  clear hn
  have hsz : (s.extract k s.size).size < 4294967281 := by simp; omega
  have HM := Lib.hid hm
  have Hsz := Lib.hid hsz
  clear h c2 c3 f2 f3 hsz hm
  by_cases h0 : n < 0
  · suffices H : Calls Tryz.prog 67 #[.pointer (some ⟨b, 0, none⟩), .string x] w fun r w' => r = .returned (.tuple #[.string ByteArray.empty, .bool false]) ∧ Xm.Sc w' b s k e bad ∧ Xm.Mv w b w' from
      H.mono fun r w' h => ⟨fun _ => h, fun hh => by omega⟩
    clear hb f1
    go_enter Tryz.func67, Tryz.ntmps67
    go_wp2_with fail
    go_quiet ((go_at_call 84; exact Calls.quiet_of_same (index_quiet _ _ _ _ Hn.out Hsz.out (HM.out.grow (Flow.grow_drewN _ _)).2)))
    go_wp2
    go_ret2
    exact ⟨rfl, HS.out.grow (Flow.grow_drewN _ _), Xm.Mv.drew⟩
  · obtain ⟨m, rfl⟩ := Int.eq_ofNat_of_zero_le (Int.not_lt.1 h0)
    have hb2 := hb.2 (by omega)
    rw [Int.toNat_natCast] at hb2 ⊢
    suffices H : Calls Tryz.prog 67 #[.pointer (some ⟨b, 0, none⟩), .string x] w fun r w' => r = .returned (.tuple #[.string (s.extract k (k + m)), .bool true]) ∧ Xm.Sc w' b s (k + m + x.size : Nat) e bad ∧ Xm.Mv w b w' from
      H.mono fun r w' h => ⟨fun hh => by omega, fun _ => h⟩
    have en : (0 : Int) ≤ m := by omega
    have hsl := run_cut s k (k + m) (by omega) (by omega) (k : Int) ((k : Int) + m) rfl (by omega)
    have e1 : IntKind.i64.wrap ((k : Int) + m) = (k : Int) + m := IntWalk.i64_in _ (by omega)
    clear hb h0
    go_enter Tryz.func67, Tryz.ntmps67
    go_wp2_with fail
    go_quiet ((go_at_call 84; exact Calls.quiet_of_same (index_quiet _ _ _ _ Hn.out Hsz.out (HM.out.grow (Flow.grow_drewN _ _)).2)))
    go_wp2
    go_quiet (fail)
    go_wp2
    go_ret2
    refine ⟨rfl, ?_, ?_⟩
    · rw [show ((k + m + x.size : Nat) : Int) = (k : Int) + ((m : Int) + x.size) by omega]
      exact (HS.out.grow (Flow.grow_drewN w _)).at' _
    · exact Xm.Mv.drew.trans Xm.Mv.set
end Go.Proofs.YtdpkhmfolmcejaaGreatDoor
namespace Go.Proofs.YtdpkhmfolmcejaaGreatDoor
open Go.RowKit
namespace Xm
/-- where what a name may be of ends, from a place on -/
def nameEnd (s : ByteArray) (k : Nat) : Nat := if k < s.size then (if part (bt s k) = true ∨ bt s k = 58 then nameEnd s (k + 1) else k) else k
  termination_by s.size - k
theorem nameEnd_bd (s : ByteArray) : ∀ (n k : Nat), s.size - k = n → k ≤ s.size → k ≤ nameEnd s k ∧ nameEnd s k ≤ s.size
  | 0, k, h, hk => by unfold nameEnd; rw [if_neg (by omega)]; omega
  | n + 1, k, h, hk => by
    have := nameEnd_bd s n (k + 1) (by omega) (by omega)
    unfold nameEnd
    rw [if_pos (by omega)]
    split <;> omega
theorem skip_bd (s : ByteArray) : ∀ (n k : Nat), s.size - k = n → k ≤ s.size → k ≤ skip s k ∧ skip s k ≤ s.size
  | 0, k, h, hk => by unfold skip; rw [if_neg (by omega)]; omega
  | n + 1, k, h, hk => by
    have := skip_bd s n (k + 1) (by omega) (by omega)
    unfold skip
    rw [if_pos (by omega)]
    split <;> omega
/-- a name from a place on: is it one -/
def nameOk (s : ByteArray) (k : Nat) : Bool := (split (s.extract k (nameEnd s k))).2.2
def nameS (s : ByteArray) (k : Nat) : ByteArray := if nameOk s k = true then s.extract k (nameEnd s k) else ByteArray.empty
end Xm
namespace Xm
theorem text_lt (s : ByteArray) : ∀ k, text s k < s.size ∧ -1 ≤ text s k := by
  intro k
  induction h : s.size - k using Nat.strongRecOn generalizing k with
  | _ n ih =>
    unfold text
    split
    · rename_i hk
      have := getN_bd s k
      split
      · omega
      · rename_i h0
        have h1 : getN s k ≠ 0 := fun e => h0 (.inl e)
        exact ih (s.size - (k + (getN s k).toNat)) (by omega) _ rfl
    · omega
theorem bad_lt (s : ByteArray) : ∀ k, bad s k < s.size ∧ -1 ≤ bad s k := by
  intro k
  induction h : s.size - k using Nat.strongRecOn generalizing k with
  | _ n ih =>
    unfold bad
    split
    · rename_i hk
      have := getN_bd s k
      split
      · omega
      · exact ih (s.size - (k + (getN s k).toNat)) (by omega) _ rfl
    · omega
theorem openS_lt (s : ByteArray) : ∀ k acc, (openS s k acc).2 < s.size ∧ -1 ≤ (openS s k acc).2 := by
  intro k
  induction h : s.size - k using Nat.strongRecOn generalizing k with
  | _ n ih =>
    intro acc
    unfold openS
    split
    · rename_i hk
      split
      · split
        · exact ⟨by show (k : Int) < _; omega, by show (-1 : Int) ≤ k; omega⟩
        · rename_i hf
          have := (far_bd (Nat.le_of_lt hk) 59).2 (by omega)
          split
          · exact ⟨by show (k : Int) < _; omega, by show (-1 : Int) ≤ k; omega⟩
          · exact ih (s.size - (k + (far s k 59).toNat + 1)) (by omega) _ rfl _
      · exact ih (s.size - (k + 1)) (by omega) _ rfl _
    · exact ⟨by show (-1 : Int) < _; omega, by show (-1 : Int) ≤ -1; omega⟩
end Xm
theorem part_quiet {c d : Int} {x : Bool} (hc : c = d) (hx : x = Xm.part d) (w : World) : Calls Tryz.prog 78 #[.int .u8 c] w fun e w' => e = .returned (.bool x) ∧ w' = w := (part_any c w).mono fun _ _ ⟨h1, h2⟩ => ⟨by rw [h1, hx, hc], h2.symm⟩

set_option maxRecDepth 100000 in
set_option maxHeartbeats 2000000 in
theorem sname_any (b : Nat) (s : ByteArray) (k : Nat) (e bad : Int) (w : World) (h : Xm.Sc w b s k e bad) (hk : k ≤ s.size) (hs : s.size ≤ 1000000000) :
    Calls Tryz.prog 68 #[.pointer (some ⟨b, 0, none⟩)] w fun r w' => r = .returned (.string (Xm.nameS s k)) ∧
      (Xm.nameOk s k = true → Xm.Sc w' b s (Xm.nameEnd s k : Nat) e bad) ∧ (Xm.nameOk s k = false → Xm.Sc w' b s (Xm.nameEnd s k : Nat) (Xm.errOf e 3) (Xm.badOf e bad k)) ∧ Xm.Mv w b w' := by
  have HS0 := Lib.hid h
  obtain ⟨c0, c1, c2, c3, f1, f2, f3⟩ := h.c
  clear h c0 c2 c3 f1 f2 f3
  go_enter Tryz.func68, Tryz.ntmps68
  go_wp2
  clear c1
  go_loopw [45] (fun _ wr => ∃ j : Nat, k ≤ j ∧ j ≤ s.size ∧ wr.cell? ⟨b, 1, none⟩ = some (.int .i64 j) ∧ Hid (Xm.Sc wr b s j e bad) ∧ Hid (Xm.Mv w b wr) ∧ Hid (Xm.nameEnd s k = Xm.nameEnd s j)) (fun _ wr => match wr.cell? ⟨b, 1, none⟩ with | some (.int _ j) => s.size - j.toNat | _ => 0)
  case atStart => exact ⟨k, by omega, hk, HS0.out.c.2.1, HS0, Lib.hid (Xm.Mv.refl _ _), Lib.hid rfl⟩
  case round =>
    obtain ⟨j, hkj, hj, c1, HS, HM, HK⟩ := hrel
    clear HS0
    rename World => wr
    have c0 := HS.out.c.1
    have f1 := HS.out.c.2.2.2.2.1
    by_cases hlt : j < s.size
    rotate_left
    have HK2 : Hid (Xm.nameEnd s k = j) := Lib.hid (by rw [HK.out, Xm.nameEnd, if_neg hlt])
    have hd : decide ((j : Int) < (s.size : Int)) = false := by simp; omega
    go_wp2_with fail
    go_quiet (fail)
    have HS2 := Lib.hid (HS.out.grow (Flow.grow_drewN wr nq))
    have HM2 := Lib.hid (HM.out.trans (Xm.Mv.drew (n := nq)))
    generalize wr.drewN nq = w2 at *
    clear hd
    rotate_left
    have Hb := Lib.hid (Xm.bt_eq hlt)
    have hd : decide ((j : Int) < (s.size : Int)) = true := by simp; omega
    cases hx : Xm.part (Xm.bt s j)
    rotate_left
    · have Hx := Lib.hid hx.symm
      have HK2 : Hid (Xm.nameEnd s k = Xm.nameEnd s (j + 1)) := Lib.hid (by rw [HK.out, Xm.nameEnd, if_pos hlt, if_pos (.inl hx)])
      clear hx
      go_wp2_with fail
      go_quiet ((go_at_call 78; exact Calls.quiet_of_same (part_quiet Hb.out Hx.out _)))
      go_wp2
      have hc2 := ((HS.out.grow (Flow.grow_drewN wr nq)).at' ((j : Int) + 1)).c.2.1
      go_roundw
      case rel => exact ⟨j + 1, by omega, by omega, hc2, Lib.hid ((HS.out.grow (Flow.grow_drewN _ _)).at' _), Lib.hid ((HM.out.trans Xm.Mv.drew).trans Xm.Mv.set), HK2⟩
      case measure => simp only [hc2, c1]; omega
    rotate_left
    have Hx := Lib.hid hx.symm
    clear hx
    by_cases h58 : Xm.bt s j = 58
    · have g : (Xm.bt s j == 58) = true := by simpa using h58
      have HK2 : Hid (Xm.nameEnd s k = Xm.nameEnd s (j + 1)) := Lib.hid (by rw [HK.out, Xm.nameEnd, if_pos hlt, if_pos (.inr h58)])
      have g2 : ((s[j].toNat : Int) == 58) = true := by rw [Hb.out]; exact g
      clear h58 g
      go_wp2_with fail
      go_quiet ((go_at_call 78; exact Calls.quiet_of_same (part_quiet Hb.out Hx.out _)))
      go_wp2
      have hc2 := ((HS.out.grow (Flow.grow_drewN wr nq)).at' ((j : Int) + 1)).c.2.1
      go_roundw
      case rel => exact ⟨j + 1, by omega, by omega, hc2, Lib.hid ((HS.out.grow (Flow.grow_drewN _ _)).at' _), Lib.hid ((HM.out.trans Xm.Mv.drew).trans Xm.Mv.set), HK2⟩
      case measure => simp only [hc2, c1]; omega
    have g : (Xm.bt s j == 58) = false := by simpa using h58
    have HK2 : Hid (Xm.nameEnd s k = j) := Lib.hid (by rw [HK.out, Xm.nameEnd, if_pos hlt, if_neg (fun h => h.elim (fun h => by rw [← Hx.out] at h; cases h) h58)])
    have g2 : ((s[j].toNat : Int) == 58) = false := by rw [Hb.out]; exact g
    clear h58 g
    go_wp2_with fail
    go_quiet ((go_at_call 78; exact Calls.quiet_of_same (part_quiet Hb.out Hx.out _)))
    have HS2 := Lib.hid (HS.out.grow (Flow.grow_drewN wr nq))
    have HM2 := Lib.hid (HM.out.trans (Xm.Mv.drew (n := nq)))
    generalize wr.drewN nq = w2 at *
    clear hd g2
    all_goals
      have c0' := HS2.out.c.1
      have c1' := HS2.out.c.2.1
      have hsl := run_cut s k j hkj hj (k : Int) (j : Int) rfl rfl
      have hxm : (s.extract k j).size ≤ 9223372036854775807 := by simp; omega
      have Hxm := Lib.hid hxm
      have HN : Hid ((Xm.split (s.extract k j)).2.2 = Xm.nameOk s k) := Lib.hid (by rw [Xm.nameOk, HK2.out])
      clear c0 c1 f1 hxm HS HM HK
      cases hok : Xm.nameOk s k
      · have Hok := Lib.hid hok
        clear hok
        go_wp2_with fail
        go_quiet (fail)
        have HS3 := Lib.hid (HS2.out.grow (Flow.grow_drewN w2 nq))
        have HM3 := Lib.hid (HM2.out.trans (Xm.Mv.drew (n := nq)))
        generalize w2.drewN nq = w3 at *
        clear c0' c1' HS2 HM2 hsl
        go_wp2_with (go_at_call 85; refine (split_any _ _ Hxm.out).mono ?_; rintro e w' ⟨rfl, n, rfl⟩; rw [HN.out, Hok.out])
        have HS4 := Lib.hid (HS3.out.grow (Flow.grow_drewN w3 n))
        have HM4 := Lib.hid (HM3.out.trans (Xm.Mv.drew (n := n)))
        generalize w3.drewN n = w4 at *
        clear HS3 HM3
        go_wp2_with (go_at_call 31; refine (wrong_any _ _ _ _ _ 3 _ _ HS4.out (by decide)).mono ?_; rintro e w' ⟨rfl, hs5, hm5⟩)
        go_ret
        exact ⟨ret_str (by rw [Xm.nameS, Hok.out]; rfl), (fun h => by rw [Hok.out] at h; cases h), (fun _ => by rw [HK2.out]; exact hs5), HM4.out.trans hm5⟩
      · have Hok := Lib.hid hok
        clear hok
        go_wp2_with fail
        go_quiet (fail)
        have HS3 := Lib.hid (HS2.out.grow (Flow.grow_drewN w2 nq))
        have HM3 := Lib.hid (HM2.out.trans (Xm.Mv.drew (n := nq)))
        generalize w2.drewN nq = w3 at *
        clear c0' c1' HS2 HM2 hsl
        go_wp2_with (go_at_call 85; refine (split_any _ _ Hxm.out).mono ?_; rintro e w' ⟨rfl, n, rfl⟩; rw [HN.out, Hok.out])
        go_ret
        exact ⟨ret_str (by rw [Xm.nameS, Hok.out, HK2.out]; rfl), (fun _ => by rw [HK2.out]; exact HS3.out.grow (Flow.grow_drewN _ _)), (fun h => by rw [Hok.out] at h; cases h), HM3.out.trans Xm.Mv.drew⟩

set_option maxRecDepth 100000 in
set_option maxHeartbeats 1000000 in
theorem sopen_any (b : Nat) (s x : ByteArray) (k e bad : Int) (a : Nat) (w : World) (h : Xm.Sc w b s k e bad) (hT : Xm.Tab w) (_hb1 : 1 < b) (hx : x.size ≤ 1000000000) (ha : a ≤ 1000000000) :
    Calls Tryz.prog 72 #[.pointer (some ⟨b, 0, none⟩), .string x, .int .i64 a] w fun r w' =>
      (0 ≤ Xm.text x 0 → r = .returned (.string ByteArray.empty) ∧ Xm.Sc w' b s k (Xm.errOf e 3) (Xm.badOf e bad (a + Xm.text x 0)) ∧ Xm.Mv w b w') ∧
      (Xm.text x 0 < 0 → 0 ≤ (Xm.openS x 0 []).2 → r = .returned (.string (str (Xm.openS x 0 []).1)) ∧ Xm.Sc w' b s k (Xm.errOf e 3) (Xm.badOf e bad (a + (Xm.openS x 0 []).2)) ∧ Xm.Mv w b w') ∧
      (Xm.text x 0 < 0 → (Xm.openS x 0 []).2 < 0 → r = .returned (.string (str (Xm.openS x 0 []).1)) ∧ Xm.Sc w' b s k e bad ∧ Xm.Mv w b w') := by
  have HS := Lib.hid h
  have HT := Lib.hid hT
  obtain ⟨t, ht⟩ : ∃ t, t = Xm.text x 0 := ⟨_, rfl⟩
  obtain ⟨p, hp⟩ : ∃ p, p = Xm.openS x 0 [] := ⟨_, rfl⟩
  rw [← ht, ← hp]
  have Ht := Lib.hid ht
  have Hp := Lib.hid hp
  have hxm : x.size ≤ 9223372036854775807 := by omega
  have hbd : t < 1000000001 ∧ p.2 < 1000000001 := by
    rw [ht, hp]
    exact ⟨by have := Xm.text_lt x 0; omega, by have := Xm.openS_lt x 0 []; omega⟩
  obtain ⟨ht1, hp1⟩ := hbd
  obtain ⟨pl, pz⟩ := p
  clear h hT ht hp
  by_cases h0 : 0 ≤ t
  · suffices H : Calls Tryz.prog 72 #[.pointer (some ⟨b, 0, none⟩), .string x, .int .i64 a] w fun r w' => r = .returned (.string ByteArray.empty) ∧ Xm.Sc w' b s k (Xm.errOf e 3) (Xm.badOf e bad (a + t)) ∧ Xm.Mv w b w' from
      H.mono fun r w' h => ⟨fun _ => h, fun hh => by omega, fun hh => by omega⟩
    go_enter Tryz.func72, Tryz.ntmps72
    go_wp2_with (first | (go_at_call 54; refine (ctext_any _ _ hxm).mono ?_; rintro e w' ⟨rfl, rfl⟩; rw [← Ht.out]) | (go_at_call 31; refine (wrong_any _ _ _ _ _ 3 _ _ HS.out (by decide)).mono ?_; rintro e w' ⟨rfl, hs5, hm5⟩))
    go_ret
    exact ⟨rfl, hs5, hm5⟩
  · have g1 : decide (0 ≤ t) = false := by simpa using h0
    by_cases hz : 0 ≤ pz
    · suffices H : Calls Tryz.prog 72 #[.pointer (some ⟨b, 0, none⟩), .string x, .int .i64 a] w fun r w' => r = .returned (.string (str pl)) ∧ Xm.Sc w' b s k (Xm.errOf e 3) (Xm.badOf e bad (a + pz)) ∧ Xm.Mv w b w' from
        H.mono fun r w' h => ⟨fun hh => by omega, fun _ _ => h, fun _ hh => by omega⟩
      clear h0
      go_enter Tryz.func72, Tryz.ntmps72
      go_wp2_with (first | (go_at_call 54; refine (ctext_any _ _ hxm).mono ?_; rintro e w' ⟨rfl, rfl⟩; rw [← Ht.out]) | (go_at_call 89; refine (open_any _ _ HT.out hx).mono ?_; rintro e w' ⟨rfl, hg⟩; rw [← Hp.out]) | (go_at_call 31; refine (wrong_any _ _ _ _ _ 3 _ _ (HS.out.grow hg) (by decide)).mono ?_; rintro e w' ⟨rfl, hs5, hm5⟩))
      go_ret
      exact ⟨rfl, hs5, (Xm.Mv.of b hg).trans hm5⟩
    · have g2 : decide (0 ≤ pz) = false := by simpa using hz
      suffices H : Calls Tryz.prog 72 #[.pointer (some ⟨b, 0, none⟩), .string x, .int .i64 a] w fun r w' => r = .returned (.string (str pl)) ∧ Xm.Sc w' b s k e bad ∧ Xm.Mv w b w' from
        H.mono fun r w' h => ⟨fun hh => by omega, fun _ hh => by omega, fun _ _ => h⟩
      clear h0 hz
      go_enter Tryz.func72, Tryz.ntmps72
      go_wp2_with (first | (go_at_call 54; refine (ctext_any _ _ hxm).mono ?_; rintro e w' ⟨rfl, rfl⟩; rw [← Ht.out]) | (go_at_call 89; refine (open_any _ _ HT.out hx).mono ?_; rintro e w' ⟨rfl, hg⟩; rw [← Hp.out]))
      go_ret
      exact ⟨rfl, HS.out.grow hg, Xm.Mv.of b hg⟩
end Go.Proofs.YtdpkhmfolmcejaaGreatDoor
namespace Go.Proofs.YtdpkhmfolmcejaaGreatDoor
open Go.RowKit
namespace Xm
/-- where a scanner is, what was wrong first, and where -/
structure P3 where
  k : Nat
  e : Int
  bad : Int
def Scs (w : World) (b : Nat) (s : ByteArray) (p : P3) : Prop := Sc w b s p.k p.e p.bad
def wrong (p : P3) (z a : Int) : P3 := ⟨p.k, errOf p.e z, badOf p.e p.bad a⟩
def nameT (s : ByteArray) (p : P3) : P3 := if nameOk s p.k = true then ⟨nameEnd s p.k, p.e, p.bad⟩ else wrong ⟨nameEnd s p.k, p.e, p.bad⟩ 3 p.k
def skipT (s : ByteArray) (p : P3) (x : ByteArray) : P3 :=
  if p.e = 0 then (if hasAt s (skip s p.k) x = true then ⟨skip s (skip s p.k + x.size), p.e, p.bad⟩ else wrong ⟨skip s p.k, p.e, p.bad⟩ 3 (skip s p.k)) else p
/-- a text with its names opened; where it begins -/
def opened (x : ByteArray) : ByteArray := if 0 ≤ text x 0 then ByteArray.empty else str (openS x 0 []).1
def openT (p : P3) (x : ByteArray) (a : Nat) : P3 := if 0 ≤ text x 0 then wrong p 3 (a + text x 0) else if 0 ≤ (openS x 0 []).2 then wrong p 3 (a + (openS x 0 []).2) else p
theorem hasAt_bd {s x : ByteArray} {k : Nat} (hk : k ≤ s.size) (h : hasAt s k x = true) : k + x.size ≤ s.size := by
  simp only [hasAt, pre, Bool.and_eq_true, decide_eq_true_eq] at h
  have := h.1
  simp at this
  omega
end Xm
theorem sname_T (b : Nat) (s : ByteArray) (p : Xm.P3) (w : World) (h : Xm.Scs w b s p) (hk : p.k ≤ s.size) (hs : s.size ≤ 1000000000) :
    Calls Tryz.prog 68 #[.pointer (some ⟨b, 0, none⟩)] w fun r w' => r = .returned (.string (Xm.nameS s p.k)) ∧ Xm.Scs w' b s (Xm.nameT s p) ∧ Xm.Mv w b w' :=
  (sname_any b s p.k p.e p.bad w h hk hs).mono fun r w' ⟨h1, h2, h3, h4⟩ => ⟨h1, by
    unfold Xm.nameT
    cases hok : Xm.nameOk s p.k
    · rw [if_neg (by simp)]; exact h3 hok
    · rw [if_pos rfl]; exact h2 hok, h4⟩
theorem sopen_T (b : Nat) (s x : ByteArray) (p : Xm.P3) (a : Nat) (w : World) (h : Xm.Scs w b s p) (hT : Xm.Tab w) (hb1 : 1 < b) (hx : x.size ≤ 1000000000) (ha : a ≤ 1000000000) :
    Calls Tryz.prog 72 #[.pointer (some ⟨b, 0, none⟩), .string x, .int .i64 a] w fun r w' => r = .returned (.string (Xm.opened x)) ∧ Xm.Scs w' b s (Xm.openT p x a) ∧ Xm.Mv w b w' :=
  (sopen_any b s x p.k p.e p.bad a w h hT hb1 hx ha).mono fun r w' ⟨h1, h2, h3⟩ => by
    unfold Xm.opened Xm.openT
    by_cases ht : 0 ≤ Xm.text x 0
    · rw [if_pos ht, if_pos ht]; exact h1 ht
    · rw [if_neg ht, if_neg ht]
      by_cases hz : 0 ≤ (Xm.openS x 0 []).2
      · rw [if_pos hz]; exact h2 (by omega) hz
      · rw [if_neg hz]; exact h3 (by omega) (by omega)

set_option maxRecDepth 100000 in
set_option maxHeartbeats 1000000 in
theorem skip_T (b : Nat) (s x : ByteArray) (p : Xm.P3) (w : World) (h : Xm.Scs w b s p) (hk : p.k ≤ s.size) (hs : s.size ≤ 1000000000) (hx : x.size ≤ 100) :
    Calls Tryz.prog 93 #[.pointer (some ⟨b, 0, none⟩), .string x] w fun r w' => r = .returned (.tuple #[]) ∧ Xm.Scs w' b s (Xm.skipT s p x) ∧ Xm.Mv w b w' := by
  obtain ⟨k, e, bad⟩ := p
  have HS := Lib.hid h
  obtain ⟨c0, c1, c2, c3, f1, f2, f3⟩ := (h : Xm.Sc w b s k e bad).c
  have hk : k ≤ s.size := hk
  have hk1 := Xm.skip_bd s _ k rfl hk
  clear h c0 c1 c3 f1 f2 f3
  by_cases he : e = 0
  · have g : (e != 0) = false := by simpa using he
    obtain ⟨k1, hk1e⟩ : ∃ k1, k1 = Xm.skip s k := ⟨_, rfl⟩
    rw [← hk1e] at hk1
    have Hk1 := Lib.hid hk1e
    clear hk1e
    cases hh : Xm.hasAt s k1 x
    · have HH := Lib.hid hh
      have HE : Hid (Xm.skipT s ⟨k, e, bad⟩ x = Xm.wrong ⟨k1, e, bad⟩ 3 k1) := Lib.hid (by simp only [Xm.skipT, if_pos he]; rw [← Hk1.out, HH.out]; rfl)
      clear hh he
      go_enter Tryz.func93, Tryz.ntmps93
      go_wp2_with (go_at_call 69; refine (blanks_any _ _ _ _ _ _ HS.out hk hs).mono ?_; rintro e w' ⟨rfl, hs1, hm1⟩; rw [← Hk1.out] at hs1)
      have HS1 := Lib.hid hs1
      have HM1 := Lib.hid hm1
      have c1 := hs1.c.2.1
      have f1 := hs1.c.2.2.2.2.1
      clear hs1 hm1
      go_wp2_with (go_at_call 66; refine (has_any _ _ _ _ _ _ _ HS1.out hk1.2 hs).mono ?_; rintro e w' ⟨rfl, n, rfl⟩; rw [HH.out])
      have HS2 := Lib.hid (HS1.out.grow (Flow.grow_drewN _ n))
      go_wp2_with (go_at_call 31; refine (wrong_any _ _ _ _ _ 3 _ _ HS2.out (by decide)).mono ?_; rintro e w' ⟨rfl, hs5, hm5⟩)
      (try simp only [Exit.inBlock, Exit.then])
      refine bodyPost_ret (results_none rfl _ _ _) rfl ?_
      exact ⟨rfl, by rw [HE.out]; exact hs5, (HM1.out.trans Xm.Mv.drew).trans hm5⟩
    · have HH := Lib.hid hh
      have hb := Xm.hasAt_bd hk1.2 hh
      have HE : Hid (Xm.skipT s ⟨k, e, bad⟩ x = ⟨Xm.skip s (k1 + x.size), e, bad⟩) := Lib.hid (by simp only [Xm.skipT, if_pos he]; rw [← Hk1.out, HH.out]; rfl)
      clear hh he
      go_enter Tryz.func93, Tryz.ntmps93
      go_wp2_with (go_at_call 69; refine (blanks_any _ _ _ _ _ _ HS.out hk hs).mono ?_; rintro e w' ⟨rfl, hs1, hm1⟩; rw [← Hk1.out] at hs1)
      have HS1 := Lib.hid hs1
      have HM1 := Lib.hid hm1
      have c1 := hs1.c.2.1
      have f1 := hs1.c.2.2.2.2.1
      clear hs1 hm1
      go_wp2_with (go_at_call 66; refine (has_any _ _ _ _ _ _ _ HS1.out hk1.2 hs).mono ?_; rintro e w' ⟨rfl, n, rfl⟩; rw [HH.out])
      have HS2 := Lib.hid (HS1.out.grow (Flow.grow_drewN _ n))
      have HS3 := Lib.hid (HS2.out.at' ((k1 : Int) + x.size))
      have HK3 : Hid ((k1 : Int) + x.size = ((k1 + x.size : Nat) : Int)) := Lib.hid (by omega)
      go_wp2_with (go_at_call 69; refine (blanks_any _ _ (k1 + x.size) _ _ _ (by rw [← HK3.out]; exact HS3.out) hb hs).mono ?_; rintro e w' ⟨rfl, hs5, hm5⟩)
      go_end0
      exact ⟨rfl, by rw [HE.out]; exact hs5, ((HM1.out.trans Xm.Mv.drew).trans Xm.Mv.set).trans hm5⟩
  · have g : (e != 0) = true := by simpa using he
    have HE : Hid (Xm.skipT s ⟨k, e, bad⟩ x = ⟨k, e, bad⟩) := Lib.hid (by simp only [Xm.skipT, if_neg he])
    clear he
    go_enter Tryz.func93, Tryz.ntmps93
    go_wp2
    (try simp only [Exit.inBlock, Exit.then])
    refine bodyPost_ret (results_none rfl _ _ _) rfl ?_
    exact ⟨rfl, by rw [HE.out]; exact HS.out, Xm.Mv.refl _ _⟩
end Go.Proofs.YtdpkhmfolmcejaaGreatDoor

/- scan.Scanner: skip, attr by their contracts. -/
import Derived.Test.YtfkdjdmbgednkaaDoorScan3
namespace Go.Proofs.YtfkdjdmbgednkaaDoor
open Go.RowKit
namespace Xm
/-- where a scanner is, what was wrong first, and where -/
structure P3 where
  k : Nat
  e : Int
  bad : Int
def Scs (w : World) (b : Nat) (s : ByteArray) (p : P3) : Prop := Sc w b s p.k p.e p.bad
def wrong (p : P3) (z a : Int) : P3 := ⟨p.k, errOf p.e z, badOf p.e p.bad a⟩
def nameT (s : ByteArray) (p : P3) : P3 := if nameOk s p.k = true then ⟨nameEnd s p.k, p.e, p.bad⟩ else wrong ⟨nameEnd s p.k, p.e, p.bad⟩ 3 p.k
def skipT (s : ByteArray) (p : P3) (x : ByteArray) : P3 :=
  if p.e = 0 then (if hasAt s (skip s p.k) x = true then ⟨skip s (skip s p.k + x.size), p.e, p.bad⟩ else wrong ⟨skip s p.k, p.e, p.bad⟩ 3 (skip s p.k)) else p
/-- a text with its names opened; where it begins -/
def opened (x : ByteArray) : ByteArray := if 0 ≤ text x 0 then ByteArray.empty else str (openS x 0 []).1
def openT (p : P3) (x : ByteArray) (a : Nat) : P3 := if 0 ≤ text x 0 then wrong p 3 (a + text x 0) else if 0 ≤ (openS x 0 []).2 then wrong p 3 (a + (openS x 0 []).2) else p
theorem hasAt_bd {s x : ByteArray} {k : Nat} (hk : k ≤ s.size) (h : hasAt s k x = true) : k + x.size ≤ s.size := by
  simp only [hasAt, pre, Bool.and_eq_true, decide_eq_true_eq] at h
  have := h.1
  simp at this
  omega
end Xm
theorem sname_T (b : Nat) (s : ByteArray) (p : Xm.P3) (w : World) (h : Xm.Scs w b s p) (hk : p.k ≤ s.size) (hs : s.size ≤ 1000000000) :
    Calls Tryd.prog 37 #[.pointer (some ⟨b, 0, none⟩)] w fun r w' => r = .returned (.string (Xm.nameS s p.k)) ∧ Xm.Scs w' b s (Xm.nameT s p) ∧ Xm.Mv w b w' :=
  (sname_any b s p.k p.e p.bad w h hk hs).mono fun r w' ⟨h1, h2, h3, h4⟩ => ⟨h1, by
    unfold Xm.nameT
    cases hok : Xm.nameOk s p.k
    · rw [if_neg (by simp)]; exact h3 hok
    · rw [if_pos rfl]; exact h2 hok, h4⟩
theorem sopen_T (b : Nat) (s x : ByteArray) (p : Xm.P3) (a : Nat) (w : World) (h : Xm.Scs w b s p) (hT : Xm.Tab w) (hb1 : 1 < b) (hx : x.size ≤ 1000000000) (ha : a ≤ 1000000000) :
    Calls Tryd.prog 41 #[.pointer (some ⟨b, 0, none⟩), .string x, .int .i64 a] w fun r w' => r = .returned (.string (Xm.opened x)) ∧ Xm.Scs w' b s (Xm.openT p x a) ∧ Xm.Mv w b w' :=
  (sopen_any b s x p.k p.e p.bad a w h hT hb1 hx ha).mono fun r w' ⟨h1, h2, h3⟩ => by
    unfold Xm.opened Xm.openT
    by_cases ht : 0 ≤ Xm.text x 0
    · rw [if_pos ht, if_pos ht]; exact h1 ht
    · rw [if_neg ht, if_neg ht]
      by_cases hz : 0 ≤ (Xm.openS x 0 []).2
      · rw [if_pos hz]; exact h2 (by omega) hz
      · rw [if_neg hz]; exact h3 (by omega) (by omega)

set_option maxRecDepth 100000 in
set_option maxHeartbeats 1000000 in
theorem skip_T (b : Nat) (s x : ByteArray) (p : Xm.P3) (w : World) (h : Xm.Scs w b s p) (hk : p.k ≤ s.size) (hs : s.size ≤ 1000000000) (hx : x.size ≤ 100) :
    Calls Tryd.prog 79 #[.pointer (some ⟨b, 0, none⟩), .string x] w fun r w' => r = .returned (.tuple #[]) ∧ Xm.Scs w' b s (Xm.skipT s p x) ∧ Xm.Mv w b w' := by
  obtain ⟨k, e, bad⟩ := p
  have HS := Lib.hid h
  obtain ⟨c0, c1, c2, c3, f1, f2, f3⟩ := (h : Xm.Sc w b s k e bad).c
  have hk : k ≤ s.size := hk
  have hk1 := Xm.skip_bd s _ k rfl hk
  clear h c0 c1 c3 f1 f2 f3
  by_cases he : e = 0
  · have g : (e != 0) = false := by simpa using he
    obtain ⟨k1, hk1e⟩ : ∃ k1, k1 = Xm.skip s k := ⟨_, rfl⟩
    rw [← hk1e] at hk1
    have Hk1 := Lib.hid hk1e
    clear hk1e
    cases hh : Xm.hasAt s k1 x
    · have HH := Lib.hid hh
      have HE : Hid (Xm.skipT s ⟨k, e, bad⟩ x = Xm.wrong ⟨k1, e, bad⟩ 3 k1) := Lib.hid (by simp only [Xm.skipT, if_pos he]; rw [← Hk1.out, HH.out]; rfl)
      clear hh he
      go_enter Tryd.func79, Tryd.ntmps79
      go_wp2_with (go_at_call 38; refine (blanks_any _ _ _ _ _ _ HS.out hk hs).mono ?_; rintro e w' ⟨rfl, hs1, hm1⟩; rw [← Hk1.out] at hs1)
      have HS1 := Lib.hid hs1
      have HM1 := Lib.hid hm1
      have c1 := hs1.c.2.1
      have f1 := hs1.c.2.2.2.2.1
      clear hs1 hm1
      go_wp2_with (go_at_call 34; refine (has_any _ _ _ _ _ _ _ HS1.out hk1.2 hs).mono ?_; rintro e w' ⟨rfl, n, rfl⟩; rw [HH.out])
      have HS2 := Lib.hid (HS1.out.grow (Flow.grow_drewN _ n))
      go_wp2_with (go_at_call 18; refine (wrong_any _ _ _ _ _ 3 _ _ HS2.out (by decide)).mono ?_; rintro e w' ⟨rfl, hs5, hm5⟩)
      (try simp only [Exit.inBlock, Exit.then])
      refine bodyPost_ret (results_none rfl _ _ _) rfl ?_
      exact ⟨rfl, by rw [HE.out]; exact hs5, (HM1.out.trans Xm.Mv.drew).trans hm5⟩
    · have HH := Lib.hid hh
      have hb := Xm.hasAt_bd hk1.2 hh
      have HE : Hid (Xm.skipT s ⟨k, e, bad⟩ x = ⟨Xm.skip s (k1 + x.size), e, bad⟩) := Lib.hid (by simp only [Xm.skipT, if_pos he]; rw [← Hk1.out, HH.out]; rfl)
      clear hh he
      go_enter Tryd.func79, Tryd.ntmps79
      go_wp2_with (go_at_call 38; refine (blanks_any _ _ _ _ _ _ HS.out hk hs).mono ?_; rintro e w' ⟨rfl, hs1, hm1⟩; rw [← Hk1.out] at hs1)
      have HS1 := Lib.hid hs1
      have HM1 := Lib.hid hm1
      have c1 := hs1.c.2.1
      have f1 := hs1.c.2.2.2.2.1
      clear hs1 hm1
      go_wp2_with (go_at_call 34; refine (has_any _ _ _ _ _ _ _ HS1.out hk1.2 hs).mono ?_; rintro e w' ⟨rfl, n, rfl⟩; rw [HH.out])
      have HS2 := Lib.hid (HS1.out.grow (Flow.grow_drewN _ n))
      have HS3 := Lib.hid (HS2.out.at' ((k1 : Int) + x.size))
      have HK3 : Hid ((k1 : Int) + x.size = ((k1 + x.size : Nat) : Int)) := Lib.hid (by omega)
      go_wp2_with (go_at_call 38; refine (blanks_any _ _ (k1 + x.size) _ _ _ (by rw [← HK3.out]; exact HS3.out) hb hs).mono ?_; rintro e w' ⟨rfl, hs5, hm5⟩)
      go_end0
      exact ⟨rfl, by rw [HE.out]; exact hs5, ((HM1.out.trans Xm.Mv.drew).trans Xm.Mv.set).trans hm5⟩
  · have g : (e != 0) = true := by simpa using he
    have HE : Hid (Xm.skipT s ⟨k, e, bad⟩ x = ⟨k, e, bad⟩) := Lib.hid (by simp only [Xm.skipT, if_neg he])
    clear he
    go_enter Tryd.func79, Tryd.ntmps79
    go_wp2
    (try simp only [Exit.inBlock, Exit.then])
    refine bodyPost_ret (results_none rfl _ _ _) rfl ?_
    exact ⟨rfl, by rw [HE.out]; exact HS.out, Xm.Mv.refl _ _⟩
end Go.Proofs.YtfkdjdmbgednkaaDoor

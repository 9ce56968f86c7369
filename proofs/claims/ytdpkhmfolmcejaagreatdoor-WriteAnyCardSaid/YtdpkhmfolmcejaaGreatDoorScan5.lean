/- scan.Scanner: attr by its contract. -/
import Derived.Test.YtdpkhmfolmcejaaGreatDoorMScan
import Derived.Deep.DeepCutAuto
namespace Go.Proofs.YtdpkhmfolmcejaaGreatDoor
open Go.RowKit
namespace Xm
def eqS : ByteArray := ⟨#[61]⟩
theorem nameT_k (s : ByteArray) (p : P3) : (nameT s p).k = nameEnd s p.k := by unfold nameT wrong; split <;> rfl
theorem skipT_bd (s x : ByteArray) (p : P3) (h : p.k ≤ s.size) : p.k ≤ (skipT s p x).k ∧ (skipT s p x).k ≤ s.size := by
  have h1 := skip_bd s _ p.k rfl h
  unfold skipT
  split
  · split
    · rename_i hh
      have h2 := hasAt_bd h1.2 hh
      have h3 := skip_bd s _ (skip s p.k + x.size) rfl h2
      exact ⟨by show p.k ≤ skip s _; omega, h3.2⟩
    · exact h1
  · omega
/-- behind the quote that a value begins with: where it ends; what is wrong -/
def valT (s : ByteArray) (p : P3) : P3 :=
  if farS s (p.k + 1) (s.extract p.k (p.k + 1)) < 0 then wrong ⟨p.k + 1, p.e, p.bad⟩ 3 ((p.k + 1 : Nat) : Int)
  else if 0 ≤ Lib.indexByte (s.extract (p.k + 1) (p.k + 1 + (farS s (p.k + 1) (s.extract p.k (p.k + 1))).toNat)).data.toList 60 then wrong ⟨p.k + 1 + (farS s (p.k + 1) (s.extract p.k (p.k + 1))).toNat + 1, p.e, p.bad⟩ 3 ((p.k + 1 : Nat) : Int)
  else openT ⟨p.k + 1 + (farS s (p.k + 1) (s.extract p.k (p.k + 1))).toNat + 1, p.e, p.bad⟩ (s.extract (p.k + 1) (p.k + 1 + (farS s (p.k + 1) (s.extract p.k (p.k + 1))).toNat)) (p.k + 1)
def valV (s : ByteArray) (p : P3) : ByteArray :=
  if farS s (p.k + 1) (s.extract p.k (p.k + 1)) < 0 then ByteArray.empty
  else if 0 ≤ Lib.indexByte (s.extract (p.k + 1) (p.k + 1 + (farS s (p.k + 1) (s.extract p.k (p.k + 1))).toNat)).data.toList 60 then ByteArray.empty
  else opened (s.extract (p.k + 1) (p.k + 1 + (farS s (p.k + 1) (s.extract p.k (p.k + 1))).toNat))
def quoteAt (s : ByteArray) (k : Nat) : Bool := decide (k < s.size) && (bt s k == 34 || bt s k == 39)
def attr2 (s : ByteArray) (p : P3) : P3 := if p.e ≠ 0 then p else if quoteAt s p.k = false then wrong p 3 p.k else valT s p
def attrT (s : ByteArray) (p : P3) : P3 := attr2 s (skipT s (nameT s p) eqS)
def attrV2 (s : ByteArray) (p : P3) : ByteArray := if p.e ≠ 0 then ByteArray.empty else if quoteAt s p.k = false then ByteArray.empty else valV s p
def attrV (s : ByteArray) (p : P3) : ByteArray := attrV2 s (skipT s (nameT s p) eqS)
theorem Mv.block' {w w' : World} {b q : Nat} (h : Mv w b w') (hq : q < w.heap.size) (hb : q ≠ b) : w'.heap[q]? = w.heap[q]? := h.block q hq (by simpa using hb)
theorem Mv.alloc {w w' : World} {b : Nat} (h : Mv w b w') (o : Obj) : Mv w b (w'.alloc o) := h.trans (Mv.of b (Flow.grow_alloc _ _))
theorem Mv.back {w w' : World} {b : Nat} {o : Obj} (h : Mv (w.alloc o) b w') : Mv w b w' := (Mv.of b (Flow.grow_alloc w o)).trans h
theorem Mv.setNew {w w' : World} {b q j : Nat} {v : Value} (h : Mv w b w') (hq : w.heap.size ≤ q) : Mv w b (w'.setCell ⟨q, j, none⟩ v) :=
  ⟨h.os, h.tape, h.output, by simpa [World.setCell] using h.size, fun i hi hne => by rw [Below.heap_setCell _ _ _ _ (by show i ≠ q; omega)]; exact h.block i hi hne⟩
theorem Sc.other {w : World} {b q j : Nat} {s : ByteArray} {k e bad : Int} {v : Value} (h : Sc w b s k e bad) (hq : b ≠ q) : Sc (w.setCell ⟨q, j, none⟩ v) b s k e bad := by
  unfold Sc; rw [Below.heap_setCell _ _ _ _ (by show b ≠ q; exact hq)]; exact h
theorem Sc.lt {w : World} {b : Nat} {s : ByteArray} {k e bad : Int} (h : Sc w b s k e bad) : b < w.heap.size := (Array.getElem?_eq_some_iff.1 h).1
end Xm

theorem set2 {w : World} {R : Nat} {x y u v : Value} {T : TypeId} (h : w.heap[R]? = some (.cells #[x, y] T (0, 0))) : ((w.setCell ⟨R, 0, none⟩ u).setCell ⟨R, 1, none⟩ v).heap[R]? = some (.cells #[u, v] T (0, 0)) := by
  have h1 := heap_setCell_same w R 0 _ T u h
  exact heap_setCell_same _ R 1 _ T v h1
theorem attr_res (tmps : Array Value) (w : World) (R : Nat) (nm v : ByteArray) (hp : tmps.getD 2 undef = .pointer (some ⟨R, 0, none⟩)) (hg : w.heap[R]? = some (.cells #[.string nm, .string v] 41 (0, 0))) :
    (results Tryz.f86 tmps).run Tryz.prog w = .ok (.agg #[.string nm, .string v]) w :=
  results_cell_row (by kernel_rfl) tmps w R _ _ _ _ hp hg Tryz.underlying41 rfl (by kernel_rfl)
theorem ibyte_any (s : ByteArray) (c : Int) (w : World) : Calls Tryz.prog 71 #[.string s, .int .u8 c] w fun e w' => e = .returned (.int .i64 (Lib.indexByte s.data.toList c.toNat.toUInt8)) ∧ w = w' :=
  (Tryz.strings_IndexByte s c w).mono fun _ _ ⟨h1, h2⟩ => ⟨h1, h2.symm⟩
theorem sopen_Z (b : Nat) (s x : ByteArray) (p : Xm.P3) (a : Nat) (z : Int) (hz : z = a) (w : World) (h : Xm.Scs w b s p) (hT : Xm.Tab w) (hb1 : 1 < b) (hx : x.size ≤ 1000000000) (ha : a ≤ 1000000000) :
    Calls Tryz.prog 72 #[.pointer (some ⟨b, 0, none⟩), .string x, .int .i64 z] w fun r w' => r = .returned (.string (Xm.opened x)) ∧ Xm.Scs w' b s (Xm.openT p x a) ∧ Xm.Mv w b w' := by
  subst hz; exact sopen_T b s x p a w h hT hb1 hx ha
set_option maxRecDepth 100000 in
set_option maxHeartbeats 4000000 in
theorem attr_1 (b : Nat) (s : ByteArray) (p : Xm.P3) (w : World) (h : Xm.Scs w b s p) (hk : p.k ≤ s.size) (hs : s.size ≤ 900000000) (hT : Xm.Tab w) (hm : Xm.Max w) (hb1 : 1 < b) (hc : ¬ (Xm.skipT s (Xm.nameT s p) Xm.eqS).e = 0) :
    Calls Tryz.prog 86 #[.pointer (some ⟨b, 0, none⟩)] w fun r w' => r = .returned (.agg #[.string (Xm.nameS s p.k), .string (Xm.attrV s p)]) ∧ Xm.Scs w' b s (Xm.attrT s p) ∧ Xm.Mv w b w' := by
  have HS := Lib.hid h
  have HT := Lib.hid hT
  have HM := Lib.hid hm
  have hbw : b < w.heap.size := (h : Xm.Sc w b s p.k p.e p.bad).lt
  have Hbw := Lib.hid hbw
  obtain ⟨nm, hnm⟩ : ∃ nm, nm = Xm.nameS s p.k := ⟨_, rfl⟩
  obtain ⟨p1, hp1⟩ : ∃ p1, p1 = Xm.nameT s p := ⟨_, rfl⟩
  obtain ⟨p2, hp2⟩ : ∃ p2, p2 = Xm.skipT s p1 Xm.eqS := ⟨_, rfl⟩
  have hk1 : p1.k ≤ s.size := by rw [hp1, Xm.nameT_k]; exact (Xm.nameEnd_bd s _ p.k rfl hk).2
  have hk2 : p2.k ≤ s.size := by rw [hp2]; exact (Xm.skipT_bd s Xm.eqS p1 hk1).2
  have HA : Hid (Xm.attrT s p = Xm.attr2 s p2) := Lib.hid (by rw [Xm.attrT, hp2, hp1])
  have HV : Hid (Xm.attrV s p = Xm.attrV2 s p2) := Lib.hid (by rw [Xm.attrV, hp2, hp1])
  rw [← hp1, ← hp2] at hc
  have HC := Lib.hid hc
  clear hc
  rw [← hnm]
  have Hnm := Lib.hid hnm
  have Hp1 := Lib.hid hp1
  have Hp2 := Lib.hid hp2
  clear h hT hm hbw hnm hp1 hp2
  go_enter Tryz.func86, Tryz.ntmps86
  go_wp2_with (go_at_call 68; refine (sname_T _ _ _ _ (Xm.Sc.grow HS.out (Flow.grow_alloc _ _)) hk (by omega)).mono ?_; rintro e w1 ⟨rfl, hs1, hm1⟩; rw [← Hnm.out]; rw [← Hp1.out] at hs1)
  have HS1 := Lib.hid hs1
  have HM1 := Lib.hid hm1
  clear hs1 hm1
  go_upto_region 3 with (go_at_call 93; refine (skip_T _ _ Xm.eqS _ _ (Xm.Sc.grow HS1.out (Flow.grow_alloc _ _)) hk1 (by omega) (by decide)).mono ?_; rintro e w2 ⟨rfl, hs2, hm2⟩; rw [← Hp2.out] at hs2)
  have hbA : b < w1.heap.size := by have h1 := HM1.out.size; have h2 := Hbw.out; simp at h1; omega
  have hRA : w.heap.size < w1.heap.size := by have := HM1.out.size; simp at this; omega
  have hbA2 : w2.heap[w1.heap.size]? = some (.cells #[.string nm, .string ByteArray.empty] 41 (0, 0)) := (hm2.block' (by simp) (by omega)).trans (heap_alloc_new _ _)
  have hbR2 : w2.heap[w.heap.size]? = some (.cells #[.string ByteArray.empty, .string ByteArray.empty] 41 (0, 0)) := by
    rw [hm2.block' (q := w.heap.size) (by simp; omega) (by have := Hbw.out; omega), Below.heap_alloc _ _ _ hRA, HM1.out.block' (q := w.heap.size) (by simp) (by have := Hbw.out; omega)]
    exact heap_alloc_new _ _
  have hmm : Xm.Mv w b w2 := HM1.out.back.trans hm2.back
  have hRA' : w.heap.size ≠ w1.heap.size := by omega
  have HS2 := Lib.hid hs2
  have HM2 := Lib.hid hmm
  have HA2 := Lib.hid hbA2
  have HR2 := Lib.hid hbR2
  have HbR := Lib.hid (show b ≠ w.heap.size by have := Hbw.out; omega)
  have HbA := Lib.hid (show b ≠ w1.heap.size by omega)
  have HTT := Lib.hid (HT.out.mv hmm hb1)
  have HMM := Lib.hid (HM.out.mv hmm hb1)
  have hle : w.heap.size ≤ w1.heap.size := by omega
  have Hle := Lib.hid hle
  have Hne := Lib.hid hRA'
  clear hs2 hm2 hmm hbA2 hbR2 hbA hRA hRA' hle HM1 HS1 HS HT HM
  obtain ⟨A, hA⟩ : ∃ A, A = w1.heap.size := ⟨_, rfl⟩
  obtain ⟨R, hR⟩ : ∃ R, R = w.heap.size := ⟨_, rfl⟩
  rw [← hA] at HA2 HbA Hle Hne ⊢
  rw [← hR] at HR2 HbR Hle Hne ⊢
  have HR0 := Lib.hid hR
  clear hA hR
  obtain ⟨k2, e2, bad2⟩ := p2
  have hk2 : k2 ≤ s.size := hk2
  obtain ⟨c0, c1, c2, -, f1, f2, -⟩ := (HS2.out : Xm.Sc w2 b s k2 e2 bad2).c
  have hc := HC.out
  clear HC
  have he : ¬ e2 = 0 := hc
  have g : (e2 != 0) = true := by simpa using he
  have HE : Hid (Xm.attr2 s ⟨k2, e2, bad2⟩ = ⟨k2, e2, bad2⟩ ∧ Xm.attrV2 s ⟨k2, e2, bad2⟩ = ByteArray.empty) := Lib.hid ⟨by simp only [Xm.attr2, ne_eq, he, not_false_eq_true, if_true], by simp only [Xm.attrV2, ne_eq, he, not_false_eq_true, if_true]⟩
  clear he
  have a0 := (cell_of_row w2 A 0 _ _ _ HA2.out).trans rfl
  have a1 := (cell_of_row w2 A 1 _ _ _ HA2.out).trans rfl
  have r0 := (cell_of_row w2 R 0 _ _ _ HR2.out).trans rfl
  have r1 := (cell_of_row w2 R 1 _ _ _ HR2.out).trans rfl
  have rf0 : w2.frozen? ⟨R, 0, none⟩ = false := frozen_of_row w2 R _ _ _ HR2.out
  have rf1 : w2.frozen? ⟨R, 1, none⟩ = false := frozen_of_row w2 R _ _ _ HR2.out
  go_wp2
  exact bodyPost_ret (attr_res _ _ R nm ByteArray.empty rfl (set2 HR2.out)) rfl ⟨by rw [HV.out, HE.out.2], by rw [HA.out, HE.out.1]; exact (Xm.Sc.other (Xm.Sc.other HS2.out HbR.out) HbR.out), (HM2.out.setNew (Nat.le_of_eq HR0.out.symm)).setNew (Nat.le_of_eq HR0.out.symm)⟩

set_option maxRecDepth 100000 in
set_option maxHeartbeats 4000000 in
theorem attr_2a (b : Nat) (s : ByteArray) (p : Xm.P3) (w : World) (h : Xm.Scs w b s p) (hk : p.k ≤ s.size) (hs : s.size ≤ 900000000) (hT : Xm.Tab w) (hm : Xm.Max w) (hb1 : 1 < b) (hc : (Xm.skipT s (Xm.nameT s p) Xm.eqS).e = 0 ∧ Xm.quoteAt s (Xm.skipT s (Xm.nameT s p) Xm.eqS).k = false ∧ (Xm.skipT s (Xm.nameT s p) Xm.eqS).k < s.size) :
    Calls Tryz.prog 86 #[.pointer (some ⟨b, 0, none⟩)] w fun r w' => r = .returned (.agg #[.string (Xm.nameS s p.k), .string (Xm.attrV s p)]) ∧ Xm.Scs w' b s (Xm.attrT s p) ∧ Xm.Mv w b w' := by
  have HS := Lib.hid h
  have HT := Lib.hid hT
  have HM := Lib.hid hm
  have hbw : b < w.heap.size := (h : Xm.Sc w b s p.k p.e p.bad).lt
  have Hbw := Lib.hid hbw
  obtain ⟨nm, hnm⟩ : ∃ nm, nm = Xm.nameS s p.k := ⟨_, rfl⟩
  obtain ⟨p1, hp1⟩ : ∃ p1, p1 = Xm.nameT s p := ⟨_, rfl⟩
  obtain ⟨p2, hp2⟩ : ∃ p2, p2 = Xm.skipT s p1 Xm.eqS := ⟨_, rfl⟩
  have hk1 : p1.k ≤ s.size := by rw [hp1, Xm.nameT_k]; exact (Xm.nameEnd_bd s _ p.k rfl hk).2
  have hk2 : p2.k ≤ s.size := by rw [hp2]; exact (Xm.skipT_bd s Xm.eqS p1 hk1).2
  have HA : Hid (Xm.attrT s p = Xm.attr2 s p2) := Lib.hid (by rw [Xm.attrT, hp2, hp1])
  have HV : Hid (Xm.attrV s p = Xm.attrV2 s p2) := Lib.hid (by rw [Xm.attrV, hp2, hp1])
  rw [← hp1, ← hp2] at hc
  have HC := Lib.hid hc
  clear hc
  rw [← hnm]
  have Hnm := Lib.hid hnm
  have Hp1 := Lib.hid hp1
  have Hp2 := Lib.hid hp2
  clear h hT hm hbw hnm hp1 hp2
  go_enter Tryz.func86, Tryz.ntmps86
  go_wp2_with (go_at_call 68; refine (sname_T _ _ _ _ (Xm.Sc.grow HS.out (Flow.grow_alloc _ _)) hk (by omega)).mono ?_; rintro e w1 ⟨rfl, hs1, hm1⟩; rw [← Hnm.out]; rw [← Hp1.out] at hs1)
  have HS1 := Lib.hid hs1
  have HM1 := Lib.hid hm1
  clear hs1 hm1
  go_upto_region 3 with (go_at_call 93; refine (skip_T _ _ Xm.eqS _ _ (Xm.Sc.grow HS1.out (Flow.grow_alloc _ _)) hk1 (by omega) (by decide)).mono ?_; rintro e w2 ⟨rfl, hs2, hm2⟩; rw [← Hp2.out] at hs2)
  have hbA : b < w1.heap.size := by have h1 := HM1.out.size; have h2 := Hbw.out; simp at h1; omega
  have hRA : w.heap.size < w1.heap.size := by have := HM1.out.size; simp at this; omega
  have hbA2 : w2.heap[w1.heap.size]? = some (.cells #[.string nm, .string ByteArray.empty] 41 (0, 0)) := (hm2.block' (by simp) (by omega)).trans (heap_alloc_new _ _)
  have hbR2 : w2.heap[w.heap.size]? = some (.cells #[.string ByteArray.empty, .string ByteArray.empty] 41 (0, 0)) := by
    rw [hm2.block' (q := w.heap.size) (by simp; omega) (by have := Hbw.out; omega), Below.heap_alloc _ _ _ hRA, HM1.out.block' (q := w.heap.size) (by simp) (by have := Hbw.out; omega)]
    exact heap_alloc_new _ _
  have hmm : Xm.Mv w b w2 := HM1.out.back.trans hm2.back
  have hRA' : w.heap.size ≠ w1.heap.size := by omega
  have HS2 := Lib.hid hs2
  have HM2 := Lib.hid hmm
  have HA2 := Lib.hid hbA2
  have HR2 := Lib.hid hbR2
  have HbR := Lib.hid (show b ≠ w.heap.size by have := Hbw.out; omega)
  have HbA := Lib.hid (show b ≠ w1.heap.size by omega)
  have HTT := Lib.hid (HT.out.mv hmm hb1)
  have HMM := Lib.hid (HM.out.mv hmm hb1)
  have hle : w.heap.size ≤ w1.heap.size := by omega
  have Hle := Lib.hid hle
  have Hne := Lib.hid hRA'
  clear hs2 hm2 hmm hbA2 hbR2 hbA hRA hRA' hle HM1 HS1 HS HT HM
  obtain ⟨A, hA⟩ : ∃ A, A = w1.heap.size := ⟨_, rfl⟩
  obtain ⟨R, hR⟩ : ∃ R, R = w.heap.size := ⟨_, rfl⟩
  rw [← hA] at HA2 HbA Hle Hne ⊢
  rw [← hR] at HR2 HbR Hle Hne ⊢
  have HR0 := Lib.hid hR
  clear hA hR
  obtain ⟨k2, e2, bad2⟩ := p2
  have hk2 : k2 ≤ s.size := hk2
  obtain ⟨c0, c1, c2, -, f1, f2, -⟩ := (HS2.out : Xm.Sc w2 b s k2 e2 bad2).c
  have hc := HC.out
  clear HC
  obtain ⟨rfl, hq, hlt⟩ : e2 = 0 ∧ Xm.quoteAt s k2 = false ∧ k2 < s.size := hc
  have HE : Hid (Xm.attr2 s ⟨k2, 0, bad2⟩ = Xm.wrong ⟨k2, 0, bad2⟩ 3 k2 ∧ Xm.attrV2 s ⟨k2, 0, bad2⟩ = ByteArray.empty) := Lib.hid ⟨by simp only [Xm.attr2, ne_eq, not_true_eq_false, if_false, hq, if_true], by simp only [Xm.attrV2, ne_eq, not_true_eq_false, if_false, hq, if_true]⟩
  have hb := Xm.bt_eq hlt
  have g34 : ((s[k2].toNat : Int) != 34) = true := by
    rw [hb]; simp [Xm.quoteAt, hlt] at hq ⊢; exact hq.1
  have g39 : ((s[k2].toNat : Int) != 39) = true := by
    rw [hb]; simp [Xm.quoteAt, hlt] at hq ⊢; exact hq.2
  have hd : decide ((s.size : Int) ≤ (k2 : Int)) = false := by simp; omega
  have hd' : decide (s.size ≤ k2) = false := by simp; omega
  have hle2 : ¬ (s.size : Int) ≤ (k2 : Int) := by omega
  clear hb hq
  go_wp2_with fail
  go_quiet (fail)
  have HSq : Hid (Xm.Sc (w2.drewN nq) b s k2 0 bad2) := Lib.hid (Xm.Sc.grow HS2.out (Flow.grow_drewN w2 nq))
  have HMq := Lib.hid (HM2.out.trans (Xm.Mv.drew (n := nq)))
  have hAq : (w2.drewN nq).heap[A]? = some (.cells #[.string nm, .string ByteArray.empty] 41 (0, 0)) := HA2.out
  have hRq : (w2.drewN nq).heap[R]? = some (.cells #[.string ByteArray.empty, .string ByteArray.empty] 41 (0, 0)) := HR2.out
  have HAq := Lib.hid hAq
  have HRq := Lib.hid hRq
  clear hAq hRq HS2 HM2 HA2 HR2 c0 c1 c2 f1 f2 hd
  generalize w2.drewN nq = w3 at *
  have hRlt : R < w3.heap.size := (Array.getElem?_eq_some_iff.1 HRq.out).1
  have hAlt : A < w3.heap.size := (Array.getElem?_eq_some_iff.1 HAq.out).1
  have c1 := (HSq.out : Xm.Sc w3 b s k2 0 bad2).c.2.1
  go_upto_region 7 with (go_at_call 31; refine (wrong_any _ _ _ _ _ 3 _ _ HSq.out (by decide)).mono ?_; rintro e w4 ⟨rfl, hs5, hm5⟩)
  have HAw := Lib.hid ((hm5.block' hAlt (fun e => HbA.out e.symm)).trans HAq.out)
  have HRw := Lib.hid ((hm5.block' hRlt (fun e => HbR.out e.symm)).trans HRq.out)
  clear c1
  have a0 := (cell_of_row w4 A 0 _ _ _ HAw.out).trans rfl
  have a1 := (cell_of_row w4 A 1 _ _ _ HAw.out).trans rfl
  have r0 := (cell_of_row w4 R 0 _ _ _ HRw.out).trans rfl
  have r1 := (cell_of_row w4 R 1 _ _ _ HRw.out).trans rfl
  have rf0 : w4.frozen? ⟨R, 0, none⟩ = false := frozen_of_row w4 R _ _ _ HRw.out
  have rf1 : w4.frozen? ⟨R, 1, none⟩ = false := frozen_of_row w4 R _ _ _ HRw.out
  go_wp2
  exact bodyPost_ret (attr_res _ _ R nm ByteArray.empty rfl (set2 HRw.out)) rfl ⟨by rw [HV.out, HE.out.2], by rw [HA.out, HE.out.1]; exact (Xm.Sc.other (Xm.Sc.other hs5 HbR.out) HbR.out), (HMq.out.trans hm5).setNew (Nat.le_of_eq HR0.out.symm) |>.setNew (Nat.le_of_eq HR0.out.symm)⟩

set_option maxRecDepth 100000 in
set_option maxHeartbeats 4000000 in
theorem attr_2b (b : Nat) (s : ByteArray) (p : Xm.P3) (w : World) (h : Xm.Scs w b s p) (hk : p.k ≤ s.size) (hs : s.size ≤ 900000000) (hT : Xm.Tab w) (hm : Xm.Max w) (hb1 : 1 < b) (hc : (Xm.skipT s (Xm.nameT s p) Xm.eqS).e = 0 ∧ Xm.quoteAt s (Xm.skipT s (Xm.nameT s p) Xm.eqS).k = false ∧ ¬ (Xm.skipT s (Xm.nameT s p) Xm.eqS).k < s.size) :
    Calls Tryz.prog 86 #[.pointer (some ⟨b, 0, none⟩)] w fun r w' => r = .returned (.agg #[.string (Xm.nameS s p.k), .string (Xm.attrV s p)]) ∧ Xm.Scs w' b s (Xm.attrT s p) ∧ Xm.Mv w b w' := by
  have HS := Lib.hid h
  have HT := Lib.hid hT
  have HM := Lib.hid hm
  have hbw : b < w.heap.size := (h : Xm.Sc w b s p.k p.e p.bad).lt
  have Hbw := Lib.hid hbw
  obtain ⟨nm, hnm⟩ : ∃ nm, nm = Xm.nameS s p.k := ⟨_, rfl⟩
  obtain ⟨p1, hp1⟩ : ∃ p1, p1 = Xm.nameT s p := ⟨_, rfl⟩
  obtain ⟨p2, hp2⟩ : ∃ p2, p2 = Xm.skipT s p1 Xm.eqS := ⟨_, rfl⟩
  have hk1 : p1.k ≤ s.size := by rw [hp1, Xm.nameT_k]; exact (Xm.nameEnd_bd s _ p.k rfl hk).2
  have hk2 : p2.k ≤ s.size := by rw [hp2]; exact (Xm.skipT_bd s Xm.eqS p1 hk1).2
  have HA : Hid (Xm.attrT s p = Xm.attr2 s p2) := Lib.hid (by rw [Xm.attrT, hp2, hp1])
  have HV : Hid (Xm.attrV s p = Xm.attrV2 s p2) := Lib.hid (by rw [Xm.attrV, hp2, hp1])
  rw [← hp1, ← hp2] at hc
  have HC := Lib.hid hc
  clear hc
  rw [← hnm]
  have Hnm := Lib.hid hnm
  have Hp1 := Lib.hid hp1
  have Hp2 := Lib.hid hp2
  clear h hT hm hbw hnm hp1 hp2
  go_enter Tryz.func86, Tryz.ntmps86
  go_wp2_with (go_at_call 68; refine (sname_T _ _ _ _ (Xm.Sc.grow HS.out (Flow.grow_alloc _ _)) hk (by omega)).mono ?_; rintro e w1 ⟨rfl, hs1, hm1⟩; rw [← Hnm.out]; rw [← Hp1.out] at hs1)
  have HS1 := Lib.hid hs1
  have HM1 := Lib.hid hm1
  clear hs1 hm1
  go_upto_region 3 with (go_at_call 93; refine (skip_T _ _ Xm.eqS _ _ (Xm.Sc.grow HS1.out (Flow.grow_alloc _ _)) hk1 (by omega) (by decide)).mono ?_; rintro e w2 ⟨rfl, hs2, hm2⟩; rw [← Hp2.out] at hs2)
  have hbA : b < w1.heap.size := by have h1 := HM1.out.size; have h2 := Hbw.out; simp at h1; omega
  have hRA : w.heap.size < w1.heap.size := by have := HM1.out.size; simp at this; omega
  have hbA2 : w2.heap[w1.heap.size]? = some (.cells #[.string nm, .string ByteArray.empty] 41 (0, 0)) := (hm2.block' (by simp) (by omega)).trans (heap_alloc_new _ _)
  have hbR2 : w2.heap[w.heap.size]? = some (.cells #[.string ByteArray.empty, .string ByteArray.empty] 41 (0, 0)) := by
    rw [hm2.block' (q := w.heap.size) (by simp; omega) (by have := Hbw.out; omega), Below.heap_alloc _ _ _ hRA, HM1.out.block' (q := w.heap.size) (by simp) (by have := Hbw.out; omega)]
    exact heap_alloc_new _ _
  have hmm : Xm.Mv w b w2 := HM1.out.back.trans hm2.back
  have hRA' : w.heap.size ≠ w1.heap.size := by omega
  have HS2 := Lib.hid hs2
  have HM2 := Lib.hid hmm
  have HA2 := Lib.hid hbA2
  have HR2 := Lib.hid hbR2
  have HbR := Lib.hid (show b ≠ w.heap.size by have := Hbw.out; omega)
  have HbA := Lib.hid (show b ≠ w1.heap.size by omega)
  have HTT := Lib.hid (HT.out.mv hmm hb1)
  have HMM := Lib.hid (HM.out.mv hmm hb1)
  have hle : w.heap.size ≤ w1.heap.size := by omega
  have Hle := Lib.hid hle
  have Hne := Lib.hid hRA'
  clear hs2 hm2 hmm hbA2 hbR2 hbA hRA hRA' hle HM1 HS1 HS HT HM
  obtain ⟨A, hA⟩ : ∃ A, A = w1.heap.size := ⟨_, rfl⟩
  obtain ⟨R, hR⟩ : ∃ R, R = w.heap.size := ⟨_, rfl⟩
  rw [← hA] at HA2 HbA Hle Hne ⊢
  rw [← hR] at HR2 HbR Hle Hne ⊢
  have HR0 := Lib.hid hR
  clear hA hR
  obtain ⟨k2, e2, bad2⟩ := p2
  have hk2 : k2 ≤ s.size := hk2
  obtain ⟨c0, c1, c2, -, f1, f2, -⟩ := (HS2.out : Xm.Sc w2 b s k2 e2 bad2).c
  have hc := HC.out
  clear HC
  obtain ⟨rfl, hq, hlt⟩ : e2 = 0 ∧ Xm.quoteAt s k2 = false ∧ ¬ k2 < s.size := hc
  have HE : Hid (Xm.attr2 s ⟨k2, 0, bad2⟩ = Xm.wrong ⟨k2, 0, bad2⟩ 3 k2 ∧ Xm.attrV2 s ⟨k2, 0, bad2⟩ = ByteArray.empty) := Lib.hid ⟨by simp only [Xm.attr2, ne_eq, not_true_eq_false, if_false, hq, if_true], by simp only [Xm.attrV2, ne_eq, not_true_eq_false, if_false, hq, if_true]⟩
  have hd : decide ((s.size : Int) ≤ (k2 : Int)) = true := by simp; omega
  have hd' : decide (s.size ≤ k2) = true := by simp; omega
  have hle2 : (s.size : Int) ≤ (k2 : Int) := by omega
  clear hq
  go_wp2_with fail
  go_quiet (fail)
  have HSq : Hid (Xm.Sc (w2.drewN nq) b s k2 0 bad2) := Lib.hid (Xm.Sc.grow HS2.out (Flow.grow_drewN w2 nq))
  have HMq := Lib.hid (HM2.out.trans (Xm.Mv.drew (n := nq)))
  have hAq : (w2.drewN nq).heap[A]? = some (.cells #[.string nm, .string ByteArray.empty] 41 (0, 0)) := HA2.out
  have hRq : (w2.drewN nq).heap[R]? = some (.cells #[.string ByteArray.empty, .string ByteArray.empty] 41 (0, 0)) := HR2.out
  have HAq := Lib.hid hAq
  have HRq := Lib.hid hRq
  clear hAq hRq HS2 HM2 HA2 HR2 c0 c1 c2 f1 f2 hd
  generalize w2.drewN nq = w3 at *
  have hRlt : R < w3.heap.size := (Array.getElem?_eq_some_iff.1 HRq.out).1
  have hAlt : A < w3.heap.size := (Array.getElem?_eq_some_iff.1 HAq.out).1
  have c1 := (HSq.out : Xm.Sc w3 b s k2 0 bad2).c.2.1
  go_upto_region 7 with (go_at_call 31; refine (wrong_any _ _ _ _ _ 3 _ _ HSq.out (by decide)).mono ?_; rintro e w4 ⟨rfl, hs5, hm5⟩)
  have HAw := Lib.hid ((hm5.block' hAlt (fun e => HbA.out e.symm)).trans HAq.out)
  have HRw := Lib.hid ((hm5.block' hRlt (fun e => HbR.out e.symm)).trans HRq.out)
  clear c1
  have a0 := (cell_of_row w4 A 0 _ _ _ HAw.out).trans rfl
  have a1 := (cell_of_row w4 A 1 _ _ _ HAw.out).trans rfl
  have r0 := (cell_of_row w4 R 0 _ _ _ HRw.out).trans rfl
  have r1 := (cell_of_row w4 R 1 _ _ _ HRw.out).trans rfl
  have rf0 : w4.frozen? ⟨R, 0, none⟩ = false := frozen_of_row w4 R _ _ _ HRw.out
  have rf1 : w4.frozen? ⟨R, 1, none⟩ = false := frozen_of_row w4 R _ _ _ HRw.out
  go_wp2
  exact bodyPost_ret (attr_res _ _ R nm ByteArray.empty rfl (set2 HRw.out)) rfl ⟨by rw [HV.out, HE.out.2], by rw [HA.out, HE.out.1]; exact (Xm.Sc.other (Xm.Sc.other hs5 HbR.out) HbR.out), (HMq.out.trans hm5).setNew (Nat.le_of_eq HR0.out.symm) |>.setNew (Nat.le_of_eq HR0.out.symm)⟩

set_option maxRecDepth 100000 in
set_option maxHeartbeats 4000000 in
theorem attr_3 (b : Nat) (s : ByteArray) (p : Xm.P3) (w : World) (h : Xm.Scs w b s p) (hk : p.k ≤ s.size) (hs : s.size ≤ 900000000) (hT : Xm.Tab w) (hm : Xm.Max w) (hb1 : 1 < b) (hc : (Xm.skipT s (Xm.nameT s p) Xm.eqS).e = 0 ∧ Xm.quoteAt s (Xm.skipT s (Xm.nameT s p) Xm.eqS).k = true ∧ Xm.farS s ((Xm.skipT s (Xm.nameT s p) Xm.eqS).k + 1) (s.extract (Xm.skipT s (Xm.nameT s p) Xm.eqS).k ((Xm.skipT s (Xm.nameT s p) Xm.eqS).k + 1)) < 0) :
    Calls Tryz.prog 86 #[.pointer (some ⟨b, 0, none⟩)] w fun r w' => r = .returned (.agg #[.string (Xm.nameS s p.k), .string (Xm.attrV s p)]) ∧ Xm.Scs w' b s (Xm.attrT s p) ∧ Xm.Mv w b w' := by
  have HS := Lib.hid h
  have HT := Lib.hid hT
  have HM := Lib.hid hm
  have hbw : b < w.heap.size := (h : Xm.Sc w b s p.k p.e p.bad).lt
  have Hbw := Lib.hid hbw
  obtain ⟨nm, hnm⟩ : ∃ nm, nm = Xm.nameS s p.k := ⟨_, rfl⟩
  obtain ⟨p1, hp1⟩ : ∃ p1, p1 = Xm.nameT s p := ⟨_, rfl⟩
  obtain ⟨p2, hp2⟩ : ∃ p2, p2 = Xm.skipT s p1 Xm.eqS := ⟨_, rfl⟩
  have hk1 : p1.k ≤ s.size := by rw [hp1, Xm.nameT_k]; exact (Xm.nameEnd_bd s _ p.k rfl hk).2
  have hk2 : p2.k ≤ s.size := by rw [hp2]; exact (Xm.skipT_bd s Xm.eqS p1 hk1).2
  have HA : Hid (Xm.attrT s p = Xm.attr2 s p2) := Lib.hid (by rw [Xm.attrT, hp2, hp1])
  have HV : Hid (Xm.attrV s p = Xm.attrV2 s p2) := Lib.hid (by rw [Xm.attrV, hp2, hp1])
  rw [← hp1, ← hp2] at hc
  have HC := Lib.hid hc
  clear hc
  rw [← hnm]
  have Hnm := Lib.hid hnm
  have Hp1 := Lib.hid hp1
  have Hp2 := Lib.hid hp2
  clear h hT hm hbw hnm hp1 hp2
  go_enter Tryz.func86, Tryz.ntmps86
  go_wp2_with (go_at_call 68; refine (sname_T _ _ _ _ (Xm.Sc.grow HS.out (Flow.grow_alloc _ _)) hk (by omega)).mono ?_; rintro e w1 ⟨rfl, hs1, hm1⟩; rw [← Hnm.out]; rw [← Hp1.out] at hs1)
  have HS1 := Lib.hid hs1
  have HM1 := Lib.hid hm1
  clear hs1 hm1
  go_upto_region 3 with (go_at_call 93; refine (skip_T _ _ Xm.eqS _ _ (Xm.Sc.grow HS1.out (Flow.grow_alloc _ _)) hk1 (by omega) (by decide)).mono ?_; rintro e w2 ⟨rfl, hs2, hm2⟩; rw [← Hp2.out] at hs2)
  have hbA : b < w1.heap.size := by have h1 := HM1.out.size; have h2 := Hbw.out; simp at h1; omega
  have hRA : w.heap.size < w1.heap.size := by have := HM1.out.size; simp at this; omega
  have hbA2 : w2.heap[w1.heap.size]? = some (.cells #[.string nm, .string ByteArray.empty] 41 (0, 0)) := (hm2.block' (by simp) (by omega)).trans (heap_alloc_new _ _)
  have hbR2 : w2.heap[w.heap.size]? = some (.cells #[.string ByteArray.empty, .string ByteArray.empty] 41 (0, 0)) := by
    rw [hm2.block' (q := w.heap.size) (by simp; omega) (by have := Hbw.out; omega), Below.heap_alloc _ _ _ hRA, HM1.out.block' (q := w.heap.size) (by simp) (by have := Hbw.out; omega)]
    exact heap_alloc_new _ _
  have hmm : Xm.Mv w b w2 := HM1.out.back.trans hm2.back
  have hRA' : w.heap.size ≠ w1.heap.size := by omega
  have HS2 := Lib.hid hs2
  have HM2 := Lib.hid hmm
  have HA2 := Lib.hid hbA2
  have HR2 := Lib.hid hbR2
  have HbR := Lib.hid (show b ≠ w.heap.size by have := Hbw.out; omega)
  have HbA := Lib.hid (show b ≠ w1.heap.size by omega)
  have HTT := Lib.hid (HT.out.mv hmm hb1)
  have HMM := Lib.hid (HM.out.mv hmm hb1)
  have HMM0 := Lib.hid HM.out
  have hle : w.heap.size ≤ w1.heap.size := by omega
  have Hle := Lib.hid hle
  have Hne := Lib.hid hRA'
  clear hs2 hm2 hmm hbA2 hbR2 hbA hRA hRA' hle HM1 HS1 HS HT HM
  obtain ⟨A, hA⟩ : ∃ A, A = w1.heap.size := ⟨_, rfl⟩
  obtain ⟨R, hR⟩ : ∃ R, R = w.heap.size := ⟨_, rfl⟩
  rw [← hA] at HA2 HbA Hle Hne ⊢
  rw [← hR] at HR2 HbR Hle Hne ⊢
  have HR0 := Lib.hid hR
  clear hA hR
  obtain ⟨k2, e2, bad2⟩ := p2
  have hk2 : k2 ≤ s.size := hk2
  obtain ⟨c0, c1, c2, -, f1, f2, -⟩ := (HS2.out : Xm.Sc w2 b s k2 e2 bad2).c
  have hc := HC.out
  clear HC
  obtain ⟨rfl, hq, hf⟩ : e2 = 0 ∧ Xm.quoteAt s k2 = true ∧ (Xm.farS s (k2 + 1) (s.extract k2 (k2 + 1))) < 0 := hc
  have hlt : k2 < s.size := by simp only [Xm.quoteAt, Bool.and_eq_true, decide_eq_true_eq] at hq; exact hq.1
  have h2a : Xm.attr2 s ⟨k2, 0, bad2⟩ = Xm.valT s ⟨k2, 0, bad2⟩ := by simp only [Xm.attr2, ne_eq, not_true_eq_false, if_false, hq, Bool.true_eq_false]
  have h2v : Xm.attrV2 s ⟨k2, 0, bad2⟩ = Xm.valV s ⟨k2, 0, bad2⟩ := by simp only [Xm.attrV2, ne_eq, not_true_eq_false, if_false, hq, Bool.true_eq_false]
  have HF := Lib.hid hf
  have HE : Hid (Xm.attr2 s ⟨k2, 0, bad2⟩ = Xm.wrong ⟨k2 + 1, 0, bad2⟩ 3 ((k2 + 1 : Nat) : Int) ∧ Xm.attrV2 s ⟨k2, 0, bad2⟩ = ByteArray.empty) := Lib.hid ⟨by rw [h2a, Xm.valT, if_pos hf], by rw [h2v, Xm.valV, if_pos hf]⟩
  clear h2a h2v hf
  have hb := Xm.bt_eq hlt
  have hd : decide ((s.size : Int) ≤ (k2 : Int)) = false := by simp; omega
  have hd' : decide (s.size ≤ k2) = false := by simp; omega
  have hle2 : ¬ (s.size : Int) ≤ (k2 : Int) := by omega
  by_cases h34 : Xm.bt s k2 = 34
  · have g34 : ((s[k2].toNat : Int) != 34) = false := by rw [hb]; simpa using h34
    clear hb h34 hq
    go_wp2_with fail
    go_quiet (fail)
    have HSq : Hid (Xm.Sc (w2.drewN nq) b s k2 0 bad2) := Lib.hid (Xm.Sc.grow HS2.out (Flow.grow_drewN w2 nq))
    have HMq := Lib.hid (HM2.out.trans (Xm.Mv.drew (n := nq)))
    have hAq : (w2.drewN nq).heap[A]? = some (.cells #[.string nm, .string ByteArray.empty] 41 (0, 0)) := HA2.out
    have hRq : (w2.drewN nq).heap[R]? = some (.cells #[.string ByteArray.empty, .string ByteArray.empty] 41 (0, 0)) := HR2.out
    have HAq := Lib.hid hAq
    have HRq := Lib.hid hRq
    clear hAq hRq HS2 HM2 HA2 HR2 c0 c1 c2 f1 f2 hd hd'
    generalize w2.drewN nq = w3 at *
    have hRlt : R < w3.heap.size := (Array.getElem?_eq_some_iff.1 HRq.out).1
    have hAlt : A < w3.heap.size := (Array.getElem?_eq_some_iff.1 HAq.out).1
    have hsl := run_cut s k2 (k2 + 1) (by omega) (by omega) (k2 : Int) ((k2 : Int) + 1) rfl (by omega)
    have e1 : IntKind.i64.wrap ((k2 : Int) + 1) = (k2 : Int) + 1 := IntWalk.i64_in _ (by omega)
    have c0 := (HSq.out : Xm.Sc w3 b s k2 0 bad2).c.1
    have c1 := (HSq.out : Xm.Sc w3 b s k2 0 bad2).c.2.1
    have f1 := (HSq.out : Xm.Sc w3 b s k2 0 bad2).c.2.2.2.2.1
    go_wp2_with fail
    go_quiet (fail)
    have HSr := Lib.hid ((Xm.Sc.grow HSq.out (Flow.grow_drewN w3 nq)).at' ((k2 : Int) + 1))
    have HK1 : Hid ((k2 : Int) + 1 = ((k2 + 1 : Nat) : Int)) := Lib.hid (by omega)
    have hsr : Xm.Sc ((w3.drewN nq).setCell ⟨b, 1, none⟩ (.int .i64 ((k2 : Int) + 1))) b s ((k2 + 1 : Nat) : Int) 0 bad2 := by rw [← HK1.out]; exact HSr.out
    have HSs := Lib.hid hsr
    have hmr : Xm.Mv w b ((w3.drewN nq).setCell ⟨b, 1, none⟩ (.int .i64 ((k2 : Int) + 1))) := (HMq.out.trans (Xm.Mv.drew (n := nq))).trans Xm.Mv.set
    have HMs := Lib.hid hmr
    have hMx : Xm.Max ((w3.drewN nq).setCell ⟨b, 1, none⟩ (.int .i64 ((k2 : Int) + 1))) := HMM0.out.mv hmr hb1
    have HMx := Lib.hid hMx
    have hqs : (s.extract k2 (k2 + 1)).size ≤ 100 := by simp; omega
    have Hqs := Lib.hid hqs
    have hAs : ((w3.drewN nq).setCell ⟨b, 1, none⟩ (.int .i64 ((k2 : Int) + 1))).heap[A]? = some (.cells #[.string nm, .string ByteArray.empty] 41 (0, 0)) := by
      rw [Below.heap_setCell _ _ _ _ (by show A ≠ b; exact fun e => HbA.out e.symm)]; exact HAq.out
    have hRs : ((w3.drewN nq).setCell ⟨b, 1, none⟩ (.int .i64 ((k2 : Int) + 1))).heap[R]? = some (.cells #[.string ByteArray.empty, .string ByteArray.empty] 41 (0, 0)) := by
      rw [Below.heap_setCell _ _ _ _ (by show R ≠ b; exact fun e => HbR.out e.symm)]; exact HRq.out
    have HAs := Lib.hid hAs
    have HRs := Lib.hid hRs
    clear hAs hRs hqs hMx hmr hsr hsl e1 HSr
    go_upto_region 11 with fail
    generalize (w3.drewN nq).setCell ⟨b, 1, none⟩ (.int .i64 ((k2 : Int) + 1)) = w4 at *
    clear c0 c1 f1 hRlt hAlt HSq HMq HAq HRq
    have hRlt : R < w4.heap.size := (Array.getElem?_eq_some_iff.1 HRs.out).1
    have hAlt : A < w4.heap.size := (Array.getElem?_eq_some_iff.1 HAs.out).1
    have HRlt := Lib.hid hRlt
    have HAlt := Lib.hid hAlt
    clear hRlt hAlt
    go_upto_region 14 with (first | (go_at_call 67; refine (until_any b s _ (k2 + 1) 0 bad2 w4 HSs.out (by omega) (by omega) Hqs.out HMx.out).mono ?_; rintro e w5 ⟨hyes, -⟩; obtain ⟨rfl, hs5, hm5⟩ := hyes HF.out; clear hyes) | (go_at_call 31; refine (wrong_any _ _ _ _ _ 3 _ _ hs5 (by decide)).mono ?_; rintro e w6 ⟨rfl, hs6, hm6⟩))
    have HAw := Lib.hid (((hm5.trans hm6).block' HAlt.out (fun e => HbA.out e.symm)).trans HAs.out)
    have HRw := Lib.hid (((hm5.trans hm6).block' HRlt.out (fun e => HbR.out e.symm)).trans HRs.out)
    have a0 := (cell_of_row w6 A 0 _ _ _ HAw.out).trans rfl
    have a1 := (cell_of_row w6 A 1 _ _ _ HAw.out).trans rfl
    have r0 := (cell_of_row w6 R 0 _ _ _ HRw.out).trans rfl
    have r1 := (cell_of_row w6 R 1 _ _ _ HRw.out).trans rfl
    have rf0 : w6.frozen? ⟨R, 0, none⟩ = false := frozen_of_row w6 R _ _ _ HRw.out
    have rf1 : w6.frozen? ⟨R, 1, none⟩ = false := frozen_of_row w6 R _ _ _ HRw.out
    have HR6 := Lib.hid HRw.out
    go_wp2
    exact bodyPost_ret (attr_res _ _ R nm ByteArray.empty rfl (set2 HR6.out)) rfl ⟨by rw [HV.out, HE.out.2], by rw [HA.out, HE.out.1]; exact (Xm.Sc.other (Xm.Sc.other hs6 HbR.out) HbR.out), ((HMs.out.trans hm5).trans hm6).setNew (Nat.le_of_eq HR0.out.symm) |>.setNew (Nat.le_of_eq HR0.out.symm)⟩
  · have g34 : ((s[k2].toNat : Int) != 34) = true := by rw [hb]; simpa using h34
    have g39 : ((s[k2].toNat : Int) != 39) = false := by
      rw [hb]; simp [Xm.quoteAt, h34] at hq ⊢; exact hq.2
    clear hb h34 hq
    go_wp2_with fail
    go_quiet (fail)
    have HSq : Hid (Xm.Sc (w2.drewN nq) b s k2 0 bad2) := Lib.hid (Xm.Sc.grow HS2.out (Flow.grow_drewN w2 nq))
    have HMq := Lib.hid (HM2.out.trans (Xm.Mv.drew (n := nq)))
    have hAq : (w2.drewN nq).heap[A]? = some (.cells #[.string nm, .string ByteArray.empty] 41 (0, 0)) := HA2.out
    have hRq : (w2.drewN nq).heap[R]? = some (.cells #[.string ByteArray.empty, .string ByteArray.empty] 41 (0, 0)) := HR2.out
    have HAq := Lib.hid hAq
    have HRq := Lib.hid hRq
    clear hAq hRq HS2 HM2 HA2 HR2 c0 c1 c2 f1 f2 hd hd'
    generalize w2.drewN nq = w3 at *
    have hRlt : R < w3.heap.size := (Array.getElem?_eq_some_iff.1 HRq.out).1
    have hAlt : A < w3.heap.size := (Array.getElem?_eq_some_iff.1 HAq.out).1
    have hsl := run_cut s k2 (k2 + 1) (by omega) (by omega) (k2 : Int) ((k2 : Int) + 1) rfl (by omega)
    have e1 : IntKind.i64.wrap ((k2 : Int) + 1) = (k2 : Int) + 1 := IntWalk.i64_in _ (by omega)
    have c0 := (HSq.out : Xm.Sc w3 b s k2 0 bad2).c.1
    have c1 := (HSq.out : Xm.Sc w3 b s k2 0 bad2).c.2.1
    have f1 := (HSq.out : Xm.Sc w3 b s k2 0 bad2).c.2.2.2.2.1
    go_wp2_with fail
    go_quiet (fail)
    have HSr := Lib.hid ((Xm.Sc.grow HSq.out (Flow.grow_drewN w3 nq)).at' ((k2 : Int) + 1))
    have HK1 : Hid ((k2 : Int) + 1 = ((k2 + 1 : Nat) : Int)) := Lib.hid (by omega)
    have hsr : Xm.Sc ((w3.drewN nq).setCell ⟨b, 1, none⟩ (.int .i64 ((k2 : Int) + 1))) b s ((k2 + 1 : Nat) : Int) 0 bad2 := by rw [← HK1.out]; exact HSr.out
    have HSs := Lib.hid hsr
    have hmr : Xm.Mv w b ((w3.drewN nq).setCell ⟨b, 1, none⟩ (.int .i64 ((k2 : Int) + 1))) := (HMq.out.trans (Xm.Mv.drew (n := nq))).trans Xm.Mv.set
    have HMs := Lib.hid hmr
    have hMx : Xm.Max ((w3.drewN nq).setCell ⟨b, 1, none⟩ (.int .i64 ((k2 : Int) + 1))) := HMM0.out.mv hmr hb1
    have HMx := Lib.hid hMx
    have hqs : (s.extract k2 (k2 + 1)).size ≤ 100 := by simp; omega
    have Hqs := Lib.hid hqs
    have hAs : ((w3.drewN nq).setCell ⟨b, 1, none⟩ (.int .i64 ((k2 : Int) + 1))).heap[A]? = some (.cells #[.string nm, .string ByteArray.empty] 41 (0, 0)) := by
      rw [Below.heap_setCell _ _ _ _ (by show A ≠ b; exact fun e => HbA.out e.symm)]; exact HAq.out
    have hRs : ((w3.drewN nq).setCell ⟨b, 1, none⟩ (.int .i64 ((k2 : Int) + 1))).heap[R]? = some (.cells #[.string ByteArray.empty, .string ByteArray.empty] 41 (0, 0)) := by
      rw [Below.heap_setCell _ _ _ _ (by show R ≠ b; exact fun e => HbR.out e.symm)]; exact HRq.out
    have HAs := Lib.hid hAs
    have HRs := Lib.hid hRs
    clear hAs hRs hqs hMx hmr hsr hsl e1 HSr
    go_upto_region 11 with fail
    generalize (w3.drewN nq).setCell ⟨b, 1, none⟩ (.int .i64 ((k2 : Int) + 1)) = w4 at *
    clear c0 c1 f1 hRlt hAlt HSq HMq HAq HRq
    have hRlt : R < w4.heap.size := (Array.getElem?_eq_some_iff.1 HRs.out).1
    have hAlt : A < w4.heap.size := (Array.getElem?_eq_some_iff.1 HAs.out).1
    have HRlt := Lib.hid hRlt
    have HAlt := Lib.hid hAlt
    clear hRlt hAlt
    go_upto_region 14 with (first | (go_at_call 67; refine (until_any b s _ (k2 + 1) 0 bad2 w4 HSs.out (by omega) (by omega) Hqs.out HMx.out).mono ?_; rintro e w5 ⟨hyes, -⟩; obtain ⟨rfl, hs5, hm5⟩ := hyes HF.out; clear hyes) | (go_at_call 31; refine (wrong_any _ _ _ _ _ 3 _ _ hs5 (by decide)).mono ?_; rintro e w6 ⟨rfl, hs6, hm6⟩))
    have HAw := Lib.hid (((hm5.trans hm6).block' HAlt.out (fun e => HbA.out e.symm)).trans HAs.out)
    have HRw := Lib.hid (((hm5.trans hm6).block' HRlt.out (fun e => HbR.out e.symm)).trans HRs.out)
    have a0 := (cell_of_row w6 A 0 _ _ _ HAw.out).trans rfl
    have a1 := (cell_of_row w6 A 1 _ _ _ HAw.out).trans rfl
    have r0 := (cell_of_row w6 R 0 _ _ _ HRw.out).trans rfl
    have r1 := (cell_of_row w6 R 1 _ _ _ HRw.out).trans rfl
    have rf0 : w6.frozen? ⟨R, 0, none⟩ = false := frozen_of_row w6 R _ _ _ HRw.out
    have rf1 : w6.frozen? ⟨R, 1, none⟩ = false := frozen_of_row w6 R _ _ _ HRw.out
    have HR6 := Lib.hid HRw.out
    go_wp2
    exact bodyPost_ret (attr_res _ _ R nm ByteArray.empty rfl (set2 HR6.out)) rfl ⟨by rw [HV.out, HE.out.2], by rw [HA.out, HE.out.1]; exact (Xm.Sc.other (Xm.Sc.other hs6 HbR.out) HbR.out), ((HMs.out.trans hm5).trans hm6).setNew (Nat.le_of_eq HR0.out.symm) |>.setNew (Nat.le_of_eq HR0.out.symm)⟩
set_option maxRecDepth 100000 in
set_option maxHeartbeats 4000000 in
theorem attr_4 (b : Nat) (s : ByteArray) (p : Xm.P3) (w : World) (h : Xm.Scs w b s p) (hk : p.k ≤ s.size) (hs : s.size ≤ 900000000) (hT : Xm.Tab w) (hm : Xm.Max w) (hb1 : 1 < b) (hc : (Xm.skipT s (Xm.nameT s p) Xm.eqS).e = 0 ∧ Xm.quoteAt s (Xm.skipT s (Xm.nameT s p) Xm.eqS).k = true ∧ 0 ≤ Xm.farS s ((Xm.skipT s (Xm.nameT s p) Xm.eqS).k + 1) (s.extract (Xm.skipT s (Xm.nameT s p) Xm.eqS).k ((Xm.skipT s (Xm.nameT s p) Xm.eqS).k + 1)) ∧ 0 ≤ Lib.indexByte (s.extract ((Xm.skipT s (Xm.nameT s p) Xm.eqS).k + 1) ((Xm.skipT s (Xm.nameT s p) Xm.eqS).k + 1 + (Xm.farS s ((Xm.skipT s (Xm.nameT s p) Xm.eqS).k + 1) (s.extract (Xm.skipT s (Xm.nameT s p) Xm.eqS).k ((Xm.skipT s (Xm.nameT s p) Xm.eqS).k + 1))).toNat)).data.toList 60) :
    Calls Tryz.prog 86 #[.pointer (some ⟨b, 0, none⟩)] w fun r w' => r = .returned (.agg #[.string (Xm.nameS s p.k), .string (Xm.attrV s p)]) ∧ Xm.Scs w' b s (Xm.attrT s p) ∧ Xm.Mv w b w' := by
  have HS := Lib.hid h
  have HT := Lib.hid hT
  have HM := Lib.hid hm
  have hbw : b < w.heap.size := (h : Xm.Sc w b s p.k p.e p.bad).lt
  have Hbw := Lib.hid hbw
  obtain ⟨nm, hnm⟩ : ∃ nm, nm = Xm.nameS s p.k := ⟨_, rfl⟩
  obtain ⟨p1, hp1⟩ : ∃ p1, p1 = Xm.nameT s p := ⟨_, rfl⟩
  obtain ⟨p2, hp2⟩ : ∃ p2, p2 = Xm.skipT s p1 Xm.eqS := ⟨_, rfl⟩
  have hk1 : p1.k ≤ s.size := by rw [hp1, Xm.nameT_k]; exact (Xm.nameEnd_bd s _ p.k rfl hk).2
  have hk2 : p2.k ≤ s.size := by rw [hp2]; exact (Xm.skipT_bd s Xm.eqS p1 hk1).2
  have HA : Hid (Xm.attrT s p = Xm.attr2 s p2) := Lib.hid (by rw [Xm.attrT, hp2, hp1])
  have HV : Hid (Xm.attrV s p = Xm.attrV2 s p2) := Lib.hid (by rw [Xm.attrV, hp2, hp1])
  rw [← hp1, ← hp2] at hc
  have HC := Lib.hid hc
  clear hc
  rw [← hnm]
  have Hnm := Lib.hid hnm
  have Hp1 := Lib.hid hp1
  have Hp2 := Lib.hid hp2
  clear h hT hm hbw hnm hp1 hp2
  go_enter Tryz.func86, Tryz.ntmps86
  go_wp2_with (go_at_call 68; refine (sname_T _ _ _ _ (Xm.Sc.grow HS.out (Flow.grow_alloc _ _)) hk (by omega)).mono ?_; rintro e w1 ⟨rfl, hs1, hm1⟩; rw [← Hnm.out]; rw [← Hp1.out] at hs1)
  have HS1 := Lib.hid hs1
  have HM1 := Lib.hid hm1
  clear hs1 hm1
  go_upto_region 3 with (go_at_call 93; refine (skip_T _ _ Xm.eqS _ _ (Xm.Sc.grow HS1.out (Flow.grow_alloc _ _)) hk1 (by omega) (by decide)).mono ?_; rintro e w2 ⟨rfl, hs2, hm2⟩; rw [← Hp2.out] at hs2)
  have hbA : b < w1.heap.size := by have h1 := HM1.out.size; have h2 := Hbw.out; simp at h1; omega
  have hRA : w.heap.size < w1.heap.size := by have := HM1.out.size; simp at this; omega
  have hbA2 : w2.heap[w1.heap.size]? = some (.cells #[.string nm, .string ByteArray.empty] 41 (0, 0)) := (hm2.block' (by simp) (by omega)).trans (heap_alloc_new _ _)
  have hbR2 : w2.heap[w.heap.size]? = some (.cells #[.string ByteArray.empty, .string ByteArray.empty] 41 (0, 0)) := by
    rw [hm2.block' (q := w.heap.size) (by simp; omega) (by have := Hbw.out; omega), Below.heap_alloc _ _ _ hRA, HM1.out.block' (q := w.heap.size) (by simp) (by have := Hbw.out; omega)]
    exact heap_alloc_new _ _
  have hmm : Xm.Mv w b w2 := HM1.out.back.trans hm2.back
  have hRA' : w.heap.size ≠ w1.heap.size := by omega
  have HS2 := Lib.hid hs2
  have HM2 := Lib.hid hmm
  have HA2 := Lib.hid hbA2
  have HR2 := Lib.hid hbR2
  have HbR := Lib.hid (show b ≠ w.heap.size by have := Hbw.out; omega)
  have HbA := Lib.hid (show b ≠ w1.heap.size by omega)
  have HTT := Lib.hid (HT.out.mv hmm hb1)
  have HMM := Lib.hid (HM.out.mv hmm hb1)
  have HMM0 := Lib.hid HM.out
  have hle : w.heap.size ≤ w1.heap.size := by omega
  have Hle := Lib.hid hle
  have Hne := Lib.hid hRA'
  clear hs2 hm2 hmm hbA2 hbR2 hbA hRA hRA' hle HM1 HS1 HS HT HM
  obtain ⟨A, hA⟩ : ∃ A, A = w1.heap.size := ⟨_, rfl⟩
  obtain ⟨R, hR⟩ : ∃ R, R = w.heap.size := ⟨_, rfl⟩
  rw [← hA] at HA2 HbA Hle Hne ⊢
  rw [← hR] at HR2 HbR Hle Hne ⊢
  have HR0 := Lib.hid hR
  clear hA hR
  obtain ⟨k2, e2, bad2⟩ := p2
  have hk2 : k2 ≤ s.size := hk2
  obtain ⟨c0, c1, c2, -, f1, f2, -⟩ := (HS2.out : Xm.Sc w2 b s k2 e2 bad2).c
  have hc := HC.out
  clear HC
  obtain ⟨rfl, hq, hf⟩ : e2 = 0 ∧ Xm.quoteAt s k2 = true ∧ 0 ≤ (Xm.farS s (k2 + 1) (s.extract k2 (k2 + 1))) ∧ 0 ≤ Lib.indexByte (s.extract (k2 + 1) (k2 + 1 + (Xm.farS s (k2 + 1) (s.extract k2 (k2 + 1))).toNat)).data.toList 60 := hc
  have hlt : k2 < s.size := by simp only [Xm.quoteAt, Bool.and_eq_true, decide_eq_true_eq] at hq; exact hq.1
  have h2a : Xm.attr2 s ⟨k2, 0, bad2⟩ = Xm.valT s ⟨k2, 0, bad2⟩ := by simp only [Xm.attr2, ne_eq, not_true_eq_false, if_false, hq, Bool.true_eq_false]
  have h2v : Xm.attrV2 s ⟨k2, 0, bad2⟩ = Xm.valV s ⟨k2, 0, bad2⟩ := by simp only [Xm.attrV2, ne_eq, not_true_eq_false, if_false, hq, Bool.true_eq_false]
  have HF := Lib.hid hf.1
  have HI := Lib.hid hf.2
  have HE : Hid (Xm.attr2 s ⟨k2, 0, bad2⟩ = Xm.wrong ⟨k2 + 1 + (Xm.farS s (k2 + 1) (s.extract k2 (k2 + 1))).toNat + 1, 0, bad2⟩ 3 ((k2 + 1 : Nat) : Int) ∧ Xm.attrV2 s ⟨k2, 0, bad2⟩ = ByteArray.empty) := Lib.hid ⟨by rw [h2a, Xm.valT, if_neg (by have := hf.1; simp only; omega), if_pos hf.2], by rw [h2v, Xm.valV, if_neg (by have := hf.1; simp only; omega), if_pos hf.2]⟩
  clear h2a h2v hf
  have hb := Xm.bt_eq hlt
  have hd : decide ((s.size : Int) ≤ (k2 : Int)) = false := by simp; omega
  have hd' : decide (s.size ≤ k2) = false := by simp; omega
  have hle2 : ¬ (s.size : Int) ≤ (k2 : Int) := by omega
  by_cases h34 : Xm.bt s k2 = 34
  · have g34 : ((s[k2].toNat : Int) != 34) = false := by rw [hb]; simpa using h34
    clear hb h34 hq
    go_wp2_with fail
    go_quiet (fail)
    have HSq : Hid (Xm.Sc (w2.drewN nq) b s k2 0 bad2) := Lib.hid (Xm.Sc.grow HS2.out (Flow.grow_drewN w2 nq))
    have HMq := Lib.hid (HM2.out.trans (Xm.Mv.drew (n := nq)))
    have hAq : (w2.drewN nq).heap[A]? = some (.cells #[.string nm, .string ByteArray.empty] 41 (0, 0)) := HA2.out
    have hRq : (w2.drewN nq).heap[R]? = some (.cells #[.string ByteArray.empty, .string ByteArray.empty] 41 (0, 0)) := HR2.out
    have HAq := Lib.hid hAq
    have HRq := Lib.hid hRq
    clear hAq hRq HS2 HM2 HA2 HR2 c0 c1 c2 f1 f2 hd hd'
    generalize w2.drewN nq = w3 at *
    have hRlt : R < w3.heap.size := (Array.getElem?_eq_some_iff.1 HRq.out).1
    have hAlt : A < w3.heap.size := (Array.getElem?_eq_some_iff.1 HAq.out).1
    have hsl := run_cut s k2 (k2 + 1) (by omega) (by omega) (k2 : Int) ((k2 : Int) + 1) rfl (by omega)
    have e1 : IntKind.i64.wrap ((k2 : Int) + 1) = (k2 : Int) + 1 := IntWalk.i64_in _ (by omega)
    have c0 := (HSq.out : Xm.Sc w3 b s k2 0 bad2).c.1
    have c1 := (HSq.out : Xm.Sc w3 b s k2 0 bad2).c.2.1
    have f1 := (HSq.out : Xm.Sc w3 b s k2 0 bad2).c.2.2.2.2.1
    go_wp2_with fail
    go_quiet (fail)
    have HSr := Lib.hid ((Xm.Sc.grow HSq.out (Flow.grow_drewN w3 nq)).at' ((k2 : Int) + 1))
    have HK1 : Hid ((k2 : Int) + 1 = ((k2 + 1 : Nat) : Int)) := Lib.hid (by omega)
    have hsr : Xm.Sc ((w3.drewN nq).setCell ⟨b, 1, none⟩ (.int .i64 ((k2 : Int) + 1))) b s ((k2 + 1 : Nat) : Int) 0 bad2 := by rw [← HK1.out]; exact HSr.out
    have HSs := Lib.hid hsr
    have hmr : Xm.Mv w b ((w3.drewN nq).setCell ⟨b, 1, none⟩ (.int .i64 ((k2 : Int) + 1))) := (HMq.out.trans (Xm.Mv.drew (n := nq))).trans Xm.Mv.set
    have HMs := Lib.hid hmr
    have hMx : Xm.Max ((w3.drewN nq).setCell ⟨b, 1, none⟩ (.int .i64 ((k2 : Int) + 1))) := HMM0.out.mv hmr hb1
    have HMx := Lib.hid hMx
    have hqs : (s.extract k2 (k2 + 1)).size ≤ 100 := by simp; omega
    have Hqs := Lib.hid hqs
    have hAs : ((w3.drewN nq).setCell ⟨b, 1, none⟩ (.int .i64 ((k2 : Int) + 1))).heap[A]? = some (.cells #[.string nm, .string ByteArray.empty] 41 (0, 0)) := by
      rw [Below.heap_setCell _ _ _ _ (by show A ≠ b; exact fun e => HbA.out e.symm)]; exact HAq.out
    have hRs : ((w3.drewN nq).setCell ⟨b, 1, none⟩ (.int .i64 ((k2 : Int) + 1))).heap[R]? = some (.cells #[.string ByteArray.empty, .string ByteArray.empty] 41 (0, 0)) := by
      rw [Below.heap_setCell _ _ _ _ (by show R ≠ b; exact fun e => HbR.out e.symm)]; exact HRq.out
    have HAs := Lib.hid hAs
    have HRs := Lib.hid hRs
    clear hAs hRs hqs hMx hmr hsr hsl e1 HSr
    go_upto_region 11 with fail
    generalize (w3.drewN nq).setCell ⟨b, 1, none⟩ (.int .i64 ((k2 : Int) + 1)) = w4 at *
    clear c0 c1 f1 hRlt hAlt HSq HMq HAq HRq
    have hRlt : R < w4.heap.size := (Array.getElem?_eq_some_iff.1 HRs.out).1
    have hAlt : A < w4.heap.size := (Array.getElem?_eq_some_iff.1 HAs.out).1
    have HRlt := Lib.hid hRlt
    have HAlt := Lib.hid hAlt
    clear hRlt hAlt
    obtain ⟨f, hfe⟩ : ∃ f : Nat, (f : Int) = Xm.farS s (k2 + 1) (s.extract k2 (k2 + 1)) := ⟨(Xm.farS s (k2 + 1) (s.extract k2 (k2 + 1))).toNat, by have := HF.out; omega⟩
    have Hfe := Lib.hid hfe
    have Hft : Hid ((Xm.farS s (k2 + 1) (s.extract k2 (k2 + 1))).toNat = f) := Lib.hid (by omega)
    have Hfb : Hid (k2 + 1 + f + 1 ≤ s.size) := Lib.hid (by have := (Xm.farS_bd (s := s) (k := k2 + 1) (by omega) (s.extract k2 (k2 + 1))).2 HF.out; rw [Hft.out] at this; simp at this; omega)
    have Hq1 : Hid ((s.extract k2 (k2 + 1)).size = 1) := Lib.hid (by simp; omega)
    clear hfe
    rw [Hft.out] at HI HE
    obtain ⟨v, hv⟩ : ∃ v, v = s.extract (k2 + 1) (k2 + 1 + f) := ⟨_, rfl⟩
    rw [← hv] at HI
    try rw [← hv] at HE
    have Hv := Lib.hid hv
    clear hv
    obtain ⟨z, hz⟩ : ∃ z, z = Lib.indexByte v.data.toList 60 := ⟨_, rfl⟩
    rw [← hz] at HI
    have HZ := Lib.hid hz
    clear hz
    have hi := HI.out
    go_upto_region 14 with (first | (go_at_call 67; refine (until_any b s _ (k2 + 1) 0 bad2 w4 HSs.out (by omega) (by omega) Hqs.out HMx.out).mono ?_; rintro e w5 ⟨-, hyes⟩; obtain ⟨rfl, hs5, hm5⟩ := hyes HF.out; rw [Hft.out, ← Hv.out]; rw [Hft.out, Hq1.out] at hs5; clear hyes) | (go_at_call 71; refine (ibyte_any _ _ _).mono ?_; rintro e w' ⟨rfl, rfl⟩; rw [show (Int.toNat 60).toUInt8 = (60 : UInt8) from rfl, ← HZ.out]) | (go_at_call 31; refine (wrong_any _ _ _ _ _ 3 _ _ hs5 (by decide)).mono ?_; rintro e w6 ⟨rfl, hs6, hm6⟩))
    have HAw := Lib.hid (((hm5.trans hm6).block' HAlt.out (fun e => HbA.out e.symm)).trans HAs.out)
    have HRw := Lib.hid (((hm5.trans hm6).block' HRlt.out (fun e => HbR.out e.symm)).trans HRs.out)
    have a0 := (cell_of_row w6 A 0 _ _ _ HAw.out).trans rfl
    have a1 := (cell_of_row w6 A 1 _ _ _ HAw.out).trans rfl
    have r0 := (cell_of_row w6 R 0 _ _ _ HRw.out).trans rfl
    have r1 := (cell_of_row w6 R 1 _ _ _ HRw.out).trans rfl
    have rf0 : w6.frozen? ⟨R, 0, none⟩ = false := frozen_of_row w6 R _ _ _ HRw.out
    have rf1 : w6.frozen? ⟨R, 1, none⟩ = false := frozen_of_row w6 R _ _ _ HRw.out
    have HR6 := Lib.hid HRw.out
    go_wp2
    exact bodyPost_ret (attr_res _ _ R nm ByteArray.empty rfl (set2 HR6.out)) rfl ⟨by rw [HV.out, HE.out.2], by rw [HA.out, HE.out.1]; exact (Xm.Sc.other (Xm.Sc.other hs6 HbR.out) HbR.out), ((HMs.out.trans hm5).trans hm6).setNew (Nat.le_of_eq HR0.out.symm) |>.setNew (Nat.le_of_eq HR0.out.symm)⟩
  · have g34 : ((s[k2].toNat : Int) != 34) = true := by rw [hb]; simpa using h34
    have g39 : ((s[k2].toNat : Int) != 39) = false := by
      rw [hb]; simp [Xm.quoteAt, h34] at hq ⊢; exact hq.2
    clear hb h34 hq
    go_wp2_with fail
    go_quiet (fail)
    have HSq : Hid (Xm.Sc (w2.drewN nq) b s k2 0 bad2) := Lib.hid (Xm.Sc.grow HS2.out (Flow.grow_drewN w2 nq))
    have HMq := Lib.hid (HM2.out.trans (Xm.Mv.drew (n := nq)))
    have hAq : (w2.drewN nq).heap[A]? = some (.cells #[.string nm, .string ByteArray.empty] 41 (0, 0)) := HA2.out
    have hRq : (w2.drewN nq).heap[R]? = some (.cells #[.string ByteArray.empty, .string ByteArray.empty] 41 (0, 0)) := HR2.out
    have HAq := Lib.hid hAq
    have HRq := Lib.hid hRq
    clear hAq hRq HS2 HM2 HA2 HR2 c0 c1 c2 f1 f2 hd hd'
    generalize w2.drewN nq = w3 at *
    have hRlt : R < w3.heap.size := (Array.getElem?_eq_some_iff.1 HRq.out).1
    have hAlt : A < w3.heap.size := (Array.getElem?_eq_some_iff.1 HAq.out).1
    have hsl := run_cut s k2 (k2 + 1) (by omega) (by omega) (k2 : Int) ((k2 : Int) + 1) rfl (by omega)
    have e1 : IntKind.i64.wrap ((k2 : Int) + 1) = (k2 : Int) + 1 := IntWalk.i64_in _ (by omega)
    have c0 := (HSq.out : Xm.Sc w3 b s k2 0 bad2).c.1
    have c1 := (HSq.out : Xm.Sc w3 b s k2 0 bad2).c.2.1
    have f1 := (HSq.out : Xm.Sc w3 b s k2 0 bad2).c.2.2.2.2.1
    go_wp2_with fail
    go_quiet (fail)
    have HSr := Lib.hid ((Xm.Sc.grow HSq.out (Flow.grow_drewN w3 nq)).at' ((k2 : Int) + 1))
    have HK1 : Hid ((k2 : Int) + 1 = ((k2 + 1 : Nat) : Int)) := Lib.hid (by omega)
    have hsr : Xm.Sc ((w3.drewN nq).setCell ⟨b, 1, none⟩ (.int .i64 ((k2 : Int) + 1))) b s ((k2 + 1 : Nat) : Int) 0 bad2 := by rw [← HK1.out]; exact HSr.out
    have HSs := Lib.hid hsr
    have hmr : Xm.Mv w b ((w3.drewN nq).setCell ⟨b, 1, none⟩ (.int .i64 ((k2 : Int) + 1))) := (HMq.out.trans (Xm.Mv.drew (n := nq))).trans Xm.Mv.set
    have HMs := Lib.hid hmr
    have hMx : Xm.Max ((w3.drewN nq).setCell ⟨b, 1, none⟩ (.int .i64 ((k2 : Int) + 1))) := HMM0.out.mv hmr hb1
    have HMx := Lib.hid hMx
    have hqs : (s.extract k2 (k2 + 1)).size ≤ 100 := by simp; omega
    have Hqs := Lib.hid hqs
    have hAs : ((w3.drewN nq).setCell ⟨b, 1, none⟩ (.int .i64 ((k2 : Int) + 1))).heap[A]? = some (.cells #[.string nm, .string ByteArray.empty] 41 (0, 0)) := by
      rw [Below.heap_setCell _ _ _ _ (by show A ≠ b; exact fun e => HbA.out e.symm)]; exact HAq.out
    have hRs : ((w3.drewN nq).setCell ⟨b, 1, none⟩ (.int .i64 ((k2 : Int) + 1))).heap[R]? = some (.cells #[.string ByteArray.empty, .string ByteArray.empty] 41 (0, 0)) := by
      rw [Below.heap_setCell _ _ _ _ (by show R ≠ b; exact fun e => HbR.out e.symm)]; exact HRq.out
    have HAs := Lib.hid hAs
    have HRs := Lib.hid hRs
    clear hAs hRs hqs hMx hmr hsr hsl e1 HSr
    go_upto_region 11 with fail
    generalize (w3.drewN nq).setCell ⟨b, 1, none⟩ (.int .i64 ((k2 : Int) + 1)) = w4 at *
    clear c0 c1 f1 hRlt hAlt HSq HMq HAq HRq
    have hRlt : R < w4.heap.size := (Array.getElem?_eq_some_iff.1 HRs.out).1
    have hAlt : A < w4.heap.size := (Array.getElem?_eq_some_iff.1 HAs.out).1
    have HRlt := Lib.hid hRlt
    have HAlt := Lib.hid hAlt
    clear hRlt hAlt
    obtain ⟨f, hfe⟩ : ∃ f : Nat, (f : Int) = Xm.farS s (k2 + 1) (s.extract k2 (k2 + 1)) := ⟨(Xm.farS s (k2 + 1) (s.extract k2 (k2 + 1))).toNat, by have := HF.out; omega⟩
    have Hfe := Lib.hid hfe
    have Hft : Hid ((Xm.farS s (k2 + 1) (s.extract k2 (k2 + 1))).toNat = f) := Lib.hid (by omega)
    have Hfb : Hid (k2 + 1 + f + 1 ≤ s.size) := Lib.hid (by have := (Xm.farS_bd (s := s) (k := k2 + 1) (by omega) (s.extract k2 (k2 + 1))).2 HF.out; rw [Hft.out] at this; simp at this; omega)
    have Hq1 : Hid ((s.extract k2 (k2 + 1)).size = 1) := Lib.hid (by simp; omega)
    clear hfe
    rw [Hft.out] at HI HE
    obtain ⟨v, hv⟩ : ∃ v, v = s.extract (k2 + 1) (k2 + 1 + f) := ⟨_, rfl⟩
    rw [← hv] at HI
    try rw [← hv] at HE
    have Hv := Lib.hid hv
    clear hv
    obtain ⟨z, hz⟩ : ∃ z, z = Lib.indexByte v.data.toList 60 := ⟨_, rfl⟩
    rw [← hz] at HI
    have HZ := Lib.hid hz
    clear hz
    have hi := HI.out
    go_upto_region 14 with (first | (go_at_call 67; refine (until_any b s _ (k2 + 1) 0 bad2 w4 HSs.out (by omega) (by omega) Hqs.out HMx.out).mono ?_; rintro e w5 ⟨-, hyes⟩; obtain ⟨rfl, hs5, hm5⟩ := hyes HF.out; rw [Hft.out, ← Hv.out]; rw [Hft.out, Hq1.out] at hs5; clear hyes) | (go_at_call 71; refine (ibyte_any _ _ _).mono ?_; rintro e w' ⟨rfl, rfl⟩; rw [show (Int.toNat 60).toUInt8 = (60 : UInt8) from rfl, ← HZ.out]) | (go_at_call 31; refine (wrong_any _ _ _ _ _ 3 _ _ hs5 (by decide)).mono ?_; rintro e w6 ⟨rfl, hs6, hm6⟩))
    have HAw := Lib.hid (((hm5.trans hm6).block' HAlt.out (fun e => HbA.out e.symm)).trans HAs.out)
    have HRw := Lib.hid (((hm5.trans hm6).block' HRlt.out (fun e => HbR.out e.symm)).trans HRs.out)
    have a0 := (cell_of_row w6 A 0 _ _ _ HAw.out).trans rfl
    have a1 := (cell_of_row w6 A 1 _ _ _ HAw.out).trans rfl
    have r0 := (cell_of_row w6 R 0 _ _ _ HRw.out).trans rfl
    have r1 := (cell_of_row w6 R 1 _ _ _ HRw.out).trans rfl
    have rf0 : w6.frozen? ⟨R, 0, none⟩ = false := frozen_of_row w6 R _ _ _ HRw.out
    have rf1 : w6.frozen? ⟨R, 1, none⟩ = false := frozen_of_row w6 R _ _ _ HRw.out
    have HR6 := Lib.hid HRw.out
    go_wp2
    exact bodyPost_ret (attr_res _ _ R nm ByteArray.empty rfl (set2 HR6.out)) rfl ⟨by rw [HV.out, HE.out.2], by rw [HA.out, HE.out.1]; exact (Xm.Sc.other (Xm.Sc.other hs6 HbR.out) HbR.out), ((HMs.out.trans hm5).trans hm6).setNew (Nat.le_of_eq HR0.out.symm) |>.setNew (Nat.le_of_eq HR0.out.symm)⟩
set_option maxRecDepth 100000 in
set_option maxHeartbeats 4000000 in
theorem attr_5 (b : Nat) (s : ByteArray) (p : Xm.P3) (w : World) (h : Xm.Scs w b s p) (hk : p.k ≤ s.size) (hs : s.size ≤ 900000000) (hT : Xm.Tab w) (hm : Xm.Max w) (hb1 : 1 < b) (hc : (Xm.skipT s (Xm.nameT s p) Xm.eqS).e = 0 ∧ Xm.quoteAt s (Xm.skipT s (Xm.nameT s p) Xm.eqS).k = true ∧ 0 ≤ Xm.farS s ((Xm.skipT s (Xm.nameT s p) Xm.eqS).k + 1) (s.extract (Xm.skipT s (Xm.nameT s p) Xm.eqS).k ((Xm.skipT s (Xm.nameT s p) Xm.eqS).k + 1)) ∧  Lib.indexByte (s.extract ((Xm.skipT s (Xm.nameT s p) Xm.eqS).k + 1) ((Xm.skipT s (Xm.nameT s p) Xm.eqS).k + 1 + (Xm.farS s ((Xm.skipT s (Xm.nameT s p) Xm.eqS).k + 1) (s.extract (Xm.skipT s (Xm.nameT s p) Xm.eqS).k ((Xm.skipT s (Xm.nameT s p) Xm.eqS).k + 1))).toNat)).data.toList 60 < 0) :
    Calls Tryz.prog 86 #[.pointer (some ⟨b, 0, none⟩)] w fun r w' => r = .returned (.agg #[.string (Xm.nameS s p.k), .string (Xm.attrV s p)]) ∧ Xm.Scs w' b s (Xm.attrT s p) ∧ Xm.Mv w b w' := by
  have HS := Lib.hid h
  have HT := Lib.hid hT
  have HM := Lib.hid hm
  have hbw : b < w.heap.size := (h : Xm.Sc w b s p.k p.e p.bad).lt
  have Hbw := Lib.hid hbw
  obtain ⟨nm, hnm⟩ : ∃ nm, nm = Xm.nameS s p.k := ⟨_, rfl⟩
  obtain ⟨p1, hp1⟩ : ∃ p1, p1 = Xm.nameT s p := ⟨_, rfl⟩
  obtain ⟨p2, hp2⟩ : ∃ p2, p2 = Xm.skipT s p1 Xm.eqS := ⟨_, rfl⟩
  have hk1 : p1.k ≤ s.size := by rw [hp1, Xm.nameT_k]; exact (Xm.nameEnd_bd s _ p.k rfl hk).2
  have hk2 : p2.k ≤ s.size := by rw [hp2]; exact (Xm.skipT_bd s Xm.eqS p1 hk1).2
  have HA : Hid (Xm.attrT s p = Xm.attr2 s p2) := Lib.hid (by rw [Xm.attrT, hp2, hp1])
  have HV : Hid (Xm.attrV s p = Xm.attrV2 s p2) := Lib.hid (by rw [Xm.attrV, hp2, hp1])
  rw [← hp1, ← hp2] at hc
  have HC := Lib.hid hc
  clear hc
  rw [← hnm]
  have Hnm := Lib.hid hnm
  have Hp1 := Lib.hid hp1
  have Hp2 := Lib.hid hp2
  clear h hT hm hbw hnm hp1 hp2
  go_enter Tryz.func86, Tryz.ntmps86
  go_wp2_with (go_at_call 68; refine (sname_T _ _ _ _ (Xm.Sc.grow HS.out (Flow.grow_alloc _ _)) hk (by omega)).mono ?_; rintro e w1 ⟨rfl, hs1, hm1⟩; rw [← Hnm.out]; rw [← Hp1.out] at hs1)
  have HS1 := Lib.hid hs1
  have HM1 := Lib.hid hm1
  clear hs1 hm1
  go_upto_region 3 with (go_at_call 93; refine (skip_T _ _ Xm.eqS _ _ (Xm.Sc.grow HS1.out (Flow.grow_alloc _ _)) hk1 (by omega) (by decide)).mono ?_; rintro e w2 ⟨rfl, hs2, hm2⟩; rw [← Hp2.out] at hs2)
  have hbA : b < w1.heap.size := by have h1 := HM1.out.size; have h2 := Hbw.out; simp at h1; omega
  have hRA : w.heap.size < w1.heap.size := by have := HM1.out.size; simp at this; omega
  have hbA2 : w2.heap[w1.heap.size]? = some (.cells #[.string nm, .string ByteArray.empty] 41 (0, 0)) := (hm2.block' (by simp) (by omega)).trans (heap_alloc_new _ _)
  have hbR2 : w2.heap[w.heap.size]? = some (.cells #[.string ByteArray.empty, .string ByteArray.empty] 41 (0, 0)) := by
    rw [hm2.block' (q := w.heap.size) (by simp; omega) (by have := Hbw.out; omega), Below.heap_alloc _ _ _ hRA, HM1.out.block' (q := w.heap.size) (by simp) (by have := Hbw.out; omega)]
    exact heap_alloc_new _ _
  have hmm : Xm.Mv w b w2 := HM1.out.back.trans hm2.back
  have hRA' : w.heap.size ≠ w1.heap.size := by omega
  have HS2 := Lib.hid hs2
  have HM2 := Lib.hid hmm
  have HA2 := Lib.hid hbA2
  have HR2 := Lib.hid hbR2
  have HbR := Lib.hid (show b ≠ w.heap.size by have := Hbw.out; omega)
  have HbA := Lib.hid (show b ≠ w1.heap.size by omega)
  have HTT := Lib.hid (HT.out.mv hmm hb1)
  have HMM := Lib.hid (HM.out.mv hmm hb1)
  have HMM0 := Lib.hid HM.out
  have HTT0 := Lib.hid HT.out
  have hle : w.heap.size ≤ w1.heap.size := by omega
  have Hle := Lib.hid hle
  have Hne := Lib.hid hRA'
  clear hs2 hm2 hmm hbA2 hbR2 hbA hRA hRA' hle HM1 HS1 HS HT HM
  obtain ⟨A, hA⟩ : ∃ A, A = w1.heap.size := ⟨_, rfl⟩
  obtain ⟨R, hR⟩ : ∃ R, R = w.heap.size := ⟨_, rfl⟩
  rw [← hA] at HA2 HbA Hle Hne ⊢
  rw [← hR] at HR2 HbR Hle Hne ⊢
  have HR0 := Lib.hid hR
  clear hA hR
  obtain ⟨k2, e2, bad2⟩ := p2
  have hk2 : k2 ≤ s.size := hk2
  obtain ⟨c0, c1, c2, -, f1, f2, -⟩ := (HS2.out : Xm.Sc w2 b s k2 e2 bad2).c
  have hc := HC.out
  clear HC
  obtain ⟨rfl, hq, hf⟩ : e2 = 0 ∧ Xm.quoteAt s k2 = true ∧ 0 ≤ (Xm.farS s (k2 + 1) (s.extract k2 (k2 + 1))) ∧ Lib.indexByte (s.extract (k2 + 1) (k2 + 1 + (Xm.farS s (k2 + 1) (s.extract k2 (k2 + 1))).toNat)).data.toList 60 < 0 := hc
  have hlt : k2 < s.size := by simp only [Xm.quoteAt, Bool.and_eq_true, decide_eq_true_eq] at hq; exact hq.1
  have h2a : Xm.attr2 s ⟨k2, 0, bad2⟩ = Xm.valT s ⟨k2, 0, bad2⟩ := by simp only [Xm.attr2, ne_eq, not_true_eq_false, if_false, hq, Bool.true_eq_false]
  have h2v : Xm.attrV2 s ⟨k2, 0, bad2⟩ = Xm.valV s ⟨k2, 0, bad2⟩ := by simp only [Xm.attrV2, ne_eq, not_true_eq_false, if_false, hq, Bool.true_eq_false]
  have HF := Lib.hid hf.1
  have HI := Lib.hid hf.2
  have HE : Hid (Xm.attr2 s ⟨k2, 0, bad2⟩ = Xm.openT ⟨k2 + 1 + (Xm.farS s (k2 + 1) (s.extract k2 (k2 + 1))).toNat + 1, 0, bad2⟩ (s.extract (k2 + 1) (k2 + 1 + (Xm.farS s (k2 + 1) (s.extract k2 (k2 + 1))).toNat)) (k2 + 1) ∧ Xm.attrV2 s ⟨k2, 0, bad2⟩ = Xm.opened (s.extract (k2 + 1) (k2 + 1 + (Xm.farS s (k2 + 1) (s.extract k2 (k2 + 1))).toNat))) := Lib.hid ⟨by rw [h2a, Xm.valT, if_neg (by have := hf.1; simp only; omega), if_neg (by have := hf.2; simp only; omega)], by rw [h2v, Xm.valV, if_neg (by have := hf.1; simp only; omega), if_neg (by have := hf.2; simp only; omega)]⟩
  clear h2a h2v hf
  have hb := Xm.bt_eq hlt
  have hd : decide ((s.size : Int) ≤ (k2 : Int)) = false := by simp; omega
  have hd' : decide (s.size ≤ k2) = false := by simp; omega
  have hle2 : ¬ (s.size : Int) ≤ (k2 : Int) := by omega
  by_cases h34 : Xm.bt s k2 = 34
  · have g34 : ((s[k2].toNat : Int) != 34) = false := by rw [hb]; simpa using h34
    clear hb h34 hq
    go_wp2_with fail
    go_quiet (fail)
    have HSq : Hid (Xm.Sc (w2.drewN nq) b s k2 0 bad2) := Lib.hid (Xm.Sc.grow HS2.out (Flow.grow_drewN w2 nq))
    have HMq := Lib.hid (HM2.out.trans (Xm.Mv.drew (n := nq)))
    have hAq : (w2.drewN nq).heap[A]? = some (.cells #[.string nm, .string ByteArray.empty] 41 (0, 0)) := HA2.out
    have hRq : (w2.drewN nq).heap[R]? = some (.cells #[.string ByteArray.empty, .string ByteArray.empty] 41 (0, 0)) := HR2.out
    have HAq := Lib.hid hAq
    have HRq := Lib.hid hRq
    clear hAq hRq HS2 HM2 HA2 HR2 c0 c1 c2 f1 f2 hd hd'
    generalize w2.drewN nq = w3 at *
    have hRlt : R < w3.heap.size := (Array.getElem?_eq_some_iff.1 HRq.out).1
    have hAlt : A < w3.heap.size := (Array.getElem?_eq_some_iff.1 HAq.out).1
    have hsl := run_cut s k2 (k2 + 1) (by omega) (by omega) (k2 : Int) ((k2 : Int) + 1) rfl (by omega)
    have e1 : IntKind.i64.wrap ((k2 : Int) + 1) = (k2 : Int) + 1 := IntWalk.i64_in _ (by omega)
    have c0 := (HSq.out : Xm.Sc w3 b s k2 0 bad2).c.1
    have c1 := (HSq.out : Xm.Sc w3 b s k2 0 bad2).c.2.1
    have f1 := (HSq.out : Xm.Sc w3 b s k2 0 bad2).c.2.2.2.2.1
    go_wp2_with fail
    go_quiet (fail)
    have HSr := Lib.hid ((Xm.Sc.grow HSq.out (Flow.grow_drewN w3 nq)).at' ((k2 : Int) + 1))
    have HK1 : Hid ((k2 : Int) + 1 = ((k2 + 1 : Nat) : Int)) := Lib.hid (by omega)
    have hsr : Xm.Sc ((w3.drewN nq).setCell ⟨b, 1, none⟩ (.int .i64 ((k2 : Int) + 1))) b s ((k2 + 1 : Nat) : Int) 0 bad2 := by rw [← HK1.out]; exact HSr.out
    have HSs := Lib.hid hsr
    have hmr : Xm.Mv w b ((w3.drewN nq).setCell ⟨b, 1, none⟩ (.int .i64 ((k2 : Int) + 1))) := (HMq.out.trans (Xm.Mv.drew (n := nq))).trans Xm.Mv.set
    have HMs := Lib.hid hmr
    have hMx : Xm.Max ((w3.drewN nq).setCell ⟨b, 1, none⟩ (.int .i64 ((k2 : Int) + 1))) := HMM0.out.mv hmr hb1
    have HMx := Lib.hid hMx
    have hqs : (s.extract k2 (k2 + 1)).size ≤ 100 := by simp; omega
    have Hqs := Lib.hid hqs
    have hAs : ((w3.drewN nq).setCell ⟨b, 1, none⟩ (.int .i64 ((k2 : Int) + 1))).heap[A]? = some (.cells #[.string nm, .string ByteArray.empty] 41 (0, 0)) := by
      rw [Below.heap_setCell _ _ _ _ (by show A ≠ b; exact fun e => HbA.out e.symm)]; exact HAq.out
    have hRs : ((w3.drewN nq).setCell ⟨b, 1, none⟩ (.int .i64 ((k2 : Int) + 1))).heap[R]? = some (.cells #[.string ByteArray.empty, .string ByteArray.empty] 41 (0, 0)) := by
      rw [Below.heap_setCell _ _ _ _ (by show R ≠ b; exact fun e => HbR.out e.symm)]; exact HRq.out
    have HAs := Lib.hid hAs
    have HRs := Lib.hid hRs
    clear hAs hRs hqs hMx hmr hsr hsl e1 HSr
    go_upto_region 11 with fail
    generalize (w3.drewN nq).setCell ⟨b, 1, none⟩ (.int .i64 ((k2 : Int) + 1)) = w4 at *
    clear c0 c1 f1 hRlt hAlt HSq HMq HAq HRq
    have hRlt : R < w4.heap.size := (Array.getElem?_eq_some_iff.1 HRs.out).1
    have hAlt : A < w4.heap.size := (Array.getElem?_eq_some_iff.1 HAs.out).1
    have HRlt := Lib.hid hRlt
    have HAlt := Lib.hid hAlt
    clear hRlt hAlt
    obtain ⟨f, hfe⟩ : ∃ f : Nat, (f : Int) = Xm.farS s (k2 + 1) (s.extract k2 (k2 + 1)) := ⟨(Xm.farS s (k2 + 1) (s.extract k2 (k2 + 1))).toNat, by have := HF.out; omega⟩
    have Hfe := Lib.hid hfe
    have Hft : Hid ((Xm.farS s (k2 + 1) (s.extract k2 (k2 + 1))).toNat = f) := Lib.hid (by omega)
    have Hfb : Hid (k2 + 1 + f + 1 ≤ s.size) := Lib.hid (by have := (Xm.farS_bd (s := s) (k := k2 + 1) (by omega) (s.extract k2 (k2 + 1))).2 HF.out; rw [Hft.out] at this; simp at this; omega)
    have Hq1 : Hid ((s.extract k2 (k2 + 1)).size = 1) := Lib.hid (by simp; omega)
    clear hfe
    rw [Hft.out] at HI HE
    obtain ⟨v, hv⟩ : ∃ v, v = s.extract (k2 + 1) (k2 + 1 + f) := ⟨_, rfl⟩
    rw [← hv] at HI
    try rw [← hv] at HE
    have Hv := Lib.hid hv
    clear hv
    obtain ⟨z, hz⟩ : ∃ z, z = Lib.indexByte v.data.toList 60 := ⟨_, rfl⟩
    rw [← hz] at HI
    have HZ := Lib.hid hz
    clear hz
    have hi := HI.out
    have hi2 : decide (0 ≤ z) = false := by simp; omega
    have hvs : v.size ≤ 1000000000 := by rw [Hv.out]; simp; omega
    have Hvs := Lib.hid hvs
    have HTs := Lib.hid (HTT0.out.mv HMs.out hb1)
    have HK1' := Lib.hid HK1.out
    clear hi hvs
    go_upto_region 15 with (first | (go_at_call 67; refine (until_any b s _ (k2 + 1) 0 bad2 w4 HSs.out (by omega) (by omega) Hqs.out HMx.out).mono ?_; rintro e w5 ⟨-, hyes⟩; obtain ⟨rfl, hs5, hm5⟩ := hyes HF.out; rw [Hft.out, ← Hv.out]; rw [Hft.out, Hq1.out] at hs5; clear hyes) | (go_at_call 71; refine (ibyte_any _ _ _).mono ?_; rintro e w' ⟨rfl, rfl⟩; rw [show (Int.toNat 60).toUInt8 = (60 : UInt8) from rfl, ← HZ.out]))
    have HSv : Hid (Xm.Scs w5 b s ⟨k2 + 1 + f + 1, 0, bad2⟩) := Lib.hid hs5
    have HTv := Lib.hid (HTs.out.mv hm5 hb1)
    have HAv := Lib.hid ((hm5.block' HAlt.out (fun e => HbA.out e.symm)).trans HAs.out)
    have HRv := Lib.hid ((hm5.block' HRlt.out (fun e => HbR.out e.symm)).trans HRs.out)
    have HMv := Lib.hid (HMs.out.trans hm5)
    have HAl := Lib.hid (Array.getElem?_eq_some_iff.1 HAv.out).1
    have HRl := Lib.hid (Array.getElem?_eq_some_iff.1 HRv.out).1
    obtain ⟨u, hu⟩ : ∃ u, u = Xm.opened v := ⟨_, rfl⟩
    rw [← hu] at HE
    have Hu := Lib.hid hu
    obtain ⟨q, hqe⟩ : ∃ q, q = Xm.openT ⟨k2 + 1 + f + 1, 0, bad2⟩ v (k2 + 1) := ⟨_, rfl⟩
    rw [← hqe] at HE
    have Hqe := Lib.hid hqe
    clear hs5 hm5 hu hqe
    go_upto_region 16 with (go_at_call 72; refine (sopen_Z b s v _ (k2 + 1) _ HK1'.out w5 HSv.out HTv.out hb1 Hvs.out (by omega)).mono ?_; rintro e w6 ⟨rfl, hs6, hm6⟩; rw [← Hqe.out] at hs6; rw [← Hu.out]; have HAw := Lib.hid ((hm6.block' HAl.out (fun e => HbA.out e.symm)).trans HAv.out); have HRw := Lib.hid ((hm6.block' HRl.out (fun e => HbR.out e.symm)).trans HRv.out); have a1 := (cell_of_row w6 A 1 _ _ _ HAw.out).trans rfl; have af1 : w6.frozen? ⟨A, 1, none⟩ = false := frozen_of_row w6 A _ _ _ HAw.out)
    have hs7 := Xm.Sc.other (j := 1) (v := .string u) hs6 HbA.out
    have hm7 : Xm.Mv w b (w6.setCell ⟨A, 1, none⟩ (.string u)) := (HMv.out.trans hm6).setNew (by have h1 := Hle.out; have h2 := HR0.out; omega)
    have HA7 := Lib.hid (heap_setCell_same w6 A 1 _ _ (.string u) HAw.out)
    have HR7 : Hid ((w6.setCell ⟨A, 1, none⟩ (.string u)).heap[R]? = some (.cells #[.string ByteArray.empty, .string ByteArray.empty] 41 (0, 0))) := Lib.hid (by
      rw [Below.heap_setCell _ _ _ _ (by show R ≠ A; exact Hne.out)]; exact HRw.out)
    have HS7 := Lib.hid hs7
    have HM7 := Lib.hid hm7
    clear hs7 hm7 hs6 hm6 HAw HRw a1 af1
    generalize w6.setCell ⟨A, 1, none⟩ (.string u) = w7 at *
    have hA7 : w7.heap[A]? = some (.cells #[.string nm, .string u] 41 (0, 0)) := HA7.out
    have HA8 := Lib.hid hA7
    clear hA7 HA7
    have a0 := (cell_of_row w7 A 0 _ _ _ HA8.out).trans rfl
    have a1 := (cell_of_row w7 A 1 _ _ _ HA8.out).trans rfl
    have r0 := (cell_of_row w7 R 0 _ _ _ HR7.out).trans rfl
    have r1 := (cell_of_row w7 R 1 _ _ _ HR7.out).trans rfl
    have rf0 : w7.frozen? ⟨R, 0, none⟩ = false := frozen_of_row w7 R _ _ _ HR7.out
    have rf1 : w7.frozen? ⟨R, 1, none⟩ = false := frozen_of_row w7 R _ _ _ HR7.out
    go_wp2
    exact bodyPost_ret (attr_res _ _ R nm u rfl (set2 HR7.out)) rfl ⟨by rw [HV.out, HE.out.2], by rw [HA.out, HE.out.1]; exact (Xm.Sc.other (Xm.Sc.other HS7.out HbR.out) HbR.out), (HM7.out.setNew (Nat.le_of_eq HR0.out.symm)).setNew (Nat.le_of_eq HR0.out.symm)⟩
  · have g34 : ((s[k2].toNat : Int) != 34) = true := by rw [hb]; simpa using h34
    have g39 : ((s[k2].toNat : Int) != 39) = false := by
      rw [hb]; simp [Xm.quoteAt, h34] at hq ⊢; exact hq.2
    clear hb h34 hq
    go_wp2_with fail
    go_quiet (fail)
    have HSq : Hid (Xm.Sc (w2.drewN nq) b s k2 0 bad2) := Lib.hid (Xm.Sc.grow HS2.out (Flow.grow_drewN w2 nq))
    have HMq := Lib.hid (HM2.out.trans (Xm.Mv.drew (n := nq)))
    have hAq : (w2.drewN nq).heap[A]? = some (.cells #[.string nm, .string ByteArray.empty] 41 (0, 0)) := HA2.out
    have hRq : (w2.drewN nq).heap[R]? = some (.cells #[.string ByteArray.empty, .string ByteArray.empty] 41 (0, 0)) := HR2.out
    have HAq := Lib.hid hAq
    have HRq := Lib.hid hRq
    clear hAq hRq HS2 HM2 HA2 HR2 c0 c1 c2 f1 f2 hd hd'
    generalize w2.drewN nq = w3 at *
    have hRlt : R < w3.heap.size := (Array.getElem?_eq_some_iff.1 HRq.out).1
    have hAlt : A < w3.heap.size := (Array.getElem?_eq_some_iff.1 HAq.out).1
    have hsl := run_cut s k2 (k2 + 1) (by omega) (by omega) (k2 : Int) ((k2 : Int) + 1) rfl (by omega)
    have e1 : IntKind.i64.wrap ((k2 : Int) + 1) = (k2 : Int) + 1 := IntWalk.i64_in _ (by omega)
    have c0 := (HSq.out : Xm.Sc w3 b s k2 0 bad2).c.1
    have c1 := (HSq.out : Xm.Sc w3 b s k2 0 bad2).c.2.1
    have f1 := (HSq.out : Xm.Sc w3 b s k2 0 bad2).c.2.2.2.2.1
    go_wp2_with fail
    go_quiet (fail)
    have HSr := Lib.hid ((Xm.Sc.grow HSq.out (Flow.grow_drewN w3 nq)).at' ((k2 : Int) + 1))
    have HK1 : Hid ((k2 : Int) + 1 = ((k2 + 1 : Nat) : Int)) := Lib.hid (by omega)
    have hsr : Xm.Sc ((w3.drewN nq).setCell ⟨b, 1, none⟩ (.int .i64 ((k2 : Int) + 1))) b s ((k2 + 1 : Nat) : Int) 0 bad2 := by rw [← HK1.out]; exact HSr.out
    have HSs := Lib.hid hsr
    have hmr : Xm.Mv w b ((w3.drewN nq).setCell ⟨b, 1, none⟩ (.int .i64 ((k2 : Int) + 1))) := (HMq.out.trans (Xm.Mv.drew (n := nq))).trans Xm.Mv.set
    have HMs := Lib.hid hmr
    have hMx : Xm.Max ((w3.drewN nq).setCell ⟨b, 1, none⟩ (.int .i64 ((k2 : Int) + 1))) := HMM0.out.mv hmr hb1
    have HMx := Lib.hid hMx
    have hqs : (s.extract k2 (k2 + 1)).size ≤ 100 := by simp; omega
    have Hqs := Lib.hid hqs
    have hAs : ((w3.drewN nq).setCell ⟨b, 1, none⟩ (.int .i64 ((k2 : Int) + 1))).heap[A]? = some (.cells #[.string nm, .string ByteArray.empty] 41 (0, 0)) := by
      rw [Below.heap_setCell _ _ _ _ (by show A ≠ b; exact fun e => HbA.out e.symm)]; exact HAq.out
    have hRs : ((w3.drewN nq).setCell ⟨b, 1, none⟩ (.int .i64 ((k2 : Int) + 1))).heap[R]? = some (.cells #[.string ByteArray.empty, .string ByteArray.empty] 41 (0, 0)) := by
      rw [Below.heap_setCell _ _ _ _ (by show R ≠ b; exact fun e => HbR.out e.symm)]; exact HRq.out
    have HAs := Lib.hid hAs
    have HRs := Lib.hid hRs
    clear hAs hRs hqs hMx hmr hsr hsl e1 HSr
    go_upto_region 11 with fail
    generalize (w3.drewN nq).setCell ⟨b, 1, none⟩ (.int .i64 ((k2 : Int) + 1)) = w4 at *
    clear c0 c1 f1 hRlt hAlt HSq HMq HAq HRq
    have hRlt : R < w4.heap.size := (Array.getElem?_eq_some_iff.1 HRs.out).1
    have hAlt : A < w4.heap.size := (Array.getElem?_eq_some_iff.1 HAs.out).1
    have HRlt := Lib.hid hRlt
    have HAlt := Lib.hid hAlt
    clear hRlt hAlt
    obtain ⟨f, hfe⟩ : ∃ f : Nat, (f : Int) = Xm.farS s (k2 + 1) (s.extract k2 (k2 + 1)) := ⟨(Xm.farS s (k2 + 1) (s.extract k2 (k2 + 1))).toNat, by have := HF.out; omega⟩
    have Hfe := Lib.hid hfe
    have Hft : Hid ((Xm.farS s (k2 + 1) (s.extract k2 (k2 + 1))).toNat = f) := Lib.hid (by omega)
    have Hfb : Hid (k2 + 1 + f + 1 ≤ s.size) := Lib.hid (by have := (Xm.farS_bd (s := s) (k := k2 + 1) (by omega) (s.extract k2 (k2 + 1))).2 HF.out; rw [Hft.out] at this; simp at this; omega)
    have Hq1 : Hid ((s.extract k2 (k2 + 1)).size = 1) := Lib.hid (by simp; omega)
    clear hfe
    rw [Hft.out] at HI HE
    obtain ⟨v, hv⟩ : ∃ v, v = s.extract (k2 + 1) (k2 + 1 + f) := ⟨_, rfl⟩
    rw [← hv] at HI
    try rw [← hv] at HE
    have Hv := Lib.hid hv
    clear hv
    obtain ⟨z, hz⟩ : ∃ z, z = Lib.indexByte v.data.toList 60 := ⟨_, rfl⟩
    rw [← hz] at HI
    have HZ := Lib.hid hz
    clear hz
    have hi := HI.out
    have hi2 : decide (0 ≤ z) = false := by simp; omega
    have hvs : v.size ≤ 1000000000 := by rw [Hv.out]; simp; omega
    have Hvs := Lib.hid hvs
    have HTs := Lib.hid (HTT0.out.mv HMs.out hb1)
    have HK1' := Lib.hid HK1.out
    clear hi hvs
    go_upto_region 15 with (first | (go_at_call 67; refine (until_any b s _ (k2 + 1) 0 bad2 w4 HSs.out (by omega) (by omega) Hqs.out HMx.out).mono ?_; rintro e w5 ⟨-, hyes⟩; obtain ⟨rfl, hs5, hm5⟩ := hyes HF.out; rw [Hft.out, ← Hv.out]; rw [Hft.out, Hq1.out] at hs5; clear hyes) | (go_at_call 71; refine (ibyte_any _ _ _).mono ?_; rintro e w' ⟨rfl, rfl⟩; rw [show (Int.toNat 60).toUInt8 = (60 : UInt8) from rfl, ← HZ.out]))
    have HSv : Hid (Xm.Scs w5 b s ⟨k2 + 1 + f + 1, 0, bad2⟩) := Lib.hid hs5
    have HTv := Lib.hid (HTs.out.mv hm5 hb1)
    have HAv := Lib.hid ((hm5.block' HAlt.out (fun e => HbA.out e.symm)).trans HAs.out)
    have HRv := Lib.hid ((hm5.block' HRlt.out (fun e => HbR.out e.symm)).trans HRs.out)
    have HMv := Lib.hid (HMs.out.trans hm5)
    have HAl := Lib.hid (Array.getElem?_eq_some_iff.1 HAv.out).1
    have HRl := Lib.hid (Array.getElem?_eq_some_iff.1 HRv.out).1
    obtain ⟨u, hu⟩ : ∃ u, u = Xm.opened v := ⟨_, rfl⟩
    rw [← hu] at HE
    have Hu := Lib.hid hu
    obtain ⟨q, hqe⟩ : ∃ q, q = Xm.openT ⟨k2 + 1 + f + 1, 0, bad2⟩ v (k2 + 1) := ⟨_, rfl⟩
    rw [← hqe] at HE
    have Hqe := Lib.hid hqe
    clear hs5 hm5 hu hqe
    go_upto_region 16 with (go_at_call 72; refine (sopen_Z b s v _ (k2 + 1) _ HK1'.out w5 HSv.out HTv.out hb1 Hvs.out (by omega)).mono ?_; rintro e w6 ⟨rfl, hs6, hm6⟩; rw [← Hqe.out] at hs6; rw [← Hu.out]; have HAw := Lib.hid ((hm6.block' HAl.out (fun e => HbA.out e.symm)).trans HAv.out); have HRw := Lib.hid ((hm6.block' HRl.out (fun e => HbR.out e.symm)).trans HRv.out); have a1 := (cell_of_row w6 A 1 _ _ _ HAw.out).trans rfl; have af1 : w6.frozen? ⟨A, 1, none⟩ = false := frozen_of_row w6 A _ _ _ HAw.out)
    have hs7 := Xm.Sc.other (j := 1) (v := .string u) hs6 HbA.out
    have hm7 : Xm.Mv w b (w6.setCell ⟨A, 1, none⟩ (.string u)) := (HMv.out.trans hm6).setNew (by have h1 := Hle.out; have h2 := HR0.out; omega)
    have HA7 := Lib.hid (heap_setCell_same w6 A 1 _ _ (.string u) HAw.out)
    have HR7 : Hid ((w6.setCell ⟨A, 1, none⟩ (.string u)).heap[R]? = some (.cells #[.string ByteArray.empty, .string ByteArray.empty] 41 (0, 0))) := Lib.hid (by
      rw [Below.heap_setCell _ _ _ _ (by show R ≠ A; exact Hne.out)]; exact HRw.out)
    have HS7 := Lib.hid hs7
    have HM7 := Lib.hid hm7
    clear hs7 hm7 hs6 hm6 HAw HRw a1 af1
    generalize w6.setCell ⟨A, 1, none⟩ (.string u) = w7 at *
    have hA7 : w7.heap[A]? = some (.cells #[.string nm, .string u] 41 (0, 0)) := HA7.out
    have HA8 := Lib.hid hA7
    clear hA7 HA7
    have a0 := (cell_of_row w7 A 0 _ _ _ HA8.out).trans rfl
    have a1 := (cell_of_row w7 A 1 _ _ _ HA8.out).trans rfl
    have r0 := (cell_of_row w7 R 0 _ _ _ HR7.out).trans rfl
    have r1 := (cell_of_row w7 R 1 _ _ _ HR7.out).trans rfl
    have rf0 : w7.frozen? ⟨R, 0, none⟩ = false := frozen_of_row w7 R _ _ _ HR7.out
    have rf1 : w7.frozen? ⟨R, 1, none⟩ = false := frozen_of_row w7 R _ _ _ HR7.out
    go_wp2
    exact bodyPost_ret (attr_res _ _ R nm u rfl (set2 HR7.out)) rfl ⟨by rw [HV.out, HE.out.2], by rw [HA.out, HE.out.1]; exact (Xm.Sc.other (Xm.Sc.other HS7.out HbR.out) HbR.out), (HM7.out.setNew (Nat.le_of_eq HR0.out.symm)).setNew (Nat.le_of_eq HR0.out.symm)⟩
theorem attr_T (b : Nat) (s : ByteArray) (p : Xm.P3) (w : World) (h : Xm.Scs w b s p) (hk : p.k ≤ s.size) (hs : s.size ≤ 900000000) (hT : Xm.Tab w) (hm : Xm.Max w) (hb1 : 1 < b) :
    Calls Tryz.prog 86 #[.pointer (some ⟨b, 0, none⟩)] w fun r w' => r = .returned (.agg #[.string (Xm.nameS s p.k), .string (Xm.attrV s p)]) ∧ Xm.Scs w' b s (Xm.attrT s p) ∧ Xm.Mv w b w' := by
  by_cases h0 : (Xm.skipT s (Xm.nameT s p) Xm.eqS).e = 0
  · cases hq : Xm.quoteAt s (Xm.skipT s (Xm.nameT s p) Xm.eqS).k
    · by_cases hl : (Xm.skipT s (Xm.nameT s p) Xm.eqS).k < s.size
      · exact attr_2a b s p w h hk hs hT hm hb1 ⟨h0, hq, hl⟩
      · exact attr_2b b s p w h hk hs hT hm hb1 ⟨h0, hq, hl⟩
    · by_cases hf : Xm.farS s ((Xm.skipT s (Xm.nameT s p) Xm.eqS).k + 1) (s.extract (Xm.skipT s (Xm.nameT s p) Xm.eqS).k ((Xm.skipT s (Xm.nameT s p) Xm.eqS).k + 1)) < 0
      · exact attr_3 b s p w h hk hs hT hm hb1 ⟨h0, hq, hf⟩
      · by_cases hi : Lib.indexByte (s.extract ((Xm.skipT s (Xm.nameT s p) Xm.eqS).k + 1) ((Xm.skipT s (Xm.nameT s p) Xm.eqS).k + 1 + (Xm.farS s ((Xm.skipT s (Xm.nameT s p) Xm.eqS).k + 1) (s.extract (Xm.skipT s (Xm.nameT s p) Xm.eqS).k ((Xm.skipT s (Xm.nameT s p) Xm.eqS).k + 1))).toNat)).data.toList 60 < 0
        · exact attr_5 b s p w h hk hs hT hm hb1 ⟨h0, hq, Int.not_lt.1 hf, hi⟩
        · exact attr_4 b s p w h hk hs hT hm hb1 ⟨h0, hq, Int.not_lt.1 hf, Int.not_lt.1 hi⟩
  · exact attr_1 b s p w h hk hs hT hm hb1 h0
end Go.Proofs.YtdpkhmfolmcejaaGreatDoor

/- scan.Scanner: aside by its contract. -/
import Derived.Test.YtdpkhmfolmcejaaGreatDoorScan5
namespace Go.Proofs.YtdpkhmfolmcejaaGreatDoor
open Go.RowKit
namespace Xm
def comS : ByteArray := ⟨#[60, 33, 45, 45]⟩
def comE : ByteArray := ⟨#[45, 45, 62]⟩
def insS : ByteArray := ⟨#[60, 63]⟩
def insE : ByteArray := ⟨#[63, 62]⟩
def dash : ByteArray := ⟨#[45]⟩
def dashes : ByteArray := ⟨#[45, 45]⟩
/-- behind the beginning of what says nothing: up to its end -/
def sideT (s : ByteArray) (k k1 : Nat) (en : ByteArray) (two : Bool) (bad : Int) : P3 :=
  if farS s k1 en < 0 then wrong ⟨k1, 0, bad⟩ 3 k
  else if 0 ≤ text (s.extract k1 (k1 + (farS s k1 en).toNat)) 0 then wrong ⟨k1 + (farS s k1 en).toNat + en.size, 0, bad⟩ 3 k
  else if (two && Lib.contains (s.extract k1 (k1 + (farS s k1 en).toNat) ++ dash).data.toList dashes.data.toList) = true then wrong ⟨k1 + (farS s k1 en).toNat + en.size, 0, bad⟩ 3 k
  else ⟨k1 + (farS s k1 en).toNat + en.size, 0, bad⟩
def asideB (s : ByteArray) (k : Nat) : Bool := hasAt s k comS || hasAt s k insS
def asideT (s : ByteArray) (k : Nat) (bad : Int) : P3 :=
  if hasAt s k comS = true then sideT s k (k + 4) comE true bad else if hasAt s k insS = true then sideT s k (k + 2) insE false bad else ⟨k, 0, bad⟩
end Xm
theorem contains_any (s x : ByteArray) (w : World) (hs : s.size < 4294967281) (hm : Xm.Max w) : Calls Tryz.prog 83 #[.string s, .string x] w fun e w' => e = .returned (.bool (Lib.contains s.data.toList x.data.toList)) ∧ w = w' := by
  obtain ⟨m, hm⟩ := hm.2
  exact (Tryz.strings_Contains s x m w hs hm).mono fun _ _ ⟨h1, h2⟩ => ⟨h1, h2.symm⟩

set_option maxRecDepth 100000 in
set_option maxHeartbeats 2000000 in
theorem aside_no (b : Nat) (s : ByteArray) (k : Nat) (bad : Int) (w : World) (h : Xm.Sc w b s k 0 bad) (hk : k ≤ s.size) (hs : s.size ≤ 900000000) (hm : Xm.Max w) (_hb1 : 1 < b) (hc : Xm.hasAt s k Xm.comS = false) (hi : Xm.hasAt s k Xm.insS = false) :
    Calls Tryz.prog 65 #[.pointer (some ⟨b, 0, none⟩)] w fun r w' => r = .returned (.bool (Xm.asideB s k)) ∧ Xm.Scs w' b s (Xm.asideT s k bad) ∧ Xm.Mv w b w' := by
  have HS := Lib.hid h
  have HMx := Lib.hid hm
  have c1 := h.c.2.1
  have f1 := h.c.2.2.2.2.1
  clear h hm
  have HE : Hid (Xm.asideB s k = false ∧ Xm.asideT s k bad = ⟨k, 0, bad⟩) := Lib.hid ⟨by simp [Xm.asideB, hc, hi], by simp [Xm.asideT, hc, hi]⟩
  have HC : Hid (Xm.hasAt s k ⟨#[60, 33, 45, 45]⟩ = false) := Lib.hid hc
  have HI : Hid (Xm.hasAt s k ⟨#[60, 63]⟩ = false) := Lib.hid hi
  clear hc hi
  go_enter Tryz.func65, Tryz.ntmps65
  go_upto_region 7 with (go_at_call 66; refine (has_any _ _ _ _ _ _ _ HS.out hk (by omega)).mono ?_; rintro e w1 ⟨rfl, n, rfl⟩; rw [HC.out])
  have HS1 := Lib.hid (Xm.Sc.grow HS.out (Flow.grow_drewN w n))
  go_wp2_with (go_at_call 66; refine (has_any _ _ _ _ _ _ _ HS1.out hk (by omega)).mono ?_; rintro e w2 ⟨rfl, n2, rfl⟩; rw [HI.out])
  go_ret
  exact ⟨ret_bool HE.out.1.symm, by rw [HE.out.2]; exact Xm.Sc.grow HS.out (Flow.grow_drewN _ _), Xm.Mv.drew⟩

set_option maxRecDepth 100000 in
set_option maxHeartbeats 2000000 in
theorem aside_c1 (b : Nat) (s : ByteArray) (k : Nat) (bad : Int) (w : World) (h : Xm.Sc w b s k 0 bad) (hk : k ≤ s.size) (hs : s.size ≤ 900000000) (hm : Xm.Max w) (hb1 : 1 < b) (hc : Xm.hasAt s k Xm.comS = true) (hf : Xm.farS s (k + 4) Xm.comE < 0) :
    Calls Tryz.prog 65 #[.pointer (some ⟨b, 0, none⟩)] w fun r w' => r = .returned (.bool (Xm.asideB s k)) ∧ Xm.Scs w' b s (Xm.asideT s k bad) ∧ Xm.Mv w b w' := by
  have HS := Lib.hid h
  have HMx := Lib.hid hm
  have c1 := h.c.2.1
  have f1 := h.c.2.2.2.2.1
  clear h hm
  have HF := Lib.hid hf
  have HE : Hid (Xm.sideT s k (k + 4) Xm.comE true bad = Xm.wrong ⟨k + 4, 0, bad⟩ 3 k) := Lib.hid (by rw [Xm.sideT, if_pos hf])
  clear hf
  have hkd := Xm.hasAt_bd hk hc
  have hkd : k + 4 ≤ s.size := hkd
  have HB : Hid (Xm.asideB s k = true ∧ Xm.asideT s k bad = Xm.sideT s k (k + 4) Xm.comE true bad) := Lib.hid ⟨by simp [Xm.asideB, hc], by simp [Xm.asideT, hc]⟩
  have HC : Hid (Xm.hasAt s k ⟨#[60, 33, 45, 45]⟩ = true) := Lib.hid hc
  clear hc
  go_enter Tryz.func65, Tryz.ntmps65
  go_upto_region 10 with (go_at_call 66; refine (has_any _ _ _ _ _ _ _ HS.out hk (by omega)).mono ?_; rintro e w1 ⟨rfl, n, rfl⟩; rw [HC.out])
  have hm1 : Xm.Mv w b ((w.drewN n).setCell ⟨b, 1, none⟩ (.int .i64 ((k : Int) + 4))) := Xm.Mv.drew.trans Xm.Mv.set
  have hs1 : Xm.Sc ((w.drewN n).setCell ⟨b, 1, none⟩ (.int .i64 ((k : Int) + 4))) b s ((k + 4 : Nat) : Int) 0 bad := Xm.Sc.at' (Xm.Sc.grow HS.out (Flow.grow_drewN w n)) _
  clear c1 f1
  generalize (w.drewN n).setCell ⟨b, 1, none⟩ (.int .i64 ((k : Int) + 4)) = w1 at *
  have HS1 := Lib.hid hs1
  have HM1 := Lib.hid hm1
  have HX1 := Lib.hid (HMx.out.mv hm1 hb1)
  have c2 := hs1.c.2.2.1
  clear hs1 hm1
  go_wp2_with (first | (go_at_call 67; refine (until_any b s Xm.comE (k + 4) 0 bad w1 HS1.out (by omega) (by omega) (by decide) HX1.out).mono ?_; rintro e w5 ⟨hyes, -⟩; obtain ⟨rfl, hs5, hm5⟩ := hyes HF.out; clear hyes) | (go_at_call 31; refine (wrong_any _ _ _ _ _ 3 _ _ hs5 (by decide)).mono ?_; rintro e w6 ⟨rfl, hs6, hm6⟩))
  go_ret
  exact ⟨ret_bool HB.out.1.symm, by rw [HB.out.2, HE.out]; exact hs6, (HM1.out.trans hm5).trans hm6⟩

set_option maxRecDepth 100000 in
set_option maxHeartbeats 2000000 in
theorem aside_c2 (b : Nat) (s : ByteArray) (k : Nat) (bad : Int) (w : World) (h : Xm.Sc w b s k 0 bad) (hk : k ≤ s.size) (hs : s.size ≤ 900000000) (hm : Xm.Max w) (hb1 : 1 < b) (hc : Xm.hasAt s k Xm.comS = true) (hf : 0 ≤ Xm.farS s (k + 4) Xm.comE) (ht : 0 ≤ Xm.text (s.extract (k + 4) (k + 4 + (Xm.farS s (k + 4) Xm.comE).toNat)) 0) :
    Calls Tryz.prog 65 #[.pointer (some ⟨b, 0, none⟩)] w fun r w' => r = .returned (.bool (Xm.asideB s k)) ∧ Xm.Scs w' b s (Xm.asideT s k bad) ∧ Xm.Mv w b w' := by
  have HS := Lib.hid h
  have HMx := Lib.hid hm
  have c1 := h.c.2.1
  have f1 := h.c.2.2.2.2.1
  clear h hm
  have HF := Lib.hid hf
  obtain ⟨f, hfe⟩ : ∃ f : Nat, (f : Int) = Xm.farS s (k + 4) Xm.comE := ⟨(Xm.farS s (k + 4) Xm.comE).toNat, by omega⟩
  have Hft : Hid ((Xm.farS s (k + 4) Xm.comE).toNat = f) := Lib.hid (by omega)
  have Hfb : k + 4 + f + 3 ≤ s.size := by
    have h1 := Xm.hasAt_bd hk hc
    have h1 : k + 4 ≤ s.size := h1
    have := (Xm.farS_bd (s := s) (k := k + 4) h1 Xm.comE).2 hf
    rw [Hft.out] at this
    exact this
  rw [Hft.out] at ht
  obtain ⟨v, hv⟩ : ∃ v, v = s.extract (k + 4) (k + 4 + f) := ⟨_, rfl⟩
  rw [← hv] at ht
  have Hv := Lib.hid hv
  have hvs : v.size ≤ 900000000 := by rw [hv]; simp; omega
  have hvm : v.size ≤ 9223372036854775807 := by omega
  have Hvm := Lib.hid hvm
  have hvp : ¬ 9223372036854775807 < v.size + 1 := by omega
  have hvd : (v ++ Xm.dash).size < 4294967281 := by have h1 : Xm.dash.size = 1 := rfl; rw [ByteArray.size_append]; omega
  have Hvd := Lib.hid hvd
  obtain ⟨z, hz⟩ : ∃ z, z = Xm.text v 0 := ⟨_, rfl⟩
  rw [← hz] at ht
  have HZ := Lib.hid hz
  have HE : Hid (Xm.sideT s k (k + 4) Xm.comE true bad = Xm.wrong ⟨k + 4 + f + Xm.comE.size, 0, bad⟩ 3 k) := Lib.hid (by rw [Xm.sideT, if_neg (by omega), if_pos (by rw [Hft.out, ← hv, ← hz]; exact ht), Hft.out])
  clear hv hz hvs hvm hvd hf hfe
  have hkd := Xm.hasAt_bd hk hc
  have hkd : k + 4 ≤ s.size := hkd
  have HB : Hid (Xm.asideB s k = true ∧ Xm.asideT s k bad = Xm.sideT s k (k + 4) Xm.comE true bad) := Lib.hid ⟨by simp [Xm.asideB, hc], by simp [Xm.asideT, hc]⟩
  have HC : Hid (Xm.hasAt s k ⟨#[60, 33, 45, 45]⟩ = true) := Lib.hid hc
  clear hc
  go_enter Tryz.func65, Tryz.ntmps65
  go_upto_region 10 with (go_at_call 66; refine (has_any _ _ _ _ _ _ _ HS.out hk (by omega)).mono ?_; rintro e w1 ⟨rfl, n, rfl⟩; rw [HC.out])
  have hm1 : Xm.Mv w b ((w.drewN n).setCell ⟨b, 1, none⟩ (.int .i64 ((k : Int) + 4))) := Xm.Mv.drew.trans Xm.Mv.set
  have hs1 : Xm.Sc ((w.drewN n).setCell ⟨b, 1, none⟩ (.int .i64 ((k : Int) + 4))) b s ((k + 4 : Nat) : Int) 0 bad := Xm.Sc.at' (Xm.Sc.grow HS.out (Flow.grow_drewN w n)) _
  clear c1 f1
  generalize (w.drewN n).setCell ⟨b, 1, none⟩ (.int .i64 ((k : Int) + 4)) = w1 at *
  have HS1 := Lib.hid hs1
  have HM1 := Lib.hid hm1
  have HX1 := Lib.hid (HMx.out.mv hm1 hb1)
  have c2 := hs1.c.2.2.1
  clear hs1 hm1
  go_wp2_with (first | (go_at_call 67; refine (until_any b s Xm.comE (k + 4) 0 bad w1 HS1.out (by omega) (by omega) (by decide) HX1.out).mono ?_; rintro e w5 ⟨-, hyes⟩; obtain ⟨rfl, hs5, hm5⟩ := hyes HF.out; rw [Hft.out, ← Hv.out]; rw [Hft.out] at hs5; clear hyes) | (go_at_call 54; refine (ctext_any _ _ Hvm.out).mono ?_; rintro e w' ⟨rfl, rfl⟩; rw [← HZ.out]) | (go_at_call 31; refine (wrong_any _ _ _ _ _ 3 _ _ hs5 (by decide)).mono ?_; rintro e w6 ⟨rfl, hs6, hm6⟩))
  go_ret
  exact ⟨ret_bool HB.out.1.symm, by rw [HB.out.2, HE.out]; exact hs6, (HM1.out.trans hm5).trans hm6⟩

set_option maxRecDepth 100000 in
set_option maxHeartbeats 2000000 in
theorem aside_c3 (b : Nat) (s : ByteArray) (k : Nat) (bad : Int) (w : World) (h : Xm.Sc w b s k 0 bad) (hk : k ≤ s.size) (hs : s.size ≤ 900000000) (hm : Xm.Max w) (hb1 : 1 < b) (hc : Xm.hasAt s k Xm.comS = true) (hf : 0 ≤ Xm.farS s (k + 4) Xm.comE) (ht : Xm.text (s.extract (k + 4) (k + 4 + (Xm.farS s (k + 4) Xm.comE).toNat)) 0 < 0) (hct : Lib.contains ((s.extract (k + 4) (k + 4 + (Xm.farS s (k + 4) Xm.comE).toNat)) ++ Xm.dash).data.toList Xm.dashes.data.toList = true) :
    Calls Tryz.prog 65 #[.pointer (some ⟨b, 0, none⟩)] w fun r w' => r = .returned (.bool (Xm.asideB s k)) ∧ Xm.Scs w' b s (Xm.asideT s k bad) ∧ Xm.Mv w b w' := by
  have HS := Lib.hid h
  have HMx := Lib.hid hm
  have c1 := h.c.2.1
  have f1 := h.c.2.2.2.2.1
  clear h hm
  have HF := Lib.hid hf
  obtain ⟨f, hfe⟩ : ∃ f : Nat, (f : Int) = Xm.farS s (k + 4) Xm.comE := ⟨(Xm.farS s (k + 4) Xm.comE).toNat, by omega⟩
  have Hft : Hid ((Xm.farS s (k + 4) Xm.comE).toNat = f) := Lib.hid (by omega)
  have Hfb : k + 4 + f + 3 ≤ s.size := by
    have h1 := Xm.hasAt_bd hk hc
    have h1 : k + 4 ≤ s.size := h1
    have := (Xm.farS_bd (s := s) (k := k + 4) h1 Xm.comE).2 hf
    rw [Hft.out] at this
    exact this
  rw [Hft.out] at ht hct
  obtain ⟨v, hv⟩ : ∃ v, v = s.extract (k + 4) (k + 4 + f) := ⟨_, rfl⟩
  rw [← hv] at ht hct
  have Hv := Lib.hid hv
  have hvs : v.size ≤ 900000000 := by rw [hv]; simp; omega
  have hvm : v.size ≤ 9223372036854775807 := by omega
  have Hvm := Lib.hid hvm
  have hvp : ¬ 9223372036854775807 < v.size + 1 := by omega
  have hvd : (v ++ Xm.dash).size < 4294967281 := by have h1 : Xm.dash.size = 1 := rfl; rw [ByteArray.size_append]; omega
  have Hvd := Lib.hid hvd
  obtain ⟨z, hz⟩ : ∃ z, z = Xm.text v 0 := ⟨_, rfl⟩
  rw [← hz] at ht
  have HZ := Lib.hid hz
  have hd : decide (0 ≤ z) = false := by simp; omega
  have HE : Hid (Xm.sideT s k (k + 4) Xm.comE true bad = Xm.wrong ⟨k + 4 + f + Xm.comE.size, 0, bad⟩ 3 k) := Lib.hid (by rw [Xm.sideT, if_neg (by omega), if_neg (by rw [Hft.out, ← hv, ← hz]; omega), if_pos (by rw [Hft.out, ← hv, hct]; rfl), Hft.out])
  have HCT : Hid (Lib.contains (v ++ Xm.dash).data.toList Xm.dashes.data.toList = true) := Lib.hid hct
  clear hv hz hvs hvm hvd hf hfe hct
  have hkd := Xm.hasAt_bd hk hc
  have hkd : k + 4 ≤ s.size := hkd
  have HB : Hid (Xm.asideB s k = true ∧ Xm.asideT s k bad = Xm.sideT s k (k + 4) Xm.comE true bad) := Lib.hid ⟨by simp [Xm.asideB, hc], by simp [Xm.asideT, hc]⟩
  have HC : Hid (Xm.hasAt s k ⟨#[60, 33, 45, 45]⟩ = true) := Lib.hid hc
  clear hc
  go_enter Tryz.func65, Tryz.ntmps65
  go_upto_region 10 with (go_at_call 66; refine (has_any _ _ _ _ _ _ _ HS.out hk (by omega)).mono ?_; rintro e w1 ⟨rfl, n, rfl⟩; rw [HC.out])
  have hm1 : Xm.Mv w b ((w.drewN n).setCell ⟨b, 1, none⟩ (.int .i64 ((k : Int) + 4))) := Xm.Mv.drew.trans Xm.Mv.set
  have hs1 : Xm.Sc ((w.drewN n).setCell ⟨b, 1, none⟩ (.int .i64 ((k : Int) + 4))) b s ((k + 4 : Nat) : Int) 0 bad := Xm.Sc.at' (Xm.Sc.grow HS.out (Flow.grow_drewN w n)) _
  clear c1 f1
  generalize (w.drewN n).setCell ⟨b, 1, none⟩ (.int .i64 ((k : Int) + 4)) = w1 at *
  have HS1 := Lib.hid hs1
  have HM1 := Lib.hid hm1
  have HX1 := Lib.hid (HMx.out.mv hm1 hb1)
  have c2 := hs1.c.2.2.1
  clear hs1 hm1
  go_wp2_with (first | (go_at_call 67; refine (until_any b s Xm.comE (k + 4) 0 bad w1 HS1.out (by omega) (by omega) (by decide) HX1.out).mono ?_; rintro e w5 ⟨-, hyes⟩; obtain ⟨rfl, hs5, hm5⟩ := hyes HF.out; rw [Hft.out, ← Hv.out]; rw [Hft.out] at hs5; clear hyes) | (go_at_call 54; refine (ctext_any _ _ Hvm.out).mono ?_; rintro e w' ⟨rfl, rfl⟩; rw [← HZ.out]) | (go_at_call 83; refine (contains_any _ _ _ Hvd.out (HX1.out.mv hm5 hb1)).mono ?_; rintro e w' ⟨rfl, rfl⟩; rw [show Lib.contains (v ++ Xm.dash).data.toList (⟨#[45, 45]⟩ : ByteArray).data.toList = true from HCT.out]) | (go_at_call 31; refine (wrong_any _ _ _ _ _ 3 _ _ hs5 (by decide)).mono ?_; rintro e w6 ⟨rfl, hs6, hm6⟩))
  go_ret
  exact ⟨ret_bool HB.out.1.symm, by rw [HB.out.2, HE.out]; exact hs6, (HM1.out.trans hm5).trans hm6⟩

set_option maxRecDepth 100000 in
set_option maxHeartbeats 2000000 in
theorem aside_c4 (b : Nat) (s : ByteArray) (k : Nat) (bad : Int) (w : World) (h : Xm.Sc w b s k 0 bad) (hk : k ≤ s.size) (hs : s.size ≤ 900000000) (hm : Xm.Max w) (hb1 : 1 < b) (hc : Xm.hasAt s k Xm.comS = true) (hf : 0 ≤ Xm.farS s (k + 4) Xm.comE) (ht : Xm.text (s.extract (k + 4) (k + 4 + (Xm.farS s (k + 4) Xm.comE).toNat)) 0 < 0) (hct : Lib.contains ((s.extract (k + 4) (k + 4 + (Xm.farS s (k + 4) Xm.comE).toNat)) ++ Xm.dash).data.toList Xm.dashes.data.toList = false) :
    Calls Tryz.prog 65 #[.pointer (some ⟨b, 0, none⟩)] w fun r w' => r = .returned (.bool (Xm.asideB s k)) ∧ Xm.Scs w' b s (Xm.asideT s k bad) ∧ Xm.Mv w b w' := by
  have HS := Lib.hid h
  have HMx := Lib.hid hm
  have c1 := h.c.2.1
  have f1 := h.c.2.2.2.2.1
  clear h hm
  have HF := Lib.hid hf
  obtain ⟨f, hfe⟩ : ∃ f : Nat, (f : Int) = Xm.farS s (k + 4) Xm.comE := ⟨(Xm.farS s (k + 4) Xm.comE).toNat, by omega⟩
  have Hft : Hid ((Xm.farS s (k + 4) Xm.comE).toNat = f) := Lib.hid (by omega)
  have Hfb : k + 4 + f + 3 ≤ s.size := by
    have h1 := Xm.hasAt_bd hk hc
    have h1 : k + 4 ≤ s.size := h1
    have := (Xm.farS_bd (s := s) (k := k + 4) h1 Xm.comE).2 hf
    rw [Hft.out] at this
    exact this
  rw [Hft.out] at ht hct
  obtain ⟨v, hv⟩ : ∃ v, v = s.extract (k + 4) (k + 4 + f) := ⟨_, rfl⟩
  rw [← hv] at ht hct
  have Hv := Lib.hid hv
  have hvs : v.size ≤ 900000000 := by rw [hv]; simp; omega
  have hvm : v.size ≤ 9223372036854775807 := by omega
  have Hvm := Lib.hid hvm
  have hvp : ¬ 9223372036854775807 < v.size + 1 := by omega
  have hvd : (v ++ Xm.dash).size < 4294967281 := by have h1 : Xm.dash.size = 1 := rfl; rw [ByteArray.size_append]; omega
  have Hvd := Lib.hid hvd
  obtain ⟨z, hz⟩ : ∃ z, z = Xm.text v 0 := ⟨_, rfl⟩
  rw [← hz] at ht
  have HZ := Lib.hid hz
  have hd : decide (0 ≤ z) = false := by simp; omega
  have HE : Hid (Xm.sideT s k (k + 4) Xm.comE true bad = ⟨k + 4 + f + Xm.comE.size, 0, bad⟩) := Lib.hid (by rw [Xm.sideT, if_neg (by omega), if_neg (by rw [Hft.out, ← hv, ← hz]; omega), if_neg (by rw [Hft.out, ← hv, hct]; simp), Hft.out])
  have HCT : Hid (Lib.contains (v ++ Xm.dash).data.toList Xm.dashes.data.toList = false) := Lib.hid hct
  clear hv hz hvs hvm hvd hf hfe hct
  have hkd := Xm.hasAt_bd hk hc
  have hkd : k + 4 ≤ s.size := hkd
  have HB : Hid (Xm.asideB s k = true ∧ Xm.asideT s k bad = Xm.sideT s k (k + 4) Xm.comE true bad) := Lib.hid ⟨by simp [Xm.asideB, hc], by simp [Xm.asideT, hc]⟩
  have HC : Hid (Xm.hasAt s k ⟨#[60, 33, 45, 45]⟩ = true) := Lib.hid hc
  clear hc
  go_enter Tryz.func65, Tryz.ntmps65
  go_upto_region 10 with (go_at_call 66; refine (has_any _ _ _ _ _ _ _ HS.out hk (by omega)).mono ?_; rintro e w1 ⟨rfl, n, rfl⟩; rw [HC.out])
  have hm1 : Xm.Mv w b ((w.drewN n).setCell ⟨b, 1, none⟩ (.int .i64 ((k : Int) + 4))) := Xm.Mv.drew.trans Xm.Mv.set
  have hs1 : Xm.Sc ((w.drewN n).setCell ⟨b, 1, none⟩ (.int .i64 ((k : Int) + 4))) b s ((k + 4 : Nat) : Int) 0 bad := Xm.Sc.at' (Xm.Sc.grow HS.out (Flow.grow_drewN w n)) _
  clear c1 f1
  generalize (w.drewN n).setCell ⟨b, 1, none⟩ (.int .i64 ((k : Int) + 4)) = w1 at *
  have HS1 := Lib.hid hs1
  have HM1 := Lib.hid hm1
  have HX1 := Lib.hid (HMx.out.mv hm1 hb1)
  have c2 := hs1.c.2.2.1
  clear hs1 hm1
  go_wp2_with (first | (go_at_call 67; refine (until_any b s Xm.comE (k + 4) 0 bad w1 HS1.out (by omega) (by omega) (by decide) HX1.out).mono ?_; rintro e w5 ⟨-, hyes⟩; obtain ⟨rfl, hs5, hm5⟩ := hyes HF.out; rw [Hft.out, ← Hv.out]; rw [Hft.out] at hs5; clear hyes) | (go_at_call 54; refine (ctext_any _ _ Hvm.out).mono ?_; rintro e w' ⟨rfl, rfl⟩; rw [← HZ.out]) | (go_at_call 83; refine (contains_any _ _ _ Hvd.out (HX1.out.mv hm5 hb1)).mono ?_; rintro e w' ⟨rfl, rfl⟩; rw [show Lib.contains (v ++ Xm.dash).data.toList (⟨#[45, 45]⟩ : ByteArray).data.toList = false from HCT.out]))
  go_ret
  exact ⟨ret_bool HB.out.1.symm, by rw [HB.out.2, HE.out]; exact hs5, HM1.out.trans hm5⟩

set_option maxRecDepth 100000 in
set_option maxHeartbeats 2000000 in
theorem aside_q1 (b : Nat) (s : ByteArray) (k : Nat) (bad : Int) (w : World) (h : Xm.Sc w b s k 0 bad) (hk : k ≤ s.size) (hs : s.size ≤ 900000000) (hm : Xm.Max w) (hb1 : 1 < b) (hc : Xm.hasAt s k Xm.comS = false) (hi : Xm.hasAt s k Xm.insS = true) (hf : Xm.farS s (k + 2) Xm.insE < 0) :
    Calls Tryz.prog 65 #[.pointer (some ⟨b, 0, none⟩)] w fun r w' => r = .returned (.bool (Xm.asideB s k)) ∧ Xm.Scs w' b s (Xm.asideT s k bad) ∧ Xm.Mv w b w' := by
  have HS := Lib.hid h
  have HMx := Lib.hid hm
  have c1 := h.c.2.1
  have f1 := h.c.2.2.2.2.1
  clear h hm
  have HF := Lib.hid hf
  have HE : Hid (Xm.sideT s k (k + 2) Xm.insE false bad = Xm.wrong ⟨k + 2, 0, bad⟩ 3 k) := Lib.hid (by rw [Xm.sideT, if_pos hf])
  clear hf
  have hkd := Xm.hasAt_bd hk hi
  have hkd : k + 2 ≤ s.size := hkd
  have HB : Hid (Xm.asideB s k = true ∧ Xm.asideT s k bad = Xm.sideT s k (k + 2) Xm.insE false bad) := Lib.hid ⟨by simp [Xm.asideB, hc, hi], by simp [Xm.asideT, hc, hi]⟩
  have HC : Hid (Xm.hasAt s k ⟨#[60, 33, 45, 45]⟩ = false) := Lib.hid hc
  have HI : Hid (Xm.hasAt s k ⟨#[60, 63]⟩ = true) := Lib.hid hi
  clear hc hi
  go_enter Tryz.func65, Tryz.ntmps65
  go_upto_region 7 with (go_at_call 66; refine (has_any _ _ _ _ _ _ _ HS.out hk (by omega)).mono ?_; rintro e w1 ⟨rfl, n, rfl⟩; rw [HC.out])
  have HS0 := Lib.hid (Xm.Sc.grow HS.out (Flow.grow_drewN w n))
  go_upto_region 10 with (go_at_call 66; refine (has_any _ _ _ _ _ _ _ HS0.out hk (by omega)).mono ?_; rintro e w2 ⟨rfl, n2, rfl⟩; rw [HI.out])
  have hm1 : Xm.Mv w b ((w.drewN (n + n2)).setCell ⟨b, 1, none⟩ (.int .i64 ((k : Int) + 2))) := Xm.Mv.drew.trans Xm.Mv.set
  have hs1 : Xm.Sc ((w.drewN (n + n2)).setCell ⟨b, 1, none⟩ (.int .i64 ((k : Int) + 2))) b s ((k + 2 : Nat) : Int) 0 bad := Xm.Sc.at' (Xm.Sc.grow HS.out (Flow.grow_drewN w _)) _
  clear c1 f1
  generalize (w.drewN (n + n2)).setCell ⟨b, 1, none⟩ (.int .i64 ((k : Int) + 2)) = w1 at *
  have HS1 := Lib.hid hs1
  have HM1 := Lib.hid hm1
  have HX1 := Lib.hid (HMx.out.mv hm1 hb1)
  have c2 := hs1.c.2.2.1
  clear hs1 hm1
  go_wp2_with (first | (go_at_call 67; refine (until_any b s Xm.insE (k + 2) 0 bad w1 HS1.out (by omega) (by omega) (by decide) HX1.out).mono ?_; rintro e w5 ⟨hyes, -⟩; obtain ⟨rfl, hs5, hm5⟩ := hyes HF.out; clear hyes) | (go_at_call 31; refine (wrong_any _ _ _ _ _ 3 _ _ hs5 (by decide)).mono ?_; rintro e w6 ⟨rfl, hs6, hm6⟩))
  go_ret
  exact ⟨ret_bool HB.out.1.symm, by rw [HB.out.2, HE.out]; exact hs6, (HM1.out.trans hm5).trans hm6⟩

set_option maxRecDepth 100000 in
set_option maxHeartbeats 2000000 in
theorem aside_q2 (b : Nat) (s : ByteArray) (k : Nat) (bad : Int) (w : World) (h : Xm.Sc w b s k 0 bad) (hk : k ≤ s.size) (hs : s.size ≤ 900000000) (hm : Xm.Max w) (hb1 : 1 < b) (hc : Xm.hasAt s k Xm.comS = false) (hi : Xm.hasAt s k Xm.insS = true) (hf : 0 ≤ Xm.farS s (k + 2) Xm.insE) (ht : 0 ≤ Xm.text (s.extract (k + 2) (k + 2 + (Xm.farS s (k + 2) Xm.insE).toNat)) 0) :
    Calls Tryz.prog 65 #[.pointer (some ⟨b, 0, none⟩)] w fun r w' => r = .returned (.bool (Xm.asideB s k)) ∧ Xm.Scs w' b s (Xm.asideT s k bad) ∧ Xm.Mv w b w' := by
  have HS := Lib.hid h
  have HMx := Lib.hid hm
  have c1 := h.c.2.1
  have f1 := h.c.2.2.2.2.1
  clear h hm
  have HF := Lib.hid hf
  obtain ⟨f, hfe⟩ : ∃ f : Nat, (f : Int) = Xm.farS s (k + 2) Xm.insE := ⟨(Xm.farS s (k + 2) Xm.insE).toNat, by omega⟩
  have Hft : Hid ((Xm.farS s (k + 2) Xm.insE).toNat = f) := Lib.hid (by omega)
  have Hfb : k + 2 + f + 2 ≤ s.size := by
    have h1 := Xm.hasAt_bd hk hi
    have h1 : k + 2 ≤ s.size := h1
    have := (Xm.farS_bd (s := s) (k := k + 2) h1 Xm.insE).2 hf
    rw [Hft.out] at this
    exact this
  rw [Hft.out] at ht
  obtain ⟨v, hv⟩ : ∃ v, v = s.extract (k + 2) (k + 2 + f) := ⟨_, rfl⟩
  rw [← hv] at ht
  have Hv := Lib.hid hv
  have hvs : v.size ≤ 900000000 := by rw [hv]; simp; omega
  have hvm : v.size ≤ 9223372036854775807 := by omega
  have Hvm := Lib.hid hvm
  have hvp : ¬ 9223372036854775807 < v.size + 1 := by omega
  have hvd : (v ++ Xm.dash).size < 4294967281 := by have h1 : Xm.dash.size = 1 := rfl; rw [ByteArray.size_append]; omega
  have Hvd := Lib.hid hvd
  obtain ⟨z, hz⟩ : ∃ z, z = Xm.text v 0 := ⟨_, rfl⟩
  rw [← hz] at ht
  have HZ := Lib.hid hz
  have HE : Hid (Xm.sideT s k (k + 2) Xm.insE false bad = Xm.wrong ⟨k + 2 + f + Xm.insE.size, 0, bad⟩ 3 k) := Lib.hid (by rw [Xm.sideT, if_neg (by omega), if_pos (by rw [Hft.out, ← hv, ← hz]; exact ht), Hft.out])
  clear hv hz hvs hvm hvd hf hfe
  have hkd := Xm.hasAt_bd hk hi
  have hkd : k + 2 ≤ s.size := hkd
  have HB : Hid (Xm.asideB s k = true ∧ Xm.asideT s k bad = Xm.sideT s k (k + 2) Xm.insE false bad) := Lib.hid ⟨by simp [Xm.asideB, hc, hi], by simp [Xm.asideT, hc, hi]⟩
  have HC : Hid (Xm.hasAt s k ⟨#[60, 33, 45, 45]⟩ = false) := Lib.hid hc
  have HI : Hid (Xm.hasAt s k ⟨#[60, 63]⟩ = true) := Lib.hid hi
  clear hc hi
  go_enter Tryz.func65, Tryz.ntmps65
  go_upto_region 7 with (go_at_call 66; refine (has_any _ _ _ _ _ _ _ HS.out hk (by omega)).mono ?_; rintro e w1 ⟨rfl, n, rfl⟩; rw [HC.out])
  have HS0 := Lib.hid (Xm.Sc.grow HS.out (Flow.grow_drewN w n))
  go_upto_region 10 with (go_at_call 66; refine (has_any _ _ _ _ _ _ _ HS0.out hk (by omega)).mono ?_; rintro e w2 ⟨rfl, n2, rfl⟩; rw [HI.out])
  have hm1 : Xm.Mv w b ((w.drewN (n + n2)).setCell ⟨b, 1, none⟩ (.int .i64 ((k : Int) + 2))) := Xm.Mv.drew.trans Xm.Mv.set
  have hs1 : Xm.Sc ((w.drewN (n + n2)).setCell ⟨b, 1, none⟩ (.int .i64 ((k : Int) + 2))) b s ((k + 2 : Nat) : Int) 0 bad := Xm.Sc.at' (Xm.Sc.grow HS.out (Flow.grow_drewN w _)) _
  clear c1 f1
  generalize (w.drewN (n + n2)).setCell ⟨b, 1, none⟩ (.int .i64 ((k : Int) + 2)) = w1 at *
  have HS1 := Lib.hid hs1
  have HM1 := Lib.hid hm1
  have HX1 := Lib.hid (HMx.out.mv hm1 hb1)
  have c2 := hs1.c.2.2.1
  clear hs1 hm1
  go_wp2_with (first | (go_at_call 67; refine (until_any b s Xm.insE (k + 2) 0 bad w1 HS1.out (by omega) (by omega) (by decide) HX1.out).mono ?_; rintro e w5 ⟨-, hyes⟩; obtain ⟨rfl, hs5, hm5⟩ := hyes HF.out; rw [Hft.out, ← Hv.out]; rw [Hft.out] at hs5; clear hyes) | (go_at_call 54; refine (ctext_any _ _ Hvm.out).mono ?_; rintro e w' ⟨rfl, rfl⟩; rw [← HZ.out]) | (go_at_call 31; refine (wrong_any _ _ _ _ _ 3 _ _ hs5 (by decide)).mono ?_; rintro e w6 ⟨rfl, hs6, hm6⟩))
  go_ret
  exact ⟨ret_bool HB.out.1.symm, by rw [HB.out.2, HE.out]; exact hs6, (HM1.out.trans hm5).trans hm6⟩

set_option maxRecDepth 100000 in
set_option maxHeartbeats 2000000 in
theorem aside_q4 (b : Nat) (s : ByteArray) (k : Nat) (bad : Int) (w : World) (h : Xm.Sc w b s k 0 bad) (hk : k ≤ s.size) (hs : s.size ≤ 900000000) (hm : Xm.Max w) (hb1 : 1 < b) (hc : Xm.hasAt s k Xm.comS = false) (hi : Xm.hasAt s k Xm.insS = true) (hf : 0 ≤ Xm.farS s (k + 2) Xm.insE) (ht : Xm.text (s.extract (k + 2) (k + 2 + (Xm.farS s (k + 2) Xm.insE).toNat)) 0 < 0) :
    Calls Tryz.prog 65 #[.pointer (some ⟨b, 0, none⟩)] w fun r w' => r = .returned (.bool (Xm.asideB s k)) ∧ Xm.Scs w' b s (Xm.asideT s k bad) ∧ Xm.Mv w b w' := by
  have HS := Lib.hid h
  have HMx := Lib.hid hm
  have c1 := h.c.2.1
  have f1 := h.c.2.2.2.2.1
  clear h hm
  have HF := Lib.hid hf
  obtain ⟨f, hfe⟩ : ∃ f : Nat, (f : Int) = Xm.farS s (k + 2) Xm.insE := ⟨(Xm.farS s (k + 2) Xm.insE).toNat, by omega⟩
  have Hft : Hid ((Xm.farS s (k + 2) Xm.insE).toNat = f) := Lib.hid (by omega)
  have Hfb : k + 2 + f + 2 ≤ s.size := by
    have h1 := Xm.hasAt_bd hk hi
    have h1 : k + 2 ≤ s.size := h1
    have := (Xm.farS_bd (s := s) (k := k + 2) h1 Xm.insE).2 hf
    rw [Hft.out] at this
    exact this
  rw [Hft.out] at ht
  obtain ⟨v, hv⟩ : ∃ v, v = s.extract (k + 2) (k + 2 + f) := ⟨_, rfl⟩
  rw [← hv] at ht
  have Hv := Lib.hid hv
  have hvs : v.size ≤ 900000000 := by rw [hv]; simp; omega
  have hvm : v.size ≤ 9223372036854775807 := by omega
  have Hvm := Lib.hid hvm
  have hvp : ¬ 9223372036854775807 < v.size + 1 := by omega
  have hvd : (v ++ Xm.dash).size < 4294967281 := by have h1 : Xm.dash.size = 1 := rfl; rw [ByteArray.size_append]; omega
  have Hvd := Lib.hid hvd
  obtain ⟨z, hz⟩ : ∃ z, z = Xm.text v 0 := ⟨_, rfl⟩
  rw [← hz] at ht
  have HZ := Lib.hid hz
  have hd : decide (0 ≤ z) = false := by simp; omega
  have HE : Hid (Xm.sideT s k (k + 2) Xm.insE false bad = ⟨k + 2 + f + Xm.insE.size, 0, bad⟩) := Lib.hid (by rw [Xm.sideT, if_neg (by omega), if_neg (by rw [Hft.out, ← hv, ← hz]; omega), if_neg (by simp), Hft.out])
  clear hv hz hvs hvm hvd hf hfe
  have hkd := Xm.hasAt_bd hk hi
  have hkd : k + 2 ≤ s.size := hkd
  have HB : Hid (Xm.asideB s k = true ∧ Xm.asideT s k bad = Xm.sideT s k (k + 2) Xm.insE false bad) := Lib.hid ⟨by simp [Xm.asideB, hc, hi], by simp [Xm.asideT, hc, hi]⟩
  have HC : Hid (Xm.hasAt s k ⟨#[60, 33, 45, 45]⟩ = false) := Lib.hid hc
  have HI : Hid (Xm.hasAt s k ⟨#[60, 63]⟩ = true) := Lib.hid hi
  clear hc hi
  go_enter Tryz.func65, Tryz.ntmps65
  go_upto_region 7 with (go_at_call 66; refine (has_any _ _ _ _ _ _ _ HS.out hk (by omega)).mono ?_; rintro e w1 ⟨rfl, n, rfl⟩; rw [HC.out])
  have HS0 := Lib.hid (Xm.Sc.grow HS.out (Flow.grow_drewN w n))
  go_upto_region 10 with (go_at_call 66; refine (has_any _ _ _ _ _ _ _ HS0.out hk (by omega)).mono ?_; rintro e w2 ⟨rfl, n2, rfl⟩; rw [HI.out])
  have hm1 : Xm.Mv w b ((w.drewN (n + n2)).setCell ⟨b, 1, none⟩ (.int .i64 ((k : Int) + 2))) := Xm.Mv.drew.trans Xm.Mv.set
  have hs1 : Xm.Sc ((w.drewN (n + n2)).setCell ⟨b, 1, none⟩ (.int .i64 ((k : Int) + 2))) b s ((k + 2 : Nat) : Int) 0 bad := Xm.Sc.at' (Xm.Sc.grow HS.out (Flow.grow_drewN w _)) _
  clear c1 f1
  generalize (w.drewN (n + n2)).setCell ⟨b, 1, none⟩ (.int .i64 ((k : Int) + 2)) = w1 at *
  have HS1 := Lib.hid hs1
  have HM1 := Lib.hid hm1
  have HX1 := Lib.hid (HMx.out.mv hm1 hb1)
  have c2 := hs1.c.2.2.1
  clear hs1 hm1
  go_wp2_with (first | (go_at_call 67; refine (until_any b s Xm.insE (k + 2) 0 bad w1 HS1.out (by omega) (by omega) (by decide) HX1.out).mono ?_; rintro e w5 ⟨-, hyes⟩; obtain ⟨rfl, hs5, hm5⟩ := hyes HF.out; rw [Hft.out, ← Hv.out]; rw [Hft.out] at hs5; clear hyes) | (go_at_call 54; refine (ctext_any _ _ Hvm.out).mono ?_; rintro e w' ⟨rfl, rfl⟩; rw [← HZ.out]))
  go_ret
  exact ⟨ret_bool HB.out.1.symm, by rw [HB.out.2, HE.out]; exact hs5, HM1.out.trans hm5⟩

theorem aside_T (b : Nat) (s : ByteArray) (k : Nat) (bad : Int) (w : World) (h : Xm.Sc w b s k 0 bad) (hk : k ≤ s.size) (hs : s.size ≤ 900000000) (hm : Xm.Max w) (hb1 : 1 < b) :
    Calls Tryz.prog 65 #[.pointer (some ⟨b, 0, none⟩)] w fun r w' => r = .returned (.bool (Xm.asideB s k)) ∧ Xm.Scs w' b s (Xm.asideT s k bad) ∧ Xm.Mv w b w' := by
  cases hc : Xm.hasAt s k Xm.comS
  · cases hi : Xm.hasAt s k Xm.insS
    · exact aside_no b s k bad w h hk hs hm hb1 hc hi
    · by_cases hf : Xm.farS s (k + 2) Xm.insE < 0
      · exact aside_q1 b s k bad w h hk hs hm hb1 hc hi hf
      · have hf := Int.not_lt.1 hf
        by_cases ht : Xm.text (s.extract (k + 2) (k + 2 + (Xm.farS s (k + 2) Xm.insE).toNat)) 0 < 0
        · exact aside_q4 b s k bad w h hk hs hm hb1 hc hi hf ht
        · exact aside_q2 b s k bad w h hk hs hm hb1 hc hi hf (Int.not_lt.1 ht)
  · by_cases hf : Xm.farS s (k + 4) Xm.comE < 0
    · exact aside_c1 b s k bad w h hk hs hm hb1 hc hf
    · have hf := Int.not_lt.1 hf
      by_cases ht : Xm.text (s.extract (k + 4) (k + 4 + (Xm.farS s (k + 4) Xm.comE).toNat)) 0 < 0
      · cases hct : Lib.contains (s.extract (k + 4) (k + 4 + (Xm.farS s (k + 4) Xm.comE).toNat) ++ Xm.dash).data.toList Xm.dashes.data.toList
        · exact aside_c4 b s k bad w h hk hs hm hb1 hc hf ht hct
        · exact aside_c3 b s k bad w h hk hs hm hb1 hc hf ht hct
      · exact aside_c2 b s k bad w h hk hs hm hb1 hc hf (Int.not_lt.1 ht)
end Go.Proofs.YtdpkhmfolmcejaaGreatDoor

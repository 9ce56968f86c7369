/- scan.Scanner: aside by its contract. -/
/- scan.Scanner: is a name among attributes. -/
/- scan.Scanner: tag by its contract. -/
import Derived.Test.YtdpkhmfolmcejaaGreatDoorScan5
namespace Go.Proofs.YtdpkhmfolmcejaaGreatDoor
open Go.RowKit
namespace Xm
def comS : ByteArray := ⟨#[60, 33, 45, 45]⟩
def comE : ByteArray := ⟨#[45, 45, 62]⟩
def insS : ByteArray := ⟨#[60, 63]⟩
def insE : ByteArray := ⟨#[63, 62]⟩
def dash : ByteArray := ⟨#[45]⟩
def dashes : ByteArray := ⟨#[45, 45]⟩
/-- behind the beginning of what says nothing: up to its end -/
def sideT (s : ByteArray) (k k1 : Nat) (en : ByteArray) (two : Bool) (bad : Int) : P3 :=
  if farS s k1 en < 0 then wrong ⟨k1, 0, bad⟩ 3 k
  else if 0 ≤ text (s.extract k1 (k1 + (farS s k1 en).toNat)) 0 then wrong ⟨k1 + (farS s k1 en).toNat + en.size, 0, bad⟩ 3 k
  else if (two && Lib.contains (s.extract k1 (k1 + (farS s k1 en).toNat) ++ dash).data.toList dashes.data.toList) = true then wrong ⟨k1 + (farS s k1 en).toNat + en.size, 0, bad⟩ 3 k
  else ⟨k1 + (farS s k1 en).toNat + en.size, 0, bad⟩
def asideB (s : ByteArray) (k : Nat) : Bool := hasAt s k comS || hasAt s k insS
def asideT (s : ByteArray) (k : Nat) (bad : Int) : P3 :=
  if hasAt s k comS = true then sideT s k (k + 4) comE true bad else if hasAt s k insS = true then sideT s k (k + 2) insE false bad else ⟨k, 0, bad⟩
end Xm
theorem contains_any (s x : ByteArray) (w : World) (hs : s.size < 4294967281) (hm : Xm.Max w) : Calls Tryz.prog 83 #[.string s, .string x] w fun e w' => e = .returned (.bool (Lib.contains s.data.toList x.data.toList)) ∧ w = w' := by
  obtain ⟨m, hm⟩ := hm.2
  exact (Tryz.strings_Contains s x m w hs hm).mono fun _ _ ⟨h1, h2⟩ => ⟨h1, h2.symm⟩

set_option maxRecDepth 100000 in
set_option maxHeartbeats 2000000 in
theorem aside_no (b : Nat) (s : ByteArray) (k : Nat) (bad : Int) (w : World) (h : Xm.Sc w b s k 0 bad) (hk : k ≤ s.size) (hs : s.size ≤ 900000000) (hm : Xm.Max w) (_hb1 : 1 < b) (hc : Xm.hasAt s k Xm.comS = false) (hi : Xm.hasAt s k Xm.insS = false) :
    Calls Tryz.prog 65 #[.pointer (some ⟨b, 0, none⟩)] w fun r w' => r = .returned (.bool (Xm.asideB s k)) ∧ Xm.Scs w' b s (Xm.asideT s k bad) ∧ Xm.Mv w b w' := by
  have HS := Lib.hid h
  have HMx := Lib.hid hm
  have c1 := h.c.2.1
  have f1 := h.c.2.2.2.2.1
  clear h hm
  have HE : Hid (Xm.asideB s k = false ∧ Xm.asideT s k bad = ⟨k, 0, bad⟩) := Lib.hid ⟨by simp [Xm.asideB, hc, hi], by simp [Xm.asideT, hc, hi]⟩
  have HC : Hid (Xm.hasAt s k ⟨#[60, 33, 45, 45]⟩ = false) := Lib.hid hc
  have HI : Hid (Xm.hasAt s k ⟨#[60, 63]⟩ = false) := Lib.hid hi
  clear hc hi
  go_enter Tryz.func65, Tryz.ntmps65
  go_upto_region 7 with (go_at_call 66; refine (has_any _ _ _ _ _ _ _ HS.out hk (by omega)).mono ?_; rintro e w1 ⟨rfl, n, rfl⟩; rw [HC.out])
  have HS1 := Lib.hid (Xm.Sc.grow HS.out (Flow.grow_drewN w n))
  go_wp2_with (go_at_call 66; refine (has_any _ _ _ _ _ _ _ HS1.out hk (by omega)).mono ?_; rintro e w2 ⟨rfl, n2, rfl⟩; rw [HI.out])
  go_ret
  exact ⟨ret_bool HE.out.1.symm, by rw [HE.out.2]; exact Xm.Sc.grow HS.out (Flow.grow_drewN _ _), Xm.Mv.drew⟩

set_option maxRecDepth 100000 in
set_option maxHeartbeats 2000000 in
theorem aside_c1 (b : Nat) (s : ByteArray) (k : Nat) (bad : Int) (w : World) (h : Xm.Sc w b s k 0 bad) (hk : k ≤ s.size) (hs : s.size ≤ 900000000) (hm : Xm.Max w) (hb1 : 1 < b) (hc : Xm.hasAt s k Xm.comS = true) (hf : Xm.farS s (k + 4) Xm.comE < 0) :
    Calls Tryz.prog 65 #[.pointer (some ⟨b, 0, none⟩)] w fun r w' => r = .returned (.bool (Xm.asideB s k)) ∧ Xm.Scs w' b s (Xm.asideT s k bad) ∧ Xm.Mv w b w' := by
  have HS := Lib.hid h
  have HMx := Lib.hid hm
  have c1 := h.c.2.1
  have f1 := h.c.2.2.2.2.1
  clear h hm
  have HF := Lib.hid hf
  have HE : Hid (Xm.sideT s k (k + 4) Xm.comE true bad = Xm.wrong ⟨k + 4, 0, bad⟩ 3 k) := Lib.hid (by rw [Xm.sideT, if_pos hf])
  clear hf
  have hkd := Xm.hasAt_bd hk hc
  have hkd : k + 4 ≤ s.size := hkd
  have HB : Hid (Xm.asideB s k = true ∧ Xm.asideT s k bad = Xm.sideT s k (k + 4) Xm.comE true bad) := Lib.hid ⟨by simp [Xm.asideB, hc], by simp [Xm.asideT, hc]⟩
  have HC : Hid (Xm.hasAt s k ⟨#[60, 33, 45, 45]⟩ = true) := Lib.hid hc
  clear hc
  go_enter Tryz.func65, Tryz.ntmps65
  go_upto_region 10 with (go_at_call 66; refine (has_any _ _ _ _ _ _ _ HS.out hk (by omega)).mono ?_; rintro e w1 ⟨rfl, n, rfl⟩; rw [HC.out])
  have hm1 : Xm.Mv w b ((w.drewN n).setCell ⟨b, 1, none⟩ (.int .i64 ((k : Int) + 4))) := Xm.Mv.drew.trans Xm.Mv.set
  have hs1 : Xm.Sc ((w.drewN n).setCell ⟨b, 1, none⟩ (.int .i64 ((k : Int) + 4))) b s ((k + 4 : Nat) : Int) 0 bad := Xm.Sc.at' (Xm.Sc.grow HS.out (Flow.grow_drewN w n)) _
  clear c1 f1
  generalize (w.drewN n).setCell ⟨b, 1, none⟩ (.int .i64 ((k : Int) + 4)) = w1 at *
  have HS1 := Lib.hid hs1
  have HM1 := Lib.hid hm1
  have HX1 := Lib.hid (HMx.out.mv hm1 hb1)
  have c2 := hs1.c.2.2.1
  clear hs1 hm1
  go_wp2_with (first | (go_at_call 67; refine (until_any b s Xm.comE (k + 4) 0 bad w1 HS1.out (by omega) (by omega) (by decide) HX1.out).mono ?_; rintro e w5 ⟨hyes, -⟩; obtain ⟨rfl, hs5, hm5⟩ := hyes HF.out; clear hyes) | (go_at_call 31; refine (wrong_any _ _ _ _ _ 3 _ _ hs5 (by decide)).mono ?_; rintro e w6 ⟨rfl, hs6, hm6⟩))
  go_ret
  exact ⟨ret_bool HB.out.1.symm, by rw [HB.out.2, HE.out]; exact hs6, (HM1.out.trans hm5).trans hm6⟩

set_option maxRecDepth 100000 in
set_option maxHeartbeats 2000000 in
theorem aside_c2 (b : Nat) (s : ByteArray) (k : Nat) (bad : Int) (w : World) (h : Xm.Sc w b s k 0 bad) (hk : k ≤ s.size) (hs : s.size ≤ 900000000) (hm : Xm.Max w) (hb1 : 1 < b) (hc : Xm.hasAt s k Xm.comS = true) (hf : 0 ≤ Xm.farS s (k + 4) Xm.comE) (ht : 0 ≤ Xm.text (s.extract (k + 4) (k + 4 + (Xm.farS s (k + 4) Xm.comE).toNat)) 0) :
    Calls Tryz.prog 65 #[.pointer (some ⟨b, 0, none⟩)] w fun r w' => r = .returned (.bool (Xm.asideB s k)) ∧ Xm.Scs w' b s (Xm.asideT s k bad) ∧ Xm.Mv w b w' := by
  have HS := Lib.hid h
  have HMx := Lib.hid hm
  have c1 := h.c.2.1
  have f1 := h.c.2.2.2.2.1
  clear h hm
  have HF := Lib.hid hf
  obtain ⟨f, hfe⟩ : ∃ f : Nat, (f : Int) = Xm.farS s (k + 4) Xm.comE := ⟨(Xm.farS s (k + 4) Xm.comE).toNat, by omega⟩
  have Hft : Hid ((Xm.farS s (k + 4) Xm.comE).toNat = f) := Lib.hid (by omega)
  have Hfb : k + 4 + f + 3 ≤ s.size := by
    have h1 := Xm.hasAt_bd hk hc
    have h1 : k + 4 ≤ s.size := h1
    have := (Xm.farS_bd (s := s) (k := k + 4) h1 Xm.comE).2 hf
    rw [Hft.out] at this
    exact this
  rw [Hft.out] at ht
  obtain ⟨v, hv⟩ : ∃ v, v = s.extract (k + 4) (k + 4 + f) := ⟨_, rfl⟩
  rw [← hv] at ht
  have Hv := Lib.hid hv
  have hvs : v.size ≤ 900000000 := by rw [hv]; simp; omega
  have hvm : v.size ≤ 9223372036854775807 := by omega
  have Hvm := Lib.hid hvm
  have hvp : ¬ 9223372036854775807 < v.size + 1 := by omega
  have hvd : (v ++ Xm.dash).size < 4294967281 := by have h1 : Xm.dash.size = 1 := rfl; rw [ByteArray.size_append]; omega
  have Hvd := Lib.hid hvd
  obtain ⟨z, hz⟩ : ∃ z, z = Xm.text v 0 := ⟨_, rfl⟩
  rw [← hz] at ht
  have HZ := Lib.hid hz
  have HE : Hid (Xm.sideT s k (k + 4) Xm.comE true bad = Xm.wrong ⟨k + 4 + f + Xm.comE.size, 0, bad⟩ 3 k) := Lib.hid (by rw [Xm.sideT, if_neg (by omega), if_pos (by rw [Hft.out, ← hv, ← hz]; exact ht), Hft.out])
  clear hv hz hvs hvm hvd hf hfe
  have hkd := Xm.hasAt_bd hk hc
  have hkd : k + 4 ≤ s.size := hkd
  have HB : Hid (Xm.asideB s k = true ∧ Xm.asideT s k bad = Xm.sideT s k (k + 4) Xm.comE true bad) := Lib.hid ⟨by simp [Xm.asideB, hc], by simp [Xm.asideT, hc]⟩
  have HC : Hid (Xm.hasAt s k ⟨#[60, 33, 45, 45]⟩ = true) := Lib.hid hc
  clear hc
  go_enter Tryz.func65, Tryz.ntmps65
  go_upto_region 10 with (go_at_call 66; refine (has_any _ _ _ _ _ _ _ HS.out hk (by omega)).mono ?_; rintro e w1 ⟨rfl, n, rfl⟩; rw [HC.out])
  have hm1 : Xm.Mv w b ((w.drewN n).setCell ⟨b, 1, none⟩ (.int .i64 ((k : Int) + 4))) := Xm.Mv.drew.trans Xm.Mv.set
  have hs1 : Xm.Sc ((w.drewN n).setCell ⟨b, 1, none⟩ (.int .i64 ((k : Int) + 4))) b s ((k + 4 : Nat) : Int) 0 bad := Xm.Sc.at' (Xm.Sc.grow HS.out (Flow.grow_drewN w n)) _
  clear c1 f1
  generalize (w.drewN n).setCell ⟨b, 1, none⟩ (.int .i64 ((k : Int) + 4)) = w1 at *
  have HS1 := Lib.hid hs1
  have HM1 := Lib.hid hm1
  have HX1 := Lib.hid (HMx.out.mv hm1 hb1)
  have c2 := hs1.c.2.2.1
  clear hs1 hm1
  go_wp2_with (first | (go_at_call 67; refine (until_any b s Xm.comE (k + 4) 0 bad w1 HS1.out (by omega) (by omega) (by decide) HX1.out).mono ?_; rintro e w5 ⟨-, hyes⟩; obtain ⟨rfl, hs5, hm5⟩ := hyes HF.out; rw [Hft.out, ← Hv.out]; rw [Hft.out] at hs5; clear hyes) | (go_at_call 54; refine (ctext_any _ _ Hvm.out).mono ?_; rintro e w' ⟨rfl, rfl⟩; rw [← HZ.out]) | (go_at_call 31; refine (wrong_any _ _ _ _ _ 3 _ _ hs5 (by decide)).mono ?_; rintro e w6 ⟨rfl, hs6, hm6⟩))
  go_ret
  exact ⟨ret_bool HB.out.1.symm, by rw [HB.out.2, HE.out]; exact hs6, (HM1.out.trans hm5).trans hm6⟩

set_option maxRecDepth 100000 in
set_option maxHeartbeats 2000000 in
theorem aside_c3 (b : Nat) (s : ByteArray) (k : Nat) (bad : Int) (w : World) (h : Xm.Sc w b s k 0 bad) (hk : k ≤ s.size) (hs : s.size ≤ 900000000) (hm : Xm.Max w) (hb1 : 1 < b) (hc : Xm.hasAt s k Xm.comS = true) (hf : 0 ≤ Xm.farS s (k + 4) Xm.comE) (ht : Xm.text (s.extract (k + 4) (k + 4 + (Xm.farS s (k + 4) Xm.comE).toNat)) 0 < 0) (hct : Lib.contains ((s.extract (k + 4) (k + 4 + (Xm.farS s (k + 4) Xm.comE).toNat)) ++ Xm.dash).data.toList Xm.dashes.data.toList = true) :
    Calls Tryz.prog 65 #[.pointer (some ⟨b, 0, none⟩)] w fun r w' => r = .returned (.bool (Xm.asideB s k)) ∧ Xm.Scs w' b s (Xm.asideT s k bad) ∧ Xm.Mv w b w' := by
  have HS := Lib.hid h
  have HMx := Lib.hid hm
  have c1 := h.c.2.1
  have f1 := h.c.2.2.2.2.1
  clear h hm
  have HF := Lib.hid hf
  obtain ⟨f, hfe⟩ : ∃ f : Nat, (f : Int) = Xm.farS s (k + 4) Xm.comE := ⟨(Xm.farS s (k + 4) Xm.comE).toNat, by omega⟩
  have Hft : Hid ((Xm.farS s (k + 4) Xm.comE).toNat = f) := Lib.hid (by omega)
  have Hfb : k + 4 + f + 3 ≤ s.size := by
    have h1 := Xm.hasAt_bd hk hc
    have h1 : k + 4 ≤ s.size := h1
    have := (Xm.farS_bd (s := s) (k := k + 4) h1 Xm.comE).2 hf
    rw [Hft.out] at this
    exact this
  rw [Hft.out] at ht hct
  obtain ⟨v, hv⟩ : ∃ v, v = s.extract (k + 4) (k + 4 + f) := ⟨_, rfl⟩
  rw [← hv] at ht hct
  have Hv := Lib.hid hv
  have hvs : v.size ≤ 900000000 := by rw [hv]; simp; omega
  have hvm : v.size ≤ 9223372036854775807 := by omega
  have Hvm := Lib.hid hvm
  have hvp : ¬ 9223372036854775807 < v.size + 1 := by omega
  have hvd : (v ++ Xm.dash).size < 4294967281 := by have h1 : Xm.dash.size = 1 := rfl; rw [ByteArray.size_append]; omega
  have Hvd := Lib.hid hvd
  obtain ⟨z, hz⟩ : ∃ z, z = Xm.text v 0 := ⟨_, rfl⟩
  rw [← hz] at ht
  have HZ := Lib.hid hz
  have hd : decide (0 ≤ z) = false := by simp; omega
  have HE : Hid (Xm.sideT s k (k + 4) Xm.comE true bad = Xm.wrong ⟨k + 4 + f + Xm.comE.size, 0, bad⟩ 3 k) := Lib.hid (by rw [Xm.sideT, if_neg (by omega), if_neg (by rw [Hft.out, ← hv, ← hz]; omega), if_pos (by rw [Hft.out, ← hv, hct]; rfl), Hft.out])
  have HCT : Hid (Lib.contains (v ++ Xm.dash).data.toList Xm.dashes.data.toList = true) := Lib.hid hct
  clear hv hz hvs hvm hvd hf hfe hct
  have hkd := Xm.hasAt_bd hk hc
  have hkd : k + 4 ≤ s.size := hkd
  have HB : Hid (Xm.asideB s k = true ∧ Xm.asideT s k bad = Xm.sideT s k (k + 4) Xm.comE true bad) := Lib.hid ⟨by simp [Xm.asideB, hc], by simp [Xm.asideT, hc]⟩
  have HC : Hid (Xm.hasAt s k ⟨#[60, 33, 45, 45]⟩ = true) := Lib.hid hc
  clear hc
  go_enter Tryz.func65, Tryz.ntmps65
  go_upto_region 10 with (go_at_call 66; refine (has_any _ _ _ _ _ _ _ HS.out hk (by omega)).mono ?_; rintro e w1 ⟨rfl, n, rfl⟩; rw [HC.out])
  have hm1 : Xm.Mv w b ((w.drewN n).setCell ⟨b, 1, none⟩ (.int .i64 ((k : Int) + 4))) := Xm.Mv.drew.trans Xm.Mv.set
  have hs1 : Xm.Sc ((w.drewN n).setCell ⟨b, 1, none⟩ (.int .i64 ((k : Int) + 4))) b s ((k + 4 : Nat) : Int) 0 bad := Xm.Sc.at' (Xm.Sc.grow HS.out (Flow.grow_drewN w n)) _
  clear c1 f1
  generalize (w.drewN n).setCell ⟨b, 1, none⟩ (.int .i64 ((k : Int) + 4)) = w1 at *
  have HS1 := Lib.hid hs1
  have HM1 := Lib.hid hm1
  have HX1 := Lib.hid (HMx.out.mv hm1 hb1)
  have c2 := hs1.c.2.2.1
  clear hs1 hm1
  go_wp2_with (first | (go_at_call 67; refine (until_any b s Xm.comE (k + 4) 0 bad w1 HS1.out (by omega) (by omega) (by decide) HX1.out).mono ?_; rintro e w5 ⟨-, hyes⟩; obtain ⟨rfl, hs5, hm5⟩ := hyes HF.out; rw [Hft.out, ← Hv.out]; rw [Hft.out] at hs5; clear hyes) | (go_at_call 54; refine (ctext_any _ _ Hvm.out).mono ?_; rintro e w' ⟨rfl, rfl⟩; rw [← HZ.out]) | (go_at_call 83; refine (contains_any _ _ _ Hvd.out (HX1.out.mv hm5 hb1)).mono ?_; rintro e w' ⟨rfl, rfl⟩; rw [show Lib.contains (v ++ Xm.dash).data.toList (⟨#[45, 45]⟩ : ByteArray).data.toList = true from HCT.out]) | (go_at_call 31; refine (wrong_any _ _ _ _ _ 3 _ _ hs5 (by decide)).mono ?_; rintro e w6 ⟨rfl, hs6, hm6⟩))
  go_ret
  exact ⟨ret_bool HB.out.1.symm, by rw [HB.out.2, HE.out]; exact hs6, (HM1.out.trans hm5).trans hm6⟩

set_option maxRecDepth 100000 in
set_option maxHeartbeats 2000000 in
theorem aside_c4 (b : Nat) (s : ByteArray) (k : Nat) (bad : Int) (w : World) (h : Xm.Sc w b s k 0 bad) (hk : k ≤ s.size) (hs : s.size ≤ 900000000) (hm : Xm.Max w) (hb1 : 1 < b) (hc : Xm.hasAt s k Xm.comS = true) (hf : 0 ≤ Xm.farS s (k + 4) Xm.comE) (ht : Xm.text (s.extract (k + 4) (k + 4 + (Xm.farS s (k + 4) Xm.comE).toNat)) 0 < 0) (hct : Lib.contains ((s.extract (k + 4) (k + 4 + (Xm.farS s (k + 4) Xm.comE).toNat)) ++ Xm.dash).data.toList Xm.dashes.data.toList = false) :
    Calls Tryz.prog 65 #[.pointer (some ⟨b, 0, none⟩)] w fun r w' => r = .returned (.bool (Xm.asideB s k)) ∧ Xm.Scs w' b s (Xm.asideT s k bad) ∧ Xm.Mv w b w' := by
  have HS := Lib.hid h
  have HMx := Lib.hid hm
  have c1 := h.c.2.1
  have f1 := h.c.2.2.2.2.1
  clear h hm
  have HF := Lib.hid hf
  obtain ⟨f, hfe⟩ : ∃ f : Nat, (f : Int) = Xm.farS s (k + 4) Xm.comE := ⟨(Xm.farS s (k + 4) Xm.comE).toNat, by omega⟩
  have Hft : Hid ((Xm.farS s (k + 4) Xm.comE).toNat = f) := Lib.hid (by omega)
  have Hfb : k + 4 + f + 3 ≤ s.size := by
    have h1 := Xm.hasAt_bd hk hc
    have h1 : k + 4 ≤ s.size := h1
    have := (Xm.farS_bd (s := s) (k := k + 4) h1 Xm.comE).2 hf
    rw [Hft.out] at this
    exact this
  rw [Hft.out] at ht hct
  obtain ⟨v, hv⟩ : ∃ v, v = s.extract (k + 4) (k + 4 + f) := ⟨_, rfl⟩
  rw [← hv] at ht hct
  have Hv := Lib.hid hv
  have hvs : v.size ≤ 900000000 := by rw [hv]; simp; omega
  have hvm : v.size ≤ 9223372036854775807 := by omega
  have Hvm := Lib.hid hvm
  have hvp : ¬ 9223372036854775807 < v.size + 1 := by omega
  have hvd : (v ++ Xm.dash).size < 4294967281 := by have h1 : Xm.dash.size = 1 := rfl; rw [ByteArray.size_append]; omega
  have Hvd := Lib.hid hvd
  obtain ⟨z, hz⟩ : ∃ z, z = Xm.text v 0 := ⟨_, rfl⟩
  rw [← hz] at ht
  have HZ := Lib.hid hz
  have hd : decide (0 ≤ z) = false := by simp; omega
  have HE : Hid (Xm.sideT s k (k + 4) Xm.comE true bad = ⟨k + 4 + f + Xm.comE.size, 0, bad⟩) := Lib.hid (by rw [Xm.sideT, if_neg (by omega), if_neg (by rw [Hft.out, ← hv, ← hz]; omega), if_neg (by rw [Hft.out, ← hv, hct]; simp), Hft.out])
  have HCT : Hid (Lib.contains (v ++ Xm.dash).data.toList Xm.dashes.data.toList = false) := Lib.hid hct
  clear hv hz hvs hvm hvd hf hfe hct
  have hkd := Xm.hasAt_bd hk hc
  have hkd : k + 4 ≤ s.size := hkd
  have HB : Hid (Xm.asideB s k = true ∧ Xm.asideT s k bad = Xm.sideT s k (k + 4) Xm.comE true bad) := Lib.hid ⟨by simp [Xm.asideB, hc], by simp [Xm.asideT, hc]⟩
  have HC : Hid (Xm.hasAt s k ⟨#[60, 33, 45, 45]⟩ = true) := Lib.hid hc
  clear hc
  go_enter Tryz.func65, Tryz.ntmps65
  go_upto_region 10 with (go_at_call 66; refine (has_any _ _ _ _ _ _ _ HS.out hk (by omega)).mono ?_; rintro e w1 ⟨rfl, n, rfl⟩; rw [HC.out])
  have hm1 : Xm.Mv w b ((w.drewN n).setCell ⟨b, 1, none⟩ (.int .i64 ((k : Int) + 4))) := Xm.Mv.drew.trans Xm.Mv.set
  have hs1 : Xm.Sc ((w.drewN n).setCell ⟨b, 1, none⟩ (.int .i64 ((k : Int) + 4))) b s ((k + 4 : Nat) : Int) 0 bad := Xm.Sc.at' (Xm.Sc.grow HS.out (Flow.grow_drewN w n)) _
  clear c1 f1
  generalize (w.drewN n).setCell ⟨b, 1, none⟩ (.int .i64 ((k : Int) + 4)) = w1 at *
  have HS1 := Lib.hid hs1
  have HM1 := Lib.hid hm1
  have HX1 := Lib.hid (HMx.out.mv hm1 hb1)
  have c2 := hs1.c.2.2.1
  clear hs1 hm1
  go_wp2_with (first | (go_at_call 67; refine (until_any b s Xm.comE (k + 4) 0 bad w1 HS1.out (by omega) (by omega) (by decide) HX1.out).mono ?_; rintro e w5 ⟨-, hyes⟩; obtain ⟨rfl, hs5, hm5⟩ := hyes HF.out; rw [Hft.out, ← Hv.out]; rw [Hft.out] at hs5; clear hyes) | (go_at_call 54; refine (ctext_any _ _ Hvm.out).mono ?_; rintro e w' ⟨rfl, rfl⟩; rw [← HZ.out]) | (go_at_call 83; refine (contains_any _ _ _ Hvd.out (HX1.out.mv hm5 hb1)).mono ?_; rintro e w' ⟨rfl, rfl⟩; rw [show Lib.contains (v ++ Xm.dash).data.toList (⟨#[45, 45]⟩ : ByteArray).data.toList = false from HCT.out]))
  go_ret
  exact ⟨ret_bool HB.out.1.symm, by rw [HB.out.2, HE.out]; exact hs5, HM1.out.trans hm5⟩

set_option maxRecDepth 100000 in
set_option maxHeartbeats 2000000 in
theorem aside_q1 (b : Nat) (s : ByteArray) (k : Nat) (bad : Int) (w : World) (h : Xm.Sc w b s k 0 bad) (hk : k ≤ s.size) (hs : s.size ≤ 900000000) (hm : Xm.Max w) (hb1 : 1 < b) (hc : Xm.hasAt s k Xm.comS = false) (hi : Xm.hasAt s k Xm.insS = true) (hf : Xm.farS s (k + 2) Xm.insE < 0) :
    Calls Tryz.prog 65 #[.pointer (some ⟨b, 0, none⟩)] w fun r w' => r = .returned (.bool (Xm.asideB s k)) ∧ Xm.Scs w' b s (Xm.asideT s k bad) ∧ Xm.Mv w b w' := by
  have HS := Lib.hid h
  have HMx := Lib.hid hm
  have c1 := h.c.2.1
  have f1 := h.c.2.2.2.2.1
  clear h hm
  have HF := Lib.hid hf
  have HE : Hid (Xm.sideT s k (k + 2) Xm.insE false bad = Xm.wrong ⟨k + 2, 0, bad⟩ 3 k) := Lib.hid (by rw [Xm.sideT, if_pos hf])
  clear hf
  have hkd := Xm.hasAt_bd hk hi
  have hkd : k + 2 ≤ s.size := hkd
  have HB : Hid (Xm.asideB s k = true ∧ Xm.asideT s k bad = Xm.sideT s k (k + 2) Xm.insE false bad) := Lib.hid ⟨by simp [Xm.asideB, hc, hi], by simp [Xm.asideT, hc, hi]⟩
  have HC : Hid (Xm.hasAt s k ⟨#[60, 33, 45, 45]⟩ = false) := Lib.hid hc
  have HI : Hid (Xm.hasAt s k ⟨#[60, 63]⟩ = true) := Lib.hid hi
  clear hc hi
  go_enter Tryz.func65, Tryz.ntmps65
  go_upto_region 7 with (go_at_call 66; refine (has_any _ _ _ _ _ _ _ HS.out hk (by omega)).mono ?_; rintro e w1 ⟨rfl, n, rfl⟩; rw [HC.out])
  have HS0 := Lib.hid (Xm.Sc.grow HS.out (Flow.grow_drewN w n))
  go_upto_region 10 with (go_at_call 66; refine (has_any _ _ _ _ _ _ _ HS0.out hk (by omega)).mono ?_; rintro e w2 ⟨rfl, n2, rfl⟩; rw [HI.out])
  have hm1 : Xm.Mv w b ((w.drewN (n + n2)).setCell ⟨b, 1, none⟩ (.int .i64 ((k : Int) + 2))) := Xm.Mv.drew.trans Xm.Mv.set
  have hs1 : Xm.Sc ((w.drewN (n + n2)).setCell ⟨b, 1, none⟩ (.int .i64 ((k : Int) + 2))) b s ((k + 2 : Nat) : Int) 0 bad := Xm.Sc.at' (Xm.Sc.grow HS.out (Flow.grow_drewN w _)) _
  clear c1 f1
  generalize (w.drewN (n + n2)).setCell ⟨b, 1, none⟩ (.int .i64 ((k : Int) + 2)) = w1 at *
  have HS1 := Lib.hid hs1
  have HM1 := Lib.hid hm1
  have HX1 := Lib.hid (HMx.out.mv hm1 hb1)
  have c2 := hs1.c.2.2.1
  clear hs1 hm1
  go_wp2_with (first | (go_at_call 67; refine (until_any b s Xm.insE (k + 2) 0 bad w1 HS1.out (by omega) (by omega) (by decide) HX1.out).mono ?_; rintro e w5 ⟨hyes, -⟩; obtain ⟨rfl, hs5, hm5⟩ := hyes HF.out; clear hyes) | (go_at_call 31; refine (wrong_any _ _ _ _ _ 3 _ _ hs5 (by decide)).mono ?_; rintro e w6 ⟨rfl, hs6, hm6⟩))
  go_ret
  exact ⟨ret_bool HB.out.1.symm, by rw [HB.out.2, HE.out]; exact hs6, (HM1.out.trans hm5).trans hm6⟩

set_option maxRecDepth 100000 in
set_option maxHeartbeats 2000000 in
theorem aside_q2 (b : Nat) (s : ByteArray) (k : Nat) (bad : Int) (w : World) (h : Xm.Sc w b s k 0 bad) (hk : k ≤ s.size) (hs : s.size ≤ 900000000) (hm : Xm.Max w) (hb1 : 1 < b) (hc : Xm.hasAt s k Xm.comS = false) (hi : Xm.hasAt s k Xm.insS = true) (hf : 0 ≤ Xm.farS s (k + 2) Xm.insE) (ht : 0 ≤ Xm.text (s.extract (k + 2) (k + 2 + (Xm.farS s (k + 2) Xm.insE).toNat)) 0) :
    Calls Tryz.prog 65 #[.pointer (some ⟨b, 0, none⟩)] w fun r w' => r = .returned (.bool (Xm.asideB s k)) ∧ Xm.Scs w' b s (Xm.asideT s k bad) ∧ Xm.Mv w b w' := by
  have HS := Lib.hid h
  have HMx := Lib.hid hm
  have c1 := h.c.2.1
  have f1 := h.c.2.2.2.2.1
  clear h hm
  have HF := Lib.hid hf
  obtain ⟨f, hfe⟩ : ∃ f : Nat, (f : Int) = Xm.farS s (k + 2) Xm.insE := ⟨(Xm.farS s (k + 2) Xm.insE).toNat, by omega⟩
  have Hft : Hid ((Xm.farS s (k + 2) Xm.insE).toNat = f) := Lib.hid (by omega)
  have Hfb : k + 2 + f + 2 ≤ s.size := by
    have h1 := Xm.hasAt_bd hk hi
    have h1 : k + 2 ≤ s.size := h1
    have := (Xm.farS_bd (s := s) (k := k + 2) h1 Xm.insE).2 hf
    rw [Hft.out] at this
    exact this
  rw [Hft.out] at ht
  obtain ⟨v, hv⟩ : ∃ v, v = s.extract (k + 2) (k + 2 + f) := ⟨_, rfl⟩
  rw [← hv] at ht
  have Hv := Lib.hid hv
  have hvs : v.size ≤ 900000000 := by rw [hv]; simp; omega
  have hvm : v.size ≤ 9223372036854775807 := by omega
  have Hvm := Lib.hid hvm
  have hvp : ¬ 9223372036854775807 < v.size + 1 := by omega
  have hvd : (v ++ Xm.dash).size < 4294967281 := by have h1 : Xm.dash.size = 1 := rfl; rw [ByteArray.size_append]; omega
  have Hvd := Lib.hid hvd
  obtain ⟨z, hz⟩ : ∃ z, z = Xm.text v 0 := ⟨_, rfl⟩
  rw [← hz] at ht
  have HZ := Lib.hid hz
  have HE : Hid (Xm.sideT s k (k + 2) Xm.insE false bad = Xm.wrong ⟨k + 2 + f + Xm.insE.size, 0, bad⟩ 3 k) := Lib.hid (by rw [Xm.sideT, if_neg (by omega), if_pos (by rw [Hft.out, ← hv, ← hz]; exact ht), Hft.out])
  clear hv hz hvs hvm hvd hf hfe
  have hkd := Xm.hasAt_bd hk hi
  have hkd : k + 2 ≤ s.size := hkd
  have HB : Hid (Xm.asideB s k = true ∧ Xm.asideT s k bad = Xm.sideT s k (k + 2) Xm.insE false bad) := Lib.hid ⟨by simp [Xm.asideB, hc, hi], by simp [Xm.asideT, hc, hi]⟩
  have HC : Hid (Xm.hasAt s k ⟨#[60, 33, 45, 45]⟩ = false) := Lib.hid hc
  have HI : Hid (Xm.hasAt s k ⟨#[60, 63]⟩ = true) := Lib.hid hi
  clear hc hi
  go_enter Tryz.func65, Tryz.ntmps65
  go_upto_region 7 with (go_at_call 66; refine (has_any _ _ _ _ _ _ _ HS.out hk (by omega)).mono ?_; rintro e w1 ⟨rfl, n, rfl⟩; rw [HC.out])
  have HS0 := Lib.hid (Xm.Sc.grow HS.out (Flow.grow_drewN w n))
  go_upto_region 10 with (go_at_call 66; refine (has_any _ _ _ _ _ _ _ HS0.out hk (by omega)).mono ?_; rintro e w2 ⟨rfl, n2, rfl⟩; rw [HI.out])
  have hm1 : Xm.Mv w b ((w.drewN (n + n2)).setCell ⟨b, 1, none⟩ (.int .i64 ((k : Int) + 2))) := Xm.Mv.drew.trans Xm.Mv.set
  have hs1 : Xm.Sc ((w.drewN (n + n2)).setCell ⟨b, 1, none⟩ (.int .i64 ((k : Int) + 2))) b s ((k + 2 : Nat) : Int) 0 bad := Xm.Sc.at' (Xm.Sc.grow HS.out (Flow.grow_drewN w _)) _
  clear c1 f1
  generalize (w.drewN (n + n2)).setCell ⟨b, 1, none⟩ (.int .i64 ((k : Int) + 2)) = w1 at *
  have HS1 := Lib.hid hs1
  have HM1 := Lib.hid hm1
  have HX1 := Lib.hid (HMx.out.mv hm1 hb1)
  have c2 := hs1.c.2.2.1
  clear hs1 hm1
  go_wp2_with (first | (go_at_call 67; refine (until_any b s Xm.insE (k + 2) 0 bad w1 HS1.out (by omega) (by omega) (by decide) HX1.out).mono ?_; rintro e w5 ⟨-, hyes⟩; obtain ⟨rfl, hs5, hm5⟩ := hyes HF.out; rw [Hft.out, ← Hv.out]; rw [Hft.out] at hs5; clear hyes) | (go_at_call 54; refine (ctext_any _ _ Hvm.out).mono ?_; rintro e w' ⟨rfl, rfl⟩; rw [← HZ.out]) | (go_at_call 31; refine (wrong_any _ _ _ _ _ 3 _ _ hs5 (by decide)).mono ?_; rintro e w6 ⟨rfl, hs6, hm6⟩))
  go_ret
  exact ⟨ret_bool HB.out.1.symm, by rw [HB.out.2, HE.out]; exact hs6, (HM1.out.trans hm5).trans hm6⟩

set_option maxRecDepth 100000 in
set_option maxHeartbeats 2000000 in
theorem aside_q4 (b : Nat) (s : ByteArray) (k : Nat) (bad : Int) (w : World) (h : Xm.Sc w b s k 0 bad) (hk : k ≤ s.size) (hs : s.size ≤ 900000000) (hm : Xm.Max w) (hb1 : 1 < b) (hc : Xm.hasAt s k Xm.comS = false) (hi : Xm.hasAt s k Xm.insS = true) (hf : 0 ≤ Xm.farS s (k + 2) Xm.insE) (ht : Xm.text (s.extract (k + 2) (k + 2 + (Xm.farS s (k + 2) Xm.insE).toNat)) 0 < 0) :
    Calls Tryz.prog 65 #[.pointer (some ⟨b, 0, none⟩)] w fun r w' => r = .returned (.bool (Xm.asideB s k)) ∧ Xm.Scs w' b s (Xm.asideT s k bad) ∧ Xm.Mv w b w' := by
  have HS := Lib.hid h
  have HMx := Lib.hid hm
  have c1 := h.c.2.1
  have f1 := h.c.2.2.2.2.1
  clear h hm
  have HF := Lib.hid hf
  obtain ⟨f, hfe⟩ : ∃ f : Nat, (f : Int) = Xm.farS s (k + 2) Xm.insE := ⟨(Xm.farS s (k + 2) Xm.insE).toNat, by omega⟩
  have Hft : Hid ((Xm.farS s (k + 2) Xm.insE).toNat = f) := Lib.hid (by omega)
  have Hfb : k + 2 + f + 2 ≤ s.size := by
    have h1 := Xm.hasAt_bd hk hi
    have h1 : k + 2 ≤ s.size := h1
    have := (Xm.farS_bd (s := s) (k := k + 2) h1 Xm.insE).2 hf
    rw [Hft.out] at this
    exact this
  rw [Hft.out] at ht
  obtain ⟨v, hv⟩ : ∃ v, v = s.extract (k + 2) (k + 2 + f) := ⟨_, rfl⟩
  rw [← hv] at ht
  have Hv := Lib.hid hv
  have hvs : v.size ≤ 900000000 := by rw [hv]; simp; omega
  have hvm : v.size ≤ 9223372036854775807 := by omega
  have Hvm := Lib.hid hvm
  have hvp : ¬ 9223372036854775807 < v.size + 1 := by omega
  have hvd : (v ++ Xm.dash).size < 4294967281 := by have h1 : Xm.dash.size = 1 := rfl; rw [ByteArray.size_append]; omega
  have Hvd := Lib.hid hvd
  obtain ⟨z, hz⟩ : ∃ z, z = Xm.text v 0 := ⟨_, rfl⟩
  rw [← hz] at ht
  have HZ := Lib.hid hz
  have hd : decide (0 ≤ z) = false := by simp; omega
  have HE : Hid (Xm.sideT s k (k + 2) Xm.insE false bad = ⟨k + 2 + f + Xm.insE.size, 0, bad⟩) := Lib.hid (by rw [Xm.sideT, if_neg (by omega), if_neg (by rw [Hft.out, ← hv, ← hz]; omega), if_neg (by simp), Hft.out])
  clear hv hz hvs hvm hvd hf hfe
  have hkd := Xm.hasAt_bd hk hi
  have hkd : k + 2 ≤ s.size := hkd
  have HB : Hid (Xm.asideB s k = true ∧ Xm.asideT s k bad = Xm.sideT s k (k + 2) Xm.insE false bad) := Lib.hid ⟨by simp [Xm.asideB, hc, hi], by simp [Xm.asideT, hc, hi]⟩
  have HC : Hid (Xm.hasAt s k ⟨#[60, 33, 45, 45]⟩ = false) := Lib.hid hc
  have HI : Hid (Xm.hasAt s k ⟨#[60, 63]⟩ = true) := Lib.hid hi
  clear hc hi
  go_enter Tryz.func65, Tryz.ntmps65
  go_upto_region 7 with (go_at_call 66; refine (has_any _ _ _ _ _ _ _ HS.out hk (by omega)).mono ?_; rintro e w1 ⟨rfl, n, rfl⟩; rw [HC.out])
  have HS0 := Lib.hid (Xm.Sc.grow HS.out (Flow.grow_drewN w n))
  go_upto_region 10 with (go_at_call 66; refine (has_any _ _ _ _ _ _ _ HS0.out hk (by omega)).mono ?_; rintro e w2 ⟨rfl, n2, rfl⟩; rw [HI.out])
  have hm1 : Xm.Mv w b ((w.drewN (n + n2)).setCell ⟨b, 1, none⟩ (.int .i64 ((k : Int) + 2))) := Xm.Mv.drew.trans Xm.Mv.set
  have hs1 : Xm.Sc ((w.drewN (n + n2)).setCell ⟨b, 1, none⟩ (.int .i64 ((k : Int) + 2))) b s ((k + 2 : Nat) : Int) 0 bad := Xm.Sc.at' (Xm.Sc.grow HS.out (Flow.grow_drewN w _)) _
  clear c1 f1
  generalize (w.drewN (n + n2)).setCell ⟨b, 1, none⟩ (.int .i64 ((k : Int) + 2)) = w1 at *
  have HS1 := Lib.hid hs1
  have HM1 := Lib.hid hm1
  have HX1 := Lib.hid (HMx.out.mv hm1 hb1)
  have c2 := hs1.c.2.2.1
  clear hs1 hm1
  go_wp2_with (first | (go_at_call 67; refine (until_any b s Xm.insE (k + 2) 0 bad w1 HS1.out (by omega) (by omega) (by decide) HX1.out).mono ?_; rintro e w5 ⟨-, hyes⟩; obtain ⟨rfl, hs5, hm5⟩ := hyes HF.out; rw [Hft.out, ← Hv.out]; rw [Hft.out] at hs5; clear hyes) | (go_at_call 54; refine (ctext_any _ _ Hvm.out).mono ?_; rintro e w' ⟨rfl, rfl⟩; rw [← HZ.out]))
  go_ret
  exact ⟨ret_bool HB.out.1.symm, by rw [HB.out.2, HE.out]; exact hs5, HM1.out.trans hm5⟩

theorem aside_T (b : Nat) (s : ByteArray) (k : Nat) (bad : Int) (w : World) (h : Xm.Sc w b s k 0 bad) (hk : k ≤ s.size) (hs : s.size ≤ 900000000) (hm : Xm.Max w) (hb1 : 1 < b) :
    Calls Tryz.prog 65 #[.pointer (some ⟨b, 0, none⟩)] w fun r w' => r = .returned (.bool (Xm.asideB s k)) ∧ Xm.Scs w' b s (Xm.asideT s k bad) ∧ Xm.Mv w b w' := by
  cases hc : Xm.hasAt s k Xm.comS
  · cases hi : Xm.hasAt s k Xm.insS
    · exact aside_no b s k bad w h hk hs hm hb1 hc hi
    · by_cases hf : Xm.farS s (k + 2) Xm.insE < 0
      · exact aside_q1 b s k bad w h hk hs hm hb1 hc hi hf
      · have hf := Int.not_lt.1 hf
        by_cases ht : Xm.text (s.extract (k + 2) (k + 2 + (Xm.farS s (k + 2) Xm.insE).toNat)) 0 < 0
        · exact aside_q4 b s k bad w h hk hs hm hb1 hc hi hf ht
        · exact aside_q2 b s k bad w h hk hs hm hb1 hc hi hf (Int.not_lt.1 ht)
  · by_cases hf : Xm.farS s (k + 4) Xm.comE < 0
    · exact aside_c1 b s k bad w h hk hs hm hb1 hc hf
    · have hf := Int.not_lt.1 hf
      by_cases ht : Xm.text (s.extract (k + 4) (k + 4 + (Xm.farS s (k + 4) Xm.comE).toNat)) 0 < 0
      · cases hct : Lib.contains (s.extract (k + 4) (k + 4 + (Xm.farS s (k + 4) Xm.comE).toNat) ++ Xm.dash).data.toList Xm.dashes.data.toList
        · exact aside_c4 b s k bad w h hk hs hm hb1 hc hf ht hct
        · exact aside_c3 b s k bad w h hk hs hm hb1 hc hf ht hct
      · exact aside_c2 b s k bad w h hk hs hm hb1 hc hf (Int.not_lt.1 ht)
end Go.Proofs.YtdpkhmfolmcejaaGreatDoor
namespace Go.Proofs.YtdpkhmfolmcejaaGreatDoor
open Go.RowKit
namespace Xm
/-- attributes as cells -/
def attrCells (l : List (ByteArray × ByteArray)) : List Value := l.flatMap fun a => [.string a.1, .string a.2]
theorem attrCells_append (l m : List (ByteArray × ByteArray)) : attrCells (l ++ m) = attrCells l ++ attrCells m := by simp [attrCells]
theorem attrCells_get : ∀ (l : List (ByteArray × ByteArray)) (j : Nat) (a : ByteArray × ByteArray), l[j]? = some a → (attrCells l)[j * 2]? = some (.string a.1) ∧ (attrCells l)[j * 2 + 1]? = some (.string a.2)
  | [], j, a, h => by simp at h
  | x :: l, 0, a, h => by simp at h; subst h; exact ⟨rfl, rfl⟩
  | x :: l, j + 1, a, h => by
    have := attrCells_get l j a (by simpa using h)
    have e : attrCells (x :: l) = [.string x.1, .string x.2] ++ attrCells l := by simp [attrCells]
    rw [e, show (j + 1) * 2 = j * 2 + 2 by omega]
    exact ⟨by rw [List.getElem?_append_right (by simp)]; simpa using this.1, by rw [List.getElem?_append_right (by simp)]; simpa using this.2⟩
/-- a slice of attributes that can be read -/
def AttrsAt (w : World) (v : Value) (l : List (ByteArray × ByteArray)) : Prop :=
  (v = .slice none 0 0 ∧ l = []) ∨ ∃ g off cap, v = .slice (some ⟨g, off, none⟩) l.length cap ∧ l.length ≤ cap ∧ cap ≤ maxLen ∧ g < w.heap.size ∧ ∀ j u, (attrCells l)[j]? = some u → w.cell? ⟨g, off + j, none⟩ = some u
def named1 (na : ByteArray) (a : ByteArray × ByteArray) : Bool := a.1.toList == na.toList
theorem cell_grow {w w' : World} (g : Flow.Grow w w') {b o : Nat} (hb : b < w.heap.size) : w'.cell? ⟨b, o, none⟩ = w.cell? ⟨b, o, none⟩ := by
  unfold World.cell?
  rw [g.block b hb (by simp)]
end Xm
set_option maxRecDepth 100000 in
set_option maxHeartbeats 400000 in
theorem tag1_any (x y na : ByteArray) (A : Nat) (w : World) (hA : A < w.heap.size) (hc : w.cell? ⟨A, 0, none⟩ = some (.string na)) :
    Calls Tryz.prog 87 #[.agg #[.string x, .string y], .pointer (some ⟨A, 0, none⟩)] w fun e w' => e = .returned (.bool (Xm.named1 na (x, y))) ∧ Flow.Grow w w' := by
  have hc2 : (w.alloc (.cells #[.string x, .string y] 41)).cell? ⟨A, 0, none⟩ = some (.string na) := (Xm.cell_grow (Flow.grow_alloc _ _) hA).trans hc
  go_enter Tryz.func87, Tryz.ntmps87
  go_wp2
  go_ret
  exact ⟨rfl, Flow.grow_alloc _ _⟩

set_option maxRecDepth 100000 in
set_option maxHeartbeats 1000000 in
theorem indexAttr_any (v : Value) (l : List (ByteArray × ByteArray)) (na : ByteArray) (A : Nat) (w : World) (hv : Xm.AttrsAt w v l) (hA : A < w.heap.size) (hc : w.cell? ⟨A, 0, none⟩ = some (.string na)) :
    Calls Tryz.prog 80 #[v, .func (.func 87) #[] #[.pointer (some ⟨A, 0, none⟩)]] w fun e w' => (∃ k : Int, e = .returned (.int .i64 k) ∧ decide (0 ≤ k) = l.any (Xm.named1 na)) ∧ Flow.Grow w w' := by
  rcases hv with ⟨rfl, rfl⟩ | ⟨g, off, cap, rfl, hlc, hcm, hg, hcell⟩
  · go_enter Tryz.func80, Tryz.ntmps80
    go_wp2_with fail
    refine wp_loop_rounds 1 ?_
    rw [rounds_succ]
    go_wp2_with fail
    go_ret
    exact ⟨⟨-1, rfl, rfl⟩, Flow.grow_refl _⟩
  · obtain ⟨len, hlen⟩ : ∃ len, len = l.length := ⟨_, rfl⟩
    have Hc := Lib.hid hc
    have HA := Lib.hid hA
    have Hg := Lib.hid hg
    have Hcell := Lib.hid hcell
    rw [← hlen] at hlc ⊢
    have Hlen := Lib.hid hlen
    unfold maxLen at hcm
    clear hlen hc hA hg hcell
    go_enter Tryz.func80, Tryz.ntmps80
    go_wp2_with fail
    go_loopw [8] (fun i wr => ∃ k : Nat, k ≤ len ∧ i = .int .i64 k ∧ Hid (l.any (Xm.named1 na) = (l.drop k).any (Xm.named1 na)) ∧ Hid (Flow.Grow w wr)) (fun i _ => len - (intOf i).toNat)
    case atStart => exact ⟨0, by omega, rfl, Lib.hid rfl, Lib.hid (Flow.grow_refl _)⟩
    case round =>
      obtain ⟨k, hk, rfl, Hall, HG⟩ := hrel
      by_cases hkl : k < len
      · have hk' : k < l.length := by rw [← Hlen.out]; exact hkl
        obtain ⟨x, y, hxy⟩ : ∃ x y, l[k]? = some (x, y) := ⟨l[k].1, l[k].2, List.getElem?_eq_getElem hk'⟩
        have hgc := Xm.attrCells_get l k (x, y) hxy
        have k0 := Xm.cell_grow HG.out (o := off + k * 2) Hg.out |>.trans (Hcell.out _ _ hgc.1)
        have k1 := Xm.cell_grow HG.out (o := off + k * 2 + 1) Hg.out |>.trans (Hcell.out _ _ hgc.2)
        have Hcr := Lib.hid (Xm.cell_grow HG.out (o := 0) HA.out |>.trans Hc.out)
        have HAr : Hid (A < wr.heap.size) := Lib.hid (Nat.lt_of_lt_of_le HA.out HG.out.size)
        have Hs : Hid ((l.drop k).any (Xm.named1 na) = (Xm.named1 na (x, y) || (l.drop (k + 1)).any (Xm.named1 na))) := Lib.hid (by
          rw [List.drop_eq_getElem_cons hk', List.any_cons]
          have : l[k] = (x, y) := (List.getElem?_eq_some_iff.1 hxy).2
          rw [this])
        clear hgc hxy hk'
        cases hb : Xm.named1 na (x, y) with
        | false =>
          have Hs' : Hid (l.any (Xm.named1 na) = (l.drop (k + 1)).any (Xm.named1 na)) := Lib.hid (by rw [Hall.out, Hs.out, hb]; rfl)
          have Hb := Lib.hid hb
          clear hb
          go_wp2_with (go_at_call 87; refine (tag1_any _ _ _ _ _ HAr.out Hcr.out).mono ?_; rintro e w' ⟨rfl, hg1⟩; rw [Hb.out])
          go_roundw
          case rel => exact ⟨k + 1, by omega, by go_num, Hs', Lib.hid (HG.out.trans hg1)⟩
          case measure => simp [intOf]; omega
        | true =>
          have Hs' : Hid (l.any (Xm.named1 na) = true) := Lib.hid (by rw [Hall.out, Hs.out, hb]; rfl)
          have Hb := Lib.hid hb
          clear hb
          go_wp2_with (go_at_call 87; refine (tag1_any _ _ _ _ _ HAr.out Hcr.out).mono ?_; rintro e w' ⟨rfl, hg1⟩; rw [Hb.out])
          go_ret
          exact ⟨⟨k, rfl, by rw [Hs'.out]; simp⟩, HG.out.trans hg1⟩
      · have Hs' : Hid (l.any (Xm.named1 na) = false) := Lib.hid (by
          rw [Hall.out, List.drop_eq_nil_of_le (by have := Hlen.out; omega)]; rfl)
        go_wp2
        go_ret
        exact ⟨⟨-1, rfl, by rw [Hs'.out]; rfl⟩, HG.out⟩
set_option maxRecDepth 100000 in
set_option maxHeartbeats 400000 in
theorem containsAttr_any (v : Value) (l : List (ByteArray × ByteArray)) (na : ByteArray) (A : Nat) (w : World) (hv : Xm.AttrsAt w v l) (hA : A < w.heap.size) (hc : w.cell? ⟨A, 0, none⟩ = some (.string na)) :
    Calls Tryz.prog 55 #[v, .func (.func 87) #[] #[.pointer (some ⟨A, 0, none⟩)]] w fun e w' => e = .returned (.bool (l.any (Xm.named1 na))) ∧ Flow.Grow w w' := by
  have HV := Lib.hid hv
  have HA := Lib.hid hA
  have HC := Lib.hid hc
  clear hv hA hc
  go_enter Tryz.func55, Tryz.ntmps55
  go_wp2_with (go_at_call 80; refine (indexAttr_any _ _ _ _ _ HV.out HA.out HC.out).mono ?_; rintro e w' ⟨⟨k, rfl, hk⟩, hg⟩; have HK := Lib.hid hk; clear hk)
  go_ret
  exact ⟨ret_bool HK.out, hg⟩
end Go.Proofs.YtdpkhmfolmcejaaGreatDoor
namespace Go.Proofs.YtdpkhmfolmcejaaGreatDoor
open Go.RowKit
namespace Xm
def closeE : ByteArray := ⟨#[47, 62]⟩
def closeT : ByteArray := ⟨#[62]⟩
theorem openT_k (p : P3) (x : ByteArray) (a : Nat) : (openT p x a).k = p.k := by
  unfold openT wrong
  repeat' split
  all_goals rfl
theorem attrT_k (s : ByteArray) (p : P3) (h : p.k ≤ s.size) : (attrT s p).k ≤ s.size := by
  have h1 : (nameT s p).k ≤ s.size := by rw [nameT_k]; exact (nameEnd_bd s _ p.k rfl h).2
  have h2 := (skipT_bd s eqS _ h1).2
  unfold attrT attr2
  split
  · exact h2
  · split
    · exact h2
    · rename_i hq
      have hlt : (skipT s (nameT s p) eqS).k < s.size := by
        have : quoteAt s (skipT s (nameT s p) eqS).k = true := by simpa using hq
        simp only [quoteAt, Bool.and_eq_true, decide_eq_true_eq] at this
        exact this.1
      generalize skipT s (nameT s p) eqS = q at *
      have hf := farS_bd (s := s) (k := q.k + 1) (by omega) (s.extract q.k (q.k + 1))
      have hz : (s.extract q.k (q.k + 1)).size = 1 := by simp; omega
      rw [hz] at hf
      unfold valT
      split
      · show q.k + 1 ≤ s.size; omega
      · rename_i h0
        have := hf.2 (by omega)
        split
        · show q.k + 1 + _ + 1 ≤ s.size; omega
        · rw [openT_k]; show q.k + 1 + _ + 1 ≤ s.size; omega
/-- the attributes of a tag, and how it ends -/
def tagL : Nat → ByteArray → P3 → List (ByteArray × ByteArray) → Int × List (ByteArray × ByteArray) × P3
  | 0, _, st, l => (1, l, st)
  | n + 1, s, st, l =>
    if st.e ≠ 0 then (1, l, st)
    else if hasAt s (skip s st.k) closeE = true then (3, l, ⟨skip s st.k + 2, st.e, st.bad⟩)
    else if hasAt s (skip s st.k) closeT = true then (1, l, ⟨skip s st.k + 1, st.e, st.bad⟩)
    else if ¬ st.k < skip s st.k ∨ 16 ≤ l.length then (1, l, wrong ⟨skip s st.k, st.e, st.bad⟩ 3 (skip s st.k))
    else tagL n s (if l.any (named1 (nameS s (skip s st.k))) = true then wrong (attrT s ⟨skip s st.k, st.e, st.bad⟩) 7 (skip s st.k) else attrT s ⟨skip s st.k, st.e, st.bad⟩)
      (l ++ [(nameS s (skip s st.k), attrV s ⟨skip s st.k, st.e, st.bad⟩)])
def tagR (s : ByteArray) (p : P3) : Int × List (ByteArray × ByteArray) × P3 := tagL 17 s (nameT s p) []
/-- a piece as cells -/
def pieceA (k : Int) (nm : ByteArray) (va : Value) (tx : ByteArray) (a : Int) : Array Value := #[.int .i64 k, .string nm, va, .string tx, .int .i64 a]
/-- a value that holds no older block -/
def Fresh (w : World) (v : Value) : Prop := ∀ q, q < w.heap.size → v.ownBlock ≠ some q
def TagPost (w : World) (b : Nat) (s : ByteArray) (p : P3) (a : Int) (r : Ending) (w' : World) : Prop :=
  ∃ va, r = .returned (.agg (pieceA (tagR s p).1 (nameS s p.k) va ByteArray.empty a)) ∧ AttrsAt w' va (tagR s p).2.1 ∧ Fresh w va ∧ Scs w' b s (tagR s p).2.2 ∧ Mv w b w'
def Row5 (w : World) (q : Nat) (cs : Array Value) : Prop := w.heap[q]? = some (.cells cs 82 (0, 0))
theorem Row5.lt {w : World} {q : Nat} {cs : Array Value} (h : Row5 w q cs) : q < w.heap.size := (Array.getElem?_eq_some_iff.1 h).1
theorem Row5.mv {w w' : World} {b q : Nat} {cs : Array Value} (h : Row5 w q cs) (hm : Mv w b w') (hb : q ≠ b) : Row5 w' q cs := (hm.block' h.lt hb).trans h
theorem Row5.grow {w w' : World} {q : Nat} {cs : Array Value} (h : Row5 w q cs) (hm : Flow.Grow w w') : Row5 w' q cs := (hm.block q h.lt (by simp)).trans h
theorem Row5.other {w : World} {q b j : Nat} {v : Value} {cs : Array Value} (h : Row5 w q cs) (hb : q ≠ b) : Row5 (w.setCell ⟨b, j, none⟩ v) q cs := by
  unfold Row5; rw [Below.heap_setCell _ _ _ _ (by show q ≠ b; exact hb)]; exact h
theorem Row5.c2 {w : World} {q : Nat} {x0 x1 x2 x3 x4 : Value} (h : Row5 w q #[x0, x1, x2, x3, x4]) : w.cell? ⟨q, 2, none⟩ = some x2 := (cell_of_row w q 2 _ _ _ h).trans rfl
theorem Row5.set {w : World} {q : Nat} {cs : Array Value} (h : Row5 w q cs) (j : Nat) (v : Value) : Row5 (w.setCell ⟨q, j, none⟩ v) q (cs.setIfInBounds j v) := heap_setCell_same w q j _ _ v h
theorem Row5.c2' {w : World} {q : Nat} {x0 x1 x2 x3 x4 v : Value} (h : Row5 w q ((#[x0, x1, x2, x3, x4] : Array Value).setIfInBounds 2 v)) : w.cell? ⟨q, 2, none⟩ = some v := (cell_of_row w q 2 _ _ _ h).trans rfl
theorem Row5.row {w w' : World} {q : Nat} {cs : Array Value} {row : Option Nat} (h : Row5 w q cs) (k : w.grownBy w' row) (hr : row ≠ some q) : Row5 w' q cs := (k.block q h.lt (Ne.symm hr)).trans h
theorem Sc.row {w w' : World} {b : Nat} {s : ByteArray} {k e bad : Int} {row : Option Nat} (h : Sc w b s k e bad) (g : w.grownBy w' row) (hr : row ≠ some b) : Sc w' b s k e bad := by
  unfold Sc; rw [g.block b h.lt (Ne.symm hr)]; exact h
theorem Mv.row {w w1 w2 : World} {b : Nat} {row : Option Nat} (h : Mv w b w1) (k : w1.grownBy w2 row) (hr : ∀ g, row = some g → w.heap.size ≤ g) : Mv w b w2 :=
  ⟨k.os.trans h.os, k.tape.trans h.tape, k.output.trans h.output, Nat.le_trans h.size k.size, fun i hi hne => (k.block i (Nat.lt_of_lt_of_le hi h.size) (fun e => by have := hr i e.symm; omega)).trans (h.block i hi hne)⟩
def OwnA (w : World) (B : Nat) (v : Value) (l : List (ByteArray × ByteArray)) : Prop := w.ownsRow B 41 2 v l.length (attrCells l)
theorem OwnA.nil (w : World) (B : Nat) : OwnA w B (.slice none 0 0) [] := World.ownsRow_nil _ _ _ _
theorem OwnA.blk {w : World} {B : Nat} {v : Value} {l : List (ByteArray × ByteArray)} (h : OwnA w B v l) (q : Nat) (hq : q < B) : v.ownBlock ≠ some q := by
  rcases h.2 with ⟨rfl, _⟩ | ⟨g, cap, cur, rfl, hg, _⟩
  · simp [Value.ownBlock]
  · simp [Value.ownBlock]; omega
theorem OwnA.mv {w w' : World} {B b : Nat} {v : Value} {l : List (ByteArray × ByteArray)} (h : OwnA w B v l) (hm : Mv w b w') (hb : b < B) : OwnA w' B v l := World.ownsRow.kept h hm (.inr (h.blk b hb))
theorem OwnA.grow {w w' : World} {B : Nat} {v : Value} {l : List (ByteArray × ByteArray)} (h : OwnA w B v l) (hm : Flow.Grow w w') : OwnA w' B v l := World.ownsRow.kept h (row := none) hm (by cases v.ownBlock <;> simp)
theorem OwnA.set {w : World} {B q j : Nat} {v u : Value} {l : List (ByteArray × ByteArray)} (h : OwnA w B v l) (hb : q < B) : OwnA (w.setCell ⟨q, j, none⟩ u) B v l := h.mv Mv.set hb
theorem OwnA.at' {w : World} {B : Nat} {v : Value} {l : List (ByteArray × ByteArray)} (h : OwnA w B v l) : AttrsAt w v l := by
  rcases h.2 with ⟨hv, hn⟩ | ⟨g, cap, cur, hv, hg, hb, hnc, hcm, hcs, htake⟩
  · exact .inl ⟨by simpa using hv, List.eq_nil_of_length_eq_zero hn⟩
  · refine .inr ⟨g, 0, cap, hv, hnc, hcm, (Array.getElem?_eq_some_iff.1 hb).1, fun j u hu => ?_⟩
    have := World.ownsRow.cells h (g := g) (by rw [hv]; rfl) j u hu
    rw [Addr.add_lit, Nat.zero_add] at this
    rw [Nat.zero_add]; exact this
theorem OwnA.shape {w : World} {B : Nat} {v : Value} {l : List (ByteArray × ByteArray)} (h : OwnA w B v l) : ∃ ao cap, v = .slice ao l.length cap := by
  rcases h.2 with ⟨hv, hn⟩ | ⟨g, cap, cur, hv, _⟩
  · exact ⟨none, 0, by rw [hn]; simpa using hv⟩
  · exact ⟨_, cap, hv⟩
theorem AttrsAt.set {w : World} {v u : Value} {l : List (ByteArray × ByteArray)} {R j : Nat} (h : AttrsAt w v l) (hR : v.ownBlock ≠ some R) : AttrsAt (w.setCell ⟨R, j, none⟩ u) v l := by
  rcases h with h | ⟨g, off, cap, rfl, hlc, hcm, hg, hcell⟩
  · exact .inl h
  · refine .inr ⟨g, off, cap, rfl, hlc, hcm, by simpa [World.setCell] using hg, fun j' u' hu => ?_⟩
    have h1 := hcell j' u' hu
    have hne : g ≠ R := fun e => hR (by rw [e]; rfl)
    unfold World.cell? at h1 ⊢
    rw [Below.heap_setCell _ _ _ _ (by show g ≠ R; exact hne)]
    exact h1
theorem AttrsAt.shape {w : World} {v : Value} {l : List (ByteArray × ByteArray)} (h : AttrsAt w v l) : ∃ ao cap, v = .slice ao l.length cap := by
  rcases h with ⟨rfl, rfl⟩ | ⟨g, off, cap, rfl, _⟩
  · exact ⟨none, 0, rfl⟩
  · exact ⟨_, cap, rfl⟩
end Xm
theorem set5 {w : World} {R : Nat} {x0 x1 x2 x3 x4 : Value} (h : Xm.Row5 w R #[x0, x1, x2, x3, x4]) (a b c d e : Value) :
    Xm.Row5 (((((w.setCell ⟨R, 0, none⟩ a).setCell ⟨R, 1, none⟩ b).setCell ⟨R, 2, none⟩ c).setCell ⟨R, 3, none⟩ d).setCell ⟨R, 4, none⟩ e) R #[a, b, c, d, e] := by
  have h0 : Xm.Row5 (w.setCell ⟨R, 0, none⟩ a) R #[a, x1, x2, x3, x4] := h.set 0 a
  have h1 : Xm.Row5 ((w.setCell ⟨R, 0, none⟩ a).setCell ⟨R, 1, none⟩ b) R #[a, b, x2, x3, x4] := h0.set 1 b
  have h2 : Xm.Row5 (((w.setCell ⟨R, 0, none⟩ a).setCell ⟨R, 1, none⟩ b).setCell ⟨R, 2, none⟩ c) R #[a, b, c, x3, x4] := h1.set 2 c
  have h3 : Xm.Row5 ((((w.setCell ⟨R, 0, none⟩ a).setCell ⟨R, 1, none⟩ b).setCell ⟨R, 2, none⟩ c).setCell ⟨R, 3, none⟩ d) R #[a, b, c, d, x4] := h2.set 3 d
  exact h3.set 4 e
theorem tag_fin {w wr : World} {b R : Nat} {s nm : ByteArray} {p st : Xm.P3} {a K : Int} {B : Nat} {va v0 v1 v2 v3 v4 : Value} {l : List (ByteArray × ByteArray)} (hR0 : R < B) (hE : Xm.tagR s p = (K, l, st)) (hnm : nm = Xm.nameS s p.k)
    (hS : Xm.Scs wr b s st) (hO : Xm.OwnA wr B va l) (hM : Xm.Mv w b wr) (hb : b ≠ R) (hRw : w.heap.size ≤ R) :
    Xm.TagPost w b s p a (.returned (.agg #[.int .i64 K, .string nm, va, .string ByteArray.empty, .int .i64 a])) (((((wr.setCell ⟨R, 0, none⟩ v0).setCell ⟨R, 1, none⟩ v1).setCell ⟨R, 2, none⟩ v2).setCell ⟨R, 3, none⟩ v3).setCell ⟨R, 4, none⟩ v4) := by
  refine ⟨va, by rw [hE, hnm]; rfl, ?_, fun q hq => hO.blk q (by omega), ?_, ((((hM.setNew hRw).setNew hRw).setNew hRw).setNew hRw).setNew hRw⟩
  · rw [hE]; exact (((((hO.set hR0).set hR0).set hR0).set hR0).set hR0).at'
  · rw [hE]; exact Xm.Sc.other (Xm.Sc.other (Xm.Sc.other (Xm.Sc.other (Xm.Sc.other hS hb) hb) hb) hb) hb
theorem tag_res (tmps : Array Value) (w : World) (R : Nat) (cs : Array Value) (hp : tmps.getD 4 undef = .pointer (some ⟨R, 0, none⟩)) (hg : Xm.Row5 w R cs) (hc : cs.size = 5) :
    (results Tryz.f70 tmps).run Tryz.prog w = .ok (.agg cs) w :=
  results_cell_row (by kernel_rfl) tmps w R _ _ _ _ hp hg Tryz.underlying82 rfl (by rw [hc]; kernel_rfl)

theorem info_attr : (Tryz.prog.info? 41).map (fun i => (i.zero, i.size, i.bytes)) = some (some (.agg #[.string ByteArray.empty, .string ByteArray.empty]), 2, 32) := by kernel_rfl
set_option maxRecDepth 100000 in
set_option maxHeartbeats 8000000 in
theorem tag_T (b : Nat) (s : ByteArray) (p : Xm.P3) (a : Int) (w : World) (h : Xm.Scs w b s p) (hk : p.k ≤ s.size) (hs : s.size ≤ 900000000) (hT : Xm.Tab w) (hm : Xm.Max w) (hb1 : 1 < b) :
    Calls Tryz.prog 70 #[.pointer (some ⟨b, 0, none⟩), .agg #[.int .i64 0, .string ByteArray.empty, .slice none 0 0, .string ByteArray.empty, .int .i64 a]] w (Xm.TagPost w b s p a) := by
  have HS := Lib.hid h
  have HT := Lib.hid hT
  have HM := Lib.hid hm
  have hbw : b < w.heap.size := (h : Xm.Sc w b s p.k p.e p.bad).lt
  have Hbw := Lib.hid hbw
  obtain ⟨nm, hnm⟩ : ∃ nm, nm = Xm.nameS s p.k := ⟨_, rfl⟩
  obtain ⟨p1, hp1⟩ : ∃ p1, p1 = Xm.nameT s p := ⟨_, rfl⟩
  have hk1 : p1.k ≤ s.size := by rw [hp1, Xm.nameT_k]; exact (Xm.nameEnd_bd s _ p.k rfl hk).2
  have Hnm := Lib.hid hnm
  have Hp1 := Lib.hid hp1
  obtain ⟨i0, hi, hz0, hz1, hz2⟩ := info_parts info_attr
  have HR : Hid (Xm.tagR s p = Xm.tagL 17 s p1 []) := Lib.hid (by rw [Xm.tagR, hp1])
  clear h hT hm hbw hnm hp1
  go_enter Tryz.func70, Tryz.ntmps70
  go_upto_region 1 with fail
  have HS0 : Hid (Xm.Scs ((w.alloc (.cells #[.int .i64 0, .string ByteArray.empty, .slice none 0 0, .string ByteArray.empty, .int .i64 a] 82)).alloc (.cells #[.int .i64 0, .string ⟨#[]⟩, .slice none 0 0, .string ⟨#[]⟩, .int .i64 0] 82)) b s p) := Lib.hid (Xm.Sc.grow (Xm.Sc.grow HS.out (Flow.grow_alloc _ _)) (Flow.grow_alloc _ _))
  have HP0 : Hid (Xm.Row5 ((w.alloc (.cells #[.int .i64 0, .string ByteArray.empty, .slice none 0 0, .string ByteArray.empty, .int .i64 a] 82)).alloc (.cells #[.int .i64 0, .string ⟨#[]⟩, .slice none 0 0, .string ⟨#[]⟩, .int .i64 0] 82)) w.heap.size #[.int .i64 0, .string ByteArray.empty, .slice none 0 0, .string ByteArray.empty, .int .i64 a]) := Lib.hid (Xm.Row5.grow (heap_alloc_new _ _) (Flow.grow_alloc _ _))
  have HR0 : Hid (Xm.Row5 ((w.alloc (.cells #[.int .i64 0, .string ByteArray.empty, .slice none 0 0, .string ByteArray.empty, .int .i64 a] 82)).alloc (.cells #[.int .i64 0, .string ⟨#[]⟩, .slice none 0 0, .string ⟨#[]⟩, .int .i64 0] 82)) (w.heap.size + 1) #[.int .i64 0, .string ⟨#[]⟩, .slice none 0 0, .string ⟨#[]⟩, .int .i64 0]) := Lib.hid (by have := heap_alloc_new (w.alloc (.cells #[.int .i64 0, .string ByteArray.empty, .slice none 0 0, .string ByteArray.empty, .int .i64 a] 82)) (.cells #[.int .i64 0, .string ⟨#[]⟩, .slice none 0 0, .string ⟨#[]⟩, .int .i64 0] 82); simpa [Xm.Row5] using this)
  have HM0 : Hid (Xm.Mv w b ((w.alloc (.cells #[.int .i64 0, .string ByteArray.empty, .slice none 0 0, .string ByteArray.empty, .int .i64 a] 82)).alloc (.cells #[.int .i64 0, .string ⟨#[]⟩, .slice none 0 0, .string ⟨#[]⟩, .int .i64 0] 82))) := Lib.hid ((Xm.Mv.of b (Flow.grow_alloc _ _)).trans (Xm.Mv.of b (Flow.grow_alloc _ _)))
  have hBs : ((w.alloc (.cells #[.int .i64 0, .string ByteArray.empty, .slice none 0 0, .string ByteArray.empty, .int .i64 a] 82)).alloc (.cells #[.int .i64 0, .string ⟨#[]⟩, .slice none 0 0, .string ⟨#[]⟩, .int .i64 0] 82)).heap.size = w.heap.size + 2 := by simp
  have HBs := Lib.hid hBs
  clear hBs
  obtain ⟨B, hB⟩ : ∃ B, B = w.heap.size := ⟨_, rfl⟩
  rw [← hB] at HP0 HR0 HBs Hbw ⊢
  have HB := Lib.hid hB
  clear hB
  generalize (w.alloc (.cells #[.int .i64 0, .string ByteArray.empty, .slice none 0 0, .string ByteArray.empty, .int .i64 a] 82)).alloc (.cells #[.int .i64 0, .string ⟨#[]⟩, .slice none 0 0, .string ⟨#[]⟩, .int .i64 0] 82) = w0 at *
  have HbP := Lib.hid (show B ≠ b by have := Hbw.out; omega)
  have HbR := Lib.hid (show B + 1 ≠ b by have := Hbw.out; omega)
  go_upto_region 2 with (go_at_call 68; refine (sname_T _ _ _ _ HS0.out hk (by omega)).mono ?_; rintro e w1 ⟨rfl, hs1, hm1⟩; rw [← Hnm.out]; rw [← Hp1.out] at hs1; have HP1 := Lib.hid (HP0.out.mv hm1 HbP.out); have HR1 := Lib.hid (HR0.out.mv hm1 HbR.out); have p0 := (cell_of_row w1 B 0 _ _ _ HP1.out).trans rfl; have p1' := (cell_of_row w1 B 1 _ _ _ HP1.out).trans rfl; have pf0 : w1.frozen? ⟨B, 0, none⟩ = false := frozen_of_row w1 B _ _ _ HP1.out; have pf1 : w1.frozen? ⟨B, 1, none⟩ = false := frozen_of_row w1 B _ _ _ HP1.out)
  have hP2 : Xm.Row5 ((w1.setCell ⟨B, 0, none⟩ (.int .i64 1)).setCell ⟨B, 1, none⟩ (.string nm)) B #[.int .i64 1, .string nm, .slice none 0 0, .string ByteArray.empty, .int .i64 a] := (HP1.out.set 0 (.int .i64 1)).set 1 (.string nm)
  have hR2 : Xm.Row5 ((w1.setCell ⟨B, 0, none⟩ (.int .i64 1)).setCell ⟨B, 1, none⟩ (.string nm)) (B + 1) #[.int .i64 0, .string ⟨#[]⟩, .slice none 0 0, .string ⟨#[]⟩, .int .i64 0] := (HR1.out.other (by omega)).other (by omega)
  have hs2 : Xm.Scs ((w1.setCell ⟨B, 0, none⟩ (.int .i64 1)).setCell ⟨B, 1, none⟩ (.string nm)) b s p1 := Xm.Sc.other (Xm.Sc.other hs1 (Ne.symm HbP.out)) (Ne.symm HbP.out)
  have hm2 : Xm.Mv w b ((w1.setCell ⟨B, 0, none⟩ (.int .i64 1)).setCell ⟨B, 1, none⟩ (.string nm)) := ((HM0.out.trans hm1).setNew (Nat.le_of_eq HB.out.symm)).setNew (Nat.le_of_eq HB.out.symm)
  have hz2' : B + 2 ≤ ((w1.setCell ⟨B, 0, none⟩ (.int .i64 1)).setCell ⟨B, 1, none⟩ (.string nm)).heap.size := by
    have h1 := hm1.size
    have h2 := HBs.out
    have h3 := HB.out
    simp [World.setCell]; omega
  clear hs1 hm1 HP1 HR1 p0 p1' pf0 pf1 HP0 HR0 HS0 HM0
  generalize (w1.setCell ⟨B, 0, none⟩ (.int .i64 1)).setCell ⟨B, 1, none⟩ (.string nm) = w2 at *
  have HP2 := Lib.hid hP2
  have HR2 := Lib.hid hR2
  have HS2 := Lib.hid hs2
  have HM2 := Lib.hid hm2
  have HZ2 := Lib.hid hz2'
  clear hP2 hR2 hs2 hm2 hz2' HS
  have hv0 := HP2.out.c2
  go_loopw [16] (fun _ wr => ∃ (l : List (ByteArray × ByteArray)) (st : Xm.P3) (va : Value), l.length ≤ 16 ∧ st.k ≤ s.size ∧ wr.cell? ⟨B, 2, none⟩ = some va ∧ Hid (Xm.Scs wr b s st) ∧ Hid (Xm.Mv w b wr) ∧ Hid (Xm.Row5 wr B #[.int .i64 1, .string nm, va, .string ByteArray.empty, .int .i64 a]) ∧ Hid (Xm.Row5 wr (B + 1) #[.int .i64 0, .string ⟨#[]⟩, .slice none 0 0, .string ⟨#[]⟩, .int .i64 0]) ∧ Hid (Xm.OwnA wr (B + 2) va l) ∧ Hid (B + 2 ≤ wr.heap.size) ∧ Hid (Xm.tagR s p = Xm.tagL (17 - l.length) s st l)) (fun _ wr => match wr.cell? ⟨B, 2, none⟩ with | some (.slice _ n _) => 17 - n | _ => 0)
  case atStart => exact ⟨[], p1, _, by simp, hk1, hv0, HS2, HM2, HP2, HR2, Lib.hid (Xm.OwnA.nil _ _), HZ2, HR⟩
  case round =>
    obtain ⟨l, st, va, hl, hk, hv, HS, HMv, HP, HRr, HO, HZ, HT2⟩ := hrel
    rename World => wr
    obtain ⟨ao, cap, hva⟩ := HO.out.shape
    subst hva
    obtain ⟨k, e, bad⟩ := st
    have HbB := Lib.hid (show b < B + 2 by have := Hbw.out; omega)
    have HbP' := Lib.hid (Ne.symm HbP.out)
    have HbR' := Lib.hid (Ne.symm HbR.out)
    obtain ⟨n, hn⟩ : ∃ n, 17 - l.length = n + 1 := ⟨16 - l.length, by omega⟩
    have HT3 : Hid (Xm.tagR s p = Xm.tagL (n + 1) s ⟨k, e, bad⟩ l) := Lib.hid (by rw [HT2.out, hn])
    have Hn := Lib.hid hn
    have hk : k ≤ s.size := hk
    clear HT2 hn
    have HP3 := HP
    have HR3 := HRr
    have HO3 := HO
    have HM3 := HMv
    have HZ3 := HZ
    have HS3 : Hid (Xm.Sc wr b s k e bad) := HS
    have Hv := Lib.hid hv
    clear HP HRr HO HMv HZ HS hv
    have c2 := HS3.out.c.2.2.1
    by_cases he : e = 0
    rotate_left
    · have g : (e == 0) = false := by simpa using he
      have HE : Hid (Xm.tagR s p = (1, l, ⟨k, e, bad⟩)) := Lib.hid (by rw [HT3.out, Xm.tagL, if_pos he])
      clear he HT3
      have p0 := (cell_of_row wr B 0 _ _ _ HP3.out).trans rfl
      have p1 := (cell_of_row wr B 1 _ _ _ HP3.out).trans rfl
      have p2 := (cell_of_row wr B 2 _ _ _ HP3.out).trans rfl
      have p3 := (cell_of_row wr B 3 _ _ _ HP3.out).trans rfl
      have p4 := (cell_of_row wr B 4 _ _ _ HP3.out).trans rfl
      have r0 := (cell_of_row wr (B + 1) 0 _ _ _ HR3.out).trans rfl
      have rf0 : wr.frozen? ⟨B + 1, 0, none⟩ = false := frozen_of_row wr (B + 1) _ _ _ HR3.out
      have r1 := (cell_of_row wr (B + 1) 1 _ _ _ HR3.out).trans rfl
      have rf1 : wr.frozen? ⟨B + 1, 1, none⟩ = false := frozen_of_row wr (B + 1) _ _ _ HR3.out
      have r2 := (cell_of_row wr (B + 1) 2 _ _ _ HR3.out).trans rfl
      have rf2 : wr.frozen? ⟨B + 1, 2, none⟩ = false := frozen_of_row wr (B + 1) _ _ _ HR3.out
      have r3 := (cell_of_row wr (B + 1) 3 _ _ _ HR3.out).trans rfl
      have rf3 : wr.frozen? ⟨B + 1, 3, none⟩ = false := frozen_of_row wr (B + 1) _ _ _ HR3.out
      have r4 := (cell_of_row wr (B + 1) 4 _ _ _ HR3.out).trans rfl
      have rf4 : wr.frozen? ⟨B + 1, 4, none⟩ = false := frozen_of_row wr (B + 1) _ _ _ HR3.out
      have hne : ¬ B = B + 1 := by omega
      have hne' : ¬ B + 1 = B := by omega
      go_wp2
      (try simp only [Exit.inBlock, Exit.then])
      first
      | exact bodyPost_ret (tag_res _ _ (B + 1) _ rfl (set5 HR3.out _ _ _ _ _) rfl) rfl (tag_fin (B := B + 2) (R := B + 1) (by omega) HE.out Hnm.out HS3.out HO3.out HM3.out HbR'.out (by have := HB.out; omega))
      | exact bodyPost_end (tag_res _ _ (B + 1) _ rfl (set5 HR3.out _ _ _ _ _) rfl) rfl (tag_fin (B := B + 2) (R := B + 1) (by omega) HE.out Hnm.out HS3.out HO3.out HM3.out HbR'.out (by have := HB.out; omega))
    subst he
    clear c2
    obtain ⟨k1, hk1e⟩ : ∃ k1, k1 = Xm.skip s k := ⟨_, rfl⟩
    have hkk := Xm.skip_bd s _ k rfl hk
    rw [← hk1e] at hkk
    have Hk1 := Lib.hid hk1e
    clear hk1e
    have c2 := HS3.out.c.2.2.1
    go_upto_region 4 with (go_at_call 69; refine (blanks_any _ _ _ _ _ _ HS3.out hk (by omega)).mono ?_; rintro e w4 ⟨rfl, hs4, hm4⟩; rw [← Hk1.out] at hs4 ⊢)
    have HP4 := Lib.hid (HP3.out.mv hm4 HbP.out)
    have HR4 := Lib.hid (HR3.out.mv hm4 HbR.out)
    have HO4 := Lib.hid (HO3.out.mv hm4 HbB.out)
    have HM4 := Lib.hid (HM3.out.trans hm4)
    have HZ4 := Lib.hid (Nat.le_trans HZ3.out hm4.size)
    have HS4 := Lib.hid hs4
    clear HP3 HR3 HO3 HM3 HZ3 HS3
    clear hs4 hm4 c2
    cases hc1 : Xm.hasAt s k1 ⟨#[47, 62]⟩
    rotate_left
    · have hb2' : k1 + 2 ≤ s.size := Xm.hasAt_bd hkk.2 hc1
      have HC1 := Lib.hid hc1
      have HE : Hid (Xm.tagR s p = (3, l, ⟨k1 + 2, 0, bad⟩)) := Lib.hid (by rw [HT3.out, Xm.tagL, if_neg (by simp)]; simp only; rw [← Hk1.out, if_pos (show Xm.hasAt s k1 Xm.closeE = true from hc1)])
      clear hc1 HT3
      have c1 := HS4.out.c.2.1
      have f1 := HS4.out.c.2.2.2.2.1
      have p0 := (cell_of_row w4 B 0 _ _ _ HP4.out).trans rfl
      have pf0 : w4.frozen? ⟨B, 0, none⟩ = false := frozen_of_row w4 B _ _ _ HP4.out
      have hbB : ¬ B = b := HbP.out
      have hbB' : ¬ b = B := HbP'.out
      go_upto_region 7 with (go_at_call 66; refine (has_any _ _ _ _ _ _ _ HS4.out hkk.2 (by omega)).mono ?_; rintro e w5 ⟨rfl, m, rfl⟩; rw [HC1.out])
      have HS5 : Hid (Xm.Scs (((w4.drewN m).setCell ⟨b, 1, none⟩ (.int .i64 ((k1 : Int) + 2))).setCell ⟨B, 0, none⟩ (.int .i64 3)) b s ⟨k1 + 2, 0, bad⟩) := Lib.hid (Xm.Sc.other (Xm.Sc.at' (Xm.Sc.grow HS4.out (Flow.grow_drewN w4 m)) _) HbP'.out)
      have HP5 : Hid (Xm.Row5 (((w4.drewN m).setCell ⟨b, 1, none⟩ (.int .i64 ((k1 : Int) + 2))).setCell ⟨B, 0, none⟩ (.int .i64 3)) B #[.int .i64 3, .string nm, .slice ao l.length cap, .string ByteArray.empty, .int .i64 a]) := Lib.hid (((HP4.out.grow (Flow.grow_drewN w4 m)).other HbP.out).set 0 (.int .i64 3))
      have HR5 : Hid (Xm.Row5 (((w4.drewN m).setCell ⟨b, 1, none⟩ (.int .i64 ((k1 : Int) + 2))).setCell ⟨B, 0, none⟩ (.int .i64 3)) (B + 1) #[.int .i64 0, .string ⟨#[]⟩, .slice none 0 0, .string ⟨#[]⟩, .int .i64 0]) := Lib.hid (((HR4.out.grow (Flow.grow_drewN w4 m)).other HbR.out).other (by omega))
      have HO5 : Hid (Xm.OwnA (((w4.drewN m).setCell ⟨b, 1, none⟩ (.int .i64 ((k1 : Int) + 2))).setCell ⟨B, 0, none⟩ (.int .i64 3)) (B + 2) (.slice ao l.length cap) l) := Lib.hid (((HO4.out.grow (Flow.grow_drewN w4 m)).set HbB.out).set (by omega))
      have HM5 : Hid (Xm.Mv w b (((w4.drewN m).setCell ⟨b, 1, none⟩ (.int .i64 ((k1 : Int) + 2))).setCell ⟨B, 0, none⟩ (.int .i64 3))) := Lib.hid (((HM4.out.trans Xm.Mv.drew).trans Xm.Mv.set).setNew (Nat.le_of_eq HB.out.symm))
      clear c1 f1 p0 pf0 HP4 HR4 HO4 HM4 HZ4 HS4 hbB hbB'
      generalize ((w4.drewN m).setCell ⟨b, 1, none⟩ (.int .i64 ((k1 : Int) + 2))).setCell ⟨B, 0, none⟩ (.int .i64 3) = w6 at *
      have p0 := (cell_of_row w6 B 0 _ _ _ HP5.out).trans rfl
      have p1 := (cell_of_row w6 B 1 _ _ _ HP5.out).trans rfl
      have p2 := (cell_of_row w6 B 2 _ _ _ HP5.out).trans rfl
      have p3 := (cell_of_row w6 B 3 _ _ _ HP5.out).trans rfl
      have p4 := (cell_of_row w6 B 4 _ _ _ HP5.out).trans rfl
      have pf0 : w6.frozen? ⟨B, 0, none⟩ = false := frozen_of_row w6 B _ _ _ HP5.out
      have pf2 : w6.frozen? ⟨B, 2, none⟩ = false := frozen_of_row w6 B _ _ _ HP5.out
      have r0 := (cell_of_row w6 (B + 1) 0 _ _ _ HR5.out).trans rfl
      have rf0 : w6.frozen? ⟨B + 1, 0, none⟩ = false := frozen_of_row w6 (B + 1) _ _ _ HR5.out
      have r1 := (cell_of_row w6 (B + 1) 1 _ _ _ HR5.out).trans rfl
      have rf1 : w6.frozen? ⟨B + 1, 1, none⟩ = false := frozen_of_row w6 (B + 1) _ _ _ HR5.out
      have r2 := (cell_of_row w6 (B + 1) 2 _ _ _ HR5.out).trans rfl
      have rf2 : w6.frozen? ⟨B + 1, 2, none⟩ = false := frozen_of_row w6 (B + 1) _ _ _ HR5.out
      have r3 := (cell_of_row w6 (B + 1) 3 _ _ _ HR5.out).trans rfl
      have rf3 : w6.frozen? ⟨B + 1, 3, none⟩ = false := frozen_of_row w6 (B + 1) _ _ _ HR5.out
      have r4 := (cell_of_row w6 (B + 1) 4 _ _ _ HR5.out).trans rfl
      have rf4 : w6.frozen? ⟨B + 1, 4, none⟩ = false := frozen_of_row w6 (B + 1) _ _ _ HR5.out
      have hne : ¬ B = B + 1 := by omega
      have hne' : ¬ B + 1 = B := by omega
      go_wp2
      (try simp only [Exit.inBlock, Exit.then])
      exact bodyPost_ret (tag_res _ _ (B + 1) _ rfl (set5 HR5.out _ _ _ _ _) rfl) rfl (tag_fin (B := B + 2) (R := B + 1) (by omega) HE.out Hnm.out HS5.out HO5.out HM5.out HbR'.out (by have := HB.out; omega))
    have HC1 := Lib.hid hc1
    have HT4 : Hid (Xm.tagR s p = if Xm.hasAt s k1 ⟨#[62]⟩ = true then (1, l, ⟨k1 + 1, 0, bad⟩) else if ¬ k < k1 ∨ 16 ≤ l.length then (1, l, Xm.wrong ⟨k1, 0, bad⟩ 3 k1)
      else Xm.tagL n s (if l.any (Xm.named1 (Xm.nameS s k1)) = true then Xm.wrong (Xm.attrT s ⟨k1, 0, bad⟩) 7 k1 else Xm.attrT s ⟨k1, 0, bad⟩) (l ++ [(Xm.nameS s k1, Xm.attrV s ⟨k1, 0, bad⟩)])) := Lib.hid (by
      rw [HT3.out, Xm.tagL, if_neg (by simp)]
      simp only
      rw [← Hk1.out, if_neg (by rw [show Xm.hasAt s k1 Xm.closeE = false from hc1]; simp)]
      rfl)
    clear hc1 HT3
    go_upto_region 8 with (go_at_call 66; refine (has_any _ _ _ _ _ _ _ HS4.out hkk.2 (by omega)).mono ?_; rintro e w5 ⟨rfl, m, rfl⟩; rw [HC1.out])
    have HS5 : Hid (Xm.Sc (w4.drewN m) b s k1 0 bad) := Lib.hid (Xm.Sc.grow HS4.out (Flow.grow_drewN w4 m))
    have HP5 := Lib.hid (HP4.out.grow (Flow.grow_drewN w4 m))
    have HR5 := Lib.hid (HR4.out.grow (Flow.grow_drewN w4 m))
    have HO5 := Lib.hid (HO4.out.grow (Flow.grow_drewN w4 m))
    have HM5 := Lib.hid (HM4.out.trans (Xm.Mv.drew (n := m)))
    have HZ5 : Hid (B + 2 ≤ (w4.drewN m).heap.size) := Lib.hid (Nat.le_trans HZ4.out (Flow.grow_drewN w4 m).size)
    clear HP4 HR4 HO4 HM4 HZ4 HS4
    generalize w4.drewN m = w5 at *
    cases hc2 : Xm.hasAt s k1 ⟨#[62]⟩
    rotate_left
    · have hb2' : k1 + 1 ≤ s.size := Xm.hasAt_bd hkk.2 hc2
      have HC2 := Lib.hid hc2
      have HE : Hid (Xm.tagR s p = (1, l, ⟨k1 + 1, 0, bad⟩)) := Lib.hid (by rw [HT4.out, if_pos hc2])
      clear hc2 HT4
      have c1 := HS5.out.c.2.1
      have f1 := HS5.out.c.2.2.2.2.1
      go_upto_region 10 with (go_at_call 66; refine (has_any _ _ _ _ _ _ _ HS5.out hkk.2 (by omega)).mono ?_; rintro e w5 ⟨rfl, m, rfl⟩; rw [HC2.out])
      have HS6 : Hid (Xm.Scs ((w5.drewN m).setCell ⟨b, 1, none⟩ (.int .i64 ((k1 : Int) + 1))) b s ⟨k1 + 1, 0, bad⟩) := Lib.hid (Xm.Sc.at' (Xm.Sc.grow HS5.out (Flow.grow_drewN w5 m)) _)
      have HP6 := Lib.hid ((HP5.out.grow (Flow.grow_drewN w5 m)).other (j := 1) (v := .int .i64 ((k1 : Int) + 1)) HbP.out)
      have HR6 := Lib.hid ((HR5.out.grow (Flow.grow_drewN w5 m)).other (j := 1) (v := .int .i64 ((k1 : Int) + 1)) HbR.out)
      have HO6 := Lib.hid ((HO5.out.grow (Flow.grow_drewN w5 m)).set (j := 1) (u := .int .i64 ((k1 : Int) + 1)) HbB.out)
      have HM6 : Hid (Xm.Mv w b ((w5.drewN m).setCell ⟨b, 1, none⟩ (.int .i64 ((k1 : Int) + 1)))) := Lib.hid ((HM5.out.trans Xm.Mv.drew).trans Xm.Mv.set)
      clear c1 f1 HP5 HR5 HO5 HM5 HZ5 HS5
      generalize (w5.drewN m).setCell ⟨b, 1, none⟩ (.int .i64 ((k1 : Int) + 1)) = w6 at *
      have p0 := (cell_of_row w6 B 0 _ _ _ HP6.out).trans rfl
      have p1 := (cell_of_row w6 B 1 _ _ _ HP6.out).trans rfl
      have p2 := (cell_of_row w6 B 2 _ _ _ HP6.out).trans rfl
      have p3 := (cell_of_row w6 B 3 _ _ _ HP6.out).trans rfl
      have p4 := (cell_of_row w6 B 4 _ _ _ HP6.out).trans rfl
      have r0 := (cell_of_row w6 (B + 1) 0 _ _ _ HR6.out).trans rfl
      have rf0 : w6.frozen? ⟨B + 1, 0, none⟩ = false := frozen_of_row w6 (B + 1) _ _ _ HR6.out
      have r1 := (cell_of_row w6 (B + 1) 1 _ _ _ HR6.out).trans rfl
      have rf1 : w6.frozen? ⟨B + 1, 1, none⟩ = false := frozen_of_row w6 (B + 1) _ _ _ HR6.out
      have r2 := (cell_of_row w6 (B + 1) 2 _ _ _ HR6.out).trans rfl
      have rf2 : w6.frozen? ⟨B + 1, 2, none⟩ = false := frozen_of_row w6 (B + 1) _ _ _ HR6.out
      have r3 := (cell_of_row w6 (B + 1) 3 _ _ _ HR6.out).trans rfl
      have rf3 : w6.frozen? ⟨B + 1, 3, none⟩ = false := frozen_of_row w6 (B + 1) _ _ _ HR6.out
      have r4 := (cell_of_row w6 (B + 1) 4 _ _ _ HR6.out).trans rfl
      have rf4 : w6.frozen? ⟨B + 1, 4, none⟩ = false := frozen_of_row w6 (B + 1) _ _ _ HR6.out
      have hne : ¬ B = B + 1 := by omega
      have hne' : ¬ B + 1 = B := by omega
      go_wp2
      (try simp only [Exit.inBlock, Exit.then])
      exact bodyPost_ret (tag_res _ _ (B + 1) _ rfl (set5 HR6.out _ _ _ _ _) rfl) rfl (tag_fin (B := B + 2) (R := B + 1) (by omega) HE.out Hnm.out HS6.out HO6.out HM6.out HbR'.out (by have := HB.out; omega))
    have HC2 := Lib.hid hc2
    have HT5 : Hid (Xm.tagR s p = if ¬ k < k1 ∨ 16 ≤ l.length then (1, l, Xm.wrong ⟨k1, 0, bad⟩ 3 k1)
      else Xm.tagL n s (if l.any (Xm.named1 (Xm.nameS s k1)) = true then Xm.wrong (Xm.attrT s ⟨k1, 0, bad⟩) 7 k1 else Xm.attrT s ⟨k1, 0, bad⟩) (l ++ [(Xm.nameS s k1, Xm.attrV s ⟨k1, 0, bad⟩)])) := Lib.hid (by
      rw [HT4.out, if_neg (by rw [hc2]; simp)])
    clear hc2 HT4
    go_upto_region 11 with (go_at_call 66; refine (has_any _ _ _ _ _ _ _ HS5.out hkk.2 (by omega)).mono ?_; rintro e w5 ⟨rfl, m, rfl⟩; rw [HC2.out])
    have HS6 : Hid (Xm.Sc (w5.drewN m) b s k1 0 bad) := Lib.hid (Xm.Sc.grow HS5.out (Flow.grow_drewN w5 m))
    have HP6 := Lib.hid (HP5.out.grow (Flow.grow_drewN w5 m))
    have HR6 := Lib.hid (HR5.out.grow (Flow.grow_drewN w5 m))
    have HO6 := Lib.hid (HO5.out.grow (Flow.grow_drewN w5 m))
    have HM6 := Lib.hid (HM5.out.trans (Xm.Mv.drew (n := m)))
    have HZ6 : Hid (B + 2 ≤ (w5.drewN m).heap.size) := Lib.hid (Nat.le_trans HZ5.out (Flow.grow_drewN w5 m).size)
    clear HP5 HR5 HO5 HM5 HZ5 HS5
    generalize w5.drewN m = w6 at *
    by_cases hgap : k < k1
    rotate_left
    · have HE : Hid (Xm.tagR s p = (1, l, Xm.wrong ⟨k1, 0, bad⟩ 3 k1)) := Lib.hid (by rw [HT5.out, if_pos (.inl hgap)])
      clear HT5
      have c1 := HS6.out.c.2.1
      go_upto_region 13 with (go_at_call 31; refine (wrong_any _ _ _ _ _ 3 _ _ HS6.out (by decide)).mono ?_; rintro e w7 ⟨rfl, hs7, hm7⟩)
      have HP7 := Lib.hid (HP6.out.mv hm7 HbP.out)
      have HR7 := Lib.hid (HR6.out.mv hm7 HbR.out)
      have HO7 := Lib.hid (HO6.out.mv hm7 HbB.out)
      have HM7 := Lib.hid (HM6.out.trans hm7)
      have HS7 : Hid (Xm.Scs w7 b s (Xm.wrong ⟨k1, 0, bad⟩ 3 k1)) := Lib.hid hs7
      clear hs7 hm7 c1 HP6 HR6 HO6 HM6 HZ6 HS6
      have p0 := (cell_of_row w7 B 0 _ _ _ HP7.out).trans rfl
      have p1 := (cell_of_row w7 B 1 _ _ _ HP7.out).trans rfl
      have p2 := (cell_of_row w7 B 2 _ _ _ HP7.out).trans rfl
      have p3 := (cell_of_row w7 B 3 _ _ _ HP7.out).trans rfl
      have p4 := (cell_of_row w7 B 4 _ _ _ HP7.out).trans rfl
      have r0 := (cell_of_row w7 (B + 1) 0 _ _ _ HR7.out).trans rfl
      have rf0 : w7.frozen? ⟨B + 1, 0, none⟩ = false := frozen_of_row w7 (B + 1) _ _ _ HR7.out
      have r1 := (cell_of_row w7 (B + 1) 1 _ _ _ HR7.out).trans rfl
      have rf1 : w7.frozen? ⟨B + 1, 1, none⟩ = false := frozen_of_row w7 (B + 1) _ _ _ HR7.out
      have r2 := (cell_of_row w7 (B + 1) 2 _ _ _ HR7.out).trans rfl
      have rf2 : w7.frozen? ⟨B + 1, 2, none⟩ = false := frozen_of_row w7 (B + 1) _ _ _ HR7.out
      have r3 := (cell_of_row w7 (B + 1) 3 _ _ _ HR7.out).trans rfl
      have rf3 : w7.frozen? ⟨B + 1, 3, none⟩ = false := frozen_of_row w7 (B + 1) _ _ _ HR7.out
      have r4 := (cell_of_row w7 (B + 1) 4 _ _ _ HR7.out).trans rfl
      have rf4 : w7.frozen? ⟨B + 1, 4, none⟩ = false := frozen_of_row w7 (B + 1) _ _ _ HR7.out
      have hne : ¬ B = B + 1 := by omega
      have hne' : ¬ B + 1 = B := by omega
      go_wp2
      (try simp only [Exit.inBlock, Exit.then])
      exact bodyPost_ret (tag_res _ _ (B + 1) _ rfl (set5 HR7.out _ _ _ _ _) rfl) rfl (tag_fin (B := B + 2) (R := B + 1) (by omega) HE.out Hnm.out HS7.out HO7.out HM7.out HbR'.out (by have := HB.out; omega))
    by_cases hl16 : 16 ≤ l.length
    · have HE : Hid (Xm.tagR s p = (1, l, Xm.wrong ⟨k1, 0, bad⟩ 3 k1)) := Lib.hid (by rw [HT5.out, if_pos (.inr hl16)])
      have hd16 : (16 : Int) ≤ (l.length : Int) := by omega
      clear HT5
      have c1 := HS6.out.c.2.1
      have q2 := HP6.out.c2
      go_upto_region 13 with (go_at_call 31; refine (wrong_any _ _ _ _ _ 3 _ _ HS6.out (by decide)).mono ?_; rintro e w7 ⟨rfl, hs7, hm7⟩)
      have HP7 := Lib.hid (HP6.out.mv hm7 HbP.out)
      have HR7 := Lib.hid (HR6.out.mv hm7 HbR.out)
      have HO7 := Lib.hid (HO6.out.mv hm7 HbB.out)
      have HM7 := Lib.hid (HM6.out.trans hm7)
      have HS7 : Hid (Xm.Scs w7 b s (Xm.wrong ⟨k1, 0, bad⟩ 3 k1)) := Lib.hid hs7
      clear hs7 hm7 c1 HP6 HR6 HO6 HM6 HZ6 HS6 q2
      have p0 := (cell_of_row w7 B 0 _ _ _ HP7.out).trans rfl
      have p1 := (cell_of_row w7 B 1 _ _ _ HP7.out).trans rfl
      have p2 := (cell_of_row w7 B 2 _ _ _ HP7.out).trans rfl
      have p3 := (cell_of_row w7 B 3 _ _ _ HP7.out).trans rfl
      have p4 := (cell_of_row w7 B 4 _ _ _ HP7.out).trans rfl
      have r0 := (cell_of_row w7 (B + 1) 0 _ _ _ HR7.out).trans rfl
      have rf0 : w7.frozen? ⟨B + 1, 0, none⟩ = false := frozen_of_row w7 (B + 1) _ _ _ HR7.out
      have r1 := (cell_of_row w7 (B + 1) 1 _ _ _ HR7.out).trans rfl
      have rf1 : w7.frozen? ⟨B + 1, 1, none⟩ = false := frozen_of_row w7 (B + 1) _ _ _ HR7.out
      have r2 := (cell_of_row w7 (B + 1) 2 _ _ _ HR7.out).trans rfl
      have rf2 : w7.frozen? ⟨B + 1, 2, none⟩ = false := frozen_of_row w7 (B + 1) _ _ _ HR7.out
      have r3 := (cell_of_row w7 (B + 1) 3 _ _ _ HR7.out).trans rfl
      have rf3 : w7.frozen? ⟨B + 1, 3, none⟩ = false := frozen_of_row w7 (B + 1) _ _ _ HR7.out
      have r4 := (cell_of_row w7 (B + 1) 4 _ _ _ HR7.out).trans rfl
      have rf4 : w7.frozen? ⟨B + 1, 4, none⟩ = false := frozen_of_row w7 (B + 1) _ _ _ HR7.out
      have hne : ¬ B = B + 1 := by omega
      have hne' : ¬ B + 1 = B := by omega
      go_wp2
      (try simp only [Exit.inBlock, Exit.then])
      exact bodyPost_ret (tag_res _ _ (B + 1) _ rfl (set5 HR7.out _ _ _ _ _) rfl) rfl (tag_fin (B := B + 2) (R := B + 1) (by omega) HE.out Hnm.out HS7.out HO7.out HM7.out HbR'.out (by have := HB.out; omega))
    have HT6 : Hid (Xm.tagR s p = Xm.tagL n s (if l.any (Xm.named1 (Xm.nameS s k1)) = true then Xm.wrong (Xm.attrT s ⟨k1, 0, bad⟩) 7 k1 else Xm.attrT s ⟨k1, 0, bad⟩) (l ++ [(Xm.nameS s k1, Xm.attrV s ⟨k1, 0, bad⟩)])) := Lib.hid (by rw [HT5.out, if_neg (by omega)])
    clear HT5
    have hd16 : ¬ (16 : Int) ≤ (l.length : Int) := by omega
    have c1 := HS6.out.c.2.1
    have q2 := HP6.out.c2
    have hTb : Xm.Tab w6 := HT.out.mv HM6.out hb1
    have hMb : Xm.Max w6 := HM.out.mv HM6.out hb1
    have HTb := Lib.hid hTb
    have HMb := Lib.hid hMb
    clear hTb hMb
    have hk1' : k1 ≤ s.size := hkk.2
    have HS6' : Hid (Xm.Scs w6 b s ⟨k1, 0, bad⟩) := Lib.hid HS6.out
    go_upto_region 16 with (go_at_call 86; refine (attr_T b s ⟨k1, 0, bad⟩ w6 HS6'.out hk1' hs HTb.out HMb.out hb1).mono ?_; rintro e w7 ⟨rfl, hs7, hm7⟩)
    have hA8 : (w7.alloc (.cells #[.string (Xm.nameS s k1), .string (Xm.attrV s ⟨k1, 0, bad⟩)] 41)).heap[w7.heap.size]? = some (.cells #[.string (Xm.nameS s k1), .string (Xm.attrV s ⟨k1, 0, bad⟩)] 41 (0, 0)) := heap_alloc_new _ _
    have HP8 := Lib.hid ((HP6.out.mv hm7 HbP.out).grow (Flow.grow_alloc w7 (.cells #[.string (Xm.nameS s k1), .string (Xm.attrV s ⟨k1, 0, bad⟩)] 41)))
    have HR8 := Lib.hid ((HR6.out.mv hm7 HbR.out).grow (Flow.grow_alloc w7 (.cells #[.string (Xm.nameS s k1), .string (Xm.attrV s ⟨k1, 0, bad⟩)] 41)))
    have HO8 := Lib.hid ((HO6.out.mv hm7 HbB.out).grow (Flow.grow_alloc w7 (.cells #[.string (Xm.nameS s k1), .string (Xm.attrV s ⟨k1, 0, bad⟩)] 41)))
    have HM8 : Hid (Xm.Mv w b (w7.alloc (.cells #[.string (Xm.nameS s k1), .string (Xm.attrV s ⟨k1, 0, bad⟩)] 41))) := Lib.hid ((HM6.out.trans hm7).alloc _)
    have HZ8 : Hid (B + 2 ≤ (w7.alloc (.cells #[.string (Xm.nameS s k1), .string (Xm.attrV s ⟨k1, 0, bad⟩)] 41)).heap.size) := Lib.hid (Nat.le_trans (Nat.le_trans HZ6.out hm7.size) (Flow.grow_alloc w7 _).size)
    have HS8 : Hid (Xm.Scs (w7.alloc (.cells #[.string (Xm.nameS s k1), .string (Xm.attrV s ⟨k1, 0, bad⟩)] 41)) b s (Xm.attrT s ⟨k1, 0, bad⟩)) := Lib.hid (Xm.Sc.grow hs7 (Flow.grow_alloc _ _))
    have hAB : B + 2 ≤ w7.heap.size := Nat.le_trans HZ6.out hm7.size
    have HAB := Lib.hid hAB
    have HA8 := Lib.hid hA8
    obtain ⟨A, hA⟩ : ∃ A, A = w7.heap.size := ⟨_, rfl⟩
    rw [← hA] at HA8 HAB ⊢
    clear hA hA8 hAB hs7 hm7 c1 q2 HP6 HR6 HO6 HM6 HZ6 HS6 HS6' HTb HMb
    have hkt0 : (Xm.attrT s ⟨k1, 0, bad⟩).k ≤ s.size := Xm.attrT_k s _ hk1'
    generalize w7.alloc (.cells #[.string (Xm.nameS s k1), .string (Xm.attrV s ⟨k1, 0, bad⟩)] 41) = w8 at *
    generalize Xm.nameS s k1 = nm2 at *
    generalize Xm.attrV s ⟨k1, 0, bad⟩ = av at *
    generalize Xm.attrT s ⟨k1, 0, bad⟩ = st1 at *
    have hkt : st1.k ≤ s.size := hkt0
    clear hkt0
    have q2 := HP8.out.c2
    have hAlt : A < w8.heap.size := (Array.getElem?_eq_some_iff.1 HA8.out).1
    have HAlt := Lib.hid hAlt
    have Ha0 : Hid (w8.cell? ⟨A, 0, none⟩ = some (.string nm2)) := Lib.hid ((cell_of_row w8 A 0 _ _ _ HA8.out).trans rfl)
    have HAT := Lib.hid HO8.out.at'
    clear hAlt
    have HAne := Lib.hid (show A ≠ b by have := HAB.out; have := Hbw.out; omega)
    cases hany : l.any (Xm.named1 nm2)
    · have HN := Lib.hid hany
      have HT7 : Hid (Xm.tagR s p = Xm.tagL n s st1 (l ++ [(nm2, av)])) := Lib.hid (by rw [HT6.out, hany]; rfl)
      clear hany
      go_upto_region 18 with (go_at_call 55; refine (containsAttr_any _ l nm2 A w8 HAT.out HAlt.out Ha0.out).mono ?_; rintro e w9 ⟨rfl, hg9⟩; rw [HN.out])
      have HP10 := Lib.hid (HP8.out.grow hg9)
      have HR10 := Lib.hid (HR8.out.grow hg9)
      have HO10 := Lib.hid (HO8.out.grow hg9)
      have HM10 := Lib.hid (HM8.out.trans (Xm.Mv.of b hg9))
      have HZ10 := Lib.hid (Nat.le_trans HZ8.out hg9.size)
      have HS10 : Hid (Xm.Scs w9 b s st1) := Lib.hid (Xm.Sc.grow HS8.out hg9)
      have HA10 := Lib.hid ((hg9.block A HAlt.out (by simp)).trans HA8.out)
      clear hg9 q2 HP8 HR8 HO8 HM8 HZ8 HS8 HA8
      have q2 := HP10.out.c2
      have a0 := (cell_of_row w9 A 0 _ _ _ HA10.out).trans rfl
      have a1 := (cell_of_row w9 A 1 _ _ _ HA10.out).trans rfl
      have hown : w9.ownsRow (B + 2) 41 2 (.slice ao l.length cap) l.length (Xm.attrCells l) := HO10.out
      have Hown := Lib.hid hown
      clear hown
      go_wp2_with (at_builtin; refine wpList_append_own _ rfl _ _ 22 rfl (B + 2) 41 i0 (.agg #[.string ByteArray.empty, .string ByteArray.empty]) 2 32 Tryz.underlying22 hi hz0 hz1 hz2 rfl (by decide) _ _ _ rfl (Hown.out.alloc _) ⟨w9.heap.size, 0, none⟩ 1 1 [.string nm2, .string av] rfl rfl ?c1a ?c2a ?c3a ?c4a ?c5a ?_)
      case c1a =>
        intro j u hj
        match j, hj with
        | 0, hj => simp at hj; subst hj; simp [Addr.add]
        | 1, hj => simp at hj; subst hj; simp [Addr.add]
      case c2a => intro u hu; simp at hu; rcases hu with rfl | rfl <;> rfl
      case c3a => unfold maxLen; omega
      case c4a => omega
      case c5a => have := HZ10.out; simp; omega
      intro v' w11 hown' hgrow _
      have hrow : ∀ q, q < B + 2 → (Value.slice ao l.length cap).ownBlock ≠ some q := fun q hq => HO10.out.blk q hq
      have HP11 : Hid (Xm.Row5 w11 B #[.int .i64 1, .string nm, .slice ao l.length cap, .string ByteArray.empty, .int .i64 a]) := Lib.hid ((HP10.out.grow (Flow.grow_alloc _ _)).row hgrow (hrow B (by omega)))
      have HR11 : Hid (Xm.Row5 w11 (B + 1) _) := Lib.hid ((HR10.out.grow (Flow.grow_alloc _ _)).row hgrow (hrow (B + 1) (by omega)))
      have HS11 : Hid (Xm.Scs w11 b s st1) := Lib.hid (Xm.Sc.row (Xm.Sc.grow HS10.out (Flow.grow_alloc _ _)) hgrow (hrow b HbB.out))
      have HM11 : Hid (Xm.Mv w b w11) := Lib.hid ((HM10.out.alloc _).row hgrow (fun q hq => by have := HB.out; have h1 := hrow q; rw [hq] at h1; have h2 : ¬ q < B + 2 := fun h => h1 h rfl; omega))
      have HZ11 : Hid (B + 2 ≤ w11.heap.size) := Lib.hid (by have h1 := HZ10.out; have h2 := hgrow.size; simp at h2; omega)
      have HO11 : Hid (Xm.OwnA w11 (B + 2) v' (l ++ [(nm2, av)])) := Lib.hid (by
        unfold Xm.OwnA
        rw [Xm.attrCells_append, List.length_append]
        exact hown')
      obtain ⟨ao', cap', hv'⟩ := HO11.out.shape
      rw [List.length_append, List.length_singleton] at hv'
      subst hv'
      have q2' := HP11.out.c2
      have qf2 : w11.frozen? ⟨B, 2, none⟩ = false := frozen_of_row w11 B _ _ _ HP11.out
      clear hgrow hrow hown' q2 a0 a1 Hown HP10 HR10 HO10 HM10 HZ10 HS10 HA10
      go_wp2
      have hP12 := HP11.out.set 2 (.slice ao' (l.length + 1) cap')
      go_roundw
      case rel =>
        refine ⟨l ++ [(nm2, av)], st1, .slice ao' (l.length + 1) cap', by rw [List.length_append, List.length_singleton]; omega, hkt, hP12.c2', Lib.hid (Xm.Sc.other HS11.out HbP'.out), Lib.hid (HM11.out.setNew (Nat.le_of_eq HB.out.symm)), Lib.hid hP12, Lib.hid (HR11.out.other (by omega)), Lib.hid (HO11.out.set (by omega)), Lib.hid (by have := HZ11.out; simpa [World.setCell] using this), Lib.hid ?_⟩
        rw [HT7.out, List.length_append, List.length_singleton, show 17 - (l.length + 1) = n by have := Hn.out; omega]
      case measure => simp only [hP12.c2', Hv.out]; omega
    · have HN := Lib.hid hany
      have HT7 : Hid (Xm.tagR s p = Xm.tagL n s (Xm.wrong st1 7 k1) (l ++ [(nm2, av)])) := Lib.hid (by rw [HT6.out, hany]; rfl)
      have hkt2 : (Xm.wrong st1 7 k1).k ≤ s.size := hkt
      clear hany
      go_upto_region 18 with (first | (go_at_call 55; refine (containsAttr_any _ l nm2 A w8 HAT.out HAlt.out Ha0.out).mono ?_; rintro e w9 ⟨rfl, hg9⟩; rw [HN.out]) | (go_at_call 31; refine (wrong_any _ _ _ _ _ 7 _ _ (Xm.Sc.grow HS8.out hg9) (by decide)).mono ?_; rintro e w10 ⟨rfl, hs10, hm10⟩))
      have HP10 := Lib.hid ((HP8.out.grow hg9).mv hm10 HbP.out)
      have HR10 := Lib.hid ((HR8.out.grow hg9).mv hm10 HbR.out)
      have HO10 := Lib.hid ((HO8.out.grow hg9).mv hm10 HbB.out)
      have HM10 := Lib.hid ((HM8.out.trans (Xm.Mv.of b hg9)).trans hm10)
      have HZ10 := Lib.hid (Nat.le_trans (Nat.le_trans HZ8.out hg9.size) hm10.size)
      have HS10 : Hid (Xm.Scs w10 b s (Xm.wrong st1 7 k1)) := Lib.hid hs10
      have HA10 := Lib.hid ((hm10.block' (Nat.lt_of_lt_of_le HAlt.out hg9.size) HAne.out).trans ((hg9.block A HAlt.out (by simp)).trans HA8.out))
      clear hg9 hs10 hm10 q2 HP8 HR8 HO8 HM8 HZ8 HS8 HA8
      have q2 := HP10.out.c2
      have a0 := (cell_of_row w10 A 0 _ _ _ HA10.out).trans rfl
      have a1 := (cell_of_row w10 A 1 _ _ _ HA10.out).trans rfl
      have hown : w10.ownsRow (B + 2) 41 2 (.slice ao l.length cap) l.length (Xm.attrCells l) := HO10.out
      have Hown := Lib.hid hown
      clear hown
      go_wp2_with (at_builtin; refine wpList_append_own _ rfl _ _ 22 rfl (B + 2) 41 i0 (.agg #[.string ByteArray.empty, .string ByteArray.empty]) 2 32 Tryz.underlying22 hi hz0 hz1 hz2 rfl (by decide) _ _ _ rfl (Hown.out.alloc _) ⟨w10.heap.size, 0, none⟩ 1 1 [.string nm2, .string av] rfl rfl ?c1b ?c2b ?c3b ?c4b ?c5b ?_)
      case c1b =>
        intro j u hj
        match j, hj with
        | 0, hj => simp at hj; subst hj; simp [Addr.add]
        | 1, hj => simp at hj; subst hj; simp [Addr.add]
      case c2b => intro u hu; simp at hu; rcases hu with rfl | rfl <;> rfl
      case c3b => unfold maxLen; omega
      case c4b => omega
      case c5b => have := HZ10.out; simp; omega
      intro v' w11 hown' hgrow _
      have hrow : ∀ q, q < B + 2 → (Value.slice ao l.length cap).ownBlock ≠ some q := fun q hq => HO10.out.blk q hq
      have HP11 : Hid (Xm.Row5 w11 B #[.int .i64 1, .string nm, .slice ao l.length cap, .string ByteArray.empty, .int .i64 a]) := Lib.hid ((HP10.out.grow (Flow.grow_alloc _ _)).row hgrow (hrow B (by omega)))
      have HR11 : Hid (Xm.Row5 w11 (B + 1) _) := Lib.hid ((HR10.out.grow (Flow.grow_alloc _ _)).row hgrow (hrow (B + 1) (by omega)))
      have HS11 : Hid (Xm.Scs w11 b s (Xm.wrong st1 7 k1)) := Lib.hid (Xm.Sc.row (Xm.Sc.grow HS10.out (Flow.grow_alloc _ _)) hgrow (hrow b HbB.out))
      have HM11 : Hid (Xm.Mv w b w11) := Lib.hid ((HM10.out.alloc _).row hgrow (fun q hq => by have := HB.out; have h1 := hrow q; rw [hq] at h1; have h2 : ¬ q < B + 2 := fun h => h1 h rfl; omega))
      have HZ11 : Hid (B + 2 ≤ w11.heap.size) := Lib.hid (by have h1 := HZ10.out; have h2 := hgrow.size; simp at h2; omega)
      have HO11 : Hid (Xm.OwnA w11 (B + 2) v' (l ++ [(nm2, av)])) := Lib.hid (by
        unfold Xm.OwnA
        rw [Xm.attrCells_append, List.length_append]
        exact hown')
      obtain ⟨ao', cap', hv'⟩ := HO11.out.shape
      rw [List.length_append, List.length_singleton] at hv'
      subst hv'
      have q2' := HP11.out.c2
      have qf2 : w11.frozen? ⟨B, 2, none⟩ = false := frozen_of_row w11 B _ _ _ HP11.out
      clear hgrow hrow hown' q2 a0 a1 Hown HP10 HR10 HO10 HM10 HZ10 HS10 HA10
      go_wp2
      have hP12 := HP11.out.set 2 (.slice ao' (l.length + 1) cap')
      go_roundw
      case rel =>
        refine ⟨l ++ [(nm2, av)], (Xm.wrong st1 7 k1), .slice ao' (l.length + 1) cap', by rw [List.length_append, List.length_singleton]; omega, hkt2, hP12.c2', Lib.hid (Xm.Sc.other HS11.out HbP'.out), Lib.hid (HM11.out.setNew (Nat.le_of_eq HB.out.symm)), Lib.hid hP12, Lib.hid (HR11.out.other (by omega)), Lib.hid (HO11.out.set (by omega)), Lib.hid (by have := HZ11.out; simpa [World.setCell] using this), Lib.hid ?_⟩
        rw [HT7.out, List.length_append, List.length_singleton, show 17 - (l.length + 1) = n by have := Hn.out; omega]
      case measure => simp only [hP12.c2', Hv.out]; omega
end Go.Proofs.YtdpkhmfolmcejaaGreatDoor

/- galliardlaw04.ScanAny: the walk. -/
import Derived.Test.YtfkdjdmbgednkaaDoorScan11
namespace Go.Proofs.YtfkdjdmbgednkaaDoor
open Go.RowKit
set_option maxRecDepth 100000 in
set_option maxHeartbeats 2000000 in
theorem scanAny_walk (x : ByteArray) (w : World) (hx : x.size ≤ 9223372036854775807) (hT : Xm.Tab w) (hm : Xm.Max w) :
    Calls Tryd.prog 5 #[.string x] w fun r w' => r = .returned (.bool true) ∧ Flow.Grow w w' := by
  have HT := Lib.hid hT
  have HM := Lib.hid hm
  have Hb1 : Hid (1 < w.heap.size) := Lib.hid hT.1
  clear hT hm
  go_enter Tryd.func5, Tryd.ntmps5
  go_upto_region 2 with fail
  have ht : (x.extract 0 (min (x.size : Int) 80).toNat).size ≤ 80 := by simp; omega
  generalize x.extract 0 (min (x.size : Int) 80).toNat = t at *
  go_upto_region 5 with (go_at_call 11; refine (new_T t w (by omega)).mono ?_; rintro e w1 ⟨rfl, hs1, hg1⟩)
  have Hlaw := Lib.hid (Xm.newT_law (s := t) (by omega))
  obtain ⟨p0, hp0⟩ : ∃ q, q = Xm.newT t := ⟨_, rfl⟩
  rw [← hp0] at hs1 Hlaw
  obtain ⟨B, hB⟩ : ∃ B, B = w.heap.size := ⟨_, rfl⟩
  rw [← hB] at hs1 Hb1 ⊢
  have HB := Lib.hid hB
  have HS1 := Lib.hid hs1
  have HG1 := Lib.hid hg1
  clear hp0 hB hs1 hg1
  go_loopw [5, 6] (fun v5 v6 wr => ∃ (a : Int) (n : Nat) (st : Xm.P3), v5 = .int .i64 a ∧ v6 = .int .i64 n ∧ -1 ≤ a ∧ a < t.size ∧ a < st.k ∧ (n : Int) ≤ a + 1 ∧ st.k ≤ t.size ∧ Hid (Xm.OkE t st) ∧ Hid (Xm.Scs wr B t st) ∧ Hid (Flow.Grow w wr)) (fun v5 v6 wr => 100 - (intOf v6).toNat)
  case atStart => exact ⟨-1, 0, p0, rfl, rfl, by omega, by omega, by omega, by omega, by rw [Hlaw.out.2]; omega, Lib.hid Hlaw.out.1.2.2, HS1, HG1⟩
  case round =>
    obtain ⟨a, n, st, rfl, rfl, ha, has, hak, hna, hks, HO, HSr, HGr⟩ := hrel
    rename World => wr
    clear Hlaw HS1 HG1
    obtain ⟨r, hr⟩ : ∃ r, r = Xm.nextR t st := ⟨_, rfl⟩
    have hlaw := Xm.nextR_law (s := t) (p := st) ⟨Nat.le_refl _, hks, HO.out⟩
    rw [← hr] at hlaw
    have Hr := Lib.hid hr
    have Hlaw := Lib.hid hlaw
    have HTb : Hid (Xm.Tab wr) := Lib.hid (HT.out.grow HGr.out)
    have HXb : Hid (Xm.Max wr) := Lib.hid (HM.out.grow HGr.out)
    have Hks := Lib.hid hks
    clear hr hlaw HO
    have hn100 : n < 100 := by omega
    have hd : decide ((n : Int) < 100) = true := by simp; omega
    go_upto_region 8 with (go_at_call 12; refine (next_T B t st wr HSr.out Hks.out (by omega) HTb.out HXb.out Hb1.out).mono ?_; rintro e w2 ⟨va, rfl, hat, hfr, hs2, hm2⟩; rw [← Hr.out] at hat hs2 ⊢; obtain ⟨ao, cap, hva⟩ := hat.shape; subst hva; clear hat hfr; unfold Xm.Pc.cells)
    have HG2 : Hid (Flow.Grow w w2) := Lib.hid (hm2.grow HGr.out (Nat.le_of_eq HB.out.symm))
    obtain ⟨pc, q⟩ := r
    obtain ⟨kd, nm, at1, tx, pa⟩ := pc
    have HS2 : Hid (Xm.Scs w2 B t q) := Lib.hid hs2
    simp only at *
    clear hs2 hm2 HSr HGr HTb HXb Hr
    have HP3 : Hid (Xm.Row5 (w2.alloc (.cells #[.int .i64 kd, .string nm, .slice ao at1.length cap, .string tx, .int .i64 pa] 27)) w2.heap.size #[.int .i64 kd, .string nm, .slice ao at1.length cap, .string tx, .int .i64 pa]) := Lib.hid (heap_alloc_new _ _)
    have HS3 : Hid (Xm.Scs (w2.alloc (.cells #[.int .i64 kd, .string nm, .slice ao at1.length cap, .string tx, .int .i64 pa] 27)) B t q) := Lib.hid (Xm.Sc.grow HS2.out (Flow.grow_alloc _ _))
    have HG3 : Hid (Flow.Grow w (w2.alloc (.cells #[.int .i64 kd, .string nm, .slice ao at1.length cap, .string tx, .int .i64 pa] 27))) := Lib.hid (HG2.out.trans (Flow.grow_alloc _ _))
    obtain ⟨A, hA⟩ : ∃ A, A = w2.heap.size := ⟨_, rfl⟩
    rw [← hA] at HP3 ⊢
    clear hA HS2 HG2
    generalize w2.alloc (.cells #[.int .i64 kd, .string nm, .slice ao at1.length cap, .string tx, .int .i64 pa] 27) = w3 at *
    have p0 := (cell_of_row w3 A 0 _ _ _ HP3.out).trans rfl
    have p4 := (cell_of_row w3 A 4 _ _ _ HP3.out).trans rfl
    obtain ⟨qk, qe, qb⟩ := q
    have HS3 : Hid (Xm.Sc w3 B t qk qe qb) := HS3
    rcases Hlaw.out with ⟨rfl, hok, hend⟩ | ⟨hkd, a1, rfl, hka, has1, hak1, hqs, rfl⟩
    · have hend : qe = 0 → qk = t.size := hend
      by_cases hqe : qe = 0
      · obtain rfl := hend hqe
        subst hqe
        clear Hlaw hend hok
        have HTb : Hid (Xm.Tab w3) := Lib.hid (HT.out.grow HG3.out)
        have HXb : Hid (Xm.Max w3) := Lib.hid (HM.out.grow HG3.out)
        go_wp2_with (first | (go_at_call 14; refine (err_any _ _ _ _ _ _ HS3.out).mono ?_; rintro e w4 ⟨rfl, rfl⟩) | (go_at_call 15; refine (awake_T w3 HTb.out HXb.out).mono ?_; rintro e w5 ⟨rfl, hg5⟩) | (go_at_call 16; refine (at_any _ _ _ _ _ _ (Xm.Sc.grow HS3.out hg5)).mono ?_; rintro e w4 ⟨rfl, rfl⟩; rw [show Xm.atOf 0 (t.size : Int) qb = (t.size : Int) from rfl]))
        go_ret
        exact ⟨rfl, HG3.out.trans hg5⟩
      · have hok : Xm.OkE t ⟨qk, qe, qb⟩ := hok
        have hok2 : (qe = 2 ∨ qe = 3 ∨ qe = 7) ∧ 0 ≤ qb ∧ qb ≤ t.size := by
          rcases hok with h | h
          · exact absurd h hqe
          · exact h
        obtain ⟨he3, hb0, hb1⟩ := hok2
        have HA : Hid (Xm.atOf qe qk qb = qb) := Lib.hid (by rw [Xm.atOf, if_neg hqe])
        have HTb : Hid (Xm.Tab w3) := Lib.hid (HT.out.grow HG3.out)
        have HXb : Hid (Xm.Max w3) := Lib.hid (HM.out.grow HG3.out)
        clear Hlaw hend hok hqe
        rcases he3 with rfl | rfl | rfl
        · go_wp2_with (first | (go_at_call 14; first | (refine (err_any _ _ _ _ _ _ HS3.out).mono ?_; rintro e w4 ⟨rfl, rfl⟩) | (refine (err_any _ _ _ _ _ _ (Xm.Sc.grow HS3.out hg5)).mono ?_; rintro e w4 ⟨rfl, rfl⟩)) | (go_at_call 15; refine (awake_T w3 HTb.out HXb.out).mono ?_; rintro e w5 ⟨rfl, hg5⟩) | (go_at_call 16; refine (at_any _ _ _ _ _ _ (Xm.Sc.grow HS3.out hg5)).mono ?_; rintro e w4 ⟨rfl, rfl⟩; rw [HA.out]))
          go_ret
          exact ⟨rfl, HG3.out.trans hg5⟩
        · go_wp2_with (first | (go_at_call 14; first | (refine (err_any _ _ _ _ _ _ HS3.out).mono ?_; rintro e w4 ⟨rfl, rfl⟩) | (refine (err_any _ _ _ _ _ _ (Xm.Sc.grow HS3.out hg5)).mono ?_; rintro e w4 ⟨rfl, rfl⟩)) | (go_at_call 15; refine (awake_T w3 HTb.out HXb.out).mono ?_; rintro e w5 ⟨rfl, hg5⟩) | (go_at_call 16; refine (at_any _ _ _ _ _ _ (Xm.Sc.grow HS3.out hg5)).mono ?_; rintro e w4 ⟨rfl, rfl⟩; rw [HA.out]))
          go_ret
          exact ⟨rfl, HG3.out.trans hg5⟩
        · go_wp2_with (first | (go_at_call 14; first | (refine (err_any _ _ _ _ _ _ HS3.out).mono ?_; rintro e w4 ⟨rfl, rfl⟩) | (refine (err_any _ _ _ _ _ _ (Xm.Sc.grow HS3.out hg5)).mono ?_; rintro e w4 ⟨rfl, rfl⟩)) | (go_at_call 15; refine (awake_T w3 HTb.out HXb.out).mono ?_; rintro e w5 ⟨rfl, hg5⟩) | (go_at_call 16; refine (at_any _ _ _ _ _ _ (Xm.Sc.grow HS3.out hg5)).mono ?_; rintro e w4 ⟨rfl, rfl⟩; rw [HA.out]))
          go_ret
          exact ⟨rfl, HG3.out.trans hg5⟩
    · have g : (kd == 0) = false := by simpa using hkd
      clear Hlaw hkd
      have hka : st.k ≤ a1 := hka
      have h1 : ¬ (a1 : Int) ≤ a := by omega
      have h2 : ¬ t.size ≤ a1 := by omega
      have h2' : ¬ (t.size : Int) ≤ (a1 : Int) := by omega
      go_wp2
      go_roundw
      case rel => exact ⟨a1, n + 1, ⟨qk, 0, qb⟩, rfl, rfl, by omega, by omega, by show (a1 : Int) < (qk : Int); have : a1 < qk := hak1; omega, by omega, hqs, Lib.hid (.inl rfl), HS3, HG3⟩
      case measure => simp only [intOf]; omega
end Go.Proofs.YtfkdjdmbgednkaaDoor

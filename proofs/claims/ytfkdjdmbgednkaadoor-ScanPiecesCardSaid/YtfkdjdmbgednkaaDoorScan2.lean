/- scan.Scanner: blanks, until, New by their contracts. -/
import Derived.Test.YtfkdjdmbgednkaaDoorScan1
namespace Go.Proofs.YtfkdjdmbgednkaaDoor
open Go.RowKit
namespace Xm
theorem idx_bd : ∀ (l x : List UInt8), -1 ≤ Lib.index l x ∧ (0 ≤ Lib.index l x → Lib.index l x + x.length ≤ l.length)
  | [], x => by
    unfold Lib.index
    split
    · rename_i h
      have : x = [] := by simpa using h
      subst this; simp
    · simp
  | b :: l, x => by
    have ih := idx_bd l x
    unfold Lib.index
    split
    · rename_i h
      have := (List.isPrefixOf_iff_prefix.1 h).length_le
      simp at this ⊢
      omega
    · split
      · simp
      · rename_i h
        have h' : Lib.index l x ≠ -1 := by simpa using h
        simp only [List.length_cons]
        omega
/-- how far it is to a text, from a place on; -1 -/
def farS (s : ByteArray) (k : Nat) (x : ByteArray) : Int := Lib.index (s.extract k s.size).data.toList x.data.toList
theorem farS_bd {s : ByteArray} {k : Nat} (hk : k ≤ s.size) (x : ByteArray) : -1 ≤ farS s k x ∧ (0 ≤ farS s k x → k + (farS s k x).toNat + x.size ≤ s.size) := by
  have h := idx_bd (s.extract k s.size).data.toList x.data.toList
  have e : (s.extract k s.size).data.toList.length = s.size - k := by
    have := cut_size (s := s) (a := k) (b := s.size) (Nat.le_refl _)
    rw [Array.length_toList]
    exact this
  have e2 : x.data.toList.length = x.size := by rw [Array.length_toList]; rfl
  rw [e, e2] at h
  unfold farS
  omega
/-- the library's variable is some number -/
def Max (w : World) : Prop := 0 < w.heap.size ∧ ∃ m, w.cell? ⟨0, 0, none⟩ = some (.int .i64 m)
theorem Max.mv {w w' : World} {b : Nat} (h : Max w) (g : Mv w b w') (hb : 1 < b) : Max w' := ⟨Nat.lt_of_lt_of_le h.1 g.size, by
  obtain ⟨m, hm⟩ := h.2
  refine ⟨m, ?_⟩
  unfold World.cell? at hm ⊢
  rw [g.block 0 h.1 (by simp; omega)]
  exact hm⟩
theorem Max.grow {w w' : World} (h : Max w) (g : Flow.Grow w w') : Max w' := h.mv (b := 2) (Mv.of 2 g) (by omega)
end Xm
theorem blank_quiet {c d : Int} {x : Bool} (hc : c = d) (hx : x = Xm.blank d) (w : World) : Calls Tryd.prog 61 #[.int .u8 c] w fun e w' => e = .returned (.bool x) ∧ w' = w := (blank_any c w).mono fun _ _ ⟨h1, h2⟩ => ⟨by rw [h1, hx, hc], h2.symm⟩
theorem index_quiet (s x : ByteArray) (w : World) (n : Int) (hn : Lib.index s.data.toList x.data.toList = n) (hs : s.size < 4294967281) (hm : ∃ m, w.cell? ⟨0, 0, none⟩ = some (.int .i64 m)) :
    Calls Tryd.prog 57 #[.string s, .string x] w fun e w' => e = .returned (.int .i64 n) ∧ w' = w := by
  obtain ⟨m, hm⟩ := hm
  subst hn
  exact Tryd.strings_Index s x m w hs hm

set_option maxRecDepth 100000 in
set_option maxHeartbeats 1000000 in
theorem blanks_any (b : Nat) (s : ByteArray) (k : Nat) (e bad : Int) (w : World) (h : Xm.Sc w b s k e bad) (hk : k ≤ s.size) (hs : s.size ≤ 1000000000) :
    Calls Tryd.prog 38 #[.pointer (some ⟨b, 0, none⟩)] w fun r w' => r = .returned (.bool (decide (k < Xm.skip s k))) ∧ Xm.Sc w' b s (Xm.skip s k : Nat) e bad ∧ Xm.Mv w b w' := by
  have HS0 := Lib.hid h
  obtain ⟨c0, c1, c2, c3, f1, f2, f3⟩ := h.c
  clear h c0 c2 c3 f1 f2 f3
  go_enter Tryd.func38, Tryd.ntmps38
  go_wp2
  clear c1
  go_loopw [29] (fun _ wr => ∃ j : Nat, k ≤ j ∧ j ≤ s.size ∧ wr.cell? ⟨b, 1, none⟩ = some (.int .i64 j) ∧ Hid (Xm.Sc wr b s j e bad) ∧ Hid (Xm.Mv w b wr) ∧ Hid (Xm.skip s k = Xm.skip s j)) (fun _ wr => match wr.cell? ⟨b, 1, none⟩ with | some (.int _ j) => s.size - j.toNat | _ => 0)
  case atStart => exact ⟨k, by omega, hk, HS0.out.c.2.1, HS0, Lib.hid (Xm.Mv.refl _ _), Lib.hid rfl⟩
  case round =>
    obtain ⟨j, hkj, hj, c1, HS, HM, HK⟩ := hrel
    clear HS0
    rename World => wr
    have c0 := HS.out.c.1
    have f1 := HS.out.c.2.2.2.2.1
    by_cases hlt : j < s.size
    · have Hb := Lib.hid (Xm.bt_eq hlt)
      have hd : decide ((j : Int) < (s.size : Int)) = true := by simp; omega
      obtain ⟨x, hx⟩ : ∃ x, x = Xm.blank (Xm.bt s j) := ⟨_, rfl⟩
      have Hx := Lib.hid hx
      clear hx
      go_wp2_with fail
      go_quiet ((go_at_call 61; exact Calls.quiet_of_same (blank_quiet Hb.out Hx.out _)))
      cases x
      · have HK2 : Hid (Xm.skip s k = j) := Lib.hid (by rw [HK.out, Xm.skip, if_pos hlt, if_neg (by rw [← Hx.out]; simp)])
        go_wp2
        go_ret
        exact ⟨ret_bool (by rw [HK2.out]), by rw [HK2.out]; exact HS.out.grow (Flow.grow_drewN _ _), HM.out.trans Xm.Mv.drew⟩
      · have HK2 : Hid (Xm.skip s k = Xm.skip s (j + 1)) := Lib.hid (by rw [HK.out, Xm.skip, if_pos hlt, if_pos (by rw [← Hx.out])])
        go_wp2
        have hc2 := ((HS.out.grow (Flow.grow_drewN wr nq)).at' ((j : Int) + 1)).c.2.1
        go_roundw
        case rel => exact ⟨j + 1, by omega, by omega, hc2, Lib.hid ((HS.out.grow (Flow.grow_drewN _ _)).at' _), Lib.hid ((HM.out.trans Xm.Mv.drew).trans Xm.Mv.set), HK2⟩
        case measure => simp only [hc2, c1]; omega
    · have HK2 : Hid (Xm.skip s k = j) := Lib.hid (by rw [HK.out, Xm.skip, if_neg hlt])
      have hd : decide ((j : Int) < (s.size : Int)) = false := by simp; omega
      go_wp2_with fail
      go_quiet (fail)
      go_wp2
      go_ret
      exact ⟨ret_bool (by rw [HK2.out]), by rw [HK2.out]; exact HS.out.grow (Flow.grow_drewN _ _), HM.out.trans Xm.Mv.drew⟩

set_option maxRecDepth 100000 in
set_option maxHeartbeats 1000000 in
theorem until_any (b : Nat) (s x : ByteArray) (k : Nat) (e bad : Int) (w : World) (h : Xm.Sc w b s k e bad) (hk : k ≤ s.size) (hs : s.size ≤ 1000000000) (hx : x.size ≤ 100) (hm : Xm.Max w) :
    Calls Tryd.prog 35 #[.pointer (some ⟨b, 0, none⟩), .string x] w fun r w' =>
      (Xm.farS s k x < 0 → r = .returned (.tuple #[.string ByteArray.empty, .bool false]) ∧ Xm.Sc w' b s k e bad ∧ Xm.Mv w b w') ∧
      (0 ≤ Xm.farS s k x → r = .returned (.tuple #[.string (s.extract k (k + (Xm.farS s k x).toNat)), .bool true]) ∧ Xm.Sc w' b s (k + (Xm.farS s k x).toNat + x.size : Nat) e bad ∧ Xm.Mv w b w') := by
  have HS := Lib.hid h
  obtain ⟨c0, c1, c2, c3, f1, f2, f3⟩ := h.c
  have hb := Xm.farS_bd hk x
  obtain ⟨n, hn⟩ : ∃ n, n = Xm.farS s k x := ⟨_, rfl⟩
  have Hn : Hid (Lib.index (s.extract k s.size).data.toList x.data.toList = n) := Lib.hid hn.symm
  rw [← hn] at hb ⊢
  clear hn
  have hsz : (s.extract k s.size).size < 4294967281 := by simp; omega
  have HM := Lib.hid hm
  have Hsz := Lib.hid hsz
  clear h c2 c3 f2 f3 hsz hm
  by_cases h0 : n < 0
  · suffices H : Calls Tryd.prog 35 #[.pointer (some ⟨b, 0, none⟩), .string x] w fun r w' => r = .returned (.tuple #[.string ByteArray.empty, .bool false]) ∧ Xm.Sc w' b s k e bad ∧ Xm.Mv w b w' from
      H.mono fun r w' h => ⟨fun _ => h, fun hh => by omega⟩
    clear hb f1
    go_enter Tryd.func35, Tryd.ntmps35
    go_wp2_with fail
    go_quiet ((go_at_call 57; exact Calls.quiet_of_same (index_quiet _ _ _ _ Hn.out Hsz.out (HM.out.grow (Flow.grow_drewN _ _)).2)))
    go_wp2
    go_ret2
    exact ⟨rfl, HS.out.grow (Flow.grow_drewN _ _), Xm.Mv.drew⟩
  · obtain ⟨m, rfl⟩ := Int.eq_ofNat_of_zero_le (Int.not_lt.1 h0)
    have hb2 := hb.2 (by omega)
    rw [Int.toNat_natCast] at hb2 ⊢
    suffices H : Calls Tryd.prog 35 #[.pointer (some ⟨b, 0, none⟩), .string x] w fun r w' => r = .returned (.tuple #[.string (s.extract k (k + m)), .bool true]) ∧ Xm.Sc w' b s (k + m + x.size : Nat) e bad ∧ Xm.Mv w b w' from
      H.mono fun r w' h => ⟨fun hh => by omega, fun _ => h⟩
    have en : (0 : Int) ≤ m := by omega
    have hsl := run_cut s k (k + m) (by omega) (by omega) (k : Int) ((k : Int) + m) rfl (by omega)
    have e1 : IntKind.i64.wrap ((k : Int) + m) = (k : Int) + m := IntWalk.i64_in _ (by omega)
    clear hb h0
    go_enter Tryd.func35, Tryd.ntmps35
    go_wp2_with fail
    go_quiet ((go_at_call 57; exact Calls.quiet_of_same (index_quiet _ _ _ _ Hn.out Hsz.out (HM.out.grow (Flow.grow_drewN _ _)).2)))
    go_wp2
    go_quiet (fail)
    go_wp2
    go_ret2
    refine ⟨rfl, ?_, ?_⟩
    · rw [show ((k + m + x.size : Nat) : Int) = (k : Int) + ((m : Int) + x.size) by omega]
      exact (HS.out.grow (Flow.grow_drewN w _)).at' _
    · exact Xm.Mv.drew.trans Xm.Mv.set
end Go.Proofs.YtfkdjdmbgednkaaDoor

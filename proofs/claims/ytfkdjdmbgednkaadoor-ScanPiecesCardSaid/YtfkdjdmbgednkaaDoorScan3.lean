/- scan.Scanner: New, name, open by their contracts. -/
import Derived.Test.YtfkdjdmbgednkaaDoorScan2
namespace Go.Proofs.YtfkdjdmbgednkaaDoor
open Go.RowKit
namespace Xm
/-- where what a name may be of ends, from a place on -/
def nameEnd (s : ByteArray) (k : Nat) : Nat := if k < s.size then (if part (bt s k) = true ∨ bt s k = 58 then nameEnd s (k + 1) else k) else k
  termination_by s.size - k
theorem nameEnd_bd (s : ByteArray) : ∀ (n k : Nat), s.size - k = n → k ≤ s.size → k ≤ nameEnd s k ∧ nameEnd s k ≤ s.size
  | 0, k, h, hk => by unfold nameEnd; rw [if_neg (by omega)]; omega
  | n + 1, k, h, hk => by
    have := nameEnd_bd s n (k + 1) (by omega) (by omega)
    unfold nameEnd
    rw [if_pos (by omega)]
    split <;> omega
theorem skip_bd (s : ByteArray) : ∀ (n k : Nat), s.size - k = n → k ≤ s.size → k ≤ skip s k ∧ skip s k ≤ s.size
  | 0, k, h, hk => by unfold skip; rw [if_neg (by omega)]; omega
  | n + 1, k, h, hk => by
    have := skip_bd s n (k + 1) (by omega) (by omega)
    unfold skip
    rw [if_pos (by omega)]
    split <;> omega
/-- a name from a place on: is it one -/
def nameOk (s : ByteArray) (k : Nat) : Bool := (split (s.extract k (nameEnd s k))).2.2
def nameS (s : ByteArray) (k : Nat) : ByteArray := if nameOk s k = true then s.extract k (nameEnd s k) else ByteArray.empty
end Xm
namespace Xm
theorem text_lt (s : ByteArray) : ∀ k, text s k < s.size ∧ -1 ≤ text s k := by
  intro k
  induction h : s.size - k using Nat.strongRecOn generalizing k with
  | _ n ih =>
    unfold text
    split
    · rename_i hk
      have := getN_bd s k
      split
      · omega
      · rename_i h0
        have h1 : getN s k ≠ 0 := fun e => h0 (.inl e)
        exact ih (s.size - (k + (getN s k).toNat)) (by omega) _ rfl
    · omega
theorem bad_lt (s : ByteArray) : ∀ k, bad s k < s.size ∧ -1 ≤ bad s k := by
  intro k
  induction h : s.size - k using Nat.strongRecOn generalizing k with
  | _ n ih =>
    unfold bad
    split
    · rename_i hk
      have := getN_bd s k
      split
      · omega
      · exact ih (s.size - (k + (getN s k).toNat)) (by omega) _ rfl
    · omega
theorem openS_lt (s : ByteArray) : ∀ k acc, (openS s k acc).2 < s.size ∧ -1 ≤ (openS s k acc).2 := by
  intro k
  induction h : s.size - k using Nat.strongRecOn generalizing k with
  | _ n ih =>
    intro acc
    unfold openS
    split
    · rename_i hk
      split
      · split
        · exact ⟨by show (k : Int) < _; omega, by show (-1 : Int) ≤ k; omega⟩
        · rename_i hf
          have := (far_bd (Nat.le_of_lt hk) 59).2 (by omega)
          split
          · exact ⟨by show (k : Int) < _; omega, by show (-1 : Int) ≤ k; omega⟩
          · exact ih (s.size - (k + (far s k 59).toNat + 1)) (by omega) _ rfl _
      · exact ih (s.size - (k + 1)) (by omega) _ rfl _
    · exact ⟨by show (-1 : Int) < _; omega, by show (-1 : Int) ≤ -1; omega⟩
end Xm
theorem part_quiet {c d : Int} {x : Bool} (hc : c = d) (hx : x = Xm.part d) (w : World) : Calls Tryd.prog 59 #[.int .u8 c] w fun e w' => e = .returned (.bool x) ∧ w' = w := (part_any c w).mono fun _ _ ⟨h1, h2⟩ => ⟨by rw [h1, hx, hc], h2.symm⟩

set_option maxRecDepth 100000 in
set_option maxHeartbeats 2000000 in
theorem sname_any (b : Nat) (s : ByteArray) (k : Nat) (e bad : Int) (w : World) (h : Xm.Sc w b s k e bad) (hk : k ≤ s.size) (hs : s.size ≤ 1000000000) :
    Calls Tryd.prog 37 #[.pointer (some ⟨b, 0, none⟩)] w fun r w' => r = .returned (.string (Xm.nameS s k)) ∧
      (Xm.nameOk s k = true → Xm.Sc w' b s (Xm.nameEnd s k : Nat) e bad) ∧ (Xm.nameOk s k = false → Xm.Sc w' b s (Xm.nameEnd s k : Nat) (Xm.errOf e 3) (Xm.badOf e bad k)) ∧ Xm.Mv w b w' := by
  have HS0 := Lib.hid h
  obtain ⟨c0, c1, c2, c3, f1, f2, f3⟩ := h.c
  clear h c0 c2 c3 f1 f2 f3
  go_enter Tryd.func37, Tryd.ntmps37
  go_wp2
  clear c1
  go_loopw [45] (fun _ wr => ∃ j : Nat, k ≤ j ∧ j ≤ s.size ∧ wr.cell? ⟨b, 1, none⟩ = some (.int .i64 j) ∧ Hid (Xm.Sc wr b s j e bad) ∧ Hid (Xm.Mv w b wr) ∧ Hid (Xm.nameEnd s k = Xm.nameEnd s j)) (fun _ wr => match wr.cell? ⟨b, 1, none⟩ with | some (.int _ j) => s.size - j.toNat | _ => 0)
  case atStart => exact ⟨k, by omega, hk, HS0.out.c.2.1, HS0, Lib.hid (Xm.Mv.refl _ _), Lib.hid rfl⟩
  case round =>
    obtain ⟨j, hkj, hj, c1, HS, HM, HK⟩ := hrel
    clear HS0
    rename World => wr
    have c0 := HS.out.c.1
    have f1 := HS.out.c.2.2.2.2.1
    by_cases hlt : j < s.size
    rotate_left
    have HK2 : Hid (Xm.nameEnd s k = j) := Lib.hid (by rw [HK.out, Xm.nameEnd, if_neg hlt])
    have hd : decide ((j : Int) < (s.size : Int)) = false := by simp; omega
    go_wp2_with fail
    go_quiet (fail)
    have HS2 := Lib.hid (HS.out.grow (Flow.grow_drewN wr nq))
    have HM2 := Lib.hid (HM.out.trans (Xm.Mv.drew (n := nq)))
    generalize wr.drewN nq = w2 at *
    clear hd
    rotate_left
    have Hb := Lib.hid (Xm.bt_eq hlt)
    have hd : decide ((j : Int) < (s.size : Int)) = true := by simp; omega
    cases hx : Xm.part (Xm.bt s j)
    rotate_left
    · have Hx := Lib.hid hx.symm
      have HK2 : Hid (Xm.nameEnd s k = Xm.nameEnd s (j + 1)) := Lib.hid (by rw [HK.out, Xm.nameEnd, if_pos hlt, if_pos (.inl hx)])
      clear hx
      go_wp2_with fail
      go_quiet ((go_at_call 59; exact Calls.quiet_of_same (part_quiet Hb.out Hx.out _)))
      go_wp2
      have hc2 := ((HS.out.grow (Flow.grow_drewN wr nq)).at' ((j : Int) + 1)).c.2.1
      go_roundw
      case rel => exact ⟨j + 1, by omega, by omega, hc2, Lib.hid ((HS.out.grow (Flow.grow_drewN _ _)).at' _), Lib.hid ((HM.out.trans Xm.Mv.drew).trans Xm.Mv.set), HK2⟩
      case measure => simp only [hc2, c1]; omega
    rotate_left
    have Hx := Lib.hid hx.symm
    clear hx
    by_cases h58 : Xm.bt s j = 58
    · have g : (Xm.bt s j == 58) = true := by simpa using h58
      have HK2 : Hid (Xm.nameEnd s k = Xm.nameEnd s (j + 1)) := Lib.hid (by rw [HK.out, Xm.nameEnd, if_pos hlt, if_pos (.inr h58)])
      have g2 : ((s[j].toNat : Int) == 58) = true := by rw [Hb.out]; exact g
      clear h58 g
      go_wp2_with fail
      go_quiet ((go_at_call 59; exact Calls.quiet_of_same (part_quiet Hb.out Hx.out _)))
      go_wp2
      have hc2 := ((HS.out.grow (Flow.grow_drewN wr nq)).at' ((j : Int) + 1)).c.2.1
      go_roundw
      case rel => exact ⟨j + 1, by omega, by omega, hc2, Lib.hid ((HS.out.grow (Flow.grow_drewN _ _)).at' _), Lib.hid ((HM.out.trans Xm.Mv.drew).trans Xm.Mv.set), HK2⟩
      case measure => simp only [hc2, c1]; omega
    have g : (Xm.bt s j == 58) = false := by simpa using h58
    have HK2 : Hid (Xm.nameEnd s k = j) := Lib.hid (by rw [HK.out, Xm.nameEnd, if_pos hlt, if_neg (fun h => h.elim (fun h => by rw [← Hx.out] at h; cases h) h58)])
    have g2 : ((s[j].toNat : Int) == 58) = false := by rw [Hb.out]; exact g
    clear h58 g
    go_wp2_with fail
    go_quiet ((go_at_call 59; exact Calls.quiet_of_same (part_quiet Hb.out Hx.out _)))
    have HS2 := Lib.hid (HS.out.grow (Flow.grow_drewN wr nq))
    have HM2 := Lib.hid (HM.out.trans (Xm.Mv.drew (n := nq)))
    generalize wr.drewN nq = w2 at *
    clear hd g2
    all_goals
      have c0' := HS2.out.c.1
      have c1' := HS2.out.c.2.1
      have hsl := run_cut s k j hkj hj (k : Int) (j : Int) rfl rfl
      have hxm : (s.extract k j).size ≤ 9223372036854775807 := by simp; omega
      have Hxm := Lib.hid hxm
      have HN : Hid ((Xm.split (s.extract k j)).2.2 = Xm.nameOk s k) := Lib.hid (by rw [Xm.nameOk, HK2.out])
      clear c0 c1 f1 hxm HS HM HK
      cases hok : Xm.nameOk s k
      · have Hok := Lib.hid hok
        clear hok
        go_wp2_with fail
        go_quiet (fail)
        have HS3 := Lib.hid (HS2.out.grow (Flow.grow_drewN w2 nq))
        have HM3 := Lib.hid (HM2.out.trans (Xm.Mv.drew (n := nq)))
        generalize w2.drewN nq = w3 at *
        clear c0' c1' HS2 HM2 hsl
        go_wp2_with (go_at_call 60; refine (split_any _ _ Hxm.out).mono ?_; rintro e w' ⟨rfl, n, rfl⟩; rw [HN.out, Hok.out])
        have HS4 := Lib.hid (HS3.out.grow (Flow.grow_drewN w3 n))
        have HM4 := Lib.hid (HM3.out.trans (Xm.Mv.drew (n := n)))
        generalize w3.drewN n = w4 at *
        clear HS3 HM3
        go_wp2_with (go_at_call 18; refine (wrong_any _ _ _ _ _ 3 _ _ HS4.out (by decide)).mono ?_; rintro e w' ⟨rfl, hs5, hm5⟩)
        go_ret
        exact ⟨ret_str (by rw [Xm.nameS, Hok.out]; rfl), (fun h => by rw [Hok.out] at h; cases h), (fun _ => by rw [HK2.out]; exact hs5), HM4.out.trans hm5⟩
      · have Hok := Lib.hid hok
        clear hok
        go_wp2_with fail
        go_quiet (fail)
        have HS3 := Lib.hid (HS2.out.grow (Flow.grow_drewN w2 nq))
        have HM3 := Lib.hid (HM2.out.trans (Xm.Mv.drew (n := nq)))
        generalize w2.drewN nq = w3 at *
        clear c0' c1' HS2 HM2 hsl
        go_wp2_with (go_at_call 60; refine (split_any _ _ Hxm.out).mono ?_; rintro e w' ⟨rfl, n, rfl⟩; rw [HN.out, Hok.out])
        go_ret
        exact ⟨ret_str (by rw [Xm.nameS, Hok.out, HK2.out]; rfl), (fun _ => by rw [HK2.out]; exact HS3.out.grow (Flow.grow_drewN _ _)), (fun h => by rw [Hok.out] at h; cases h), HM3.out.trans Xm.Mv.drew⟩

set_option maxRecDepth 100000 in
set_option maxHeartbeats 1000000 in
theorem sopen_any (b : Nat) (s x : ByteArray) (k e bad : Int) (a : Nat) (w : World) (h : Xm.Sc w b s k e bad) (hT : Xm.Tab w) (_hb1 : 1 < b) (hx : x.size ≤ 1000000000) (ha : a ≤ 1000000000) :
    Calls Tryd.prog 41 #[.pointer (some ⟨b, 0, none⟩), .string x, .int .i64 a] w fun r w' =>
      (0 ≤ Xm.text x 0 → r = .returned (.string ByteArray.empty) ∧ Xm.Sc w' b s k (Xm.errOf e 3) (Xm.badOf e bad (a + Xm.text x 0)) ∧ Xm.Mv w b w') ∧
      (Xm.text x 0 < 0 → 0 ≤ (Xm.openS x 0 []).2 → r = .returned (.string (str (Xm.openS x 0 []).1)) ∧ Xm.Sc w' b s k (Xm.errOf e 3) (Xm.badOf e bad (a + (Xm.openS x 0 []).2)) ∧ Xm.Mv w b w') ∧
      (Xm.text x 0 < 0 → (Xm.openS x 0 []).2 < 0 → r = .returned (.string (str (Xm.openS x 0 []).1)) ∧ Xm.Sc w' b s k e bad ∧ Xm.Mv w b w') := by
  have HS := Lib.hid h
  have HT := Lib.hid hT
  obtain ⟨t, ht⟩ : ∃ t, t = Xm.text x 0 := ⟨_, rfl⟩
  obtain ⟨p, hp⟩ : ∃ p, p = Xm.openS x 0 [] := ⟨_, rfl⟩
  rw [← ht, ← hp]
  have Ht := Lib.hid ht
  have Hp := Lib.hid hp
  have hxm : x.size ≤ 9223372036854775807 := by omega
  have hbd : t < 1000000001 ∧ p.2 < 1000000001 := by
    rw [ht, hp]
    exact ⟨by have := Xm.text_lt x 0; omega, by have := Xm.openS_lt x 0 []; omega⟩
  obtain ⟨ht1, hp1⟩ := hbd
  obtain ⟨pl, pz⟩ := p
  clear h hT ht hp
  by_cases h0 : 0 ≤ t
  · suffices H : Calls Tryd.prog 41 #[.pointer (some ⟨b, 0, none⟩), .string x, .int .i64 a] w fun r w' => r = .returned (.string ByteArray.empty) ∧ Xm.Sc w' b s k (Xm.errOf e 3) (Xm.badOf e bad (a + t)) ∧ Xm.Mv w b w' from
      H.mono fun r w' h => ⟨fun _ => h, fun hh => by omega, fun hh => by omega⟩
    go_enter Tryd.func41, Tryd.ntmps41
    go_wp2_with (first | (go_at_call 36; refine (ctext_any _ _ hxm).mono ?_; rintro e w' ⟨rfl, rfl⟩; rw [← Ht.out]) | (go_at_call 18; refine (wrong_any _ _ _ _ _ 3 _ _ HS.out (by decide)).mono ?_; rintro e w' ⟨rfl, hs5, hm5⟩))
    go_ret
    exact ⟨rfl, hs5, hm5⟩
  · have g1 : decide (0 ≤ t) = false := by simpa using h0
    by_cases hz : 0 ≤ pz
    · suffices H : Calls Tryd.prog 41 #[.pointer (some ⟨b, 0, none⟩), .string x, .int .i64 a] w fun r w' => r = .returned (.string (str pl)) ∧ Xm.Sc w' b s k (Xm.errOf e 3) (Xm.badOf e bad (a + pz)) ∧ Xm.Mv w b w' from
        H.mono fun r w' h => ⟨fun hh => by omega, fun _ _ => h, fun _ hh => by omega⟩
      clear h0
      go_enter Tryd.func41, Tryd.ntmps41
      go_wp2_with (first | (go_at_call 36; refine (ctext_any _ _ hxm).mono ?_; rintro e w' ⟨rfl, rfl⟩; rw [← Ht.out]) | (go_at_call 66; refine (open_any _ _ HT.out hx).mono ?_; rintro e w' ⟨rfl, hg⟩; rw [← Hp.out]) | (go_at_call 18; refine (wrong_any _ _ _ _ _ 3 _ _ (HS.out.grow hg) (by decide)).mono ?_; rintro e w' ⟨rfl, hs5, hm5⟩))
      go_ret
      exact ⟨rfl, hs5, (Xm.Mv.of b hg).trans hm5⟩
    · have g2 : decide (0 ≤ pz) = false := by simpa using hz
      suffices H : Calls Tryd.prog 41 #[.pointer (some ⟨b, 0, none⟩), .string x, .int .i64 a] w fun r w' => r = .returned (.string (str pl)) ∧ Xm.Sc w' b s k e bad ∧ Xm.Mv w b w' from
        H.mono fun r w' h => ⟨fun hh => by omega, fun _ hh => by omega, fun _ _ => h⟩
      clear h0 hz
      go_enter Tryd.func41, Tryd.ntmps41
      go_wp2_with (first | (go_at_call 36; refine (ctext_any _ _ hxm).mono ?_; rintro e w' ⟨rfl, rfl⟩; rw [← Ht.out]) | (go_at_call 66; refine (open_any _ _ HT.out hx).mono ?_; rintro e w' ⟨rfl, hg⟩; rw [← Hp.out]))
      go_ret
      exact ⟨rfl, HS.out.grow hg, Xm.Mv.of b hg⟩
end Go.Proofs.YtfkdjdmbgednkaaDoor

/- scan: New, and what is told of no scanner, by their contracts; the law's awake. -/
/- scan: the plain law of the scanner's contract: its pieces come to an end, or to an error at one of the bytes. -/
import Derived.Test.YtdpkhmfolmcejaaGreatDoorScan9
namespace Go.Proofs.YtdpkhmfolmcejaaGreatDoor
open Go.RowKit
namespace Xm
def newT (s : ByteArray) : P3 := if 200000 < s.size then wrong ⟨0, 0, 0⟩ 5 200000 else if 0 ≤ bad s 0 then wrong ⟨0, 0, 0⟩ 2 (bad s 0) else ⟨0, 0, 0⟩
theorem Mv.grow {w w1 w2 : World} {b : Nat} (g : Flow.Grow w w1) (h : Mv w1 b w2) (hb : w.heap.size ≤ b) : Flow.Grow w w2 :=
  ⟨h.os.trans g.os, h.tape.trans g.tape, h.output.trans g.output, Nat.le_trans g.size h.size, fun i hi _ => (h.block i (Nat.lt_of_lt_of_le hi g.size) (by simp; omega)).trans (g.block i hi (by simp))⟩
theorem Mv.below {w w2 : World} {b : Nat} (h : Mv w b w2) {B : Nat} (hB : B ≤ w.heap.size) (hb : B ≤ b) : Below B w w2 := ⟨h.os, h.tape, h.output, h.size, fun i hi => h.block i (by omega) (by simp; omega)⟩
end Xm

set_option maxRecDepth 100000 in
set_option maxHeartbeats 1000000 in
theorem new_T (s : ByteArray) (w : World) (hs : s.size ≤ 900000000) :
    Calls Tryz.prog 19 #[.string s] w fun r w' => r = .returned (.pointer (some ⟨w.heap.size, 0, none⟩)) ∧ Xm.Scs w' w.heap.size s (Xm.newT s) ∧ Flow.Grow w w' := by
  have hS : Xm.Sc (w.alloc (.cells #[.string s, .int .i64 0, .int .i64 0, .int .i64 0] 74)) w.heap.size s 0 0 0 := heap_alloc_new _ _
  have HS := Lib.hid hS
  have hG : Flow.Grow w (w.alloc (.cells #[.string s, .int .i64 0, .int .i64 0, .int .i64 0] 74)) := Flow.grow_alloc _ _
  have HG := Lib.hid hG
  clear hS hG
  by_cases hbig : 200000 < s.size
  · have HE : Hid (Xm.newT s = Xm.wrong ⟨0, 0, 0⟩ 5 200000) := Lib.hid (by rw [Xm.newT, if_pos hbig])
    have hd : decide ((200000 : Int) < (s.size : Int)) = true := by simp; omega
    have hd' : decide (200000 < s.size) = true := by simp; omega
    go_enter Tryz.func19, Tryz.ntmps19
    go_wp2_with (go_at_call 31; refine (wrong_any _ _ _ _ _ 5 _ _ HS.out (by decide)).mono ?_; rintro e w6 ⟨rfl, hs6, hm6⟩)
    go_ret
    exact ⟨rfl, by rw [HE.out]; exact hs6, hm6.grow HG.out (Nat.le_refl _)⟩
  · have hd : decide ((200000 : Int) < (s.size : Int)) = false := by simp; omega
    have hd' : decide (200000 < s.size) = false := by simp; omega
    obtain ⟨z, hz⟩ : ∃ z, z = Xm.bad s 0 := ⟨_, rfl⟩
    have HZ := Lib.hid hz
    by_cases hz0 : 0 ≤ z
    · have HE : Hid (Xm.newT s = Xm.wrong ⟨0, 0, 0⟩ 2 z) := Lib.hid (by rw [Xm.newT, if_neg hbig, ← hz, if_pos hz0])
      clear hz
      go_enter Tryz.func19, Tryz.ntmps19
      go_wp2_with (first | (go_at_call 32; refine (ubad_any _ _ (by omega)).mono ?_; rintro e w' ⟨rfl, rfl⟩; rw [← HZ.out]) | (go_at_call 31; refine (wrong_any _ _ _ _ _ 2 _ _ HS.out (by decide)).mono ?_; rintro e w6 ⟨rfl, hs6, hm6⟩))
      go_ret
      exact ⟨rfl, by rw [HE.out]; exact hs6, hm6.grow HG.out (Nat.le_refl _)⟩
    · have HE : Hid (Xm.newT s = ⟨0, 0, 0⟩) := Lib.hid (by rw [Xm.newT, if_neg hbig, ← hz, if_neg hz0])
      clear hz
      go_enter Tryz.func19, Tryz.ntmps19
      go_wp2_with (go_at_call 32; refine (ubad_any _ _ (by omega)).mono ?_; rintro e w' ⟨rfl, rfl⟩; rw [← HZ.out])
      go_ret
      exact ⟨rfl, by rw [HE.out]; exact HS.out, HG.out⟩

end Go.Proofs.YtdpkhmfolmcejaaGreatDoor
namespace Go.Proofs.YtdpkhmfolmcejaaGreatDoor
namespace Xm
/-- what may be wrong, and where -/
def OkE (s : ByteArray) (p : P3) : Prop := p.e = 0 ∨ ((p.e = 2 ∨ p.e = 3 ∨ p.e = 7) ∧ 0 ≤ p.bad ∧ p.bad ≤ s.size)
def St (s : ByteArray) (lo : Nat) (p : P3) : Prop := lo ≤ p.k ∧ p.k ≤ s.size ∧ OkE s p
theorem OkE.wrong {s : ByteArray} {p : P3} {k : Nat} {z a : Int} (h : OkE s p) (hz : z = 2 ∨ z = 3 ∨ z = 7) (h0 : 0 ≤ a) (h1 : a ≤ s.size) : OkE s (Xm.wrong ⟨k, p.e, p.bad⟩ z a) := by
  unfold OkE Xm.wrong errOf badOf at *
  by_cases he : p.e = 0
  · right; simp only [he, if_true]; exact ⟨hz, h0, h1⟩
  · rw [if_neg he, if_neg he]; exact h
theorem St.wrong {s : ByteArray} {lo : Nat} {p : P3} {z a : Int} (h : St s lo p) (hz : z = 2 ∨ z = 3 ∨ z = 7) (h0 : 0 ≤ a) (h1 : a ≤ s.size) : St s lo (Xm.wrong p z a) := ⟨h.1, h.2.1, h.2.2.wrong hz h0 h1⟩
theorem St.at' {s : ByteArray} {lo : Nat} {p : P3} (h : St s lo p) {k : Nat} (h0 : lo ≤ k) (h1 : k ≤ s.size) : St s lo ⟨k, p.e, p.bad⟩ := ⟨h0, h1, h.2.2⟩
theorem St.nameT {s : ByteArray} {lo : Nat} {p : P3} (h : St s lo p) : St s lo (nameT s p) := by
  have hb := nameEnd_bd s _ p.k rfl h.2.1
  have h' := h.at' (k := nameEnd s p.k) (by have := h.1; omega) hb.2
  unfold Xm.nameT
  split
  · exact h'
  · exact h'.wrong (.inr (.inl rfl)) (by omega) (by have := h.2.1; omega)
theorem St.skipT {s : ByteArray} {lo : Nat} {p : P3} (h : St s lo p) (x : ByteArray) : St s lo (skipT s p x) := by
  have hb := skip_bd s _ p.k rfl h.2.1
  have h0 := h.1
  unfold Xm.skipT
  split
  · split
    · rename_i hh
      have h2 := hasAt_bd hb.2 hh
      have h3 := skip_bd s _ (skip s p.k + x.size) rfl h2
      exact h.at' (by omega) h3.2
    · exact (h.at' (k := skip s p.k) (by omega) hb.2).wrong (.inr (.inl rfl)) (by omega) (by omega)
  · exact h
theorem St.openT {s x : ByteArray} {lo a : Nat} {p : P3} (h : St s lo p) (ha : a + x.size ≤ s.size) : St s lo (openT p x a) := by
  have h1 := text_lt x 0
  have h2 := openS_lt x 0 []
  unfold Xm.openT
  split
  · exact h.wrong (.inr (.inl rfl)) (by omega) (by omega)
  · split
    · exact h.wrong (.inr (.inl rfl)) (by omega) (by omega)
    · exact h
theorem St.attrT {s : ByteArray} {lo : Nat} {p : P3} (h : St s lo p) : St s lo (attrT s p) := by
  have h1 := (h.nameT).skipT eqS
  unfold Xm.attrT attr2
  generalize Xm.skipT s (Xm.nameT s p) eqS = q at *
  have h0 := h1.1
  have hk := h1.2.1
  split
  · exact h1
  · split
    · exact h1.wrong (.inr (.inl rfl)) (by omega) (by omega)
    · rename_i hq
      have hlt : q.k < s.size := by
        have : quoteAt s q.k = true := by simpa using hq
        simp only [quoteAt, Bool.and_eq_true, decide_eq_true_eq] at this
        exact this.1
      have hf := farS_bd (s := s) (k := q.k + 1) (by omega) (s.extract q.k (q.k + 1))
      have hz : (s.extract q.k (q.k + 1)).size = 1 := by simp; omega
      rw [hz] at hf
      unfold valT
      split
      · exact (h1.at' (k := q.k + 1) (by omega) (by omega)).wrong (.inr (.inl rfl)) (by omega) (by omega)
      · rename_i hn
        have h2 := hf.2 (by omega)
        have h3 := h1.at' (k := q.k + 1 + (farS s (q.k + 1) (s.extract q.k (q.k + 1))).toNat + 1) (by omega) h2
        split
        · exact h3.wrong (.inr (.inl rfl)) (by omega) (by omega)
        · exact h3.openT (by simp; omega)
theorem St.tagL {s : ByteArray} {lo : Nat} : ∀ (n : Nat) (p : P3) (l : List (ByteArray × ByteArray)), St s lo p → St s lo (tagL n s p l).2.2
  | 0, p, l, h => h
  | n + 1, p, l, h => by
    have hb := skip_bd s _ p.k rfl h.2.1
    have h0 := h.1
    have hk := h.at' (k := skip s p.k) (by omega) hb.2
    unfold Xm.tagL
    split
    · exact h
    · split
      · rename_i hh
        have h2 : skip s p.k + 2 ≤ s.size := hasAt_bd hb.2 hh
        exact h.at' (by omega) h2
      · split
        · rename_i hh
          have h2 : skip s p.k + 1 ≤ s.size := hasAt_bd hb.2 hh
          exact h.at' (by omega) h2
        · split
          · exact hk.wrong (.inr (.inl rfl)) (by omega) (by omega)
          · refine St.tagL n _ _ ?_
            split
            · exact hk.attrT.wrong (.inr (.inr rfl)) (by omega) (by omega)
            · exact hk.attrT
theorem tagL_kind {s : ByteArray} : ∀ (n : Nat) (p : P3) (l : List (ByteArray × ByteArray)), (tagL n s p l).1 = 1 ∨ (tagL n s p l).1 = 3
  | 0, p, l => .inl rfl
  | n + 1, p, l => by
    unfold Xm.tagL
    split
    · exact .inl rfl
    · split
      · exact .inr rfl
      · split
        · exact .inl rfl
        · split
          · exact .inl rfl
          · exact tagL_kind n _ _
theorem St.tagR {s : ByteArray} {lo : Nat} {p : P3} (h : St s lo p) : St s lo (tagR s p).2.2 := St.tagL _ _ _ h.nameT
theorem St.asideT {s : ByteArray} {k lo : Nat} {bad : Int} (h0 : lo ≤ k) (hk : k ≤ s.size) : St s lo (asideT s k bad) := by
  have z : ∀ j, lo ≤ j → j ≤ s.size → St s lo ⟨j, 0, bad⟩ := fun j h1 h2 => ⟨h1, h2, .inl rfl⟩
  have side : ∀ (k1 : Nat) (en : ByteArray) (two : Bool), k ≤ k1 → k1 ≤ s.size → St s lo (sideT s k k1 en two bad) := by
    intro k1 en two h1 h2
    have hf := farS_bd h2 en
    unfold sideT
    split
    · exact (z k1 (by omega) h2).wrong (.inr (.inl rfl)) (by omega) (by omega)
    · rename_i h0
      have h3 := hf.2 (by omega)
      have h4 := z (k1 + (farS s k1 en).toNat + en.size) (by omega) h3
      split
      · exact h4.wrong (.inr (.inl rfl)) (by omega) (by omega)
      · split
        · exact h4.wrong (.inr (.inl rfl)) (by omega) (by omega)
        · exact h4
  unfold Xm.asideT
  split
  · rename_i hc
    exact side _ _ _ (by omega) (hasAt_bd hk hc)
  · split
    · rename_i hi
      exact side _ _ _ (by omega) (hasAt_bd hk hi)
    · exact z k h0 hk
theorem St.asides {s : ByteArray} {lo : Nat} : ∀ (n : Nat) (p : P3), St s lo p → St s lo (asides s n p)
  | 0, p, h => h
  | n + 1, p, h => by
    unfold Xm.asides
    split
    · exact St.asides n _ (St.asideT h.1 h.2.1)
    · exact h
theorem far_zero {s : ByteArray} {k : Nat} (hk : k < s.size) (h : far s k 60 = 0) : hasAt s k ltS = true := by
  have hg : (s.extract k s.size).data.toList[0]? = some 60 := idxB_get _ 60 0 h
  have hz : (s.extract k s.size).size = s.size - k := by simp
  unfold hasAt pre
  generalize s.extract k s.size = t at *
  obtain ⟨r, hr⟩ : ∃ r, t.data.toList = 60 :: r := by
    cases hl : t.data.toList with
    | nil => rw [hl] at hg; cases hg
    | cons a r => rw [hl] at hg; cases hg; exact ⟨r, rfl⟩
  have h1 : (t.extract 0 1).toList = ltS.toList := by
    rw [ByteArray.toList_eq, ByteArray.toList_eq, ByteArray.data_extract, Array.toList_extract, hr]; rfl
  have h2 : ltS.size = 1 := rfl
  rw [h2, h1]
  simp
  omega
/-- a piece from a place: what comes of it -/
theorem pieceOf_law {s : ByteArray} {k : Nat} {bad : Int} (hk : k < s.size) : OkE s (pieceOf s k bad).2 ∧ (pieceOf s k bad).1.kind ≠ 0 ∧ (pieceOf s k bad).1.at' = k ∧ ((pieceOf s k bad).2.e = 0 → k < (pieceOf s k bad).2.k ∧ (pieceOf s k bad).2.k ≤ s.size) := by
  have z : ∀ j, k < j → j ≤ s.size → St s (k + 1) ⟨j, 0, bad⟩ := fun j h1 h2 => ⟨by show k + 1 ≤ j; omega, h2, .inl rfl⟩
  have fin : ∀ q : P3, St s (k + 1) q → OkE s q ∧ (q.e = 0 → k < q.k ∧ q.k ≤ s.size) := fun q h => ⟨h.2.2, fun _ => ⟨by have := h.1; omega, h.2.1⟩⟩
  unfold pieceOf
  split
  · rename_i hc
    have h9 : k + 9 ≤ s.size := hasAt_bd (Nat.le_of_lt hk) hc
    have hf := farS_bd h9 cdE
    unfold cdT
    split
    · have h1 := fin _ ((z (k + 9) (by omega) h9).wrong (z := 3) (a := (k + 9 : Nat)) (.inr (.inl rfl)) (by omega) (by omega))
      exact ⟨h1.1, by simp, rfl, h1.2⟩
    · rename_i hn
      have h3 := hf.2 (by omega)
      have h3 : k + 9 + (farS s (k + 9) cdE).toNat + 3 ≤ s.size := h3
      have h4 := z _ (by omega) h3
      have h1 := fin _ (by
        show St s (k + 1) (if 0 ≤ text (s.extract (k + 9) (k + 9 + (farS s (k + 9) cdE).toNat)) 0 then Xm.wrong ⟨k + 9 + (farS s (k + 9) cdE).toNat + 3, 0, bad⟩ 3 (k + 9 : Nat) else ⟨k + 9 + (farS s (k + 9) cdE).toNat + 3, 0, bad⟩)
        split
        · exact h4.wrong (.inr (.inl rfl)) (by omega) (by omega)
        · exact h4)
      exact ⟨h1.1, by simp, rfl, h1.2⟩
  · split
    · rename_i hc
      have h2 : k + 2 ≤ s.size := hasAt_bd (Nat.le_of_lt hk) hc
      have h3 := (z (k + 2) (by omega) h2).nameT
      unfold backT
      generalize Xm.nameT s ⟨k + 2, 0, bad⟩ = q at *
      have hb := skip_bd s _ q.k rfl h3.2.1
      have h31 := h3.1
      have h4 : St s (k + 1) (blanksT s q) := h3.at' (by omega) hb.2
      generalize blanksT s q = r at *
      have h41 := h4.1
      have h42 := h4.2.1
      unfold gtT
      split
      · rename_i hg
        have h5 : r.k + 1 ≤ s.size := hasAt_bd h42 hg
        exact ⟨h4.2.2, by simp, rfl, fun _ => ⟨by show k < r.k + 1; omega, h5⟩⟩
      · have h5 := h4.wrong (z := 3) (a := r.k) (.inr (.inl rfl)) (by omega) (by omega)
        refine ⟨h5.2.2, by simp, rfl, fun he => ?_⟩
        exfalso
        simp only [Xm.wrong, errOf] at he
        split at he
        · cases he
        · contradiction
    · split
      · rename_i hc
        have h2 : k + 1 ≤ s.size := hasAt_bd (Nat.le_of_lt hk) hc
        have h1 := fin _ ((z (k + 1) (by omega) h2).tagR)
        have hkd := tagL_kind (s := s) 17 (Xm.nameT s ⟨k + 1, 0, bad⟩) []
        refine ⟨h1.1, ?_, rfl, h1.2⟩
        show (Xm.tagR s ⟨k + 1, 0, bad⟩).1 ≠ 0
        unfold Xm.tagR
        omega
      · rename_i hc
        have hr : k + runN s k ≤ s.size ∧ 0 < runN s k := by
          have hfb := far_bd (s := s) (Nat.le_of_lt hk) 60
          unfold runN
          split
          · omega
          · rename_i hn
            have h3 := hfb.2 (by omega)
            refine ⟨by omega, ?_⟩
            by_cases h0 : far s k 60 = 0
            · exfalso
              apply hc
              exact far_zero hk h0
            · omega
        have h1 := fin _ ((z (k + runN s k) (by omega) hr.1).openT (x := s.extract k (k + runN s k)) (a := k) (by simp; omega))
        exact ⟨h1.1, by simp, rfl, h1.2⟩
theorem nextR_law {s : ByteArray} {p : P3} (h : St s p.k p) :
    ((nextR s p).1.kind = 0 ∧ OkE s (nextR s p).2 ∧ ((nextR s p).2.e = 0 → (nextR s p).2.k = s.size)) ∨
    ((nextR s p).1.kind ≠ 0 ∧ ∃ a : Nat, (nextR s p).1.at' = a ∧ p.k ≤ a ∧ a < s.size ∧ a < (nextR s p).2.k ∧ (nextR s p).2.k ≤ s.size ∧ (nextR s p).2.e = 0) := by
  have h1 := St.asides (s.size + 1) p h
  unfold nextR
  generalize asides s (s.size + 1) p = q at *
  split
  · rename_i hq
    refine .inl ⟨rfl, h1.2.2, fun he => ?_⟩
    rcases hq with hq | hq
    · exact absurd he hq
    · have := h1.2.1; show q.k = s.size; omega
  · rename_i hq
    have hlt : q.k < s.size := by omega
    have h2 := pieceOf_law (bad := q.bad) hlt
    split
    · rename_i he
      exact .inl ⟨rfl, h2.1, fun h => absurd h he⟩
    · rename_i he
      have he0 : (pieceOf s q.k q.bad).2.e = 0 := by simpa using he
      exact .inr ⟨h2.2.1, q.k, h2.2.2.1, h1.1, hlt, (h2.2.2.2 he0).1, (h2.2.2.2 he0).2, he0⟩
theorem newT_law {s : ByteArray} (hs : s.size ≤ 200000) : St s 0 (newT s) ∧ (newT s).k = 0 := by
  have hb := bad_lt s 0
  have z : St s 0 ⟨0, 0, 0⟩ := ⟨Nat.le_refl _, Nat.zero_le _, .inl rfl⟩
  unfold newT
  rw [if_neg (by omega)]
  split
  · exact ⟨z.wrong (.inl rfl) (by omega) (by omega), rfl⟩
  · exact ⟨z, rfl⟩
end Xm
end Go.Proofs.YtdpkhmfolmcejaaGreatDoor

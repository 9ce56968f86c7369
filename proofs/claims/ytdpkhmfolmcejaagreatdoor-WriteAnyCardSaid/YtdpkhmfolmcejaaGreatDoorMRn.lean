/- A text that utf.Bad takes is taken by the reference; so are names. -/
/- What utf and chars tell of a text, the reference tells. No program. -/
import Derived.Test.YtdpkhmfolmcejaaGreatDoorMRead
import Derived.Test.YtdpkhmfolmcejaaGreatDoorMRef
import Derived.Deep.DeepCutAuto
namespace Go.Proofs.YtdpkhmfolmcejaaGreatDoor
open Go.RowKit
namespace Xm
theorem rget_ne {v : ByteArray} : ∀ (m n j : Nat), 1 ≤ n → n ≤ j → j < n + m → j ≤ v.size → str (put (rval v j)) = v.extract 0 j → (rget v m n).2 ≠ 0
  | 0, n, j, _, h1, h2, _, _ => by omega
  | m + 1, n, j, h0, h1, h2, h3, h4 => by
    rw [rget, if_pos (by omega)]
    by_cases he : str (put (rval v n)) = v.extract 0 n
    · rw [if_pos he]; show (n : Int) ≠ 0; omega
    · rw [if_neg he]
      by_cases hj : j = n
      · subst hj; exact absurd h4 he
      · exact rget_ne m (n + 1) j (by omega) (by omega) (by omega) h3 h4
theorem str_ext {t : ByteArray} {l : List UInt8} (hz : l.length ≤ t.size) (h : ∀ i, (hi : i < l.length) → bt t i = (l[i].toNat : Int)) : str l = t.extract 0 l.length := by
  apply ByteArray.ext_getElem
  · rw [str_size]; simp; omega
  · intro i h1 h2
    rw [str_size] at h1
    have := h i h1
    rw [← bt_eq (show i < t.size by omega)] at this
    rw [ByteArray.getElem_extract]
    apply UInt8.toNat_inj.1
    simp only [Nat.zero_add]
    show l[i].toNat = _
    omega
theorem u8i {x : Int} (h0 : 0 ≤ x) (h : x < 256) : ((UInt8.ofNat x.toNat).toNat : Int) = x := by
  rw [UInt8.toNat_ofNat']
  omega
theorem bt_tail {s : ByteArray} {k i : Nat} (h : k + i < s.size) : bt (s.extract k s.size) i = bt s (k + i) := by
  rw [← bt_eq (show i < (s.extract k s.size).size by simp; omega), ← bt_eq h, ByteArray.getElem_extract]
theorem whole_rg {s : ByteArray} {k : Nat} (h : whole s k = true) : (rg s k).2 ≠ 0 := by
  simp only [whole, Bool.and_eq_true, decide_eq_true_eq] at h
  obtain ⟨⟨⟨⟨h1, h2⟩, h3⟩, h4⟩, h5⟩ := h
  have hz : (s.extract k s.size).size = s.size - k := by simp
  have b0 : bt (s.extract k s.size) 0 = bt s k := bt_tail (by omega)
  have hb0 := bt_bd s k
  unfold rg
  unfold formN at h2 h3 h4 h5
  split at h2
  · rename_i c1
    rw [if_pos c1] at h3 h4 h5
    apply rget_ne 4 1 1 (by omega) (by omega) (by omega) (by omega)
    have hv : rval (s.extract k s.size) 1 = bt s k := by simp [rval, b0]
    have hs : size (bt s k) = 1 := by
      have : val s k (Int.toNat 1 - 1) = bt s k := by show formB (bt s k) = _; unfold formB; rw [if_pos c1]
      rwa [this] at h5
    rw [hv]
    have hp : put (bt s k) = [UInt8.ofNat (bt s k).toNat] := by unfold put; rw [hs]; rfl
    rw [hp]
    refine str_ext (l := [UInt8.ofNat (bt s k).toNat]) (by simp; omega) fun i hi => ?_
    have hi : i < 1 := hi
    obtain rfl : i = 0 := by omega
    rw [b0]; exact (u8i hb0.1 (by omega)).symm
  · rename_i c1
    split at h2
    · rename_i c2
      rw [if_neg c1, if_pos c2] at h3 h4 h5
      apply rget_ne 4 1 2 (by omega) (by omega) (by omega) (by omega)
      have b1 : bt (s.extract k s.size) 1 = bt s (k + 1) := bt_tail (by omega)
      simp only [tail, show Int.toNat 2 - 1 = 1 from rfl, Bool.and_eq_true, decide_eq_true_eq, Nat.add_zero, true_and] at h4
      have hw : val s k (Int.toNat 2 - 1) = rval (s.extract k s.size) 2 := by
        show formB (bt s k) * 64 + bt s (k + 1) % 64 = _
        simp only [rval, b0, b1, formB, if_neg c1, if_pos c2]
        simp
        omega
      rw [hw] at h5
      have hr : rval (s.extract k s.size) 2 = (bt s k - 192) * 64 + bt s (k + 1) - 128 := by simp [rval, b0, b1]
      generalize rval (s.extract k s.size) 2 = r at *
      have hp : put r = [UInt8.ofNat (192 + (r / 64).toNat), UInt8.ofNat (128 + (r % 64).toNat)] := by unfold put; rw [h5]; rfl
      rw [hp]
      refine str_ext (l := [_, _]) (by simp; omega) fun i hi => ?_
      have hi : i < 2 := hi
      rcases (show i = 0 ∨ i = 1 by omega) with rfl | rfl
      · rw [b0]; show _ = ((UInt8.ofNat _).toNat : Int); rw [u8n (by omega)]; omega
      · rw [b1]; show _ = ((UInt8.ofNat _).toNat : Int); rw [u8n (by omega)]; omega
    · rename_i c2
      split at h2
      · rename_i c3
        rw [if_neg c1, if_neg c2, if_pos c3] at h3 h4 h5
        apply rget_ne 4 1 3 (by omega) (by omega) (by omega) (by omega)
        have b1 : bt (s.extract k s.size) 1 = bt s (k + 1) := bt_tail (by omega)
        have b2 : bt (s.extract k s.size) 2 = bt s (k + 2) := bt_tail (by omega)
        simp only [tail, show Int.toNat 3 - 1 = 2 from rfl, Bool.and_eq_true, decide_eq_true_eq, Nat.add_zero, true_and] at h4
        have e2 : k + 1 + 1 = k + 2 := rfl
        rw [e2] at h4
        have hw : val s k (Int.toNat 3 - 1) = rval (s.extract k s.size) 3 := by
          show (formB (bt s k) * 64 + bt s (k + 1) % 64) * 64 + bt s (k + 2) % 64 = _
          simp only [rval, b0, b1, b2, formB, if_neg c1, if_neg c2, if_pos c3]
          simp
          omega
        rw [hw] at h5
        have hr : rval (s.extract k s.size) 3 = (bt s k - 224) * 4096 + (bt s (k + 1) - 128) * 64 + bt s (k + 2) - 128 := by simp [rval, b0, b1, b2]
        generalize rval (s.extract k s.size) 3 = r at *
        have hp : put r = [UInt8.ofNat (224 + (r / 4096).toNat), UInt8.ofNat (128 + (r / 64 % 64).toNat), UInt8.ofNat (128 + (r % 64).toNat)] := by unfold put; rw [h5]; rfl
        rw [hp]
        refine str_ext (l := [_, _, _]) (by simp; omega) fun i hi => ?_
        have hi : i < 3 := hi
        rcases (show i = 0 ∨ i = 1 ∨ i = 2 by omega) with rfl | rfl | rfl
        · rw [b0]; show _ = ((UInt8.ofNat _).toNat : Int); rw [u8n (by omega)]; omega
        · rw [b1]; show _ = ((UInt8.ofNat _).toNat : Int); rw [u8n (by omega)]; omega
        · rw [b2]; show _ = ((UInt8.ofNat _).toNat : Int); rw [u8n (by omega)]; omega
      · rename_i c3
        split at h2
        · rename_i c4
          rw [if_neg c1, if_neg c2, if_neg c3, if_pos c4] at h3 h4 h5
          apply rget_ne 4 1 4 (by omega) (by omega) (by omega) (by omega)
          have b1 : bt (s.extract k s.size) 1 = bt s (k + 1) := bt_tail (by omega)
          have b2 : bt (s.extract k s.size) 2 = bt s (k + 2) := bt_tail (by omega)
          have b3 : bt (s.extract k s.size) 3 = bt s (k + 3) := bt_tail (by omega)
          simp only [tail, show Int.toNat 4 - 1 = 3 from rfl, Bool.and_eq_true, decide_eq_true_eq, Nat.add_zero, true_and] at h4
          have e2 : k + 1 + 1 = k + 2 := rfl
          have e3 : k + 1 + 2 = k + 3 := rfl
          rw [e2, e3] at h4
          have hw : val s k (Int.toNat 4 - 1) = rval (s.extract k s.size) 4 := by
            show ((formB (bt s k) * 64 + bt s (k + 1) % 64) * 64 + bt s (k + 2) % 64) * 64 + bt s (k + 3) % 64 = _
            simp only [rval, b0, b1, b2, b3, formB, if_neg c1, if_neg c2, if_neg c3, if_pos c4]
            simp
            omega
          rw [hw] at h5
          have hr : rval (s.extract k s.size) 4 = (bt s k - 240) * 262144 + (bt s (k + 1) - 128) * 4096 + (bt s (k + 2) - 128) * 64 + bt s (k + 3) - 128 := by simp [rval, b0, b1, b2, b3]
          generalize rval (s.extract k s.size) 4 = r at *
          have hp : put r = [UInt8.ofNat (240 + (r / 262144).toNat), UInt8.ofNat (128 + (r / 4096 % 64).toNat), UInt8.ofNat (128 + (r / 64 % 64).toNat), UInt8.ofNat (128 + (r % 64).toNat)] := by unfold put; rw [h5]; rfl
          rw [hp]
          refine str_ext (l := [_, _, _, _]) (by simp; omega) fun i hi => ?_
          have hi : i < 4 := hi
          rcases (show i = 0 ∨ i = 1 ∨ i = 2 ∨ i = 3 by omega) with rfl | rfl | rfl | rfl
          · rw [b0]; show _ = ((UInt8.ofNat _).toNat : Int); rw [u8n (by omega)]; omega
          · rw [b1]; show _ = ((UInt8.ofNat _).toNat : Int); rw [u8n (by omega)]; omega
          · rw [b2]; show _ = ((UInt8.ofNat _).toNat : Int); rw [u8n (by omega)]; omega
          · rw [b3]; show _ = ((UInt8.ofNat _).toNat : Int); rw [u8n (by omega)]; omega
        · exact absurd rfl h2
theorem rg_get {s : ByteArray} {k : Nat} (h : getN s k ≠ 0) : (rg s k).2 = getN s k := by
  have hw : whole s k = true := by
    unfold getN at h
    split at h
    · assumption
    · exact absurd rfl h
  have hk : k < s.size := by simp [whole] at hw; omega
  have h0 := whole_rg hw
  obtain ⟨_, h2, h3⟩ := rg_own (Nat.le_of_lt hk) h0
  have hbd := rg_bd (s := s) (Nat.le_of_lt hk)
  have hs : s = str (s.data.toList.take k ++ put (rg s k).1 ++ s.data.toList.drop (k + (rg s k).2.toNat)) := by
    apply ByteArray.ext
    apply Array.toList_inj.1
    have h4 : (s.extract k (k + (rg s k).2.toNat)).data.toList = put (rg s k).1 := by rw [h2]; rfl
    have h5 : (s.extract k (k + (rg s k).2.toNat)).data.toList = (s.data.toList.take (k + (rg s k).2.toNat)).drop k := by
      rw [ByteArray.data_extract, Array.toList_extract, List.extract_eq_take_drop, List.drop_take]
    rw [← h4, h5]
    show _ = s.data.toList.take k ++ (s.data.toList.take (k + (rg s k).2.toNat)).drop k ++ s.data.toList.drop (k + (rg s k).2.toNat)
    rw [show s.data.toList.take k = (s.data.toList.take (k + (rg s k).2.toNat)).take k by rw [List.take_take, Nat.min_eq_left (by omega)], List.take_append_drop, List.take_append_drop]
  have hl : (s.data.toList.take k).length = k := by
    rw [List.length_take]
    have : s.data.toList.length = s.size := by rw [Array.length_toList]; rfl
    omega
  have hg := (got (s.data.toList.take k) (s.data.toList.drop (k + (rg s k).2.toNat)) (r := (rg s k).1) (by rw [h3]; exact h0)).1
  rw [← hs, hl] at hg
  rw [hg, h3]
end Xm
end Go.Proofs.YtdpkhmfolmcejaaGreatDoor
namespace Go.Proofs.YtdpkhmfolmcejaaGreatDoor
namespace Xm
theorem rg_eq {s : ByteArray} {k : Nat} (hk : k ≤ s.size) : (rg s k).2 = getN s k ∧ ((rg s k).2 ≠ 0 → (rg s k).1 = getR s k) := by
  by_cases h0 : (rg s k).2 = 0
  · refine ⟨?_, fun h => absurd h0 h⟩
    by_cases hn : getN s k = 0
    · rw [h0, hn]
    · exact rg_get hn
  · obtain ⟨_, h2, h3⟩ := rg_own hk h0
    have hbd := rg_bd (s := s) hk
    have hs : s = str (s.data.toList.take k ++ put (rg s k).1 ++ s.data.toList.drop (k + (rg s k).2.toNat)) := by
      apply ByteArray.ext
      apply Array.toList_inj.1
      have h4 : (s.extract k (k + (rg s k).2.toNat)).data.toList = put (rg s k).1 := by rw [h2]; rfl
      have h5 : (s.extract k (k + (rg s k).2.toNat)).data.toList = (s.data.toList.take (k + (rg s k).2.toNat)).drop k := by
        rw [ByteArray.data_extract, Array.toList_extract, List.extract_eq_take_drop, List.drop_take]
      rw [← h4, h5]
      show _ = s.data.toList.take k ++ (s.data.toList.take (k + (rg s k).2.toNat)).drop k ++ s.data.toList.drop (k + (rg s k).2.toNat)
      rw [show s.data.toList.take k = (s.data.toList.take (k + (rg s k).2.toNat)).take k by rw [List.take_take, Nat.min_eq_left (by omega)], List.take_append_drop, List.take_append_drop]
    have hl : (s.data.toList.take k).length = k := by
      rw [List.length_take]
      have : s.data.toList.length = s.size := by rw [Array.length_toList]; rfl
      omega
    have hg := got (s.data.toList.take k) (s.data.toList.drop (k + (rg s k).2.toNat)) (r := (rg s k).1) (by rw [h3]; exact h0)
    rw [← hs, hl] at hg
    exact ⟨by rw [hg.1, h3], fun _ => hg.2.symm⟩
theorem letter_odd {r : Int} (h : letter r = true) : odd r = false := by
  unfold letter at h
  unfold odd
  split at h
  · rename_i hr
    simp only [Bool.or_eq_true, beq_iff_eq] at h
    rcases h with (rfl | rfl) | rfl <;> decide
  · rename_i hr
    simp only [Bool.and_eq_true, bne_iff_ne] at h
    have h1 : decide (r < 32) = false := by simp; omega
    have h2 : (r == 65534) = false := by simpa using h.1.2
    have h3 : (r == 65535) = false := by simpa using h.2
    rw [h1, h2, h3]
    rfl
end Xm
end Go.Proofs.YtdpkhmfolmcejaaGreatDoor

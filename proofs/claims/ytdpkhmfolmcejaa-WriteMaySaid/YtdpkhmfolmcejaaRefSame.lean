/- What utf and chars tell of a text, the reference tells. No program. -/
import Derived.Test.YtdpkhmfolmcejaaRefName2
namespace Go.Proofs.Ytdpkhmfolmcejaa
namespace Xm
theorem rg_eq {s : ByteArray} {k : Nat} (hk : k ≤ s.size) : (rg s k).2 = getN s k ∧ ((rg s k).2 ≠ 0 → (rg s k).1 = getR s k) := by
  by_cases h0 : (rg s k).2 = 0
  · refine ⟨?_, fun h => absurd h0 h⟩
    by_cases hn : getN s k = 0
    · rw [h0, hn]
    · exact rg_get hn
  · obtain ⟨_, h2, h3⟩ := rg_own hk h0
    have hbd := rg_bd (s := s) hk
    have hs : s = str (s.data.toList.take k ++ put (rg s k).1 ++ s.data.toList.drop (k + (rg s k).2.toNat)) := by
      apply ByteArray.ext
      apply Array.toList_inj.1
      have h4 : (s.extract k (k + (rg s k).2.toNat)).data.toList = put (rg s k).1 := by rw [h2]; rfl
      have h5 : (s.extract k (k + (rg s k).2.toNat)).data.toList = (s.data.toList.take (k + (rg s k).2.toNat)).drop k := by
        rw [ByteArray.data_extract, Array.toList_extract, List.extract_eq_take_drop, List.drop_take]
      rw [← h4, h5]
      show _ = s.data.toList.take k ++ (s.data.toList.take (k + (rg s k).2.toNat)).drop k ++ s.data.toList.drop (k + (rg s k).2.toNat)
      rw [show s.data.toList.take k = (s.data.toList.take (k + (rg s k).2.toNat)).take k by rw [List.take_take, Nat.min_eq_left (by omega)], List.take_append_drop, List.take_append_drop]
    have hl : (s.data.toList.take k).length = k := by
      rw [List.length_take]
      have : s.data.toList.length = s.size := by rw [Array.length_toList]; rfl
      omega
    have hg := got (s.data.toList.take k) (s.data.toList.drop (k + (rg s k).2.toNat)) (r := (rg s k).1) (by rw [h3]; exact h0)
    rw [← hs, hl] at hg
    exact ⟨by rw [hg.1, h3], fun _ => hg.2.symm⟩
theorem letter_odd {r : Int} (h : letter r = true) : odd r = false := by
  unfold letter at h
  unfold odd
  split at h
  · rename_i hr
    simp only [Bool.or_eq_true, beq_iff_eq] at h
    rcases h with (rfl | rfl) | rfl <;> decide
  · rename_i hr
    simp only [Bool.and_eq_true, bne_iff_ne] at h
    have h1 : decide (r < 32) = false := by simp; omega
    have h2 : (r == 65534) = false := by simpa using h.1.2
    have h3 : (r == 65535) = false := by simpa using h.2
    rw [h1, h2, h3]
    rfl
theorem rtext_eq {s : ByteArray} : ∀ (d k : Nat), s.size - k = d → rtext s k = text s k := by
  intro d
  induction d using Nat.strongRecOn with
  | _ d ih =>
    intro k hd
    rw [rtext, text]
    by_cases hlt : k < s.size
    · rw [dif_pos hlt, dif_pos hlt]
      obtain ⟨e1, e2⟩ := rg_eq (s := s) (Nat.le_of_lt hlt)
      by_cases h0 : getN s k = 0
      · rw [dif_pos (.inl (by rw [e1]; exact h0)), dif_pos (.inl h0)]
      · have hr := e2 (by rw [e1]; exact h0)
        have hz : size (getR s k) ≠ 0 := by
          have := (rg_own (Nat.le_of_lt hlt) (show (rg s k).2 ≠ 0 by rw [e1]; exact h0)).2.2
          rw [hr, e1] at this
          rw [this]; exact h0
        cases hl : letter (getR s k) with
        | false =>
          have ho : odd (rg s k).1 = true := by
            cases ho : odd (rg s k).1 with
            | true => rfl
            | false =>
              rw [hr] at ho
              rw [ok_letter hz ho] at hl
              cases hl
          rw [dif_pos (.inr ho), dif_pos (.inr rfl)]
        | true =>
          have ho : odd (rg s k).1 = false := by rw [hr]; exact letter_odd hl
          rw [dif_neg (by rw [e1, ho]; simp [h0]), dif_neg (by simp [h0]), e1]
          have hbd := getN_bd s k
          exact ih _ (by omega) _ rfl
    · rw [dif_neg hlt, dif_neg hlt]
theorem rbad_eq {s : ByteArray} : ∀ (d k : Nat), s.size - k = d → rbad s k = bad s k := by
  intro d
  induction d using Nat.strongRecOn with
  | _ d ih =>
    intro k hd
    rw [rbad, bad]
    by_cases hlt : k < s.size
    · rw [dif_pos hlt, dif_pos hlt]
      obtain ⟨e1, _⟩ := rg_eq (s := s) (Nat.le_of_lt hlt)
      by_cases h0 : getN s k = 0
      · rw [dif_pos (by rw [e1]; exact h0), dif_pos h0]
      · rw [dif_neg (by rw [e1]; exact h0), dif_neg h0, e1]
        have hbd := getN_bd s k
        exact ih _ (by omega) _ rfl
    · rw [dif_neg hlt, dif_neg hlt]
end Xm
end Go.Proofs.Ytdpkhmfolmcejaa

/- What Plain answers is letters that may stand in a text. No program. -/
import Derived.Test.YtfkdjdmbgednkaaDoorLetters
import Derived.Test.YtfkdjdmbgednkaaDoorRefPlain
namespace Go.Proofs.YtfkdjdmbgednkaaDoor
namespace Xm
/-- letters that may stand in a text -/
def Ok (L : List Int) : Prop := ∀ r ∈ L, size r ≠ 0 ∧ odd r = false
theorem rget_some (s : ByteArray) : ∀ m n, 1 ≤ n → n + m ≤ 5 → (rget s m n).2 ≠ 0 → ∃ j : Nat, n ≤ j ∧ j ≤ 4 ∧ j ≤ s.size ∧ rget s m n = (rval s j, (j : Int)) ∧ str (put (rval s j)) = s.extract 0 j ∧ ∀ i, n ≤ i → i < j → str (put (rval s i)) ≠ s.extract 0 i
  | 0, n, h1, h, h0 => by exfalso; apply h0; rfl
  | m + 1, n, h1, h, h0 => by
    rw [rget] at h0 ⊢
    split
    · rename_i hle
      rw [if_pos hle] at h0
      split
      · rename_i he
        exact ⟨n, Nat.le_refl _, by omega, hle, rfl, he, fun i h2 h3 => by omega⟩
      · rename_i he
        rw [if_neg he] at h0
        obtain ⟨j, g1, g2, g3, g4, g5, g6⟩ := rget_some s m (n + 1) (by omega) (by omega) h0
        refine ⟨j, by omega, g2, g3, g4, g5, fun i h2 h3 => ?_⟩
        by_cases hi : i = n
        · rw [hi]; exact he
        · exact g6 i (by omega) h3
    · rename_i hle
      rw [if_neg hle] at h0
      exact absurd rfl h0
theorem rget_at {v : ByteArray} : ∀ (m n j : Nat), n ≤ j → j < n + m → j ≤ v.size → str (put (rval v j)) = v.extract 0 j → (∀ i, n ≤ i → i < j → str (put (rval v i)) ≠ v.extract 0 i) → rget v m n = (rval v j, (j : Int))
  | 0, n, j, h1, h2, _, _, _ => by omega
  | m + 1, n, j, h1, h2, h3, h4, h5 => by
    rw [rget, if_pos (by omega)]
    by_cases hj : j = n
    · subst hj; rw [if_pos h4]
    · rw [if_neg (h5 n (Nat.le_refl _) (by omega))]
      exact rget_at m (n + 1) j (by omega) (by omega) h3 h4 (fun i g1 g2 => h5 i (by omega) g2)
theorem ext0 (t : ByteArray) {i j : Nat} (h : i ≤ j) : (t.extract 0 j).extract 0 i = t.extract 0 i := by
  rw [ByteArray.extract_extract]
  congr 1
  omega
theorem rval_pre {s : ByteArray} {n i : Nat} (hn : n ≤ s.size) (h1 : 1 ≤ i) (hi : i ≤ n) (hi4 : i ≤ 4) : rval (s.extract 0 n) i = rval s i := by
  have hb : ∀ q, q < n → bt (s.extract 0 n) q = bt s q := by
    intro q hq
    have hz : (s.extract 0 n).size = n := by simp; omega
    rw [← bt_eq (show q < (s.extract 0 n).size by omega), ← bt_eq (show q < s.size by omega), ByteArray.getElem_extract]
    simp only [Nat.zero_add]
  unfold rval
  rcases (show i = 1 ∨ i = 2 ∨ i = 3 ∨ i = 4 by omega) with rfl | rfl | rfl | rfl
  · simp [hb 0 (by omega)]
  · simp [hb 0 (by omega), hb 1 (by omega)]
  · simp [hb 0 (by omega), hb 1 (by omega), hb 2 (by omega)]
  · simp [hb 0 (by omega), hb 1 (by omega), hb 2 (by omega), hb 3 (by omega)]
/-- a letter that is got is got again from its own bytes -/
theorem rg_own {s : ByteArray} {k : Nat} (hk : k ≤ s.size) (h0 : (rg s k).2 ≠ 0) : rg (s.extract k (k + (rg s k).2.toNat)) 0 = rg s k ∧ s.extract k (k + (rg s k).2.toNat) = str (put (rg s k).1) ∧ size (rg s k).1 = (rg s k).2 := by
  obtain ⟨j, h1, h4, hle, he, hp, hno⟩ := rget_some (s.extract k s.size) 4 1 (by omega) (by omega) h0
  have hz : (s.extract k s.size).size = s.size - k := by simp
  have hv : s.extract k (k + j) = (s.extract k s.size).extract 0 j := by
    rw [ByteArray.extract_extract]
    congr 1
    · omega
  unfold rg at *
  rw [he]
  simp only [Int.toNat_natCast]
  rw [hv]
  generalize s.extract k s.size = t at *
  have hz2 : (t.extract 0 j).size = j := by simp; omega
  refine ⟨?_, hp.symm, ?_⟩
  · have hfull : (t.extract 0 j).extract 0 (t.extract 0 j).size = t.extract 0 j := by rw [hz2, ext0 t (Nat.le_refl _)]
    rw [hfull, rget_at 4 1 j h1 (by omega) (by omega) (by rw [rval_pre (by omega) h1 (Nat.le_refl _) h4, hp, ext0 t (Nat.le_refl _)]) (fun i g1 g2 => by
      rw [rval_pre (by omega) g1 (by omega) (by omega)]
      intro hx
      apply hno i g1 g2
      rw [hx, ext0 t (by omega)]), rval_pre (by omega) h1 (Nat.le_refl _) h4]
  · have h5 := congrArg ByteArray.size hp
    rw [str_size, hz2] at h5
    have := put_size (rval t j)
    omega
theorem rtext_own {s : ByteArray} {k : Nat} (hk : k ≤ s.size) (h0 : (rg s k).2 ≠ 0) (ht : ¬ 0 ≤ rtext (s.extract k (k + (rg s k).2.toNat)) 0) : odd (rg s k).1 = false := by
  obtain ⟨h1, h2, h3⟩ := rg_own hk h0
  have hbd := rg_bd hk
  have hz : (s.extract k (k + (rg s k).2.toNat)).size = (rg s k).2.toNat := by simp; omega
  cases ho : odd (rg s k).1
  · rfl
  · exfalso
    apply ht
    rw [rtext, dif_pos (by omega), h1, dif_pos (.inr ho)]
    simp
theorem rplain_cat (s : ByteArray) : ∀ (d k : Nat) (acc : ByteArray), s.size - k = d → k ≤ s.size → ∃ L, Ok L ∧ rplain s k acc = acc ++ str (cat L) := by
  intro d
  induction d using Nat.strongRecOn with
  | _ d ih =>
    intro k acc hd hk
    rw [rplain]
    split
    · rename_i hlt
      split
      · obtain ⟨L, hL, he⟩ := ih (s.size - (k + 1)) (by omega) (k + 1) (acc ++ ⟨#[120]⟩) rfl (by omega)
        refine ⟨120 :: L, fun r hr => ?_, ?_⟩
        · rcases List.mem_cons.1 hr with rfl | h
          · exact ⟨by decide, by decide⟩
          · exact hL r h
        · rw [he, cat_cons, ← str_append, ByteArray.append_assoc]
          rfl
      · rename_i h0
        rw [not_or] at h0
        have hbd := rg_bd hk
        obtain ⟨g1, g2, g3⟩ := rg_own hk h0.1
        have ho := rtext_own hk h0.1 h0.2
        have h00 := h0.1
        obtain ⟨L, hL, he⟩ := ih (s.size - (k + (rg s k).2.toNat)) (by omega) (k + (rg s k).2.toNat) (acc ++ s.extract k (k + (rg s k).2.toNat)) rfl (by omega)
        refine ⟨(rg s k).1 :: L, fun r hr => ?_, ?_⟩
        · rcases List.mem_cons.1 hr with rfl | h
          · exact ⟨by rw [g3]; exact h00, ho⟩
          · exact hL r h
        · rw [he, g2, cat_cons, ← str_append, ByteArray.append_assoc]
    · refine ⟨[], ?_, ?_⟩
      · intro r hr; cases hr
      · show acc = acc ++ ByteArray.empty; simp
/-- what Plain answers -/
theorem plain_cat (s : ByteArray) : ∃ L, Ok L ∧ rplain s 0 ByteArray.empty = str (cat L) := by
  obtain ⟨L, h, e⟩ := rplain_cat s _ 0 ByteArray.empty rfl (Nat.zero_le _)
  exact ⟨L, h, by rw [e]; simp⟩
theorem ok_letter {r : Int} (h0 : size r ≠ 0) (h : odd r = false) : letter r = true := by
  have hm : may r = true := by
    cases hm : may r
    · exfalso; apply h0; simp [size, hm]
    · rfl
  simp only [odd, Bool.or_eq_false_iff, Bool.and_eq_false_iff] at h
  unfold letter
  rw [hm]
  split
  · rename_i h32
    simp [h32] at h
    simp
    omega
  · simp at h ⊢
    omega
end Xm
end Go.Proofs.YtfkdjdmbgednkaaDoor

/- How long the document of a nice element is, and how often '<' stands in it. No program. -/
import Derived.Test.YtdpkhmfolmcejaaGreatDoorText6
namespace Go.Proofs.YtdpkhmfolmcejaaGreatDoor
namespace Xm
theorem c60_no {l : List UInt8} (h : (60 : UInt8) ∉ l) : l.count 60 = 0 := List.count_eq_zero.2 h
theorem nl_60 {n : List UInt8} (h : Nl n) : n.count 60 = 0 := c60_no fun hc => (h.part 60 hc).2.2.2.1 rfl
theorem cl_60 (l : List UInt8) : (clL l).count 60 = 0 := c60_no (clL_no (.inl rfl) l)
theorem atB_bd (n v : List UInt8) (hn : n.count 60 = 0) (hl : n.length ≤ 8) (hv : v.length ≤ 9) :
    (32 :: (n ++ ([61, 34] ++ (clL v ++ [34])))).length ≤ 66 ∧ (32 :: (n ++ ([61, 34] ++ (clL v ++ [34])))).count 60 = 0 := by
  have h1 := clL_len v
  have h2 := cl_60 v
  refine ⟨by simp; omega, ?_⟩
  rw [List.count_cons, List.count_append, List.count_append, List.count_append, hn, h2]
  rfl
theorem atD_bd : ∀ (al : List (List UInt8 × List UInt8)) (_ : ∀ a ∈ al, a.1.count 60 = 0 ∧ a.1.length ≤ 8 ∧ a.2.length ≤ 9), (atD (bsA al)).length ≤ 66 * al.length ∧ (atD (bsA al)).count 60 = 0
  | [], _ => ⟨Nat.zero_le _, rfl⟩
  | a :: al, h => by
    have ih := atD_bd al fun b hb => h b (List.mem_cons_of_mem _ hb)
    have ha := h a List.mem_cons_self
    have hb := atB_bd a.1 a.2 ha.1 ha.2.1 ha.2.2
    have e : atD (bsA (a :: al)) = (32 :: (a.1 ++ ([61, 34] ++ (clL a.2 ++ [34])))) ++ atD (bsA al) := rfl
    have e2 : (a :: al).length = al.length + 1 := rfl
    rw [e, List.length_append, List.count_append, hb.2, ih.2, e2]
    exact ⟨by omega, rfl⟩
theorem niceA_bd {al : List (List UInt8 × List UInt8)} (h : NiceA al) : ∀ a ∈ al, a.1.count 60 = 0 ∧ a.1.length ≤ 8 ∧ a.2.length ≤ 9 := by
  intro a ha
  obtain ⟨j, hj⟩ := List.mem_iff_getElem?.1 ha
  obtain ⟨n, h1, h2, h3, _, h5⟩ := h.2 j a hj
  have hj3 : j < 3 := by
    have := (List.getElem?_eq_some_iff.1 hj).1
    have := h.1
    omega
  have hm := h2.more h3 j hj3
  rw [← h1] at hm
  exact ⟨nl_60 hm, by rw [h1]; simp; omega, h5⟩
theorem spD_bd {v : List UInt8} (hv : v ∈ spaces) (space : ByteArray) : (spD (str v) space).length ≤ 27 ∧ (spD (str v) space).count 60 = 0 := by
  have hl : v.length ≤ 3 := by
    simp only [spaces, List.mem_cons, List.not_mem_nil, or_false] at hv
    rcases hv with rfl | rfl | rfl | rfl <;> decide
  have h1 := clL_len v
  have h2 := cl_60 v
  unfold spD
  split
  · exact ⟨Nat.zero_le _, rfl⟩
  · refine ⟨by rw [bl_str]; simp; omega, ?_⟩
    rw [bl_str, List.count_append, List.count_append, h2]
    rfl
theorem docN_bd (M : Nat) : ∀ (d : Nat) (y : Nod) (space : ByteArray) (pad : List UInt8), Nice d y → pad.length + d ≤ M → pad.count 60 = 0 → (docN y space pad).length ≤ (350 + 2 * M) * cnt y ∧ (docN y space pad).count 60 ≤ 2 * cnt y
  | 0, _, _, _, h, _, _ => by cases h
  | d + 1, .mk sp nm l ks tx, space, pad, h, hp, hc => by
    obtain ⟨⟨v, hv, rfl⟩, ⟨n, rfl, hn, hn7⟩, ⟨al, rfl, ha⟩, hk3, hks, ⟨t, rfl, ht, ht12, _⟩, _⟩ := h
    have b1 := spD_bd hv space
    have b2 := atD_bd al (niceA_bd ha)
    have b3 := ha.1
    have b4 := nl_60 hn
    have b5 := clL_len t
    have b6 := cl_60 t
    have hh : (headD (str v) (str n) (bsA al) space pad).length ≤ pad.length + 233 ∧ (headD (str v) (str n) (bsA al) space pad).count 60 ≤ 1 := by
      unfold headD
      rw [bl_str]
      refine ⟨by simp; omega, ?_⟩
      rw [List.count_append, List.count_cons, List.count_append, List.count_append, hc, b4, b1.2, b2.2]
      exact Nat.le_refl _
    by_cases h0 : ks = []
    · subst h0
      rw [docN_nil, List.length_append, List.count_append]
      have e : cnt (.mk (str v) (str n) (bsA al) [] (str t)) = 1 := rfl
      rw [e]
      split
      · exact ⟨by simp; omega, by have : ([47, 62, 10] : List UInt8).count 60 = 0 := rfl; omega⟩
      · rw [bl_str, bl_str]
        refine ⟨by simp; omega, ?_⟩
        rw [List.count_cons, List.count_append, List.count_append, List.count_append, b6, b4]
        have : ([60, 47] : List UInt8).count 60 = 1 := rfl
        have : ([62, 10] : List UInt8).count 60 = 0 := rfl
        have : (if (62 : UInt8) == 60 then 1 else 0) = 0 := rfl
        omega
    · rw [docN_kids _ _ _ _ _ _ _ h0, List.length_append, List.count_append]
      have hall : ∀ (ys : List Nod), (∀ y ∈ ys, Nice d y) → (docL ys (str v) (pad ++ [32])).length ≤ (350 + 2 * M) * cntL ys ∧ (docL ys (str v) (pad ++ [32])).count 60 ≤ 2 * cntL ys := by
        intro ys
        induction ys with
        | nil => intro _; exact ⟨Nat.zero_le _, Nat.zero_le _⟩
        | cons y ys ih =>
          intro hy
          have i1 := docN_bd M d y (str v) (pad ++ [32]) (hy y List.mem_cons_self) (by simp; omega) (by rw [List.count_append, hc]; rfl)
          have i2 := ih fun z hz => hy z (List.mem_cons_of_mem _ hz)
          rw [docL, List.length_append, List.count_append, cntL, Nat.mul_add]
          omega
      have hL := hall ks hks
      have e : cnt (.mk (str v) (str n) (bsA al) ks (str t)) = 1 + cntL ks := rfl
      rw [e, bl_str, Nat.mul_add]
      refine ⟨by simp; omega, ?_⟩
      rw [List.count_append, List.count_append, List.count_append, List.count_append, List.count_append, hc, b4]
      have : ([60, 47] : List UInt8).count 60 = 1 := rfl
      have : ([62, 10] : List UInt8).count 60 = 0 := rfl
      omega
theorem nice_cntL (m : Nat) : ∀ (ys : List Nod), (∀ y ∈ ys, cnt y ≤ m) → cntL ys ≤ m * ys.length
  | [], _ => Nat.zero_le _
  | y :: ys, h => by
    have := nice_cntL m ys fun z hz => h z (List.mem_cons_of_mem _ hz)
    have := h y List.mem_cons_self
    rw [cntL, List.length_cons, Nat.mul_add]
    omega
theorem nice_cnt1 : ∀ (y : Nod), Nice 1 y → cnt y ≤ 1
  | .mk sp nm l ks tx, h => by
    obtain ⟨_, _, _, _, hks, _⟩ := h
    cases ks with
    | nil => exact Nat.le_refl _
    | cons k ks => exact absurd (hks k List.mem_cons_self) id
theorem nice_cnt2 : ∀ (y : Nod), Nice 2 y → cnt y ≤ 4
  | .mk sp nm l ks tx, h => by
    obtain ⟨_, _, _, hk, hks, _⟩ := h
    have := nice_cntL 1 ks fun y hy => nice_cnt1 y (hks y hy)
    rw [cnt]; omega
theorem nice_cnt3 : ∀ (y : Nod), Nice 3 y → cnt y ≤ 13
  | .mk sp nm l ks tx, h => by
    obtain ⟨_, _, _, hk, hks, _⟩ := h
    have := nice_cntL 4 ks fun y hy => nice_cnt2 y (hks y hy)
    rw [cnt]; omega
theorem doc3 {y : Nod} (h : Nice 3 y) : (docN y ByteArray.empty []).length ≤ 10000 ∧ (docN y ByteArray.empty []).count 60 ≤ 26 := by
  have h1 := docN_bd 3 3 y ByteArray.empty [] h (by decide) rfl
  have h2 := nice_cnt3 y h
  omega
end Xm
end Go.Proofs.YtdpkhmfolmcejaaGreatDoor

/- Elements of few of each may be. No program. -/
import Derived.Test.YtdpkhmfolmcejaaGreatDoorWText
import Derived.Test.YtdpkhmfolmcejaaGreatDoorMDo
namespace Go.Proofs.YtdpkhmfolmcejaaGreatDoor
namespace Xm
theorem named1_ne {a b : List UInt8} (h : a ≠ b) (v : ByteArray) : named1 (str a) (str b, v) = false := by
  have h2 : (str b).toList ≠ (str a).toList := fun e => by
    rw [ByteArray.toList_eq, ByteArray.toList_eq] at e
    exact h e.symm
  unfold named1
  simpa using h2
theorem emp_size : (ByteArray.empty).size = 0 := rfl
theorem text_nn {v : List UInt8} (h : Lt v) : decide (0 ≤ text (str v) 0) = false := by rw [h.text]; rfl
theorem vt_text {v : List UInt8} (h : Vt v) : decide (0 ≤ text (str v) 0) = false := text_nn h.lt
theorem nl_xmlns {n : List UInt8} {i : Nat} (hi : i < 3) : (str (n ++ [UInt8.ofNat (65 + i)])).toList ≠ xmlns := by
  intro e
  rw [ByteArray.toList_eq] at e
  have e : n ++ [UInt8.ofNat (65 + i)] = xmlns := e
  have h := congrArg List.getLast? e
  rw [List.getLast?_append] at h
  rcases (by omega : i = 0 ∨ i = 1 ∨ i = 2) with rfl | rfl | rfl <;> simp [xmlns] at h
theorem nice_badA {n v : List UInt8} {i : Nat} (hi : i < 3) (hn : Nl n) (hn7 : n.length ≤ 7) (hv : Vt v) : badA (str (n ++ [UInt8.ofNat (65 + i)]), str v) = false := by
  unfold badA
  rw [(hn.more hn7 i hi).name, vt_text hv]
  have : ((str (n ++ [UInt8.ofNat (65 + i)])).toList == xmlns) = false := by simpa using nl_xmlns hi
  rw [this]
  rfl
theorem nice_atts (al : List (List UInt8 × List UInt8)) (h : NiceA al) : ∀ (r a : List (List UInt8 × List UInt8)), al = a ++ r → attsB (bsA a) (bsA r) = true := by
  intro r
  induction r with
  | nil => intro a _; rfl
  | cons x r ih =>
    intro a ha
    have hj : al[a.length]? = some x := by rw [ha]; simp
    have hlen : a.length < 3 := by have := h.1; rw [ha] at this; simp at this; omega
    obtain ⟨n, e1, hn, hn7, hv, _⟩ := h.2 _ _ hj
    have hb : badA (str x.1, str x.2) = false := by rw [e1]; exact nice_badA hlen hn hn7 hv
    have hany : (bsA a).any (named1 (str x.1)) = false := by
      rw [List.any_eq_false]
      intro y hy
      obtain ⟨z, hz, rfl⟩ := List.mem_map.1 hy
      obtain ⟨k, hk, hkz⟩ := List.mem_iff_getElem.1 hz
      have hk2 : al[k]? = some z := by rw [ha, List.getElem?_append_left hk, List.getElem?_eq_getElem hk, hkz]
      obtain ⟨n2, e2, _, _, _, _⟩ := h.2 _ _ hk2
      have hne : x.1 ≠ z.1 := by
        rw [e1, e2]
        intro e
        have h2 := congrArg List.getLast? e
        simp only [List.getLast?_append, List.getLast?_singleton, Option.some_or, Option.some.injEq] at h2
        have h3 := congrArg UInt8.toNat h2
        rw [UInt8.toNat_ofNat', UInt8.toNat_ofNat', Nat.mod_eq_of_lt (by omega), Nat.mod_eq_of_lt (by omega)] at h3
        omega
      have := named1_ne hne (str z.2)
      simp [this]
    have e : bsA (x :: r) = (str x.1, str x.2) :: bsA r := rfl
    rw [e, attsB, hb, hany]
    have e2 : bsA a ++ [(str x.1, str x.2)] = bsA (a ++ [x]) := by simp [bsA]
    rw [e2, ih (a ++ [x]) (by rw [ha]; simp)]
    rfl
theorem spaces_text : ∀ v ∈ spaces, decide (0 ≤ text (str v) 0) = false := by
  intro v hv
  refine text_nn (Lt.asc fun c hc => asc_of c ?_)
  simp only [spaces, List.mem_cons, List.not_mem_nil, or_false] at hv
  rcases hv with rfl | rfl | rfl | rfl <;> simp at hc
  · subst hc; decide
  · rcases hc with rfl | rfl | rfl <;> decide
  · subst hc; decide
theorem spaces_size : ∀ v ∈ spaces, (str v).size ≤ 3 := by
  intro v hv
  simp only [spaces, List.mem_cons, List.not_mem_nil, or_false] at hv
  rcases hv with rfl | rfl | rfl | rfl <;> decide
theorem allL_all : ∀ (ks : List Nod), (∀ y ∈ ks, allB y = true) → allL ks = true
  | [], _ => rfl
  | y :: ys, h => by rw [allL, h y (by simp), allL_all ys fun z hz => h z (List.mem_cons_of_mem _ hz)]; rfl
theorem szdL_all : ∀ (ks : List Nod), (∀ y ∈ ks, Szd y) → SzdL ks
  | [], _ => trivial
  | y :: ys, h => ⟨h y (by simp), szdL_all ys fun z hz => h z (List.mem_cons_of_mem _ hz)⟩
theorem depL_le (m : Nat) : ∀ (ks : List Nod), (∀ y ∈ ks, dep y ≤ m) → depL ks ≤ m
  | [], _ => Nat.zero_le _
  | y :: ys, h => by
    have h1 := h y (by simp)
    have h2 := depL_le m ys fun z hz => h z (List.mem_cons_of_mem _ hz)
    rw [depL]; omega
theorem niceA_sz {al : List (List UInt8 × List UInt8)} (h : NiceA al) : ∀ a ∈ bsA al, a.1.size ≤ 1000000000 ∧ a.2.size ≤ 1000000000 := by
  intro a ha
  obtain ⟨z, hz, rfl⟩ := List.mem_map.1 ha
  obtain ⟨_, h1, h2⟩ := niceA_bd h z hz
  rw [str_size, str_size]
  omega
/-- the parts of an element of few of each -/
theorem nice_bad1 {v n t : List UInt8} (hv : v ∈ spaces) (hn : Nl n) (ht : Vt t) (htr : trim (str t) = str t) : bad1 (str v) (str n) (str t) = false := by
  unfold bad1
  rw [hn.name, spaces_text v hv, vt_text ht, htr]
  simp
theorem nice_all : ∀ (d : Nat) (y : Nod), Nice d y → allB y = true ∧ Szd y ∧ dep y ≤ d := by
  intro d
  induction d with
  | zero => intro y h; exact absurd h (by unfold Nice; simp)
  | succ d ih =>
    intro y h
    obtain ⟨sp, nm, l, ks, tx⟩ := y
    unfold Nice at h
    obtain ⟨⟨v, hv, rfl⟩, ⟨n, rfl, hn, hn7⟩, ⟨al, rfl, hal⟩, h3, hk, ⟨t, rfl, ht, ht12, htr⟩, hkt⟩ := h
    refine ⟨?_, ?_, ?_⟩
    · rw [allB, nodeB, nice_bad1 hv hn ht htr, allL_all ks fun y hy => (ih y (hk y hy)).1]
      have h2 : bad2 (bsA al) ks.length (str t) = false := by
        unfold bad2
        have hl : decide (15 < (bsA al).length) = false := by have := hal.1; simp [bsA]; omega
        rw [hl, Bool.or_false]
        by_cases e : ks = []
        · subst e; rfl
        · rw [hkt e]; simp
      have h4 : attsB [] (bsA al) = true := nice_atts al hal al [] rfl
      rw [h2, h4]
      rfl
    · rw [Szd]
      have := spaces_size v hv
      refine ⟨by omega, by rw [str_size]; omega, by rw [str_size]; omega, niceA_sz hal, szdL_all ks fun y hy => (ih y (hk y hy)).2.1⟩
    · rw [dep]
      have := depL_le d ks fun y hy => (ih y (hk y hy)).2.2
      omega
end Xm
end Go.Proofs.YtdpkhmfolmcejaaGreatDoor

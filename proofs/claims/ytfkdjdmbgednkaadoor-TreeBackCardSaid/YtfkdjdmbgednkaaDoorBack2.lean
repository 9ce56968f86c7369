/- An element's first tag, begun. No program. -/
import Derived.Test.YtfkdjdmbgednkaaDoorBack1
namespace Go.Proofs.YtfkdjdmbgednkaaDoor
namespace Xm
theorem nl_cons {l : List UInt8} (h : Nl l) : ∃ r, l = 110 :: r := by
  obtain ⟨r, h, _⟩ := h
  exact ⟨r, h⟩
theorem tell_no {l : List UInt8} (h : Nl l) : (tellP (str l)).2 = false := by
  obtain ⟨r, rfl⟩ := nl_cons h
  unfold tellP
  rw [if_neg (by rw [ByteArray.toList_eq]; simp [str])]
  simp [str, xmlnsC, Lib.hasPrefix]
  rfl
theorem niceA_nl {al : List (List UInt8 × List UInt8)} (h : NiceA al) {j : Nat} {a : List UInt8 × List UInt8} (hj : al[j]? = some a) : Nl a.1 ∧ Vt a.2 ∧ ∃ n, a.1 = n ++ [UInt8.ofNat (65 + j)] ∧ j < 3 := by
  obtain ⟨n, h1, h2, h3, h4, _⟩ := h.2 j a hj
  have hj3 : j < 3 := by
    have := (List.getElem?_eq_some_iff.1 hj).1
    have := h.1
    omega
  exact ⟨by rw [h1]; exact h2.more h3 j hj3, h4, n, h1, hj3⟩
theorem niceA_mem {al : List (List UInt8 × List UInt8)} (h : NiceA al) {a : List UInt8 × List UInt8} (ha : a ∈ al) : Nl a.1 ∧ Vt a.2 := by
  obtain ⟨j, hj⟩ := List.mem_iff_getElem?.1 ha
  have := niceA_nl h hj
  exact ⟨this.1, this.2.1⟩
theorem niceA_nodup {al : List (List UInt8 × List UInt8)} (h : NiceA al) : (al.map (·.1)).Nodup := by
  unfold List.Nodup
  rw [List.pairwise_iff_getElem]
  intro i j hi hj hij e
  rw [List.length_map] at hi hj
  rw [List.getElem_map, List.getElem_map] at e
  obtain ⟨_, _, n, h1, g1⟩ := niceA_nl h (List.getElem?_eq_getElem (show i < al.length by omega))
  obtain ⟨_, _, m, h2, g2⟩ := niceA_nl h (List.getElem?_eq_getElem hj)
  rw [h1, h2] at e
  have e2 := congrArg List.getLast? e
  simp at e2
  have e3 := congrArg UInt8.toNat e2
  simp at e3
  omega
theorem space_vt {v : List UInt8} (h : v ∈ spaces) : Vt v := by
  have key : ∀ L : List Int, (∀ r ∈ L, r = 117 ∨ r = 118 ∨ r = 38 ∨ r = 60 ∨ r = 119) → Vt (cat L) := fun L hL => ⟨L, fun r hr => by
    rcases hL r hr with rfl | rfl | rfl | rfl | rfl <;> exact ⟨by decide, by decide⟩, rfl⟩
  simp only [spaces, List.mem_cons, List.not_mem_nil, or_false] at h
  rcases h with rfl | rfl | rfl | rfl
  · exact key [] (by simp)
  · exact key [117] (by simp)
  · exact key [118, 38, 60] (by simp)
  · exact key [119] (by simp)
theorem xm_nm : Nm xmB := ⟨by unfold xmB Pt; decide +kernel, by kernel_rfl⟩
theorem tagA_ok {sp space : List UInt8} {al : List (List UInt8 × List UInt8)} (hs : sp ∈ spaces) (ha : NiceA al) : AtOk (tagA sp space al) ∧ (tagA sp space al).length ≤ 16 := by
  have h1 : ∀ a ∈ al, Nm a.1 ∧ Vt a.2 := fun a h => ⟨(niceA_mem ha h).1.nm, (niceA_mem ha h).2⟩
  have h2 := niceA_nodup ha
  have h3 := ha.1
  unfold tagA
  split
  · exact ⟨⟨h1, h2⟩, by omega⟩
  · refine ⟨⟨fun a h => ?_, ?_⟩, by simp; omega⟩
    · rcases List.mem_cons.1 h with rfl | h
      · exact ⟨xm_nm, space_vt hs⟩
      · exact h1 a h
    · rw [List.map_cons, List.nodup_cons]
      refine ⟨fun hm => ?_, h2⟩
      obtain ⟨a, ha2, he⟩ := List.mem_map.1 hm
      obtain ⟨r, hr⟩ := nl_cons (niceA_mem ha ha2).1
      rw [hr] at he
      have := congrArg List.head? he
      simp [xmB] at this
theorem enter_no (d : Nat) (R : List Bd) : ∀ (l : List (List UInt8 × List UInt8)) (o : List (ByteArray × ByteArray)), (∀ a ∈ l, Nl a.1) → enterL d (bsA l) o R = (R, 0, o ++ bsA l)
  | [], o, _ => by simp [bsA, enterL]
  | a :: l, o, h => by
    have e : bsA (a :: l) = (str a.1, str a.2) :: bsA l := rfl
    rw [e, enterL, if_neg (by rw [tell_no (h a List.mem_cons_self)]; simp), enter_no d R l _ (fun b hb => h b (List.mem_cons_of_mem _ hb))]
    simp
/-- what is bound within a tag -/
def bindR (sp space : List UInt8) (d : Nat) (R : List Bd) : List Bd := if str sp = str space then R else (ByteArray.empty, str sp, d) :: R
theorem enter_tag {sp space : List UInt8} {al : List (List UInt8 × List UInt8)} (ha : NiceA al) (d : Nat) (R : List Bd) (hR : R.length < 100) : enterL d (bsA (tagA sp space al)) [] R = (bindR sp space d R, 0, bsA al) := by
  have hn : ∀ a ∈ al, Nl a.1 := fun a h => (niceA_mem ha h).1
  unfold tagA bindR
  split
  · rw [enter_no d R al [] hn]; rfl
  · have e : bsA ((xmB, sp) :: al) = (str xmB, str sp) :: bsA al := rfl
    have t : tellP (str xmB) = (ByteArray.empty, true) := by kernel_rfl
    have st : stopB ByteArray.empty (str sp) = false := by
      unfold stopB
      rw [show (ByteArray.empty.toList == [120, 109, 108]) = false by kernel_rfl, show (ByteArray.empty.toList == [120, 109, 108, 110, 115]) = false by kernel_rfl, show ByteArray.empty.toList.isEmpty = true by kernel_rfl]
      rfl
    rw [e, enterL]
    simp only [t, st]
    rw [if_pos trivial, if_neg (by simp), if_neg (by omega), enter_no d _ al [] hn]
    rfl
theorem of_bind {sp space : List UInt8} {d : Nat} {R : List Bd} (h : ofT R ByteArray.empty = (str space, true)) : ofT (bindR sp space d R) ByteArray.empty = (str sp, true) := by
  unfold bindR
  split
  · rename_i e; rw [h, e]
  · unfold ofT
    rw [List.find?_cons_of_pos (by simp)]
theorem begin_tag {sp space nm : List UInt8} {al : List (List UInt8 × List UInt8)} {p : Pc} (hn : Nl nm) (ha : NiceA al) {R : List Bd} {d n : Nat} (hR : R.length < 100) (hd : d < 32) (hc : n < 2000) (ho : ofT R ByteArray.empty = (str space, true)) (hp : p.name = str nm) (hpa : p.attrs = bsA (tagA sp space al)) :
    beginT p R d n = (.ok (str sp, str nm, bsA al), bindR sp space (d + 1) R, d + 1, n + 1) := by
  have he := enter_tag (sp := sp) (space := space) ha (d + 1) R hR
  have hN : nameP (bindR sp space (d + 1) R) (str nm) = (str sp, str nm, true) := by
    unfold nameP
    rw [hn.split]
    simp only
    rw [of_bind ho]
    rfl
  have hall : (bsA al).all (fun a => name a.1) = true := by
    rw [List.all_eq_true]
    intro x hx
    unfold bsA at hx
    obtain ⟨a, h1, rfl⟩ := List.mem_map.1 hx
    exact (niceA_mem ha h1).1.name
  unfold beginT
  rw [if_neg (by omega), if_neg (by omega), hpa, he, hp]
  simp only
  rw [if_neg (by simp), hN]
  simp only
  rw [if_neg (by simp), hall, if_neg (by simp)]
theorem leave_bind {sp space : List UInt8} {d : Nat} {R : List Bd} (h : ∀ r ∈ R, r.2.2 ≤ d) : leaveL (bindR sp space (d + 1) R) (d + 1) = R := by
  have h1 : R.dropWhile (fun r => r.2.2 == d + 1) = R := by
    cases R with
    | nil => rfl
    | cons r R =>
      have := h r List.mem_cons_self
      rw [List.dropWhile_cons_of_neg (by simp; omega)]
  unfold leaveL bindR
  rw [if_neg (by omega)]
  split
  · exact h1
  · rw [List.dropWhile_cons_of_pos (by simp), h1]
end Xm
end Go.Proofs.YtfkdjdmbgednkaaDoor

/- The names that are made of few letters may be names. No program. -/
import Derived.Test.YtfkdjdmbgednkaaDoorRead2
import Derived.Test.YtfkdjdmbgednkaaDoorNm6
namespace Go.Proofs.YtfkdjdmbgednkaaDoor
namespace Xm
def al : List UInt8 := [97, 98, 90, 95, 48, 45, 46, 57, 65, 66, 67]
/-- a name of few letters -/
def Nl (l : List UInt8) : Prop := ∃ r, l = 110 :: r ∧ r.length ≤ 7 ∧ ∀ c ∈ r, c ∈ al
theorem al_part : ∀ c : UInt8, c ∈ al → part (c.toNat : Int) = true ∧ c ≠ 58 ∧ c ≠ 63 ∧ c ≠ 60 ∧ Asc c := by
  intro c hc
  simp only [al, List.mem_cons, List.not_mem_nil, or_false] at hc
  unfold Asc
  rcases hc with rfl | rfl | rfl | rfl | rfl | rfl | rfl | rfl | rfl | rfl | rfl <;> decide +kernel
theorem n_part : part ((110 : UInt8).toNat : Int) = true ∧ (110 : UInt8) ≠ 58 ∧ (110 : UInt8) ≠ 63 ∧ (110 : UInt8) ≠ 60 ∧ Asc 110 := by unfold Asc; decide +kernel
theorem Nl.part {l : List UInt8} (h : Nl l) : ∀ c ∈ l, part (c.toNat : Int) = true ∧ c ≠ 58 ∧ c ≠ 63 ∧ c ≠ 60 ∧ Asc c := by
  obtain ⟨r, rfl, _, h⟩ := h
  intro c hc
  rcases List.mem_cons.1 hc with rfl | hc
  · exact n_part
  · exact al_part c (h c hc)
theorem Nl.len {l : List UInt8} (h : Nl l) : 0 < l.length ∧ l.length ≤ 8 := by
  obtain ⟨r, rfl, h, _⟩ := h
  simp; omega
theorem Nl.lt {l : List UInt8} (h : Nl l) : Lt l := Lt.asc fun c hc => (h.part c hc).2.2.2.2
theorem parts_all {l : List UInt8} (h : ∀ c ∈ l, Xm.part (c.toNat : Int) = true) : ∀ (d k : Nat), l.length - k = d → parts (str l) k = true := by
  intro d
  induction d using Nat.strongRecOn with
  | _ d ih =>
    intro k hd
    rw [parts]
    split
    · rename_i hk
      rw [str_size] at hk
      have hb : Xm.part (bt (str l) k) = true := by
        rw [bt_str, List.getD_eq_getElem?_getD, List.getElem?_eq_getElem hk]
        exact h _ (List.getElem_mem hk)
      rw [hb, ih (l.length - (k + 1)) (by omega) (k + 1) rfl]; rfl
    · rfl
theorem Nl.name {l : List UInt8} (h : Nl l) : name (str l) = true := by
  have hl := h.len
  have hb := h.lt.bad
  have hp := parts_all (fun c hc => (h.part c hc).1) _ 0 rfl
  have hs : start (bt (str l) 0) = true := by
    obtain ⟨r, rfl, _, _⟩ := h
    rw [bt_str]
    show start ((110 : UInt8).toNat : Int) = true
    decide
  unfold Xm.name
  rw [hs, hb, hp, decide_eq_true (by rw [str_size]; omega), decide_eq_true (by rw [str_size]; omega)]
  rfl
theorem col_none {s : ByteArray} (h : ∀ k, k < s.size → bt s k ≠ 58) : ∀ (d k : Nat), s.size - k = d → k ≤ s.size → col s k = s.size := by
  intro d
  induction d using Nat.strongRecOn with
  | _ d ih =>
    intro k hd hk
    rw [col]
    split
    · rename_i hlt
      rw [if_neg (h k hlt)]
      exact ih _ (by omega) _ rfl hlt
    · rfl
theorem Nl.split {l : List UInt8} (h : Nl l) : split (str l) = (ByteArray.empty, str l, true) := by
  have hc : col (str l) 0 = (str l).size := col_none (fun k hk => by
    rw [str_size] at hk
    rw [bt_str, List.getD_eq_getElem?_getD, List.getElem?_eq_getElem hk]
    intro e
    exact (h.part _ (List.getElem_mem hk)).2.1 (u8_eq (d := 58) e)) _ 0 rfl (Nat.zero_le _)
  unfold Xm.split
  rw [if_neg (by omega), h.name]
theorem Nl.nm {l : List UInt8} (h : Nl l) : Nm l := ⟨fun c hc => .inl (h.part c hc).1, by rw [h.split]⟩
theorem Nl.nmp {l : List UInt8} (h : Nl l) : Nm (112 :: 58 :: l) := by
  refine ⟨fun c hc => ?_, ?_⟩
  · rcases List.mem_cons.1 hc with rfl | hc
    · exact .inl (by decide)
    rcases List.mem_cons.1 hc with rfl | hc
    · exact .inr rfl
    · exact .inl (h.part c hc).1
  · have hz : (str (112 :: 58 :: l)).size = l.length + 2 := by rw [str_size]; rfl
    have h0 : bt (str (112 :: 58 :: l)) 0 = 112 := by rw [bt_str]; rfl
    have h1 : bt (str (112 :: 58 :: l)) 1 = 58 := by rw [bt_str]; rfl
    have hc : col (str (112 :: 58 :: l)) 0 = 1 := by
      rw [col, if_pos (by omega), if_neg (by rw [h0]; decide), col, if_pos (by omega), if_pos h1]
    have hL : Lies (str (112 :: 58 :: l)) 0 ([112] ++ (58 :: l)) := Lies.of (A := []) (B := []) (by simp [str]) rfl
    have hL2 : Lies (str (112 :: 58 :: l)) 2 l := (hL.right (l := [112])).tl
    have c1 : cut (str (112 :: 58 :: l)) 0 1 = str [112] := hL.left.ext
    have c2 : cut (str (112 :: 58 :: l)) (1 + 1) (str (112 :: 58 :: l)).size = str l := by
      rw [hz, Nat.add_comm l.length 2]
      exact hL2.ext
    unfold Xm.split
    rw [hc, if_pos (by omega), c1, c2, h.name]
    show (Xm.name (str [112]) && true) = true
    rw [show Xm.name (str [112]) = true by kernel_rfl]
    rfl
theorem nmC_al (b : UInt8) : nmC b ∈ al := by
  unfold nmC
  have h : b.toNat % 8 < 8 := Nat.mod_lt _ (by decide)
  have key : ∀ j : Fin 8, nmT[j.val]'j.isLt ∈ al := by decide
  exact key ⟨b.toNat % 8, h⟩
theorem nmB_str (m : Nat) (s : ByteArray) : ∀ (d k : Nat) (a : List UInt8), m - k = d → ∃ r, nmB m s k (str a) = str (a ++ r) ∧ r.length ≤ m - k ∧ ∀ c ∈ r, c ∈ al := by
  intro d
  induction d using Nat.strongRecOn with
  | _ d ih =>
    intro k a hd
    rw [nmB]
    split
    · rename_i hk
      obtain ⟨r, h1, h2, h3⟩ := ih (m - (k + 1)) (by omega) (k + 1) (a ++ [nmC (s[k]'hk.1)]) rfl
      refine ⟨nmC (s[k]'hk.1) :: r, ?_, by simp only [List.length_cons]; omega, fun c hc => ?_⟩
      · have e : str a ++ (⟨#[nmC (s[k]'hk.1)]⟩ : ByteArray) = str (a ++ [nmC (s[k]'hk.1)]) := by rw [← str_append]; rfl
        rw [e, h1, List.append_assoc]; rfl
      · rcases List.mem_cons.1 hc with rfl | hc
        · exact nmC_al _
        · exact h3 c hc
    · exact ⟨[], by rw [List.append_nil], Nat.zero_le _, fun c hc => (by cases hc)⟩
theorem nm_nl (m : Nat) (hm : m ≤ 6) (s : ByteArray) : ∃ l, nmB m s 0 ⟨#[110]⟩ = str l ∧ Nl l ∧ l.length ≤ 7 := by
  obtain ⟨r, h1, h2, h3⟩ := nmB_str m s _ 0 [110] rfl
  exact ⟨110 :: r, h1, ⟨r, rfl, by omega, h3⟩, by simp only [List.length_cons]; omega⟩
theorem Nl.more {l : List UInt8} (h : Nl l) (hl : l.length ≤ 7) (i : Nat) (hi : i < 3) : Nl (l ++ [UInt8.ofNat (65 + i)]) := by
  obtain ⟨r, rfl, h1, h2⟩ := h
  refine ⟨r ++ [UInt8.ofNat (65 + i)], rfl, by simp at hl ⊢; omega, fun c hc => ?_⟩
  rcases List.mem_append.1 hc with hc | hc
  · exact h2 c hc
  · rw [List.mem_singleton] at hc
    subst hc
    rcases (by omega : i = 0 ∨ i = 1 ∨ i = 2) with rfl | rfl | rfl <;> decide
theorem rplain_sz (s : ByteArray) : ∀ (d k : Nat) (acc : ByteArray), s.size - k = d → k ≤ s.size → (rplain s k acc).size ≤ acc.size + (s.size - k) := by
  intro d
  induction d using Nat.strongRecOn with
  | _ d ih =>
    intro k acc hd hk
    rw [rplain]
    split
    · rename_i hlt
      have hbd := rg_bd (s := s) (k := k) hk
      split
      · have := ih (s.size - (k + 1)) (by omega) (k + 1) (acc ++ ⟨#[120]⟩) rfl (by omega)
        rw [ByteArray.size_append, show (⟨#[120]⟩ : ByteArray).size = 1 from rfl] at this
        omega
      · rename_i hn
        have hn0 : (rg s k).2 ≠ 0 := fun e => hn (.inl e)
        have hz : (s.extract k (k + (rg s k).2.toNat)).size = (rg s k).2.toNat := by simp; omega
        have := ih (s.size - (k + (rg s k).2.toNat)) (by omega) (k + (rg s k).2.toNat) (acc ++ s.extract k (k + (rg s k).2.toNat)) rfl (by omega)
        rw [ByteArray.size_append, hz] at this
        omega
    · omega
theorem plain_vt (s : ByteArray) : ∃ v, rplain s 0 ByteArray.empty = str v ∧ Vt v ∧ v.length ≤ s.size := by
  obtain ⟨L, h, e⟩ := plain_cat s
  have hz := rplain_sz s _ 0 ByteArray.empty rfl (Nat.zero_le _)
  rw [e, str_size] at hz
  exact ⟨cat L, e, ⟨L, h, rfl⟩, by simpa using hz⟩
theorem Vt.cons {v : List UInt8} (h : Vt v) : Vt (113 :: v) := by
  obtain ⟨L, hL, rfl⟩ := h
  refine ⟨113 :: L, fun r hr => ?_, by rw [cat_cons]; rfl⟩
  rcases List.mem_cons.1 hr with rfl | hr
  · decide
  · exact hL r hr
end Xm
end Go.Proofs.YtfkdjdmbgednkaaDoor

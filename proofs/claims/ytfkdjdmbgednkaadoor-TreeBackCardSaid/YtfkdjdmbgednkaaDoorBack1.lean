/- What Next reads of blanks; what an element's first tag begins. No program. -/
import Derived.Test.YtfkdjdmbgednkaaDoorDocB
import Derived.Test.YtfkdjdmbgednkaaDoorTr11
namespace Go.Proofs.YtfkdjdmbgednkaaDoor
namespace Xm
theorem bl_cases {c : UInt8} (h : blank (c.toNat : Int) = true) : c.toNat = 32 ∨ c.toNat = 9 ∨ c.toNat = 10 ∨ c.toNat = 13 := by
  simp only [blank, Bool.or_eq_true, beq_iff_eq] at h
  omega
theorem bl_ne {c d : UInt8} (h : blank (c.toNat : Int) = true) (hd : blank (d.toNat : Int) = false) : c ≠ d := by
  rintro rfl
  rw [h] at hd
  cases hd
theorem Bl.lt {b : List UInt8} (h : Bl b) : Lt b := Lt.asc fun c hc => asc_of c (by
  rcases bl_cases (h c hc) with e | e | e | e
  · exact .inl (by omega)
  · exact .inr (.inl (UInt8.toNat_inj.1 e))
  · exact .inr (.inr (.inl (UInt8.toNat_inj.1 e)))
  · exact .inr (.inr (.inr (UInt8.toNat_inj.1 e))))
theorem Bl.no {b : List UInt8} (h : Bl b) {d : UInt8} (hd : blank (d.toNat : Int) = false) : d ∉ b := fun hc => bl_ne (h d hc) hd rfl
theorem open_bl {s : ByteArray} : ∀ (v : List UInt8) (k : Nat) (acc : List UInt8), Bl v → Lies s k v → k + v.length = s.size → openS s k acc = (acc ++ v, -1)
  | [], k, acc, _, _, hz => by
    rw [openS, dif_neg (by simp at hz; omega), List.append_nil]
  | c :: v, k, acc, hb, h, hz => by
    have hL : Lies s k ([c] ++ v) := h
    have hR : Lies s (k + 1) v := hL.right
    rw [open_byte hL.left (bl_ne (hb c List.mem_cons_self) (by decide)), open_bl v _ _ (fun d hd => hb d (List.mem_cons_of_mem _ hd)) hR (by simp at hz ⊢; omega), List.append_assoc]
    rfl
theorem openT_bl {b : List UInt8} (h : Bl b) (p : P3) (a : Nat) : openT p (str b) a = p ∧ opened (str b) = str b := by
  have ho := open_bl (s := str b) b 0 [] h (Lies.of (A := []) (B := []) (by simp [str]) rfl) (by rw [str_size]; simp)
  have ht := h.lt.text
  refine ⟨?_, ?_⟩
  · unfold openT
    rw [if_neg (by rw [ht]; decide), ho]
    rfl
  · unfold opened
    rw [if_neg (by rw [ht]; decide), ho]
    rfl
/-- a run of bytes up to the end or to a '<' -/
theorem next_run {s : ByteArray} {k : Nat} {v : List UInt8} {u : ByteArray} (hno : (60 : UInt8) ∉ v) (hv0 : v ≠ []) (ho : ∀ p a, openT p (str v) a = p ∧ opened (str v) = u) (h : Lies s k v) (hend : k + v.length = s.size ∨ bt s (k + v.length) = 60 ∧ k + v.length < s.size) :
    nextR s ⟨k, 0, 0⟩ = (⟨4, ByteArray.empty, [], u, k⟩, ⟨k + v.length, 0, 0⟩) := by
  obtain ⟨c, r, hc⟩ : ∃ c r, v = c :: r := by
    cases hh : v with
    | nil => exact absurd hh hv0
    | cons c r => exact ⟨c, r, rfl⟩
  have hc60 : c ≠ 60 := fun e => hno (by rw [hc, e]; exact List.mem_cons_self)
  have h2 : Lies s k (c :: r) := by rw [← hc]; exact h
  have hrun : runN s k = v.length := by
    have hle := h.le
    obtain ⟨_, B, hB⟩ := h
    have hlen := congrArg List.length hB
    simp only [ByteArray.data_extract, Array.length_toList, Array.size_extract, List.length_append] at hlen
    have hz : s.data.size = s.size := rfl
    unfold runN far cut
    rw [hB]
    rcases hend with he | ⟨he, hlt⟩
    · have hB0 : B = [] := List.eq_nil_of_length_eq_zero (by omega)
      rw [hB0, List.append_nil, idx_none _ _ hno, if_pos (by decide)]
      omega
    · cases B with
      | nil => simp only [List.length_nil] at hlen; omega
      | cons b B =>
        have hb : b = 60 := by
          have hL : Lies s k (v ++ [b]) := ⟨by omega, B, by rw [hB]; simp⟩
          have := (Lies.right hL).hd
          rw [he] at this
          exact (u8_eq (c := 60) this).symm
        rw [hb, idx_first _ _ _ hno, if_neg (by omega), Int.toNat_natCast]
  have hp : pieceOf s k 0 = (⟨4, ByteArray.empty, [], u, k⟩, ⟨k + v.length, 0, 0⟩) := by
    unfold pieceOf
    rw [h2.no (x := cdS) 0 (by simp) (by decide) (by simpa [cdS] using hc60), h2.no (x := backS) 0 (by simp) (by decide) (by simpa [backS] using hc60), h2.no (x := ltS) 0 (by simp) (by decide) (by simpa [ltS] using hc60), hrun, h.ext, (ho _ _).1, (ho ⟨0, 0, 0⟩ 0).2]
    rfl
  have ha : asideB s k = false := by
    unfold asideB
    rw [h2.no (x := comS) 0 (by simp) (by decide) (by simpa [comS] using hc60), h2.no (x := insS) 0 (by simp) (by decide) (by simpa [insS] using hc60)]
    rfl
  have hk := h2.lt
  unfold nextR
  rw [asides_no (p := ⟨k, 0, 0⟩) _ ha, if_neg (by simp only; omega)]
  simp only
  rw [if_neg (by rw [hp]; simp), hp]
theorem next_bl {s : ByteArray} {k : Nat} {b r : List UInt8} (hb : Bl b) (hb0 : b ≠ []) (h : Lies s k (b ++ 60 :: r)) : nextR s ⟨k, 0, 0⟩ = (⟨4, ByteArray.empty, [], str b, k⟩, ⟨k + b.length, 0, 0⟩) := by
  have hr := h.right
  exact next_run (hb.no (by decide)) hb0 (openT_bl hb) h.left (.inr ⟨hr.hd, hr.lt⟩)
theorem skip_all {s : ByteArray} : ∀ (d k : Nat), s.size - k = d → k ≤ s.size → (∀ i, k ≤ i → i < s.size → blank (bt s i) = true) → skip s k = s.size := by
  intro d
  induction d with
  | zero => intro k hd hk _; rw [skip, if_neg (by omega)]; omega
  | succ d ih =>
    intro k hd hk h
    rw [skip, if_pos (by omega), if_pos (h k (Nat.le_refl _) (by omega))]
    exact ih (k + 1) (by omega) (by omega) (fun i h1 h2 => h i (by omega) h2)
theorem trim_bl {b : List UInt8} (h : Bl b) : (trim (str b)).size = 0 := by
  have hs : skip (str b) 0 = (str b).size := skip_all _ 0 rfl (Nat.zero_le _) fun i _ hi => by
    rw [str_size] at hi
    rw [bt_str, List.getD_eq_getElem?_getD, List.getElem?_eq_getElem hi]
    exact h _ (List.getElem_mem hi)
  unfold trim
  rw [hs, back_stop (Nat.le_refl _), cut_size (Nat.le_refl _)]
  omega
/-- the attribute that tells of names without a prefix -/
def xmB : List UInt8 := [120, 109, 108, 110, 115]
/-- the attributes of a written tag -/
def tagA (sp space : List UInt8) (al : List (List UInt8 × List UInt8)) : List (List UInt8 × List UInt8) := if str sp = str space then al else (xmB, sp) :: al
theorem spD_ats (sp space : List UInt8) (al : List (List UInt8 × List UInt8)) : spD (str sp) (str space) ++ atD (bsA al) = atsB [32] (tagA sp space al) := by
  have hA : ∀ l : List (List UInt8 × List UInt8), atD (bsA l) = atsB [32] l := by
    intro l
    induction l with
    | nil => rfl
    | cons a l ih =>
      have e1 : atD (bsA (a :: l)) = (32 :: (a.1 ++ ([61, 34] ++ (clL a.2 ++ [34])))) ++ atD (bsA l) := rfl
      have e2 : atsB [32] (a :: l) = ([32] ++ atB a) ++ atsB [32] l := rfl
      rw [e1, e2, ih]
      rfl
  unfold spD tagA
  split
  · rw [hA]; rfl
  · rw [hA, bl_str]
    have e2 : atsB [32] ((xmB, sp) :: al) = ([32] ++ atB (xmB, sp)) ++ atsB [32] al := rfl
    rw [e2]
    simp [atB, xmB]
end Xm
end Go.Proofs.YtfkdjdmbgednkaaDoor

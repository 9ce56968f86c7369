/- scan: what Next reads at a tag without attributes; a text of small bytes. No program. -/
/- What Plain answers is letters that may stand in a text. No program. -/
/- scan: what Next reads back of what is written: tags with attributes, texts, what says nothing. No program. -/
/- scan: what says nothing, and the pieces of a text that is made of pieces. No program. -/
/- A text of letters without blanks at both ends is a text of letters. No program. -/
/- The names that are made of few letters may be names. No program. -/
import Derived.Test.YtdpkhmfolmcejaaMScan
import Derived.Test.YtdpkhmfolmcejaaLetters
import Derived.Test.YtdpkhmfolmcejaaMRef
namespace Go.Proofs.Ytdpkhmfolmcejaa
namespace Xm
/-- bytes lie in a text at a place -/
def Lies (s : ByteArray) (k : Nat) (l : List UInt8) : Prop := k ≤ s.size ∧ ∃ B, (s.extract k s.size).data.toList = l ++ B
theorem Lies.of {s : ByteArray} {A l B : List UInt8} {k : Nat} (h : s.data.toList = A ++ (l ++ B)) (hk : A.length = k) : Lies s k l := by
  have hz : s.size = A.length + (l.length + B.length) := by
    have := congrArg List.length h
    simpa using this
  refine ⟨by omega, B, ?_⟩
  rw [ByteArray.data_extract, Array.toList_extract, List.extract_eq_take_drop, h]
  subst hk
  rw [List.drop_left, List.take_of_length_le (by simp; omega)]
theorem Lies.le {s : ByteArray} {k : Nat} {l : List UInt8} (h : Lies s k l) : k + l.length ≤ s.size := by
  obtain ⟨hk, B, hB⟩ := h
  have := congrArg List.length hB
  simp at this
  omega
theorem Lies.left {s : ByteArray} {k : Nat} {l r : List UInt8} (h : Lies s k (l ++ r)) : Lies s k l := by
  obtain ⟨hk, B, hB⟩ := h
  exact ⟨hk, r ++ B, by rw [hB, List.append_assoc]⟩
theorem Lies.right {s : ByteArray} {k : Nat} {l r : List UInt8} (h : Lies s k (l ++ r)) : Lies s (k + l.length) r := by
  have hl := h.le
  obtain ⟨hk, B, hB⟩ := h
  rw [List.length_append] at hl
  refine ⟨by omega, B, ?_⟩
  have e : (s.extract (k + l.length) s.size).data.toList = (s.extract k s.size).data.toList.drop l.length := by
    rw [ByteArray.data_extract, ByteArray.data_extract, Array.toList_extract, Array.toList_extract, List.extract_eq_take_drop, List.extract_eq_take_drop, List.drop_take, List.drop_drop]
    congr 1
    omega
  rw [e, hB, List.append_assoc, List.drop_left]
theorem Lies.ext {s : ByteArray} {k : Nat} {l : List UInt8} (h : Lies s k l) : s.extract k (k + l.length) = str l := by
  have hl := h.le
  obtain ⟨hk, B, hB⟩ := h
  have e : s.extract k (k + l.length) = (s.extract k s.size).extract 0 l.length := by
    rw [ByteArray.extract_extract]
    congr 1
    omega
  rw [e]
  apply ByteArray.ext
  apply Array.ext'
  rw [ByteArray.data_extract, Array.toList_extract, hB, List.extract_eq_take_drop, List.drop_zero, Nat.sub_zero, List.take_left]
  rfl
theorem Lies.bt {s : ByteArray} {k : Nat} {l : List UInt8} (h : Lies s k l) {i : Nat} (hi : i < l.length) : bt s (k + i) = ((l.getD i 0).toNat : Int) := by
  have hl := h.le
  have e := h.ext
  have hz : i < (s.extract k (k + l.length)).size := by simp; omega
  have h1 : ((s.extract k (k + l.length))[i].toNat : Int) = Xm.bt s (k + i) := by
    rw [← bt_eq (show k + i < s.size by omega), ByteArray.getElem_extract]
  rw [← h1, bt_eq, e, bt_str]
theorem skip_stop {s : ByteArray} {k : Nat} (h : blank (bt s k) = false) : skip s k = k := by
  rw [skip]
  split
  · rw [if_neg (by rw [h]; simp)]
  · rfl
end Xm
end Go.Proofs.Ytdpkhmfolmcejaa
namespace Go.Proofs.Ytdpkhmfolmcejaa
namespace Xm
/-- letters that may stand in a text -/
def Ok (L : List Int) : Prop := ∀ r ∈ L, size r ≠ 0 ∧ odd r = false
theorem rget_some (s : ByteArray) : ∀ m n, 1 ≤ n → n + m ≤ 5 → (rget s m n).2 ≠ 0 → ∃ j : Nat, n ≤ j ∧ j ≤ 4 ∧ j ≤ s.size ∧ rget s m n = (rval s j, (j : Int)) ∧ str (put (rval s j)) = s.extract 0 j ∧ ∀ i, n ≤ i → i < j → str (put (rval s i)) ≠ s.extract 0 i
  | 0, n, h1, h, h0 => by exfalso; apply h0; rfl
  | m + 1, n, h1, h, h0 => by
    rw [rget] at h0 ⊢
    split
    · rename_i hle
      rw [if_pos hle] at h0
      split
      · rename_i he
        exact ⟨n, Nat.le_refl _, by omega, hle, rfl, he, fun i h2 h3 => by omega⟩
      · rename_i he
        rw [if_neg he] at h0
        obtain ⟨j, g1, g2, g3, g4, g5, g6⟩ := rget_some s m (n + 1) (by omega) (by omega) h0
        refine ⟨j, by omega, g2, g3, g4, g5, fun i h2 h3 => ?_⟩
        by_cases hi : i = n
        · rw [hi]; exact he
        · exact g6 i (by omega) h3
    · rename_i hle
      rw [if_neg hle] at h0
      exact absurd rfl h0
theorem rget_at {v : ByteArray} : ∀ (m n j : Nat), n ≤ j → j < n + m → j ≤ v.size → str (put (rval v j)) = v.extract 0 j → (∀ i, n ≤ i → i < j → str (put (rval v i)) ≠ v.extract 0 i) → rget v m n = (rval v j, (j : Int))
  | 0, n, j, h1, h2, _, _, _ => by omega
  | m + 1, n, j, h1, h2, h3, h4, h5 => by
    rw [rget, if_pos (by omega)]
    by_cases hj : j = n
    · subst hj; rw [if_pos h4]
    · rw [if_neg (h5 n (Nat.le_refl _) (by omega))]
      exact rget_at m (n + 1) j (by omega) (by omega) h3 h4 (fun i g1 g2 => h5 i (by omega) g2)
theorem ext0 (t : ByteArray) {i j : Nat} (h : i ≤ j) : (t.extract 0 j).extract 0 i = t.extract 0 i := by
  rw [ByteArray.extract_extract]
  congr 1
  omega
theorem rval_pre {s : ByteArray} {n i : Nat} (hn : n ≤ s.size) (h1 : 1 ≤ i) (hi : i ≤ n) (hi4 : i ≤ 4) : rval (s.extract 0 n) i = rval s i := by
  have hb : ∀ q, q < n → bt (s.extract 0 n) q = bt s q := by
    intro q hq
    have hz : (s.extract 0 n).size = n := by simp; omega
    rw [← bt_eq (show q < (s.extract 0 n).size by omega), ← bt_eq (show q < s.size by omega), ByteArray.getElem_extract]
    simp only [Nat.zero_add]
  unfold rval
  rcases (show i = 1 ∨ i = 2 ∨ i = 3 ∨ i = 4 by omega) with rfl | rfl | rfl | rfl
  · simp [hb 0 (by omega)]
  · simp [hb 0 (by omega), hb 1 (by omega)]
  · simp [hb 0 (by omega), hb 1 (by omega), hb 2 (by omega)]
  · simp [hb 0 (by omega), hb 1 (by omega), hb 2 (by omega), hb 3 (by omega)]
/-- a letter that is got is got again from its own bytes -/
theorem rg_own {s : ByteArray} {k : Nat} (hk : k ≤ s.size) (h0 : (rg s k).2 ≠ 0) : rg (s.extract k (k + (rg s k).2.toNat)) 0 = rg s k ∧ s.extract k (k + (rg s k).2.toNat) = str (put (rg s k).1) ∧ size (rg s k).1 = (rg s k).2 := by
  obtain ⟨j, h1, h4, hle, he, hp, hno⟩ := rget_some (s.extract k s.size) 4 1 (by omega) (by omega) h0
  have hz : (s.extract k s.size).size = s.size - k := by simp
  have hv : s.extract k (k + j) = (s.extract k s.size).extract 0 j := by
    rw [ByteArray.extract_extract]
    congr 1
    · omega
  unfold rg at *
  rw [he]
  simp only [Int.toNat_natCast]
  rw [hv]
  generalize s.extract k s.size = t at *
  have hz2 : (t.extract 0 j).size = j := by simp; omega
  refine ⟨?_, hp.symm, ?_⟩
  · have hfull : (t.extract 0 j).extract 0 (t.extract 0 j).size = t.extract 0 j := by rw [hz2, ext0 t (Nat.le_refl _)]
    rw [hfull, rget_at 4 1 j h1 (by omega) (by omega) (by rw [rval_pre (by omega) h1 (Nat.le_refl _) h4, hp, ext0 t (Nat.le_refl _)]) (fun i g1 g2 => by
      rw [rval_pre (by omega) g1 (by omega) (by omega)]
      intro hx
      apply hno i g1 g2
      rw [hx, ext0 t (by omega)]), rval_pre (by omega) h1 (Nat.le_refl _) h4]
  · have h5 := congrArg ByteArray.size hp
    rw [str_size, hz2] at h5
    have := put_size (rval t j)
    omega
theorem rtext_own {s : ByteArray} {k : Nat} (hk : k ≤ s.size) (h0 : (rg s k).2 ≠ 0) (ht : ¬ 0 ≤ rtext (s.extract k (k + (rg s k).2.toNat)) 0) : odd (rg s k).1 = false := by
  obtain ⟨h1, h2, h3⟩ := rg_own hk h0
  have hbd := rg_bd hk
  have hz : (s.extract k (k + (rg s k).2.toNat)).size = (rg s k).2.toNat := by simp; omega
  cases ho : odd (rg s k).1
  · rfl
  · exfalso
    apply ht
    rw [rtext, dif_pos (by omega), h1, dif_pos (.inr ho)]
    simp
theorem rplain_cat (s : ByteArray) : ∀ (d k : Nat) (acc : ByteArray), s.size - k = d → k ≤ s.size → ∃ L, Ok L ∧ rplain s k acc = acc ++ str (cat L) := by
  intro d
  induction d using Nat.strongRecOn with
  | _ d ih =>
    intro k acc hd hk
    rw [rplain]
    split
    · rename_i hlt
      split
      · obtain ⟨L, hL, he⟩ := ih (s.size - (k + 1)) (by omega) (k + 1) (acc ++ ⟨#[120]⟩) rfl (by omega)
        refine ⟨120 :: L, fun r hr => ?_, ?_⟩
        · rcases List.mem_cons.1 hr with rfl | h
          · exact ⟨by decide, by decide⟩
          · exact hL r h
        · rw [he, cat_cons, ← str_append, ByteArray.append_assoc]
          rfl
      · rename_i h0
        rw [not_or] at h0
        have hbd := rg_bd hk
        obtain ⟨g1, g2, g3⟩ := rg_own hk h0.1
        have ho := rtext_own hk h0.1 h0.2
        have h00 := h0.1
        obtain ⟨L, hL, he⟩ := ih (s.size - (k + (rg s k).2.toNat)) (by omega) (k + (rg s k).2.toNat) (acc ++ s.extract k (k + (rg s k).2.toNat)) rfl (by omega)
        refine ⟨(rg s k).1 :: L, fun r hr => ?_, ?_⟩
        · rcases List.mem_cons.1 hr with rfl | h
          · exact ⟨by rw [g3]; exact h00, ho⟩
          · exact hL r h
        · rw [he, g2, cat_cons, ← str_append, ByteArray.append_assoc]
    · refine ⟨[], ?_, ?_⟩
      · intro r hr; cases hr
      · show acc = acc ++ ByteArray.empty; simp
/-- what Plain answers -/
theorem plain_cat (s : ByteArray) : ∃ L, Ok L ∧ rplain s 0 ByteArray.empty = str (cat L) := by
  obtain ⟨L, h, e⟩ := rplain_cat s _ 0 ByteArray.empty rfl (Nat.zero_le _)
  exact ⟨L, h, by rw [e]; simp⟩
theorem ok_letter {r : Int} (h0 : size r ≠ 0) (h : odd r = false) : letter r = true := by
  have hm : may r = true := by
    cases hm : may r
    · exfalso; apply h0; simp [size, hm]
    · rfl
  simp only [odd, Bool.or_eq_false_iff, Bool.and_eq_false_iff] at h
  unfold letter
  rw [hm]
  split
  · rename_i h32
    simp [h32] at h
    simp
    omega
  · simp at h ⊢
    omega
end Xm
end Go.Proofs.Ytdpkhmfolmcejaa
namespace Go.Proofs.Ytdpkhmfolmcejaa
namespace Xm
theorem Lies.tl {s : ByteArray} {k : Nat} {c : UInt8} {l : List UInt8} (h : Lies s k (c :: l)) : Lies s (k + 1) l := Lies.right (l := [c]) (r := l) h
theorem Lies.lt {s : ByteArray} {k : Nat} {c : UInt8} {l : List UInt8} (h : Lies s k (c :: l)) : k < s.size := by have := h.le; simp at this; omega
theorem u8_eq {c d : UInt8} (h : (c.toNat : Int) = (d.toNat : Int)) : c = d := UInt8.toNat_inj.1 (by omega)
/-- what a name, with a prefix perhaps, is of -/
def Pt (c : UInt8) : Prop := part (c.toNat : Int) = true ∨ c = 58
/-- a name that may stand in a tag -/
def Nm (l : List UInt8) : Prop := (∀ c ∈ l, Pt c) ∧ (split (str l)).2.2 = true
/-- a text of letters -/
def Vt (v : List UInt8) : Prop := ∃ L, Ok L ∧ v = cat L
theorem clB_no {c x : UInt8} (hx : x = 60 ∨ x = 34 ∨ x = 62) : x ∉ clB c := by
  unfold clB
  rcases hx with rfl | rfl | rfl
  all_goals
    repeat' split
    all_goals first | decide | (simp only [List.mem_singleton]; intro e; simp_all)
theorem clL_no {x : UInt8} (hx : x = 60 ∨ x = 34 ∨ x = 62) (l : List UInt8) : x ∉ clL l := by
  unfold clL
  intro h
  obtain ⟨c, _, hc⟩ := List.mem_flatMap.1 h
  exact clB_no hx hc
def bsA (l : List (List UInt8 × List UInt8)) : List (ByteArray × ByteArray) := l.map fun a => (str a.1, str a.2)
end Xm
end Go.Proofs.Ytdpkhmfolmcejaa
namespace Go.Proofs.Ytdpkhmfolmcejaa
namespace Xm
/-- a text of letters that may stand in one -/
def Lt (v : List UInt8) : Prop := ∃ L, (∀ r ∈ L, size r ≠ 0 ∧ letter r = true) ∧ v = cat L
theorem Lt.nil : Lt [] := ⟨[], by simp, rfl⟩
theorem Lt.append {a b : List UInt8} (h : Lt a) (k : Lt b) : Lt (a ++ b) := by
  obtain ⟨L, h1, rfl⟩ := h
  obtain ⟨M, h2, rfl⟩ := k
  refine ⟨L ++ M, fun r hr => ?_, (cat_append _ _).symm⟩
  rcases List.mem_append.1 hr with h | h
  · exact h1 r h
  · exact h2 r h
theorem Lt.flat {α : Type} {f : α → List UInt8} : ∀ {l : List α}, (∀ a ∈ l, Lt (f a)) → Lt (l.flatMap f)
  | [], _ => Lt.nil
  | a :: l, h => by
    rw [List.flatMap_cons]
    exact (h a List.mem_cons_self).append (Lt.flat fun b hb => h b (List.mem_cons_of_mem _ hb))
theorem Lt.text {v : List UInt8} (h : Lt v) : text (str v) 0 = -1 := by
  obtain ⟨L, h1, rfl⟩ := h
  have ht := text_cat L [] [] h1
  rw [List.nil_append, List.append_nil] at ht
  refine ht.trans ?_
  rw [Xm.text, dif_neg (by rw [str_size]; simp)]
theorem Lt.bad {v : List UInt8} (h : Lt v) : bad (str v) 0 = -1 := by
  obtain ⟨L, h1, rfl⟩ := h
  have ht := bad_cat L [] [] (fun r hr => (h1 r hr).1)
  rw [List.nil_append, List.append_nil] at ht
  refine ht.trans ?_
  rw [Xm.bad, dif_neg (by rw [str_size]; simp)]
theorem Vt.lt {v : List UInt8} (h : Vt v) : Lt v := by
  obtain ⟨L, hL, rfl⟩ := h
  exact ⟨L, fun r hr => ⟨(hL r hr).1, ok_letter (hL r hr).1 (hL r hr).2⟩, rfl⟩
/-- a byte of few, as a letter -/
def Asc (c : UInt8) : Prop := put (c.toNat : Int) = [c] ∧ size (c.toNat : Int) ≠ 0 ∧ letter (c.toNat : Int) = true
theorem asc_of : ∀ c : UInt8, (32 ≤ c.toNat ∧ c.toNat < 127 ∨ c = 9 ∨ c = 10 ∨ c = 13) → Asc c := by
  have key : ∀ n : Fin 256, (32 ≤ n.val ∧ n.val < 127 ∨ n.val = 9 ∨ n.val = 10 ∨ n.val = 13) → put (n.val : Int) = [UInt8.ofNat n.val] ∧ size (n.val : Int) ≠ 0 ∧ letter (n.val : Int) = true := by decide +kernel
  intro c h
  have := key ⟨c.toNat, c.toNat_lt⟩ (by
    rcases h with h | rfl | rfl | rfl
    · exact .inl h
    · exact .inr (.inl rfl)
    · exact .inr (.inr (.inl rfl))
    · exact .inr (.inr (.inr rfl)))
  simp only [UInt8.ofNat_toNat] at this
  exact this
theorem Lt.asc : ∀ {v : List UInt8}, (∀ c ∈ v, Asc c) → Lt v
  | [], _ => Lt.nil
  | c :: v, h => by
    have h1 := h c List.mem_cons_self
    refine Lt.append (a := [c]) ⟨[(c.toNat : Int)], by simp only [List.mem_singleton]; rintro r rfl; exact h1.2, ?_⟩ (Lt.asc fun d hd => h d (List.mem_cons_of_mem _ hd))
    rw [cat_cons, h1.1]; rfl
def Pc.put (p : Pc) (k : Nat) : Pc := ⟨p.kind, p.name, p.attrs, p.text, k⟩
end Xm
end Go.Proofs.Ytdpkhmfolmcejaa
namespace Go.Proofs.Ytdpkhmfolmcejaa
namespace Xm
theorem put_edge {r : Int} (h : size r ≠ 0) : ∃ (m : List UInt8) (c d : UInt8) (m' : List UInt8), put r = c :: m ∧ put r = m' ++ [d] ∧ blank (c.toNat : Int) = blank r ∧ blank (d.toNat : Int) = blank r ∧ (blank r = true → m = [] ∧ m' = []) := by
  have hb : 128 ≤ r → blank r = false := fun h => by unfold blank; simp; omega
  have hc : ∀ x : Nat, 128 ≤ x → x < 256 → blank ((UInt8.ofNat x).toNat : Int) = false := fun x h1 h2 => by rw [u8n h2]; unfold blank; simp; omega
  rcases size_cases r with h0 | h1 | h2 | h3 | h4
  · exact absurd h0 h
  · have hs := size1 h1
    have hp : put r = [UInt8.ofNat r.toNat] := by simp [put, h1]
    have e : ((UInt8.ofNat r.toNat).toNat : Int) = r := by rw [u8n (by omega)]; omega
    exact ⟨[], UInt8.ofNat r.toNat, UInt8.ofNat r.toNat, [], hp, hp, by rw [e], by rw [e], fun _ => ⟨rfl, rfl⟩⟩
  all_goals
    have hb0 : blank r = false := hb (by first | (have := size2 h2; omega) | (have := size3 h3; omega) | (have := size4 h4; omega))
    rw [hb0]
  · have hs := size2 h2
    simp only [put, h2, if_neg (show ¬ (2 : Int) = 0 by decide), if_neg (show ¬ (2 : Int) = 1 by decide), if_true]
    exact ⟨_, _, _, [_], rfl, rfl, hc _ (by omega) (by omega), hc _ (by omega) (by omega), fun h => by cases h⟩
  · have hs := size3 h3
    simp only [put, h3, if_neg (show ¬ (3 : Int) = 0 by decide), if_neg (show ¬ (3 : Int) = 1 by decide), if_neg (show ¬ (3 : Int) = 2 by decide), if_true]
    exact ⟨_, _, _, [_, _], rfl, rfl, hc _ (by omega) (by omega), hc _ (by omega) (by omega), fun h => by cases h⟩
  · have hs := size4 h4
    simp only [put, h4, if_neg (show ¬ (4 : Int) = 0 by decide), if_neg (show ¬ (4 : Int) = 1 by decide), if_neg (show ¬ (4 : Int) = 2 by decide), if_neg (show ¬ (4 : Int) = 3 by decide)]
    exact ⟨_, _, _, [_, _, _], rfl, rfl, hc _ (by omega) (by omega), hc _ (by omega) (by omega), fun h => by cases h⟩
theorem skip_end {s : ByteArray} {k : Nat} (h : s.size ≤ k) : skip s k = k := by rw [skip, if_neg (by omega)]
/-- blanks at the head -/
theorem skip_cat : ∀ (L : List Int) (A : List UInt8), (∀ r ∈ L, size r ≠ 0) → ∃ M N, L = M ++ N ∧ (∀ r ∈ M, blank r = true) ∧ skip (str (A ++ cat L)) A.length = A.length + (cat M).length ∧ (∀ r N', N = r :: N' → blank r = false)
  | [], A, _ => ⟨[], [], rfl, by simp, skip_end (by rw [str_size]; simp [cat]), fun r N' h => by cases h⟩
  | r :: L, A, h => by
    obtain ⟨m, c, d, m', h1, h2, h3, h4, h5⟩ := put_edge (h r List.mem_cons_self)
    have hb : bt (str (A ++ cat (r :: L))) A.length = (c.toNat : Int) := by
      rw [bt_str, List.getD_eq_getElem?_getD, List.getElem?_append_right (Nat.le_refl _), cat_cons, h1, Nat.sub_self]; rfl
    have hz : A.length < (str (A ++ cat (r :: L))).size := by rw [str_size, List.length_append, cat_cons, h1, List.length_append, List.length_cons]; omega
    cases hbl : blank r with
    | false =>
      refine ⟨[], r :: L, rfl, by simp, ?_, fun r' N' e => by cases e; exact hbl⟩
      rw [skip_stop (by rw [hb, h3, hbl])]; rfl
    | true =>
      obtain ⟨rfl, _⟩ := h5 hbl
      obtain ⟨M, N, e1, e2, e3, e4⟩ := skip_cat L (A ++ [c]) (fun x hx => h x (List.mem_cons_of_mem _ hx))
      refine ⟨r :: M, N, by rw [e1]; rfl, fun x hx => ?_, ?_, e4⟩
      · rcases List.mem_cons.1 hx with rfl | hx
        · exact hbl
        · exact e2 x hx
      · rw [skip, if_pos hz, if_pos (by rw [hb, h3, hbl])]
        have e : A ++ cat (r :: L) = A ++ [c] ++ cat L := by rw [cat_cons, h1]; simp
        rw [List.length_append, List.length_singleton] at e3
        rw [e, e3, cat_cons, h1]
        simp; omega
/-- blanks at the end -/
theorem back_cat (s : ByteArray) : ∀ (n : Nat) (L : List Int) (A B : List UInt8), L.length = n → s = str (A ++ (cat L ++ B)) → (∀ r ∈ L, size r ≠ 0) → ∃ M N, L = M ++ N ∧ (∀ r ∈ N, blank r = true) ∧ back s A.length (A.length + (cat L).length) = A.length + (cat M).length ∧ (∀ r, M.getLast? = some r → blank r = false)
  | 0, L, A, B, hn, hs, h => by
    obtain rfl := List.eq_nil_of_length_eq_zero hn
    exact ⟨[], [], rfl, by simp, back_stop (by simp [cat]), fun r h => by cases h⟩
  | n + 1, L, A, B, hn, hs, h => by
    obtain ⟨r, L', rfl⟩ : ∃ r L', L = L' ++ [r] := by
      have hne : L ≠ [] := fun e => by rw [e] at hn; simp at hn
      exact ⟨L.getLast hne, L.dropLast, (List.dropLast_concat_getLast hne).symm⟩
    obtain ⟨m, c, d, m', h1, h2, h3, h4, h5⟩ := put_edge (h r (by simp))
    have hcat : cat (L' ++ [r]) = cat L' ++ m' ++ [d] := by rw [cat_append, cat_cons, h2]; simp [cat]
    have hlen : A.length + (cat (L' ++ [r])).length = (A.length + (cat L').length + m'.length) + 1 := by rw [hcat]; simp; omega
    have hb : bt s (A.length + (cat L').length + m'.length) = (d.toNat : Int) := by
      have e : A ++ (cat (L' ++ [r]) ++ B) = (A ++ cat L' ++ m') ++ (d :: B) := by rw [hcat]; simp
      rw [hs, e, bt_str, List.getD_eq_getElem?_getD, List.getElem?_append_right (by simp; omega)]
      have : A.length + (cat L').length + m'.length - (A ++ cat L' ++ m').length = 0 := by simp; omega
      rw [this]; rfl
    rw [hlen, back]
    cases hbl : blank r with
    | false =>
      refine ⟨L' ++ [r], [], by simp, by simp, ?_, fun x hx => ?_⟩
      · rw [if_neg (by rw [hb, h4, hbl]; simp), hlen]
      · simp at hx; rw [← hx]; exact hbl
    | true =>
      obtain ⟨_, rfl⟩ := h5 hbl
      obtain ⟨M, N, e1, e2, e3, e4⟩ := back_cat s n L' A ([d] ++ B) (by simpa using hn) (by rw [hs, hcat]; simp) (fun x hx => h x (by simp [hx]))
      refine ⟨M, N ++ [r], by rw [e1]; simp, fun x hx => ?_, ?_, e4⟩
      · rcases List.mem_append.1 hx with hx | hx
        · exact e2 x hx
        · rw [List.mem_singleton] at hx; subst hx; exact hbl
      · rw [if_pos ⟨by simp only [List.length_nil]; omega, by rw [hb, h4, hbl]⟩]
        exact e3
theorem cut_mid (A C B : List UInt8) : cut (str (A ++ (C ++ B))) A.length (A.length + C.length) = str C := by
  have hL : Lies (str (A ++ (C ++ B))) A.length C := Lies.of (A := A) (B := B) (by simp [str]) rfl
  exact hL.ext
theorem trim_v {v : List UInt8} (h : Vt v) : ∃ t, trim (str v) = str t ∧ Vt t ∧ t.length ≤ v.length ∧ trim (str t) = str t := by
  obtain ⟨L, hL, rfl⟩ := h
  have hs : ∀ r ∈ L, size r ≠ 0 := fun r hr => (hL r hr).1
  obtain ⟨M, N, rfl, m1, m2, m3⟩ := skip_cat L [] hs
  simp only [List.nil_append, List.length_nil, Nat.zero_add] at m2
  obtain ⟨P, Q, rfl, q1, q2, q3⟩ := back_cat (str (cat (M ++ N))) N.length N (cat M) [] rfl (by rw [cat_append]; simp) (fun r hr => hs r (by simp [hr]))
  have hz : (str (cat (M ++ (P ++ Q)))).size = (cat M).length + (cat (P ++ Q)).length := by rw [str_size, cat_append, List.length_append]
  have ht : trim (str (cat (M ++ (P ++ Q)))) = str (cat P) := by
    unfold trim
    rw [m2, hz, q2]
    have e : cat (M ++ (P ++ Q)) = cat M ++ (cat P ++ cat Q) := by rw [cat_append, cat_append]
    rw [e]
    exact cut_mid _ _ _
  have hP : ∀ r ∈ P, size r ≠ 0 ∧ odd r = false := fun r hr => hL r (by simp [hr])
  refine ⟨cat P, ht, ⟨P, hP, rfl⟩, by simp only [cat_append, List.length_append]; omega, ?_⟩
  -- once more
  obtain ⟨M2, N2, e1, n1, n2, n3⟩ := skip_cat P [] (fun r hr => (hP r hr).1)
  simp only [List.nil_append, List.length_nil, Nat.zero_add] at n2
  have hM2 : M2 = [] := by
    cases M2 with
    | nil => rfl
    | cons x M2 =>
      exfalso
      have := n1 x List.mem_cons_self
      rw [m3 x (M2 ++ N2 ++ Q) (by rw [e1]; simp)] at this
      cases this
  subst hM2
  rw [List.nil_append] at e1
  obtain ⟨P3, Q3, e3, r1, r2, r3⟩ := back_cat (str (cat P)) P.length P [] [] rfl (by simp) (fun r hr => (hP r hr).1)
  have hQ3 : Q3 = [] := by
    cases hq : Q3 with
    | nil => rfl
    | cons x Q' =>
      exfalso
      have hne : Q3 ≠ [] := by rw [hq]; simp
      have hl : P.getLast? = some (Q3.getLast hne) := by
        rw [e3, List.getLast?_append, List.getLast?_eq_some_getLast hne]; rfl
      have h1 := q3 _ hl
      have h2 := r1 _ (List.getLast_mem hne)
      rw [h1] at h2
      cases h2
  subst hQ3
  rw [List.append_nil] at e3
  simp only [List.length_nil, Nat.zero_add] at r2
  unfold trim
  rw [n2, str_size, show (cat ([] : List Int)).length = 0 from rfl, r2, ← e3]
  have := cut_mid [] (cat P) []
  simpa using this
end Xm
end Go.Proofs.Ytdpkhmfolmcejaa
namespace Go.Proofs.Ytdpkhmfolmcejaa
namespace Xm
def al : List UInt8 := [97, 98, 90, 95, 48, 45, 46, 57, 65, 66, 67]
/-- a name of few letters -/
def Nl (l : List UInt8) : Prop := ∃ r, l = 110 :: r ∧ r.length ≤ 7 ∧ ∀ c ∈ r, c ∈ al
theorem al_part : ∀ c : UInt8, c ∈ al → part (c.toNat : Int) = true ∧ c ≠ 58 ∧ c ≠ 63 ∧ c ≠ 60 ∧ Asc c := by
  intro c hc
  simp only [al, List.mem_cons, List.not_mem_nil, or_false] at hc
  unfold Asc
  rcases hc with rfl | rfl | rfl | rfl | rfl | rfl | rfl | rfl | rfl | rfl | rfl <;> decide +kernel
theorem n_part : part ((110 : UInt8).toNat : Int) = true ∧ (110 : UInt8) ≠ 58 ∧ (110 : UInt8) ≠ 63 ∧ (110 : UInt8) ≠ 60 ∧ Asc 110 := by unfold Asc; decide +kernel
theorem Nl.part {l : List UInt8} (h : Nl l) : ∀ c ∈ l, part (c.toNat : Int) = true ∧ c ≠ 58 ∧ c ≠ 63 ∧ c ≠ 60 ∧ Asc c := by
  obtain ⟨r, rfl, _, h⟩ := h
  intro c hc
  rcases List.mem_cons.1 hc with rfl | hc
  · exact n_part
  · exact al_part c (h c hc)
theorem Nl.len {l : List UInt8} (h : Nl l) : 0 < l.length ∧ l.length ≤ 8 := by
  obtain ⟨r, rfl, h, _⟩ := h
  simp; omega
theorem Nl.lt {l : List UInt8} (h : Nl l) : Lt l := Lt.asc fun c hc => (h.part c hc).2.2.2.2
theorem parts_all {l : List UInt8} (h : ∀ c ∈ l, Xm.part (c.toNat : Int) = true) : ∀ (d k : Nat), l.length - k = d → parts (str l) k = true := by
  intro d
  induction d using Nat.strongRecOn with
  | _ d ih =>
    intro k hd
    rw [parts]
    split
    · rename_i hk
      rw [str_size] at hk
      have hb : Xm.part (bt (str l) k) = true := by
        rw [bt_str, List.getD_eq_getElem?_getD, List.getElem?_eq_getElem hk]
        exact h _ (List.getElem_mem hk)
      rw [hb, ih (l.length - (k + 1)) (by omega) (k + 1) rfl]; rfl
    · rfl
theorem Nl.name {l : List UInt8} (h : Nl l) : name (str l) = true := by
  have hl := h.len
  have hb := h.lt.bad
  have hp := parts_all (fun c hc => (h.part c hc).1) _ 0 rfl
  have hs : start (bt (str l) 0) = true := by
    obtain ⟨r, rfl, _, _⟩ := h
    rw [bt_str]
    show start ((110 : UInt8).toNat : Int) = true
    decide
  unfold Xm.name
  rw [hs, hb, hp, decide_eq_true (by rw [str_size]; omega), decide_eq_true (by rw [str_size]; omega)]
  rfl
theorem col_none {s : ByteArray} (h : ∀ k, k < s.size → bt s k ≠ 58) : ∀ (d k : Nat), s.size - k = d → k ≤ s.size → col s k = s.size := by
  intro d
  induction d using Nat.strongRecOn with
  | _ d ih =>
    intro k hd hk
    rw [col]
    split
    · rename_i hlt
      rw [if_neg (h k hlt)]
      exact ih _ (by omega) _ rfl hlt
    · rfl
theorem Nl.split {l : List UInt8} (h : Nl l) : split (str l) = (ByteArray.empty, str l, true) := by
  have hc : col (str l) 0 = (str l).size := col_none (fun k hk => by
    rw [str_size] at hk
    rw [bt_str, List.getD_eq_getElem?_getD, List.getElem?_eq_getElem hk]
    intro e
    exact (h.part _ (List.getElem_mem hk)).2.1 (u8_eq (d := 58) e)) _ 0 rfl (Nat.zero_le _)
  unfold Xm.split
  rw [if_neg (by omega), h.name]
theorem Nl.nm {l : List UInt8} (h : Nl l) : Nm l := ⟨fun c hc => .inl (h.part c hc).1, by rw [h.split]⟩
theorem Nl.nmp {l : List UInt8} (h : Nl l) : Nm (112 :: 58 :: l) := by
  refine ⟨fun c hc => ?_, ?_⟩
  · rcases List.mem_cons.1 hc with rfl | hc
    · exact .inl (by decide)
    rcases List.mem_cons.1 hc with rfl | hc
    · exact .inr rfl
    · exact .inl (h.part c hc).1
  · have hz : (str (112 :: 58 :: l)).size = l.length + 2 := by rw [str_size]; rfl
    have h0 : bt (str (112 :: 58 :: l)) 0 = 112 := by rw [bt_str]; rfl
    have h1 : bt (str (112 :: 58 :: l)) 1 = 58 := by rw [bt_str]; rfl
    have hc : col (str (112 :: 58 :: l)) 0 = 1 := by
      rw [col, if_pos (by omega), if_neg (by rw [h0]; decide), col, if_pos (by omega), if_pos h1]
    have hL : Lies (str (112 :: 58 :: l)) 0 ([112] ++ (58 :: l)) := Lies.of (A := []) (B := []) (by simp [str]) rfl
    have hL2 : Lies (str (112 :: 58 :: l)) 2 l := (hL.right (l := [112])).tl
    have c1 : cut (str (112 :: 58 :: l)) 0 1 = str [112] := hL.left.ext
    have c2 : cut (str (112 :: 58 :: l)) (1 + 1) (str (112 :: 58 :: l)).size = str l := by
      rw [hz, Nat.add_comm l.length 2]
      exact hL2.ext
    unfold Xm.split
    rw [hc, if_pos (by omega), c1, c2, h.name]
    show (Xm.name (str [112]) && true) = true
    rw [show Xm.name (str [112]) = true by kernel_rfl]
    rfl
theorem nmC_al (b : UInt8) : nmC b ∈ al := by
  unfold nmC
  have h : b.toNat % 8 < 8 := Nat.mod_lt _ (by decide)
  have key : ∀ j : Fin 8, nmT[j.val]'j.isLt ∈ al := by decide
  exact key ⟨b.toNat % 8, h⟩
theorem nmB_str (m : Nat) (s : ByteArray) : ∀ (d k : Nat) (a : List UInt8), m - k = d → ∃ r, nmB m s k (str a) = str (a ++ r) ∧ r.length ≤ m - k ∧ ∀ c ∈ r, c ∈ al := by
  intro d
  induction d using Nat.strongRecOn with
  | _ d ih =>
    intro k a hd
    rw [nmB]
    split
    · rename_i hk
      obtain ⟨r, h1, h2, h3⟩ := ih (m - (k + 1)) (by omega) (k + 1) (a ++ [nmC (s[k]'hk.1)]) rfl
      refine ⟨nmC (s[k]'hk.1) :: r, ?_, by simp only [List.length_cons]; omega, fun c hc => ?_⟩
      · have e : str a ++ (⟨#[nmC (s[k]'hk.1)]⟩ : ByteArray) = str (a ++ [nmC (s[k]'hk.1)]) := by rw [← str_append]; rfl
        rw [e, h1, List.append_assoc]; rfl
      · rcases List.mem_cons.1 hc with rfl | hc
        · exact nmC_al _
        · exact h3 c hc
    · exact ⟨[], by rw [List.append_nil], Nat.zero_le _, fun c hc => (by cases hc)⟩
theorem nm_nl (m : Nat) (hm : m ≤ 6) (s : ByteArray) : ∃ l, nmB m s 0 ⟨#[110]⟩ = str l ∧ Nl l ∧ l.length ≤ 7 := by
  obtain ⟨r, h1, h2, h3⟩ := nmB_str m s _ 0 [110] rfl
  exact ⟨110 :: r, h1, ⟨r, rfl, by omega, h3⟩, by simp only [List.length_cons]; omega⟩
theorem Nl.more {l : List UInt8} (h : Nl l) (hl : l.length ≤ 7) (i : Nat) (hi : i < 3) : Nl (l ++ [UInt8.ofNat (65 + i)]) := by
  obtain ⟨r, rfl, h1, h2⟩ := h
  refine ⟨r ++ [UInt8.ofNat (65 + i)], rfl, by simp at hl ⊢; omega, fun c hc => ?_⟩
  rcases List.mem_append.1 hc with hc | hc
  · exact h2 c hc
  · rw [List.mem_singleton] at hc
    subst hc
    rcases (by omega : i = 0 ∨ i = 1 ∨ i = 2) with rfl | rfl | rfl <;> decide
theorem rplain_sz (s : ByteArray) : ∀ (d k : Nat) (acc : ByteArray), s.size - k = d → k ≤ s.size → (rplain s k acc).size ≤ acc.size + (s.size - k) := by
  intro d
  induction d using Nat.strongRecOn with
  | _ d ih =>
    intro k acc hd hk
    rw [rplain]
    split
    · rename_i hlt
      have hbd := rg_bd (s := s) (k := k) hk
      split
      · have := ih (s.size - (k + 1)) (by omega) (k + 1) (acc ++ ⟨#[120]⟩) rfl (by omega)
        rw [ByteArray.size_append, show (⟨#[120]⟩ : ByteArray).size = 1 from rfl] at this
        omega
      · rename_i hn
        have hn0 : (rg s k).2 ≠ 0 := fun e => hn (.inl e)
        have hz : (s.extract k (k + (rg s k).2.toNat)).size = (rg s k).2.toNat := by simp; omega
        have := ih (s.size - (k + (rg s k).2.toNat)) (by omega) (k + (rg s k).2.toNat) (acc ++ s.extract k (k + (rg s k).2.toNat)) rfl (by omega)
        rw [ByteArray.size_append, hz] at this
        omega
    · omega
theorem plain_vt (s : ByteArray) : ∃ v, rplain s 0 ByteArray.empty = str v ∧ Vt v ∧ v.length ≤ s.size := by
  obtain ⟨L, h, e⟩ := plain_cat s
  have hz := rplain_sz s _ 0 ByteArray.empty rfl (Nat.zero_le _)
  rw [e, str_size] at hz
  exact ⟨cat L, e, ⟨L, h, rfl⟩, by simpa using hz⟩
theorem Vt.cons {v : List UInt8} (h : Vt v) : Vt (113 :: v) := by
  obtain ⟨L, hL, rfl⟩ := h
  refine ⟨113 :: L, fun r hr => ?_, by rw [cat_cons]; rfl⟩
  rcases List.mem_cons.1 hr with rfl | hr
  · decide
  · exact hL r hr
end Xm
end Go.Proofs.Ytdpkhmfolmcejaa

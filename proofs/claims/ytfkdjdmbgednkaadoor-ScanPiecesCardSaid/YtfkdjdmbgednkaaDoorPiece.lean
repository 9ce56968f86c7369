/- scan: what Next reads at a tag without attributes; a text of small bytes. No program. -/
import Derived.Test.YtfkdjdmbgednkaaDoorScan11
import Derived.Test.YtfkdjdmbgednkaaDoorLetters
namespace Go.Proofs.YtfkdjdmbgednkaaDoor
namespace Xm
/-- bytes lie in a text at a place -/
def Lies (s : ByteArray) (k : Nat) (l : List UInt8) : Prop := k ≤ s.size ∧ ∃ B, (s.extract k s.size).data.toList = l ++ B
theorem Lies.of {s : ByteArray} {A l B : List UInt8} {k : Nat} (h : s.data.toList = A ++ (l ++ B)) (hk : A.length = k) : Lies s k l := by
  have hz : s.size = A.length + (l.length + B.length) := by
    have := congrArg List.length h
    simpa using this
  refine ⟨by omega, B, ?_⟩
  rw [ByteArray.data_extract, Array.toList_extract, List.extract_eq_take_drop, h]
  subst hk
  rw [List.drop_left, List.take_of_length_le (by simp; omega)]
theorem Lies.le {s : ByteArray} {k : Nat} {l : List UInt8} (h : Lies s k l) : k + l.length ≤ s.size := by
  obtain ⟨hk, B, hB⟩ := h
  have := congrArg List.length hB
  simp at this
  omega
theorem Lies.left {s : ByteArray} {k : Nat} {l r : List UInt8} (h : Lies s k (l ++ r)) : Lies s k l := by
  obtain ⟨hk, B, hB⟩ := h
  exact ⟨hk, r ++ B, by rw [hB, List.append_assoc]⟩
theorem Lies.right {s : ByteArray} {k : Nat} {l r : List UInt8} (h : Lies s k (l ++ r)) : Lies s (k + l.length) r := by
  have hl := h.le
  obtain ⟨hk, B, hB⟩ := h
  rw [List.length_append] at hl
  refine ⟨by omega, B, ?_⟩
  have e : (s.extract (k + l.length) s.size).data.toList = (s.extract k s.size).data.toList.drop l.length := by
    rw [ByteArray.data_extract, ByteArray.data_extract, Array.toList_extract, Array.toList_extract, List.extract_eq_take_drop, List.extract_eq_take_drop, List.drop_take, List.drop_drop]
    congr 1
    omega
  rw [e, hB, List.append_assoc, List.drop_left]
theorem Lies.ext {s : ByteArray} {k : Nat} {l : List UInt8} (h : Lies s k l) : s.extract k (k + l.length) = str l := by
  have hl := h.le
  obtain ⟨hk, B, hB⟩ := h
  have e : s.extract k (k + l.length) = (s.extract k s.size).extract 0 l.length := by
    rw [ByteArray.extract_extract]
    congr 1
    omega
  rw [e]
  apply ByteArray.ext
  apply Array.ext'
  rw [ByteArray.data_extract, Array.toList_extract, hB, List.extract_eq_take_drop, List.drop_zero, Nat.sub_zero, List.take_left]
  rfl
theorem Lies.bt {s : ByteArray} {k : Nat} {l : List UInt8} (h : Lies s k l) {i : Nat} (hi : i < l.length) : bt s (k + i) = ((l.getD i 0).toNat : Int) := by
  have hl := h.le
  have e := h.ext
  have hz : i < (s.extract k (k + l.length)).size := by simp; omega
  have h1 : ((s.extract k (k + l.length))[i].toNat : Int) = Xm.bt s (k + i) := by
    rw [← bt_eq (show k + i < s.size by omega), ByteArray.getElem_extract]
  rw [← h1, bt_eq, e, bt_str]
theorem Lies.has {s x : ByteArray} {k : Nat} {l : List UInt8} (h : Lies s k l) (hx : x.size ≤ l.length) : hasAt s k x = (l.take x.size == x.data.toList) := by
  have hl := h.le
  obtain ⟨hk, B, hB⟩ := h
  unfold hasAt pre
  have hz : x.size ≤ (s.extract k s.size).size := by simp; omega
  rw [decide_eq_true hz, Bool.true_and, ByteArray.toList_eq, ByteArray.toList_eq, ByteArray.data_extract, Array.toList_extract, hB, List.extract_eq_take_drop, List.drop_zero, Nat.sub_zero, List.take_append_of_le_length hx]
theorem Lies.no {s x : ByteArray} {k : Nat} {l : List UInt8} (h : Lies s k l) (i : Nat) (hi : i < l.length) (hx : i < x.size) (hne : l.getD i 0 ≠ x.data.toList.getD i 0) : hasAt s k x = false := by
  rw [Bool.eq_false_iff]
  intro hc
  have hl := h.le
  obtain ⟨hk, B, hB⟩ := h
  unfold hasAt pre at hc
  rw [Bool.and_eq_true, beq_iff_eq, ByteArray.toList_eq, ByteArray.toList_eq, ByteArray.data_extract, Array.toList_extract, hB, List.extract_eq_take_drop, List.drop_zero, Nat.sub_zero] at hc
  apply hne
  rw [← hc.2, List.getD_eq_getElem?_getD, List.getD_eq_getElem?_getD, List.getElem?_take, if_pos hx, List.getElem?_append_left hi]
theorem nameEnd_stop {s : ByteArray} {k : Nat} (h : part (bt s k) = false) (h' : bt s k ≠ 58) : nameEnd s k = k := by
  rw [nameEnd]
  split
  · rw [if_neg (by rw [h]; simp [h'])]
  · rfl
theorem nameEnd_step {s : ByteArray} {k : Nat} (hk : k < s.size) (h : part (bt s k) = true) : nameEnd s k = nameEnd s (k + 1) := by
  rw [nameEnd, if_pos hk, if_pos (.inl h)]
theorem skip_stop {s : ByteArray} {k : Nat} (h : blank (bt s k) = false) : skip s k = k := by
  rw [skip]
  split
  · rw [if_neg (by rw [h]; simp)]
  · rfl
theorem asides_no {s : ByteArray} {p : P3} (n : Nat) (h : asideB s p.k = false) : asides s n p = p := by
  cases n with
  | zero => rfl
  | succ n => rw [asides, if_neg (by rw [h]; simp)]
/-- a small letter -/
def Lc (c : UInt8) : Prop := c = 97 ∨ c = 114
theorem nextR_of {s : ByteArray} {k : Nat} {l : List UInt8} (hk : k < s.size) (h : Lies s k l) (hl : 1 < l.length) (h1 : l.getD 1 0 ≠ 33) (h2 : l.getD 1 0 ≠ 63) (he : (pieceOf s k 0).2.e = 0) : nextR s ⟨k, 0, 0⟩ = pieceOf s k 0 := by
  have ha : asideB s k = false := by
    unfold asideB
    rw [h.no (x := comS) 1 hl (by decide) h1, h.no (x := insS) 1 hl (by decide) h2]
    rfl
  unfold nextR
  rw [asides_no (p := ⟨k, 0, 0⟩) _ ha, if_neg (by simp only; omega), if_neg (by simp only; omega)]
theorem next_empty {s : ByteArray} {k : Nat} {c : UInt8} (hc : Lc c) (h : Lies s k [60, c, 47, 62]) : nextR s ⟨k, 0, 0⟩ = (⟨3, str [c], [], ByteArray.empty, k⟩, ⟨k + 4, 0, 0⟩) := by
  have hl := h.le
  have hr : Lies s (k + 1) [c, 47, 62] := Lies.right (l := [60]) h
  have hr2 : Lies s (k + 2) [47, 62] := Lies.right (l := [60, c]) h
  have hn : Lies s (k + 1) [c] := Lies.left (r := [47, 62]) hr
  have b1 : bt s (k + 1) = (c.toNat : Int) := hr.bt (i := 0) (by simp)
  have b2 : bt s (k + 2) = 47 := hr2.bt (i := 0) (by simp)
  have e1 : nameEnd s (k + 1) = k + 2 := by
    rw [nameEnd_step (by simp at hl; omega) (by rw [b1]; rcases hc with rfl | rfl <;> rfl), nameEnd_stop (by rw [b2]; rfl) (by rw [b2]; decide)]
  have e2 : nameOk s (k + 1) = true := by
    unfold nameOk
    rw [e1, show s.extract (k + 1) (k + 2) = str [c] from hn.ext]
    rcases hc with rfl | rfl <;> kernel_rfl
  have e3 : nameS s (k + 1) = str [c] := by
    unfold nameS
    rw [e2, if_pos rfl, e1, show s.extract (k + 1) (k + 2) = str [c] from hn.ext]
  have e4 : skip s (k + 2) = k + 2 := skip_stop (by rw [b2]; rfl)
  have ht : tagR s ⟨k + 1, 0, 0⟩ = (3, [], ⟨k + 4, 0, 0⟩) := by
    unfold tagR nameT
    rw [if_pos e2, tagL, if_neg (by simp), e1]
    simp only [e4]
    rw [if_pos (by rw [hr2.has (by decide)]; rfl)]
  have hp : pieceOf s k 0 = (⟨3, str [c], [], ByteArray.empty, k⟩, ⟨k + 4, 0, 0⟩) := by
    unfold pieceOf
    rw [h.no (x := cdS) 1 (by simp) (by decide) (by rcases hc with rfl | rfl <;> decide), h.no (x := backS) 1 (by simp) (by decide) (by rcases hc with rfl | rfl <;> decide), h.has (x := ltS) (by decide : 1 ≤ 4), ht, e3]
    rfl
  rw [nextR_of (by simp at hl; omega) h (by simp) (by rcases hc with rfl | rfl <;> decide) (by rcases hc with rfl | rfl <;> decide) (by rw [hp]), hp]
theorem next_start {s : ByteArray} {k : Nat} {c : UInt8} (hc : Lc c) (h : Lies s k [60, c, 62]) : nextR s ⟨k, 0, 0⟩ = (⟨1, str [c], [], ByteArray.empty, k⟩, ⟨k + 3, 0, 0⟩) := by
  have hl := h.le
  have hr : Lies s (k + 1) [c, 62] := Lies.right (l := [60]) h
  have hr2 : Lies s (k + 2) [62] := Lies.right (l := [60, c]) h
  have hn : Lies s (k + 1) [c] := Lies.left (r := [62]) hr
  have b1 : bt s (k + 1) = (c.toNat : Int) := hr.bt (i := 0) (by simp)
  have b2 : bt s (k + 2) = 62 := hr2.bt (i := 0) (by simp)
  have e1 : nameEnd s (k + 1) = k + 2 := by
    rw [nameEnd_step (by simp at hl; omega) (by rw [b1]; rcases hc with rfl | rfl <;> rfl), nameEnd_stop (by rw [b2]; rfl) (by rw [b2]; decide)]
  have e2 : nameOk s (k + 1) = true := by
    unfold nameOk
    rw [e1, show s.extract (k + 1) (k + 2) = str [c] from hn.ext]
    rcases hc with rfl | rfl <;> kernel_rfl
  have e3 : nameS s (k + 1) = str [c] := by
    unfold nameS
    rw [e2, if_pos rfl, e1, show s.extract (k + 1) (k + 2) = str [c] from hn.ext]
  have e4 : skip s (k + 2) = k + 2 := skip_stop (by rw [b2]; rfl)
  have ht : tagR s ⟨k + 1, 0, 0⟩ = (1, [], ⟨k + 3, 0, 0⟩) := by
    unfold tagR nameT
    rw [if_pos e2, tagL, if_neg (by simp), e1]
    simp only [e4]
    rw [if_neg (by rw [hr2.no (x := closeE) 0 (by decide) (by decide) (by decide)]; simp), if_pos (by rw [hr2.has (by decide)]; rfl)]
  have hp : pieceOf s k 0 = (⟨1, str [c], [], ByteArray.empty, k⟩, ⟨k + 3, 0, 0⟩) := by
    unfold pieceOf
    rw [h.no (x := cdS) 1 (by simp) (by decide) (by rcases hc with rfl | rfl <;> decide), h.no (x := backS) 1 (by simp) (by decide) (by rcases hc with rfl | rfl <;> decide), h.has (x := ltS) (by decide : 1 ≤ 3), ht, e3]
    rfl
  rw [nextR_of (by simp at hl; omega) h (by simp) (by rcases hc with rfl | rfl <;> decide) (by rcases hc with rfl | rfl <;> decide) (by rw [hp]), hp]
theorem next_end {s : ByteArray} {k : Nat} {c : UInt8} (hc : Lc c) (h : Lies s k [60, 47, c, 62]) : nextR s ⟨k, 0, 0⟩ = (⟨2, str [c], [], ByteArray.empty, k⟩, ⟨k + 4, 0, 0⟩) := by
  have hl := h.le
  have hr : Lies s (k + 2) [c, 62] := Lies.right (l := [60, 47]) h
  have hr2 : Lies s (k + 3) [62] := Lies.right (l := [60, 47, c]) h
  have hn : Lies s (k + 2) [c] := Lies.left (r := [62]) hr
  have b1 : bt s (k + 2) = (c.toNat : Int) := hr.bt (i := 0) (by simp)
  have b2 : bt s (k + 3) = 62 := hr2.bt (i := 0) (by simp)
  have e1 : nameEnd s (k + 2) = k + 3 := by
    rw [nameEnd_step (by simp at hl; omega) (by rw [b1]; rcases hc with rfl | rfl <;> rfl), nameEnd_stop (by rw [b2]; rfl) (by rw [b2]; decide)]
  have e2 : nameOk s (k + 2) = true := by
    unfold nameOk
    rw [e1, show s.extract (k + 2) (k + 3) = str [c] from hn.ext]
    rcases hc with rfl | rfl <;> kernel_rfl
  have e3 : nameS s (k + 2) = str [c] := by
    unfold nameS
    rw [e2, if_pos rfl, e1, show s.extract (k + 2) (k + 3) = str [c] from hn.ext]
  have e4 : skip s (k + 3) = k + 3 := skip_stop (by rw [b2]; rfl)
  have ht : backT s k 0 = ⟨k + 4, 0, 0⟩ := by
    have hnm : nameT s ⟨k + 2, 0, 0⟩ = ⟨k + 3, 0, 0⟩ := by
      unfold nameT
      rw [if_pos e2, e1]
    have hb : blanksT s ⟨k + 3, 0, 0⟩ = ⟨k + 3, 0, 0⟩ := by
      unfold blanksT
      rw [e4]
    unfold backT
    rw [hnm, hb]
    unfold gtT
    rw [if_pos (by rw [hr2.has (by decide)]; rfl)]
  have hp : pieceOf s k 0 = (⟨2, str [c], [], ByteArray.empty, k⟩, ⟨k + 4, 0, 0⟩) := by
    unfold pieceOf
    rw [h.no (x := cdS) 1 (by simp) (by decide) (by rcases hc with rfl | rfl <;> decide), h.has (x := backS) (by decide : 2 ≤ 4), ht, e3]
    rfl
  rw [nextR_of (by simp at hl; omega) h (by simp) (by rcases hc with rfl | rfl <;> decide) (by rcases hc with rfl | rfl <;> decide) (by rw [hp]), hp]
theorem next_eof (s : ByteArray) : nextR s ⟨s.size, 0, 0⟩ = (Pc.zero, ⟨s.size, 0, 0⟩) := by
  have h : asides s (s.size + 1) ⟨s.size, 0, 0⟩ = ⟨s.size, 0, 0⟩ := by
    rw [asides, if_neg (by simp)]
  unfold nextR
  rw [h, if_pos (.inr (Nat.le_refl _))]
theorem bad_small {s : ByteArray} (h : ∀ k, k < s.size → bt s k < 128) : ∀ (d k : Nat), s.size - k = d → bad s k = -1 := by
  intro d
  induction d using Nat.strongRecOn with
  | _ d ih =>
    intro k hd
    rw [bad]
    split
    · rename_i hk
      have hb := bt_bd s k
      have hb2 := h k hk
      have hg := (got1 (s := s) (k := k) (r := bt s k) (by unfold size may; simp; omega) (by omega) rfl).1
      rw [dif_neg (by rw [hg]; decide), hg]
      exact ih _ (by have : (1 : Int).toNat = 1 := rfl; omega) _ rfl
    · rfl
theorem new_small {s : ByteArray} (hs : s.size ≤ 200000) (h : ∀ k, k < s.size → bt s k < 128) : newT s = ⟨0, 0, 0⟩ := by
  unfold newT
  rw [if_neg (by omega), if_neg (by rw [bad_small h _ 0 rfl]; decide)]
end Xm
end Go.Proofs.YtfkdjdmbgednkaaDoor

/- Letters as bytes: what is put is got; a text of letters is no bad one. No program. -/
/- scan: what Next reads at a tag without attributes; a text of small bytes. No program. -/
import Derived.Test.YtdpkhmfolmcejaaGreatDoorUput
import Derived.Test.YtdpkhmfolmcejaaGreatDoorMNew
namespace Go.Proofs.YtdpkhmfolmcejaaGreatDoor
namespace Xm
theorem bt_str (l : List UInt8) (k : Nat) : bt (str l) k = ((l.getD k 0).toNat : Int) := by
  unfold bt
  split
  · rename_i h
    have h' : k < l.length := by rw [← str_size]; exact h
    rw [List.getD_eq_getElem?_getD, List.getElem?_eq_getElem h']
    rfl
  · rename_i h
    have h' : l.length ≤ k := by rw [← str_size]; omega
    rw [List.getD_eq_getElem?_getD, List.getElem?_eq_none h']
    rfl
theorem got1 {s : ByteArray} {k : Nat} {r : Int} (h : size r = 1) (hk : k + 1 ≤ s.size) (h0 : bt s k = r) : getN s k = 1 ∧ getR s k = r := by
  have hb := size1 h
  have hf : formN (bt s k) = 1 := by unfold formN; rw [if_pos (by omega)]
  have hv : val s k 0 = r := by unfold val formB; rw [if_pos (by omega), h0]
  have hw : whole s k = true := by
    unfold whole
    rw [hf]
    simp only [show ((1 : Int).toNat - 1) = 0 from rfl, hv, h, tail]
    simp; omega
  unfold getN getR
  rw [if_pos hw, if_pos hw, hf]
  exact ⟨rfl, hv⟩
theorem got2 {s : ByteArray} {k : Nat} {r : Int} (h : size r = 2) (hk : k + 2 ≤ s.size) (h0 : bt s k = 192 + r / 64) (h1 : bt s (k + 1) = 128 + r % 64) : getN s k = 2 ∧ getR s k = r := by
  have hb := size2 h
  have hf : formN (bt s k) = 2 := by unfold formN; rw [if_neg (by omega), if_pos (by omega)]
  have hv : val s k 1 = r := by
    unfold val val formB
    rw [if_neg (by omega), if_pos (by omega), h0, show k + 1 + 0 = k + 1 from rfl, h1]
    omega
  have hw : whole s k = true := by
    unfold whole
    rw [hf]
    simp only [show ((2 : Int).toNat - 1) = 1 from rfl, hv, h, tail, show k + 1 + 0 = k + 1 from rfl, h1]
    simp; omega
  unfold getN getR
  rw [if_pos hw, if_pos hw, hf]
  exact ⟨rfl, hv⟩
theorem got3 {s : ByteArray} {k : Nat} {r : Int} (h : size r = 3) (hk : k + 3 ≤ s.size) (h0 : bt s k = 224 + r / 4096) (h1 : bt s (k + 1) = 128 + r / 64 % 64) (h2 : bt s (k + 2) = 128 + r % 64) : getN s k = 3 ∧ getR s k = r := by
  have hb := size3 h
  have hf : formN (bt s k) = 3 := by unfold formN; rw [if_neg (by omega), if_neg (by omega), if_pos (by omega)]
  have hv : val s k 2 = r := by
    unfold val val val formB
    rw [if_neg (by omega), if_neg (by omega), if_pos (by omega), h0, show k + 1 + 0 = k + 1 from rfl, show k + 1 + 1 = k + 2 from rfl, h1, h2]
    omega
  have hw : whole s k = true := by
    unfold whole
    rw [hf]
    simp only [show ((3 : Int).toNat - 1) = 2 from rfl, hv, h, tail, show k + 1 + 0 = k + 1 from rfl, show k + 1 + 1 = k + 2 from rfl, h1, h2]
    simp; omega
  unfold getN getR
  rw [if_pos hw, if_pos hw, hf]
  exact ⟨rfl, hv⟩
theorem got4 {s : ByteArray} {k : Nat} {r : Int} (h : size r = 4) (hk : k + 4 ≤ s.size) (h0 : bt s k = 240 + r / 262144) (h1 : bt s (k + 1) = 128 + r / 4096 % 64) (h2 : bt s (k + 2) = 128 + r / 64 % 64) (h3 : bt s (k + 3) = 128 + r % 64) : getN s k = 4 ∧ getR s k = r := by
  have hb := size4 h
  have hf : formN (bt s k) = 4 := by unfold formN; rw [if_neg (by omega), if_neg (by omega), if_neg (by omega), if_pos (by omega)]
  have hv : val s k 3 = r := by
    unfold val val val val formB
    rw [if_neg (by omega), if_neg (by omega), if_neg (by omega), if_pos (by omega), h0, show k + 1 + 0 = k + 1 from rfl, show k + 1 + 1 = k + 2 from rfl, show k + 1 + 2 = k + 3 from rfl, h1, h2, h3]
    omega
  have hw : whole s k = true := by
    unfold whole
    rw [hf]
    simp only [show ((4 : Int).toNat - 1) = 3 from rfl, hv, h, tail, show k + 1 + 0 = k + 1 from rfl, show k + 1 + 1 = k + 2 from rfl, show k + 1 + 2 = k + 3 from rfl, h1, h2, h3]
    simp; omega
  unfold getN getR
  rw [if_pos hw, if_pos hw, hf]
  exact ⟨rfl, hv⟩
theorem u8n {x : Nat} (h : x < 256) : ((UInt8.ofNat x).toNat : Int) = x := by
  have h2 : (UInt8.ofNat x).toNat = x % 256 := UInt8.toNat_ofNat'
  omega
theorem put_size (r : Int) : ((put r).length : Int) = size r := by
  unfold put
  rcases size_cases r with h | h | h | h | h <;> simp [h]
theorem got (a b : List UInt8) {r : Int} (h : size r ≠ 0) : getN (str (a ++ put r ++ b)) a.length = size r ∧ getR (str (a ++ put r ++ b)) a.length = r := by
  have hl := put_size r
  have hsz : (str (a ++ put r ++ b)).size = a.length + (put r).length + b.length := by rw [str_size, List.length_append, List.length_append]
  have hat : ∀ i, i < (put r).length → bt (str (a ++ put r ++ b)) (a.length + i) = (((put r).getD i 0).toNat : Int) := by
    intro i hi
    rw [bt_str]
    congr 2
    rw [List.getD_eq_getElem?_getD, List.getD_eq_getElem?_getD, List.append_assoc, List.getElem?_append_right (by omega), show a.length + i - a.length = i by omega, List.getElem?_append_left hi]
  rcases size_cases r with hz | hz | hz | hz | hz
  · exact absurd hz h
  · rw [hz] at hl ⊢
    have hb := size1 hz
    have hp : put r = [UInt8.ofNat (r.toNat)] := by simp [put, hz]
    have h0 : bt (str (a ++ put r ++ b)) (a.length + 0) = r := by
      rw [hat 0 (by omega), hp]
      show ((UInt8.ofNat (r.toNat)).toNat : Int) = _
      rw [u8n (by omega)]
      omega
    exact got1 hz (by omega) h0
  · rw [hz] at hl ⊢
    have hb := size2 hz
    have hp : put r = [UInt8.ofNat (192 + (r / 64).toNat), UInt8.ofNat (128 + (r % 64).toNat)] := by simp [put, hz]
    have h0 : bt (str (a ++ put r ++ b)) (a.length + 0) = 192 + r / 64 := by
      rw [hat 0 (by omega), hp]
      show ((UInt8.ofNat (192 + (r / 64).toNat)).toNat : Int) = _
      rw [u8n (by omega)]
      omega
    have h1 : bt (str (a ++ put r ++ b)) (a.length + 1) = 128 + r % 64 := by
      rw [hat 1 (by omega), hp]
      show ((UInt8.ofNat (128 + (r % 64).toNat)).toNat : Int) = _
      rw [u8n (by omega)]
      omega
    exact got2 hz (by omega) h0 h1
  · rw [hz] at hl ⊢
    have hb := size3 hz
    have hp : put r = [UInt8.ofNat (224 + (r / 4096).toNat), UInt8.ofNat (128 + (r / 64 % 64).toNat), UInt8.ofNat (128 + (r % 64).toNat)] := by simp [put, hz]
    have h0 : bt (str (a ++ put r ++ b)) (a.length + 0) = 224 + r / 4096 := by
      rw [hat 0 (by omega), hp]
      show ((UInt8.ofNat (224 + (r / 4096).toNat)).toNat : Int) = _
      rw [u8n (by omega)]
      omega
    have h1 : bt (str (a ++ put r ++ b)) (a.length + 1) = 128 + r / 64 % 64 := by
      rw [hat 1 (by omega), hp]
      show ((UInt8.ofNat (128 + (r / 64 % 64).toNat)).toNat : Int) = _
      rw [u8n (by omega)]
      omega
    have h2 : bt (str (a ++ put r ++ b)) (a.length + 2) = 128 + r % 64 := by
      rw [hat 2 (by omega), hp]
      show ((UInt8.ofNat (128 + (r % 64).toNat)).toNat : Int) = _
      rw [u8n (by omega)]
      omega
    exact got3 hz (by omega) h0 h1 h2
  · rw [hz] at hl ⊢
    have hb := size4 hz
    have hp : put r = [UInt8.ofNat (240 + (r / 262144).toNat), UInt8.ofNat (128 + (r / 4096 % 64).toNat), UInt8.ofNat (128 + (r / 64 % 64).toNat), UInt8.ofNat (128 + (r % 64).toNat)] := by simp [put, hz]
    have h0 : bt (str (a ++ put r ++ b)) (a.length + 0) = 240 + r / 262144 := by
      rw [hat 0 (by omega), hp]
      show ((UInt8.ofNat (240 + (r / 262144).toNat)).toNat : Int) = _
      rw [u8n (by omega)]
      omega
    have h1 : bt (str (a ++ put r ++ b)) (a.length + 1) = 128 + r / 4096 % 64 := by
      rw [hat 1 (by omega), hp]
      show ((UInt8.ofNat (128 + (r / 4096 % 64).toNat)).toNat : Int) = _
      rw [u8n (by omega)]
      omega
    have h2 : bt (str (a ++ put r ++ b)) (a.length + 2) = 128 + r / 64 % 64 := by
      rw [hat 2 (by omega), hp]
      show ((UInt8.ofNat (128 + (r / 64 % 64).toNat)).toNat : Int) = _
      rw [u8n (by omega)]
      omega
    have h3 : bt (str (a ++ put r ++ b)) (a.length + 3) = 128 + r % 64 := by
      rw [hat 3 (by omega), hp]
      show ((UInt8.ofNat (128 + (r % 64).toNat)).toNat : Int) = _
      rw [u8n (by omega)]
      omega
    exact got4 hz (by omega) h0 h1 h2 h3
def cat (L : List Int) : List UInt8 := L.flatMap put
theorem cat_cons (r : Int) (L : List Int) : cat (r :: L) = put r ++ cat L := by simp [cat]
theorem cat_append (L M : List Int) : cat (L ++ M) = cat L ++ cat M := by simp [cat]
theorem bad_cat : ∀ (L : List Int) (a b : List UInt8), (∀ r ∈ L, size r ≠ 0) → bad (str (a ++ cat L ++ b)) a.length = bad (str (a ++ cat L ++ b)) (a.length + (cat L).length)
  | [], a, b, h => by simp [cat]
  | r :: L, a, b, h => by
    have hr := h r (by simp)
    have e : a ++ cat (r :: L) ++ b = a ++ put r ++ (cat L ++ b) := by rw [cat_cons]; simp
    have e2 : a ++ cat (r :: L) ++ b = (a ++ put r) ++ cat L ++ b := by rw [cat_cons]; simp
    have hg := got a (cat L ++ b) hr
    rw [← e] at hg
    have hl := put_size r
    have hsz : (str (a ++ cat (r :: L) ++ b)).size = a.length + (put r).length + (cat L).length + b.length := by rw [str_size, e2]; simp only [List.length_append]
    have hs0 := size_cases r
    rw [bad, dif_pos (by omega), dif_neg (by rw [hg.1]; exact hr), hg.1]
    have ih := bad_cat L (a ++ put r) b (fun x hx => h x (by simp [hx]))
    rw [← e2, List.length_append] at ih
    rw [show a.length + (size r).toNat = a.length + (put r).length by omega, ih, cat_cons, List.length_append]
    congr 1
    omega
theorem text_cat : ∀ (L : List Int) (a b : List UInt8), (∀ r ∈ L, size r ≠ 0 ∧ letter r = true) → text (str (a ++ cat L ++ b)) a.length = text (str (a ++ cat L ++ b)) (a.length + (cat L).length)
  | [], a, b, h => by simp [cat]
  | r :: L, a, b, h => by
    have hr := h r (by simp)
    have e : a ++ cat (r :: L) ++ b = a ++ put r ++ (cat L ++ b) := by rw [cat_cons]; simp
    have e2 : a ++ cat (r :: L) ++ b = (a ++ put r) ++ cat L ++ b := by rw [cat_cons]; simp
    have hg := got a (cat L ++ b) hr.1
    rw [← e] at hg
    have hl := put_size r
    have hsz : (str (a ++ cat (r :: L) ++ b)).size = a.length + (put r).length + (cat L).length + b.length := by rw [str_size, e2]; simp only [List.length_append]
    have hs0 := size_cases r
    rw [text, dif_pos (by omega), dif_neg (by rw [hg.1, hg.2, hr.2]; simp [hr.1]), hg.1]
    have ih := text_cat L (a ++ put r) b (fun x hx => h x (by simp [hx]))
    rw [← e2, List.length_append] at ih
    rw [show a.length + (size r).toNat = a.length + (put r).length by omega, ih, cat_cons, List.length_append]
    congr 1
    omega
end Xm
end Go.Proofs.YtdpkhmfolmcejaaGreatDoor
namespace Go.Proofs.YtdpkhmfolmcejaaGreatDoor
namespace Xm
/-- bytes lie in a text at a place -/
def Lies (s : ByteArray) (k : Nat) (l : List UInt8) : Prop := k ≤ s.size ∧ ∃ B, (s.extract k s.size).data.toList = l ++ B
theorem Lies.of {s : ByteArray} {A l B : List UInt8} {k : Nat} (h : s.data.toList = A ++ (l ++ B)) (hk : A.length = k) : Lies s k l := by
  have hz : s.size = A.length + (l.length + B.length) := by
    have := congrArg List.length h
    simpa using this
  refine ⟨by omega, B, ?_⟩
  rw [ByteArray.data_extract, Array.toList_extract, List.extract_eq_take_drop, h]
  subst hk
  rw [List.drop_left, List.take_of_length_le (by simp; omega)]
theorem Lies.le {s : ByteArray} {k : Nat} {l : List UInt8} (h : Lies s k l) : k + l.length ≤ s.size := by
  obtain ⟨hk, B, hB⟩ := h
  have := congrArg List.length hB
  simp at this
  omega
theorem Lies.left {s : ByteArray} {k : Nat} {l r : List UInt8} (h : Lies s k (l ++ r)) : Lies s k l := by
  obtain ⟨hk, B, hB⟩ := h
  exact ⟨hk, r ++ B, by rw [hB, List.append_assoc]⟩
theorem Lies.right {s : ByteArray} {k : Nat} {l r : List UInt8} (h : Lies s k (l ++ r)) : Lies s (k + l.length) r := by
  have hl := h.le
  obtain ⟨hk, B, hB⟩ := h
  rw [List.length_append] at hl
  refine ⟨by omega, B, ?_⟩
  have e : (s.extract (k + l.length) s.size).data.toList = (s.extract k s.size).data.toList.drop l.length := by
    rw [ByteArray.data_extract, ByteArray.data_extract, Array.toList_extract, Array.toList_extract, List.extract_eq_take_drop, List.extract_eq_take_drop, List.drop_take, List.drop_drop]
    congr 1
    omega
  rw [e, hB, List.append_assoc, List.drop_left]
theorem Lies.ext {s : ByteArray} {k : Nat} {l : List UInt8} (h : Lies s k l) : s.extract k (k + l.length) = str l := by
  have hl := h.le
  obtain ⟨hk, B, hB⟩ := h
  have e : s.extract k (k + l.length) = (s.extract k s.size).extract 0 l.length := by
    rw [ByteArray.extract_extract]
    congr 1
    omega
  rw [e]
  apply ByteArray.ext
  apply Array.ext'
  rw [ByteArray.data_extract, Array.toList_extract, hB, List.extract_eq_take_drop, List.drop_zero, Nat.sub_zero, List.take_left]
  rfl
theorem Lies.bt {s : ByteArray} {k : Nat} {l : List UInt8} (h : Lies s k l) {i : Nat} (hi : i < l.length) : bt s (k + i) = ((l.getD i 0).toNat : Int) := by
  have hl := h.le
  have e := h.ext
  have hz : i < (s.extract k (k + l.length)).size := by simp; omega
  have h1 : ((s.extract k (k + l.length))[i].toNat : Int) = Xm.bt s (k + i) := by
    rw [← bt_eq (show k + i < s.size by omega), ByteArray.getElem_extract]
  rw [← h1, bt_eq, e, bt_str]
theorem Lies.has {s x : ByteArray} {k : Nat} {l : List UInt8} (h : Lies s k l) (hx : x.size ≤ l.length) : hasAt s k x = (l.take x.size == x.data.toList) := by
  have hl := h.le
  obtain ⟨hk, B, hB⟩ := h
  unfold hasAt pre
  have hz : x.size ≤ (s.extract k s.size).size := by simp; omega
  rw [decide_eq_true hz, Bool.true_and, ByteArray.toList_eq, ByteArray.toList_eq, ByteArray.data_extract, Array.toList_extract, hB, List.extract_eq_take_drop, List.drop_zero, Nat.sub_zero, List.take_append_of_le_length hx]
theorem Lies.no {s x : ByteArray} {k : Nat} {l : List UInt8} (h : Lies s k l) (i : Nat) (hi : i < l.length) (hx : i < x.size) (hne : l.getD i 0 ≠ x.data.toList.getD i 0) : hasAt s k x = false := by
  rw [Bool.eq_false_iff]
  intro hc
  have hl := h.le
  obtain ⟨hk, B, hB⟩ := h
  unfold hasAt pre at hc
  rw [Bool.and_eq_true, beq_iff_eq, ByteArray.toList_eq, ByteArray.toList_eq, ByteArray.data_extract, Array.toList_extract, hB, List.extract_eq_take_drop, List.drop_zero, Nat.sub_zero] at hc
  apply hne
  rw [← hc.2, List.getD_eq_getElem?_getD, List.getD_eq_getElem?_getD, List.getElem?_take, if_pos hx, List.getElem?_append_left hi]
theorem skip_stop {s : ByteArray} {k : Nat} (h : blank (bt s k) = false) : skip s k = k := by
  rw [skip]
  split
  · rw [if_neg (by rw [h]; simp)]
  · rfl
theorem asides_no {s : ByteArray} {p : P3} (n : Nat) (h : asideB s p.k = false) : asides s n p = p := by
  cases n with
  | zero => rfl
  | succ n => rw [asides, if_neg (by rw [h]; simp)]
theorem nextR_of {s : ByteArray} {k : Nat} {l : List UInt8} (hk : k < s.size) (h : Lies s k l) (hl : 1 < l.length) (h1 : l.getD 1 0 ≠ 33) (h2 : l.getD 1 0 ≠ 63) (he : (pieceOf s k 0).2.e = 0) : nextR s ⟨k, 0, 0⟩ = pieceOf s k 0 := by
  have ha : asideB s k = false := by
    unfold asideB
    rw [h.no (x := comS) 1 hl (by decide) h1, h.no (x := insS) 1 hl (by decide) h2]
    rfl
  unfold nextR
  rw [asides_no (p := ⟨k, 0, 0⟩) _ ha, if_neg (by simp only; omega), if_neg (by simp only; omega)]
theorem next_eof (s : ByteArray) : nextR s ⟨s.size, 0, 0⟩ = (Pc.zero, ⟨s.size, 0, 0⟩) := by
  have h : asides s (s.size + 1) ⟨s.size, 0, 0⟩ = ⟨s.size, 0, 0⟩ := by
    rw [asides, if_neg (by simp)]
  unfold nextR
  rw [h, if_pos (.inr (Nat.le_refl _))]
end Xm
end Go.Proofs.YtdpkhmfolmcejaaGreatDoor

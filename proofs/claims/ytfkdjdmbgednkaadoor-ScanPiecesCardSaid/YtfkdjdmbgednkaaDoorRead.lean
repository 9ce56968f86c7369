/- scan: what Next reads back of what is written: tags with attributes, texts, what says nothing. No program. -/
import Derived.Test.YtfkdjdmbgednkaaDoorOpenCl2
namespace Go.Proofs.YtfkdjdmbgednkaaDoor
namespace Xm
theorem Lies.hd {s : ByteArray} {k : Nat} {c : UInt8} {l : List UInt8} (h : Lies s k (c :: l)) : Xm.bt s k = (c.toNat : Int) := h.bt (i := 0) (by simp)
theorem Lies.tl {s : ByteArray} {k : Nat} {c : UInt8} {l : List UInt8} (h : Lies s k (c :: l)) : Lies s (k + 1) l := Lies.right (l := [c]) (r := l) h
theorem Lies.lt {s : ByteArray} {k : Nat} {c : UInt8} {l : List UInt8} (h : Lies s k (c :: l)) : k < s.size := by have := h.le; simp at this; omega
theorem u8_eq {c d : UInt8} (h : (c.toNat : Int) = (d.toNat : Int)) : c = d := UInt8.toNat_inj.1 (by omega)
/-- what a name, with a prefix perhaps, is of -/
def Pt (c : UInt8) : Prop := part (c.toNat : Int) = true ∨ c = 58
theorem pt_bt {s : ByteArray} {k : Nat} {c : UInt8} (h : bt s k = (c.toNat : Int)) : (part (bt s k) = true ∨ bt s k = 58) ↔ Pt c := by
  rw [h]
  constructor
  · rintro (e | e)
    · exact .inl e
    · exact .inr (u8_eq (d := 58) e)
  · rintro (e | e)
    · exact .inl e
    · exact .inr (by rw [e]; rfl)
theorem nameEnd_lies {s : ByteArray} {x : UInt8} (hx : ¬ Pt x) : ∀ (l : List UInt8) (k : Nat), (∀ c ∈ l, Pt c) → Lies s k (l ++ [x]) → nameEnd s k = k + l.length
  | [], k, _, h => by
    have hb := Lies.hd (l := []) h
    rw [nameEnd]
    split
    · rw [if_neg (fun e => hx ((pt_bt hb).1 e))]; rfl
    · rfl
  | c :: l, k, hl, h => by
    have hb := Lies.hd (l := l ++ [x]) h
    rw [nameEnd, if_pos (Lies.lt (l := l ++ [x]) h), if_pos ((pt_bt hb).2 (hl c List.mem_cons_self)), nameEnd_lies hx l (k + 1) (fun d hd => hl d (List.mem_cons_of_mem _ hd)) (Lies.tl h), List.length_cons]
    omega
/-- blanks -/
def Bl (l : List UInt8) : Prop := ∀ c ∈ l, blank (c.toNat : Int) = true
theorem skip_lies {s : ByteArray} {x : UInt8} (hx : blank (x.toNat : Int) = false) : ∀ (l : List UInt8) (k : Nat), Bl l → Lies s k (l ++ [x]) → skip s k = k + l.length
  | [], k, _, h => by
    have hb := Lies.hd (l := []) h
    exact skip_stop (by rw [hb]; exact hx)
  | c :: l, k, hl, h => by
    have hb := Lies.hd (l := l ++ [x]) h
    rw [skip, if_pos (Lies.lt (l := l ++ [x]) h), if_pos (by rw [hb]; exact hl c List.mem_cons_self), skip_lies hx l (k + 1) (fun d hd => hl d (List.mem_cons_of_mem _ hd)) (Lies.tl h), List.length_cons]
    omega
theorem blank_not_pt {c : UInt8} (h : blank (c.toNat : Int) = true) : ¬ Pt c := by
  intro hp
  rcases hp with hp | rfl
  · unfold blank at h
    simp only [Bool.or_eq_true, beq_iff_eq] at h
    rcases h with ((h | h) | h) | h <;> (rw [h] at hp; exact absurd hp (by decide))
  · exact absurd h (by decide)
/-- a name that may stand in a tag -/
def Nm (l : List UInt8) : Prop := (∀ c ∈ l, Pt c) ∧ (split (str l)).2.2 = true
theorem name_lies {s : ByteArray} {k : Nat} {x : UInt8} (hx : ¬ Pt x) {l : List UInt8} (hl : Nm l) (h : Lies s k (l ++ [x])) : nameEnd s k = k + l.length ∧ nameOk s k = true ∧ nameS s k = str l := by
  have h1 := nameEnd_lies hx l k hl.1 h
  have h2 : nameOk s k = true := by unfold nameOk; rw [h1, h.left.ext]; exact hl.2
  exact ⟨h1, h2, by unfold nameS; rw [h2, if_pos rfl, h1, h.left.ext]⟩
theorem nm_pos {l : List UInt8} (h : Nm l) : ∃ c r, l = c :: r ∧ Pt c := by
  cases l with
  | nil => exact absurd h.2 (by rw [show (split (str [])).2.2 = false by kernel_rfl]; simp)
  | cons c r => exact ⟨c, r, rfl, h.1 c List.mem_cons_self⟩
/-- a text of letters -/
def Vt (v : List UInt8) : Prop := ∃ L, Ok L ∧ v = cat L
theorem clB_no {c x : UInt8} (hx : x = 60 ∨ x = 34 ∨ x = 62) : x ∉ clB c := by
  unfold clB
  rcases hx with rfl | rfl | rfl
  all_goals
    repeat' split
    all_goals first | decide | (simp only [List.mem_singleton]; intro e; simp_all)
theorem clL_no {x : UInt8} (hx : x = 60 ∨ x = 34 ∨ x = 62) (l : List UInt8) : x ∉ clL l := by
  unfold clL
  intro h
  obtain ⟨c, _, hc⟩ := List.mem_flatMap.1 h
  exact clB_no hx hc
theorem clL_nil {l : List UInt8} (h : clL l = []) : l = [] := by
  cases l with
  | nil => rfl
  | cons c l =>
    exfalso
    have e : clL (c :: l) = clB c ++ clL l := by simp [clL]
    rw [e] at h
    have := (List.append_eq_nil_iff.1 h).1
    unfold clB at this
    repeat' split at this
    all_goals cases this
theorem openT_close {v : List UInt8} (h : Vt v) (p : P3) (a : Nat) : openT p (str (clL v)) a = p ∧ opened (str (clL v)) = str v := by
  obtain ⟨L, hL, rfl⟩ := h
  refine ⟨?_, opened_close hL⟩
  have hc := clL_cat L (fun r hr => (hL r hr).1)
  have ht := text_cat (L.flatMap clR) [] [] (fun x hx => by
    obtain ⟨r, hr, hx⟩ := List.mem_flatMap.1 hx
    exact clR_ok ⟨(hL r hr).1, ok_letter (hL r hr).1 (hL r hr).2⟩ x hx)
  rw [List.nil_append, List.append_nil, ← hc] at ht
  have he : text (str (clL (cat L))) 0 = -1 := by
    refine ht.trans ?_
    rw [text, dif_neg (by rw [str_size]; simp)]
  unfold openT
  rw [if_neg (by rw [he]; decide), open_clL (cat L) 0 [] (Lies.of (A := []) (B := []) (by simp [str]) rfl) (by rw [str_size]; simp)]
  rfl
theorem idx_none : ∀ (l : List UInt8) (c : UInt8), c ∉ l → Lib.indexByte l c = -1
  | [], c, _ => rfl
  | b :: l, c, h => by
    have h1 : ¬ b = c := fun e => h (by rw [e]; exact List.mem_cons_self)
    rw [Lib.indexByte, if_neg (by simpa using h1), idx_none l c (fun m => h (List.mem_cons_of_mem _ m))]
    rfl
theorem ind_first : ∀ (a : List UInt8) (c : UInt8) (B : List UInt8), c ∉ a → Lib.index (a ++ c :: B) [c] = (a.length : Int)
  | [], c, B, h => by simp [Lib.index]
  | x :: a, c, B, h => by
    have hx : ¬ c = x := fun e => h (by rw [e]; exact List.mem_cons_self)
    have ih := ind_first a c B (fun m => h (List.mem_cons_of_mem _ m))
    rw [List.cons_append, Lib.index]
    simp [hx, ih]
    try omega
theorem farS_lies {s : ByteArray} {k : Nat} {a : List UInt8} {c : UInt8} (h : Lies s k (a ++ [c])) (hn : c ∉ a) : farS s k (str [c]) = (a.length : Int) := by
  obtain ⟨_, B, hB⟩ := h
  unfold farS
  rw [hB, List.append_assoc, List.singleton_append]
  exact ind_first a c B hn
/-- an attribute as it is written -/
def atB (a : List UInt8 × List UInt8) : List UInt8 := a.1 ++ ([61, 34] ++ (clL a.2 ++ [34]))
theorem attr_lies {s : ByteArray} {k : Nat} {a : List UInt8 × List UInt8} (h1 : Nm a.1) (h2 : Vt a.2) (h : Lies s k (atB a)) : attrT s ⟨k, 0, 0⟩ = ⟨k + (atB a).length, 0, 0⟩ ∧ attrV s ⟨k, 0, 0⟩ = str a.2 ∧ nameS s k = str a.1 := by
  obtain ⟨n, v⟩ := a
  simp only at h1 h2
  unfold atB at h
  simp only at h
  have hn : Lies s k (n ++ [61]) := by
    have : Lies s k ((n ++ [61]) ++ ([34] ++ (clL v ++ [34]))) := by simpa using h
    exact this.left
  obtain ⟨n1, n2, n3⟩ := name_lies (by unfold Pt; decide) h1 hn
  have he : Lies s (k + n.length) (61 :: 34 :: (clL v ++ [34])) := h.right
  have hq : Lies s (k + n.length + 1) (34 :: (clL v ++ [34])) := he.tl
  have hv : Lies s (k + n.length + 2) (clL v ++ [34]) := hq.tl
  have hk : skipT s (nameT s ⟨k, 0, 0⟩) eqS = ⟨k + n.length + 1, 0, 0⟩ := by
    have e1 : nameT s ⟨k, 0, 0⟩ = ⟨k + n.length, 0, 0⟩ := by
      unfold nameT
      simp only [n2, n1, if_true]
    have e2 : skip s (k + n.length) = k + n.length := skip_stop (by rw [he.hd]; rfl)
    have e3 : skip s (k + n.length + 1) = k + n.length + 1 := skip_stop (by rw [hq.hd]; rfl)
    have e4 : hasAt s (k + n.length) eqS = true := by rw [he.has (x := eqS) (by rw [show eqS.size = 1 from rfl]; simp)]; rfl
    rw [e1]
    unfold skipT
    rw [if_pos rfl]
    simp only [e2, e4, if_true]
    rw [show eqS.size = 1 from rfl, e3]
  have hqa : quoteAt s (k + n.length + 1) = true := by
    unfold quoteAt
    rw [hq.hd, decide_eq_true hq.lt]
    rfl
  have hx : s.extract (k + n.length + 1) (k + n.length + 1 + 1) = str [34] := Lies.ext (l := [34]) (Lies.left (l := [34]) (r := clL v ++ [34]) hq)
  have hf : farS s (k + n.length + 1 + 1) (str [34]) = ((clL v).length : Int) := farS_lies hv (clL_no (.inr (.inl rfl)) v)
  have hb : s.extract (k + n.length + 1 + 1) (k + n.length + 1 + 1 + (clL v).length) = str (clL v) := hv.left.ext
  have h60 : Lib.indexByte (str (clL v)).data.toList 60 = -1 := idx_none (clL v) 60 (clL_no (.inl rfl) v)
  have ho := openT_close h2
  refine ⟨?_, ?_, n3⟩
  · unfold attrT
    rw [hk]
    unfold attr2
    rw [if_neg (by simp), if_neg (by simp [hqa])]
    unfold valT
    simp only [hx, hf, Int.toNat_natCast, hb, h60]
    rw [if_neg (by omega), if_neg (by decide), (ho _ _).1]
    unfold atB
    simp only [List.length_append, List.length_cons, List.length_nil]
    congr 1
    omega
  · unfold attrV
    rw [hk]
    unfold attrV2
    rw [if_neg (by simp), if_neg (by simp [hqa])]
    unfold valV
    simp only [hx, hf, Int.toNat_natCast, hb, h60]
    rw [if_neg (by omega), if_neg (by decide), (ho ⟨0, 0, 0⟩ 0).2]
/-- attributes as they are written, blanks ahead of each -/
def atsB (bl : List UInt8) (l : List (List UInt8 × List UInt8)) : List UInt8 := l.flatMap fun a => bl ++ atB a
def bsA (l : List (List UInt8 × List UInt8)) : List (ByteArray × ByteArray) := l.map fun a => (str a.1, str a.2)
def AtOk (l : List (List UInt8 × List UInt8)) : Prop := (∀ a ∈ l, Nm a.1 ∧ Vt a.2) ∧ (l.map (·.1)).Nodup
theorem str_inj {a b : List UInt8} (h : str a = str b) : a = b := by
  have := congrArg (fun x : ByteArray => x.data.toList) h
  exact this
theorem any_no {l : List (List UInt8 × List UInt8)} {n : List UInt8} (h : n ∉ l.map (·.1)) : (bsA l).any (named1 (str n)) = false := by
  rw [List.any_eq_false]
  intro x hx
  unfold bsA at hx
  obtain ⟨a, ha, rfl⟩ := List.mem_map.1 hx
  unfold named1
  simp only [beq_iff_eq, ByteArray.toList_eq]
  intro e
  exact h (List.mem_map.2 ⟨a, ha, e⟩)
/-- how a tag ends -/
def endB (one : Bool) : List UInt8 := if one then [47, 62] else [62]
theorem tagL_lies {s : ByteArray} {bl be : List UInt8} (hbl : Bl bl) (hb0 : bl ≠ []) (hbe : Bl be) (one : Bool) (hone : one = true → be = []) : ∀ (l acc : List (List UInt8 × List UInt8)) (n k : Nat), AtOk (acc ++ l) → l.length < n → (acc ++ l).length ≤ 16 → Lies s k (atsB bl l ++ (be ++ endB one)) →
    tagL n s ⟨k, 0, 0⟩ (bsA acc) = (if one then 3 else 1, bsA (acc ++ l), ⟨k + (atsB bl l).length + be.length + (endB one).length, 0, 0⟩)
  | [], acc, n + 1, k, _, _, _, h => by
    have h : Lies s k (be ++ endB one) := by simpa [atsB] using h
    have hr : Lies s (k + be.length) (endB one) := h.right
    rw [tagL, if_neg (by simp)]
    simp only
    cases one with
    | true =>
      obtain rfl := hone rfl
      have e1 : skip s k = k := skip_stop (by rw [Lies.hd (l := [62]) h]; rfl)
      rw [e1, if_pos (by rw [h.has (x := closeE) (by rw [show closeE.size = 2 from rfl]; simp [endB])]; rfl)]
      simp [atsB, endB]
    | false =>
      have e1 : skip s k = k + be.length := skip_lies (by decide) be k hbe h
      rw [e1, if_neg (by rw [hr.no (x := closeE) 0 (by simp [endB]) (by decide) (by simp [endB, closeE])]; simp), if_pos (by rw [hr.has (x := closeT) (by rw [show closeT.size = 1 from rfl]; simp [endB])]; rfl)]
      simp [atsB, endB]
  | a :: l, acc, n + 1, k, hok, hn, h16, h => by
    have hA : Lies s k (bl ++ (atB a ++ (atsB bl l ++ (be ++ endB one)))) := by simpa [atsB, List.append_assoc] using h
    obtain ⟨hn1, hv1⟩ := hok.1 a (by simp)
    obtain ⟨c, r, hc, hpt⟩ := nm_pos hn1
    have hbc : blank (c.toNat : Int) = false := by
      cases hb : blank (c.toNat : Int)
      · rfl
      · exact absurd hpt (blank_not_pt hb)
    have hB : Lies s (k + bl.length) (atB a ++ (atsB bl l ++ (be ++ endB one))) := hA.right
    have hB1 : Lies s (k + bl.length) (atB a) := hB.left
    obtain ⟨r', hr'⟩ : ∃ r', atB a = c :: r' := by unfold atB; rw [hc]; exact ⟨_, rfl⟩
    have hS : skip s k = k + bl.length := skip_lies hbc bl k hbl (by
      have : Lies s k ((bl ++ [c]) ++ (r' ++ (atsB bl l ++ (be ++ endB one)))) := by rw [hr'] at hA; simpa using hA
      exact this.left)
    have hC : Lies s (k + bl.length) (c :: r') := by rw [← hr']; exact hB1
    have hbl0 : 0 < bl.length := List.length_pos_iff.2 hb0
    obtain ⟨q1, q2, q3⟩ := attr_lies hn1 hv1 hB1
    have hno : a.1 ∉ acc.map (·.1) := by
      have := hok.2
      rw [List.map_append, List.map_cons] at this
      intro hm
      exact (List.nodup_append.1 this).2.2 _ hm _ List.mem_cons_self rfl
    have hc47 : c ≠ 47 := by rintro rfl; rcases hpt with e | e <;> exact absurd e (by decide)
    have hc62 : c ≠ 62 := by rintro rfl; rcases hpt with e | e <;> exact absurd e (by decide)
    have hlen : (acc ++ a :: l).length = acc.length + (l.length + 1) := by simp
    rw [tagL, if_neg (by simp)]
    simp only [hS]
    rw [if_neg (by rw [hC.no (x := closeE) 0 (by simp) (by decide) (by simpa [closeE] using hc47)]; simp), if_neg (by rw [hC.no (x := closeT) 0 (by simp) (by decide) (by simpa [closeT] using hc62)]; simp),
      if_neg (by simp only [bsA, List.length_map, not_or]; omega), q1, q2, q3, any_no hno]
    have e : bsA acc ++ [(str a.1, str a.2)] = bsA (acc ++ [a]) := by simp [bsA]
    have ih := tagL_lies hbl hb0 hbe one hone l (acc ++ [a]) n (k + bl.length + (atB a).length) (by simpa using hok) (by simp at hn; omega) (by simpa using h16) hB.right
    rw [e]
    simp only [Bool.false_eq_true, if_false]
    rw [ih]
    simp only [List.append_assoc, List.singleton_append]
    have : (atsB bl (a :: l)).length = bl.length + (atB a).length + (atsB bl l).length := by simp [atsB]; omega
    rw [this]
    congr 3
    omega
/-- a tag as it is written -/
def tagB (nm bl : List UInt8) (l : List (List UInt8 × List UInt8)) (be : List UInt8) (one : Bool) : List UInt8 := 60 :: (nm ++ (atsB bl l ++ (be ++ endB one)))
theorem pt_no {c : UInt8} (h : Pt c) : c ≠ 33 ∧ c ≠ 63 ∧ c ≠ 47 ∧ c ≠ 60 ∧ c ≠ 62 := by
  refine ⟨?_, ?_, ?_, ?_, ?_⟩ <;> (rintro rfl; rcases h with e | e <;> exact absurd e (by decide))
theorem next_tag {s : ByteArray} {k : Nat} {nm bl be : List UInt8} {l : List (List UInt8 × List UInt8)} {one : Bool} (hn : Nm nm) (hbl : Bl bl) (hb0 : bl ≠ []) (hbe : Bl be) (hone : one = true → be = []) (hl : AtOk l) (h16 : l.length ≤ 16) (h : Lies s k (tagB nm bl l be one)) :
    nextR s ⟨k, 0, 0⟩ = (⟨if one then 3 else 1, str nm, bsA l, ByteArray.empty, k⟩, ⟨k + (tagB nm bl l be one).length, 0, 0⟩) := by
  unfold tagB at h
  obtain ⟨c, r, hc, hpt⟩ := nm_pos hn
  have hnc := pt_no hpt
  have hr : Lies s (k + 1) (nm ++ (atsB bl l ++ (be ++ endB one))) := h.tl
  have hx : ∃ x B, atsB bl l ++ (be ++ endB one) = x :: B ∧ ¬ Pt x := by
    cases l with
    | cons a l =>
      cases bl with
      | nil => exact absurd rfl hb0
      | cons b bl => exact ⟨b, _, rfl, blank_not_pt (hbl b List.mem_cons_self)⟩
    | nil =>
      cases be with
      | cons b be => exact ⟨b, _, rfl, blank_not_pt (hbe b List.mem_cons_self)⟩
      | nil => cases one <;> exact ⟨_, _, rfl, by unfold Pt; decide⟩
  obtain ⟨x, B, hxB, hxn⟩ := hx
  obtain ⟨n1, n2, n3⟩ := name_lies hxn hn (by
    have : Lies s (k + 1) ((nm ++ [x]) ++ B) := by rw [hxB] at hr; simpa using hr
    exact this.left)
  have ht := tagL_lies hbl hb0 hbe one hone l [] 17 (k + 1 + nm.length) (by simpa using hl) (by omega) (by simpa using h16) hr.right
  have hR : tagR s ⟨k + 1, 0, 0⟩ = (if one then 3 else 1, bsA l, ⟨k + (tagB nm bl l be one).length, 0, 0⟩) := by
    unfold tagR
    have e1 : nameT s ⟨k + 1, 0, 0⟩ = ⟨k + 1 + nm.length, 0, 0⟩ := by
      unfold nameT
      simp only [n2, n1, if_true]
    rw [e1, show ([] : List (ByteArray × ByteArray)) = bsA [] from rfl, ht, List.nil_append]
    have : (tagB nm bl l be one).length = 1 + nm.length + (atsB bl l).length + be.length + (endB one).length := by simp [tagB]; omega
    rw [this]
    congr 3
    omega
  have h2 : Lies s k (60 :: c :: (r ++ (atsB bl l ++ (be ++ endB one)))) := by rw [hc] at h; simpa using h
  have hp : pieceOf s k 0 = (⟨if one then 3 else 1, str nm, bsA l, ByteArray.empty, k⟩, ⟨k + (tagB nm bl l be one).length, 0, 0⟩) := by
    unfold pieceOf
    rw [h2.no (x := cdS) 1 (by simp) (by decide) (by simpa [cdS] using hnc.1), h2.no (x := backS) 1 (by simp) (by decide) (by simpa [backS] using hnc.2.2.1), h2.has (x := ltS) (by rw [show ltS.size = 1 from rfl]; simp), hR, n3]
    rfl
  rw [nextR_of h2.lt h2 (by simp) (by simpa using hnc.1) (by simpa using hnc.2.1) (by rw [hp]), hp]
/-- a closing tag as it is written -/
def backB (nm be : List UInt8) : List UInt8 := 60 :: 47 :: (nm ++ (be ++ [62]))
theorem next_back {s : ByteArray} {k : Nat} {nm be : List UInt8} (hn : Nm nm) (hbe : Bl be) (h : Lies s k (backB nm be)) :
    nextR s ⟨k, 0, 0⟩ = (⟨2, str nm, [], ByteArray.empty, k⟩, ⟨k + (backB nm be).length, 0, 0⟩) := by
  unfold backB at h
  have hr : Lies s (k + 2) (nm ++ (be ++ [62])) := h.tl.tl
  have hx : ∃ x B, be ++ [62] = x :: B ∧ ¬ Pt x := by
    cases be with
    | nil => exact ⟨_, _, rfl, by unfold Pt; decide⟩
    | cons b be => exact ⟨b, _, rfl, blank_not_pt (hbe b List.mem_cons_self)⟩
  obtain ⟨x, B, hxB, hxn⟩ := hx
  obtain ⟨n1, n2, n3⟩ := name_lies hxn hn (by
    have : Lies s (k + 2) ((nm ++ [x]) ++ B) := by rw [hxB] at hr; simpa using hr
    exact this.left)
  have hb := hr.right
  have hg : Lies s (k + 2 + nm.length + be.length) [62] := hb.right
  have ht : backT s k 0 = ⟨k + (backB nm be).length, 0, 0⟩ := by
    have hnm : nameT s ⟨k + 2, 0, 0⟩ = ⟨k + 2 + nm.length, 0, 0⟩ := by
      unfold nameT
      simp only [n2, n1, if_true]
    have hbk : blanksT s ⟨k + 2 + nm.length, 0, 0⟩ = ⟨k + 2 + nm.length + be.length, 0, 0⟩ := by
      unfold blanksT
      simp only
      rw [skip_lies (by decide) be _ hbe hb]
    unfold backT
    rw [hnm, hbk]
    unfold gtT
    rw [if_pos (by rw [hg.has (by decide)]; rfl)]
    have : (backB nm be).length = 2 + nm.length + be.length + 1 := by simp [backB]; omega
    rw [this]
    congr 1
    simp only
    omega
  have hp : pieceOf s k 0 = (⟨2, str nm, [], ByteArray.empty, k⟩, ⟨k + (backB nm be).length, 0, 0⟩) := by
    unfold pieceOf
    rw [h.no (x := cdS) 1 (by simp) (by decide) (by simp [cdS]), h.has (x := backS) (by rw [show backS.size = 2 from rfl]; simp), ht, n3]
    rfl
  rw [nextR_of h.lt h (by simp) (by simp) (by simp) (by rw [hp]), hp]
/-- a text, up to the end or to a < -/
theorem next_text {s : ByteArray} {k : Nat} {v : List UInt8} (hv : Vt v) (hv0 : v ≠ []) (h : Lies s k (clL v)) (hend : k + (clL v).length = s.size ∨ bt s (k + (clL v).length) = 60 ∧ k + (clL v).length < s.size) :
    nextR s ⟨k, 0, 0⟩ = (⟨4, ByteArray.empty, [], str v, k⟩, ⟨k + (clL v).length, 0, 0⟩) := by
  have hno := clL_no (x := 60) (.inl rfl) v
  obtain ⟨c, r, hc⟩ : ∃ c r, clL v = c :: r := by
    cases hh : clL v with
    | nil => exact absurd (clL_nil hh) hv0
    | cons c r => exact ⟨c, r, rfl⟩
  have hc60 : c ≠ 60 := fun e => hno (by rw [hc, e]; exact List.mem_cons_self)
  have h2 : Lies s k (c :: r) := by rw [← hc]; exact h
  have hrun : runN s k = (clL v).length := by
    have hle := h.le
    obtain ⟨_, B, hB⟩ := h
    have hlen := congrArg List.length hB
    simp only [ByteArray.data_extract, Array.length_toList, Array.size_extract, List.length_append] at hlen
    have hz : s.data.size = s.size := rfl
    unfold runN far cut
    rw [hB]
    rcases hend with he | ⟨he, hlt⟩
    · have hB0 : B = [] := List.eq_nil_of_length_eq_zero (by omega)
      rw [hB0, List.append_nil, idx_none _ _ hno, if_pos (by decide)]
      omega
    · cases B with
      | nil => simp only [List.length_nil] at hlen; omega
      | cons b B =>
        have hb : b = 60 := by
          have hL : Lies s k (clL v ++ [b]) := ⟨by omega, B, by rw [hB]; simp⟩
          have := (Lies.right hL).hd
          rw [he] at this
          exact (u8_eq (c := 60) this).symm
        rw [hb, idx_first _ _ _ hno, if_neg (by omega), Int.toNat_natCast]
  have hp : pieceOf s k 0 = (⟨4, ByteArray.empty, [], str v, k⟩, ⟨k + (clL v).length, 0, 0⟩) := by
    unfold pieceOf
    rw [h2.no (x := cdS) 0 (by simp) (by decide) (by simpa [cdS] using hc60), h2.no (x := backS) 0 (by simp) (by decide) (by simpa [backS] using hc60), h2.no (x := ltS) 0 (by simp) (by decide) (by simpa [ltS] using hc60), hrun, h.ext, (openT_close hv _ _).1, (openT_close hv ⟨0, 0, 0⟩ 0).2]
    rfl
  have ha : asideB s k = false := by
    unfold asideB
    rw [h2.no (x := comS) 0 (by simp) (by decide) (by simpa [comS] using hc60), h2.no (x := insS) 0 (by simp) (by decide) (by simpa [insS] using hc60)]
    rfl
  have hk := h2.lt
  unfold nextR
  rw [asides_no (p := ⟨k, 0, 0⟩) _ ha, if_neg (by simp only; omega)]
  simp only
  rw [if_neg (by rw [hp]; simp), hp]
/-- the rounds of what says nothing: more of them than bytes are enough -/
theorem asides_more {s : ByteArray} : ∀ (n m : Nat) (p : P3), p.k ≤ s.size → s.size - p.k < n → s.size - p.k < m → asides s n p = asides s m p
  | 0, m, p, _, h, _ => by omega
  | n + 1, 0, p, _, _, h => by omega
  | n + 1, m + 1, p, hk, hn, hm => by
    rw [asides, asides]
    split
    · rename_i hc
      have hb := asideT_bd (bad := p.bad) hk hc.2.2
      exact asides_more n m _ hb.2 (by omega) (by omega)
    · rfl
theorem next_aside {s : ByteArray} {k k' : Nat} (hk : k < s.size) (h : asideB s k = true) (ht : asideT s k 0 = ⟨k', 0, 0⟩) : nextR s ⟨k, 0, 0⟩ = nextR s ⟨k', 0, 0⟩ := by
  have hb := asideT_bd (bad := 0) (Nat.le_of_lt hk) h
  rw [ht] at hb
  have e : asides s (s.size + 1) ⟨k, 0, 0⟩ = asides s (s.size + 1) ⟨k', 0, 0⟩ := by
    rw [asides, if_pos ⟨rfl, hk, h⟩, ht]
    exact asides_more _ _ _ hb.2 (by simp only at hb ⊢; omega) (by simp only at hb ⊢; omega)
  unfold nextR
  rw [e]
end Xm
end Go.Proofs.YtfkdjdmbgednkaaDoor

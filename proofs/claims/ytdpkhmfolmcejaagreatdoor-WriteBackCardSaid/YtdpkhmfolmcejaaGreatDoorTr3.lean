/- tree: what is read, as a plain function; how large it is. No program. -/
import Derived.Test.YtdpkhmfolmcejaaGreatDoorTr2
import Derived.Test.YtdpkhmfolmcejaaGreatDoorMNew
namespace Go.Proofs.YtdpkhmfolmcejaaGreatDoor
namespace Xm
/-- an element -/
inductive Nod where
  | mk (space name : ByteArray) (attrs : List (ByteArray × ByteArray)) (kids : List Nod) (text : ByteArray)
/-- what a reading knows -/
structure Rs where
  st : P3
  R : List Bd
  d : Nat
  n : Nat
def leaveR (r : Rs) : Rs := ⟨r.st, leaveL r.R r.d, r.d - 1, r.n⟩
/-- an element from its first piece on (none), or what is still to be read of it -/
def goT (s : ByteArray) : Nat → Option Nod → Pc → Rs → Except (Int × Int) Nod × Rs
  | 0, _, _, r => (.error (0, 0), r)
  | f + 1, none, p, r =>
    match beginT p r.R r.d r.n with
    | (.error z, R1, d1, n1) => (.error z, ⟨r.st, R1, d1, n1⟩)
    | (.ok x, R1, d1, n1) =>
      if p.kind = 3 then (.ok ⟨x.1, x.2.1, x.2.2, [], ByteArray.empty⟩, leaveR ⟨r.st, R1, d1, n1⟩)
      else match goT s f (some ⟨x.1, x.2.1, x.2.2, [], ByteArray.empty⟩) p ⟨r.st, R1, d1, n1⟩ with
        | (res, r2) => (res, leaveR r2)
  | f + 1, some ⟨sp, nm, at1, ks, tx⟩, p, r =>
    match nextR s r.st with
    | (q, st2) =>
      if st2.e ≠ 0 then (.error (st2.e, st2.bad), ⟨st2, r.R, r.d, r.n⟩)
      else if q.kind = 4 then goT s f (some ⟨sp, nm, at1, ks, tx ++ q.text⟩) p ⟨st2, r.R, r.d, r.n⟩
      else if q.kind = 1 ∨ q.kind = 3 then
        match goT s f none q ⟨st2, r.R, r.d, r.n⟩ with
        | (.ok y, r2) => goT s f (some ⟨sp, nm, at1, ks ++ [y], tx⟩) p r2
        | (.error z, r2) => (.error z, r2)
      else if q.kind = 2 then
        if (q.name.toList == p.name.toList) = false then (.error (3, q.at'), ⟨st2, r.R, r.d, r.n⟩)
        else if ks ≠ [] ∧ (trim tx).size ≠ 0 then (.error (3, p.at'), ⟨st2, r.R, r.d, r.n⟩)
        else (.ok ⟨sp, nm, at1, ks, if ks ≠ [] then ByteArray.empty else trim tx⟩, ⟨st2, r.R, r.d, r.n⟩)
      else (.error (3, st2.k), ⟨st2, r.R, r.d, r.n⟩)

theorem openS_size (x : ByteArray) : ∀ (d k : Nat) (acc : List UInt8), x.size - k = d → (openS x k acc).1.length ≤ acc.length + 4 * (x.size - k) := by
  intro d
  induction d using Nat.strongRecOn with
  | _ d ih =>
    intro k acc hd
    rw [openS]
    split
    · rename_i hlt
      split
      · split
        · simp
        · rename_i hf
          split
          · simp
          · have hb := (far_bd (s := x) (k := k) (by omega) 59).2 (by omega)
            have h := ih (x.size - (k + (far x k 59).toNat + 1)) (by omega) (k + (far x k 59).toNat + 1) (acc ++ put (one (cut x (k + 1) (k + (far x k 59).toNat)))) rfl
            rw [List.length_append] at h
            have h4 := put_len (one (cut x (k + 1) (k + (far x k 59).toNat)))
            omega
      · have h := ih (x.size - (k + 1)) (by omega) (k + 1) (acc ++ [UInt8.ofNat (bt x k).toNat]) rfl
        rw [List.length_append, List.length_singleton] at h
        omega
    · simp
theorem ext_le (s : ByteArray) (a b : Nat) : (s.extract a b).size ≤ s.size := by simp; omega
theorem opened_size (x : ByteArray) : (opened x).size ≤ 4 * x.size := by
  unfold opened
  split
  · exact Nat.zero_le _
  · have := openS_size x _ 0 [] rfl
    rw [str_size]
    simp at this
    omega
theorem nameS_size (s : ByteArray) (k : Nat) : (nameS s k).size ≤ s.size := by
  unfold nameS
  split
  · exact ext_le _ _ _
  · exact Nat.zero_le _
theorem tagL_size (s : ByteArray) : ∀ (n : Nat) (p : P3) (l : List (ByteArray × ByteArray)), (∀ a ∈ l, a.1.size ≤ s.size) → (tagL n s p l).2.1.length ≤ l.length + n ∧ ∀ a ∈ (tagL n s p l).2.1, a.1.size ≤ s.size
  | 0, p, l, h => ⟨Nat.le_refl _, h⟩
  | n + 1, p, l, h => by
    rw [tagL]
    split
    · exact ⟨by show l.length ≤ _; omega, h⟩
    · split
      · exact ⟨by show l.length ≤ _; omega, h⟩
      · split
        · exact ⟨by show l.length ≤ _; omega, h⟩
        · split
          · exact ⟨by show l.length ≤ _; omega, h⟩
          · have := tagL_size s n (if l.any (named1 (nameS s (skip s p.k))) = true then wrong (attrT s ⟨skip s p.k, p.e, p.bad⟩) 7 (skip s p.k) else attrT s ⟨skip s p.k, p.e, p.bad⟩) (l ++ [(nameS s (skip s p.k), attrV s ⟨skip s p.k, p.e, p.bad⟩)]) (fun a ha => by
              rcases List.mem_append.1 ha with h1 | h1
              · exact h a h1
              · rw [List.mem_singleton.1 h1]; exact nameS_size _ _)
            rw [List.length_append, List.length_singleton] at this
            exact ⟨by omega, this.2⟩
structure Sized (s : ByteArray) (q : Pc) : Prop where
  name : q.name.size ≤ s.size
  len : q.attrs.length ≤ 17
  attrs : ∀ a ∈ q.attrs, a.1.size ≤ s.size
  text : q.text.size ≤ 4 * s.size
theorem Sized.zero (s : ByteArray) : Sized s Pc.zero := ⟨Nat.zero_le _, Nat.zero_le _, fun a h => (by cases h), Nat.zero_le _⟩
theorem pieceOf_sized (s : ByteArray) (k : Nat) (bad : Int) : Sized s (pieceOf s k bad).1 := by
  unfold pieceOf
  split
  · unfold cdT
    split
    · exact ⟨Nat.zero_le _, Nat.zero_le _, fun a h => (by cases h), Nat.zero_le _⟩
    · exact ⟨Nat.zero_le _, Nat.zero_le _, fun a h => (by cases h), by have := ext_le s (k + 9) (k + 9 + (farS s (k + 9) cdE).toNat); show (s.extract _ _).size ≤ _; omega⟩
  · split
    · exact ⟨nameS_size _ _, Nat.zero_le _, fun a h => (by cases h), Nat.zero_le _⟩
    · split
      · have h := tagL_size s 17 (nameT s ⟨k + 1, 0, bad⟩) [] (fun a h => by cases h)
        exact ⟨nameS_size _ _, by have h1 := h.1; show (tagL 17 s (nameT s ⟨k + 1, 0, bad⟩) []).2.1.length ≤ 17; simpa using h1, h.2, Nat.zero_le _⟩
      · refine ⟨Nat.zero_le _, Nat.zero_le _, fun a h => (by cases h), ?_⟩
        have h1 := opened_size (s.extract k (k + runN s k))
        have h2 := ext_le s k (k + runN s k)
        show (opened (s.extract k (k + runN s k))).size ≤ _
        omega
theorem nextR_sized (s : ByteArray) (p : P3) : Sized s (nextR s p).1 := by
  unfold nextR
  split
  · exact Sized.zero s
  · split
    · exact Sized.zero s
    · exact pieceOf_sized _ _ _

structure InvR (s : ByteArray) (r : Rs) : Prop where
  R : r.R.length ≤ 100
  d : r.d ≤ 32
  n : r.n ≤ 2000
  k : r.st.k ≤ s.size
  e : r.st.e = 0
structure EndR (s : ByteArray) (r : Rs) (q : Except (Int × Int) Nod × Rs) : Prop where
  R : q.2.R.length ≤ 100
  d : q.2.d ≤ 32
  ok : ∀ y, q.1 = .ok y → InvR s q.2 ∧ r.st.k ≤ q.2.st.k
theorem leaveL_len (R : List Bd) (d : Nat) : (leaveL R d).length ≤ R.length := by
  unfold leaveL
  split
  · exact Nat.le_refl _
  · exact (List.dropWhile_sublist _).length_le
theorem beginT_inv (p : Pc) (R : List Bd) (d n : Nat) (hR : R.length ≤ 100) (hd : d ≤ 32) : (beginT p R d n).2.1.length ≤ 100 ∧ (beginT p R d n).2.2.1 ≤ 32 ∧ ∀ x, (beginT p R d n).1 = .ok x → (beginT p R d n).2.2.2 ≤ 2000 := by
  have hl := (enterL_len (d + 1) p.attrs [] R).1
  unfold beginT
  split
  · exact ⟨hR, hd, fun x h => by cases h⟩
  · split
    · exact ⟨hR, hd, fun x h => by cases h⟩
    · split
      · exact ⟨by show (enterL (d + 1) p.attrs [] R).1.length ≤ 100; omega, by show d + 1 ≤ 32; omega, fun x h => by cases h⟩
      · split
        · exact ⟨by show (enterL (d + 1) p.attrs [] R).1.length ≤ 100; omega, by show d + 1 ≤ 32; omega, fun x h => by cases h⟩
        · split
          · exact ⟨by show (enterL (d + 1) p.attrs [] R).1.length ≤ 100; omega, by show d + 1 ≤ 32; omega, fun x h => by cases h⟩
          · exact ⟨by show (enterL (d + 1) p.attrs [] R).1.length ≤ 100; omega, by show d + 1 ≤ 32; omega, fun x h => by show n + 1 ≤ 2000; omega⟩
/-- a next piece that is one -/
theorem next_step {s : ByteArray} {st st2 : P3} {q : Pc} (hk : st.k ≤ s.size) (he : st.e = 0) (h : nextR s st = (q, st2)) (he2 : st2.e = 0) : (q.kind = 0 ∧ st2.k = s.size) ∨ (q.kind ≠ 0 ∧ st.k < st2.k ∧ st2.k ≤ s.size) := by
  have hl := nextR_law (s := s) (p := st) ⟨Nat.le_refl _, hk, .inl he⟩
  rw [h] at hl
  rcases hl with ⟨h1, _, h3⟩ | ⟨h1, a, _, h3, _, h5, h6, _⟩
  · exact .inl ⟨h1, h3 he2⟩
  · exact .inr ⟨h1, Nat.lt_of_le_of_lt h3 h5, h6⟩
theorem goT_inv (s : ByteArray) : ∀ (f : Nat) (o : Option Nod) (p : Pc) (r : Rs), InvR s r → EndR s r (goT s f o p r)
  | 0, o, p, r, h => by
    unfold goT
    exact ⟨h.R, h.d, fun y h => by cases h⟩
  | f + 1, none, p, r, h => by
    have hb := beginT_inv p r.R r.d r.n h.R h.d
    rw [goT]
    split
    · rename_i z R1 d1 n1 he
      rw [he] at hb
      exact ⟨hb.1, hb.2.1, fun y h => by cases h⟩
    · rename_i x R1 d1 n1 he
      rw [he] at hb
      have hn := hb.2.2 x rfl
      have h1 : InvR s ⟨r.st, R1, d1, n1⟩ := ⟨hb.1, hb.2.1, hn, h.k, h.e⟩
      split
      · refine ⟨Nat.le_trans (leaveL_len R1 d1) hb.1, by show d1 - 1 ≤ 32; have : d1 ≤ 32 := hb.2.1; omega, fun y _ => ⟨⟨Nat.le_trans (leaveL_len R1 d1) hb.1, by show d1 - 1 ≤ 32; have : d1 ≤ 32 := hb.2.1; omega, hn, h.k, h.e⟩, Nat.le_refl _⟩⟩
      · have ih := goT_inv s f (some ⟨x.1, x.2.1, x.2.2, [], ByteArray.empty⟩) p ⟨r.st, R1, d1, n1⟩ h1
        split
        rename_i res r2 hg
        rw [hg] at ih
        have ihd : r2.d ≤ 32 := ih.d
        refine ⟨Nat.le_trans (leaveL_len r2.R r2.d) ih.R, by show r2.d - 1 ≤ 32; omega, fun y hy => ?_⟩
        have h2 := ih.ok y hy
        exact ⟨⟨Nat.le_trans (leaveL_len r2.R r2.d) ih.R, by show r2.d - 1 ≤ 32; omega, h2.1.n, h2.1.k, h2.1.e⟩, h2.2⟩
  | f + 1, some ⟨sp, nm, at1, ks, tx⟩, p, r, h => by
    rw [goT]
    split
    rename_i q st2 hn
    split
    · exact ⟨h.R, h.d, fun y h => by cases h⟩
    · rename_i he
      have he2 : st2.e = 0 := by simpa using he
      have hs := next_step h.k h.e hn he2
      have hk2 : r.st.k ≤ st2.k ∧ st2.k ≤ s.size := by
        have := h.k
        rcases hs with h1 | h1 <;> omega
      have h1 : InvR s ⟨st2, r.R, r.d, r.n⟩ := ⟨h.R, h.d, h.n, hk2.2, he2⟩
      have up : ∀ {x : Except (Int × Int) Nod × Rs}, EndR s ⟨st2, r.R, r.d, r.n⟩ x → EndR s r x := fun e => ⟨e.R, e.d, fun y hy => ⟨(e.ok y hy).1, Nat.le_trans hk2.1 (e.ok y hy).2⟩⟩
      split
      · exact up (goT_inv s f _ p _ h1)
      · split
        · have ih := goT_inv s f none q _ h1
          split
          · rename_i y r2 hg
            rw [hg] at ih
            have h2 := ih.ok y rfl
            have ih2 := goT_inv s f (some ⟨sp, nm, at1, ks ++ [y], tx⟩) p r2 h2.1
            exact ⟨ih2.R, ih2.d, fun z hz => ⟨(ih2.ok z hz).1, Nat.le_trans hk2.1 (Nat.le_trans h2.2 (ih2.ok z hz).2)⟩⟩
          · rename_i z r2 hg
            rw [hg] at ih
            exact ⟨ih.R, ih.d, fun y h => by cases h⟩
        · split
          · split
            · exact ⟨h.R, h.d, fun y h => by cases h⟩
            · split
              · exact ⟨h.R, h.d, fun y h => by cases h⟩
              · exact ⟨h.R, h.d, fun y _ => ⟨h1, hk2.1⟩⟩
          · exact ⟨h.R, h.d, fun y h => by cases h⟩
end Xm
end Go.Proofs.YtdpkhmfolmcejaaGreatDoor

/- tree: the errors that Parse may answer for a text of few '<'; what it answers else. No program. -/
import Derived.Test.YtdpkhmfolmcejaaGreatDoorMTr
import Derived.Test.YtdpkhmfolmcejaaGreatDoorMDo
import Derived.Test.YtdpkhmfolmcejaaGreatDoorMPiece
namespace Go.Proofs.YtdpkhmfolmcejaaGreatDoor
namespace Xm
/-- how often '<' stands from a place on -/
def c60 (s : ByteArray) (k : Nat) : Nat := (s.data.toList.drop k).count 60
theorem c60_mono (s : ByteArray) {k m : Nat} (h : k ≤ m) : c60 s m ≤ c60 s k := by
  unfold c60
  obtain ⟨d, rfl⟩ : ∃ d, m = k + d := ⟨m - k, by omega⟩
  rw [← List.drop_drop]
  exact (List.drop_sublist d _).count_le 60
theorem c60_step {s : ByteArray} {k a m : Nat} (h1 : k ≤ a) (h2 : a < m) (ha : a < s.size) (h : bt s a = 60) : c60 s m + 1 ≤ c60 s k := by
  have h3 : c60 s a = c60 s (a + 1) + 1 := by
    unfold c60
    have hl : a < s.data.toList.length := by rw [Array.length_toList]; exact ha
    rw [List.drop_eq_getElem_cons hl]
    have : s.data.toList[a] = 60 := by
      rw [← bt_eq ha] at h
      apply UInt8.toNat_inj.1
      have e : s[a] = s.data.toList[a] := rfl
      rw [← e]
      show s[a].toNat = 60
      omega
    rw [this, List.count_cons_self]
  have := c60_mono s (show a + 1 ≤ m by omega)
  have := c60_mono s h1
  omega
theorem has_first {s x : ByteArray} {k : Nat} {c : UInt8} {l : List UInt8} (hk : k ≤ s.size) (hx : x = str (c :: l)) (h : hasAt s k x = true) : bt s k = (c.toNat : Int) := by
  have hb := hasAt_bd hk h
  subst hx
  rw [str_size] at hb
  simp only [List.length_cons] at hb
  have hl : Lies s k (s.extract k s.size).data.toList := ⟨hk, [], by simp⟩
  have hz : (s.extract k s.size).data.toList.length = s.size - k := by rw [Array.length_toList]; show (s.extract k s.size).size = _; simp
  have hh := hl.has (x := str (c :: l)) (by rw [str_size, hz]; simp only [List.length_cons]; omega)
  rw [h, eq_comm, beq_iff_eq, str_size, str_toList] at hh
  have h0 := hl.bt (i := 0) (by omega)
  have h1 := congrArg (fun a => a.getD 0 0) hh
  rw [Nat.add_zero] at h0
  rw [h0]
  simp only [List.length_cons] at h1
  have h2 : (s.extract k s.size).data.toList ≠ [] := fun e => by rw [e] at hz; simp at hz; omega
  obtain ⟨a, m, ha⟩ := List.exists_cons_of_ne_nil h2
  rw [ha] at h1 ⊢
  simp at h1 ⊢
  rw [h1]
/-- where a piece that a tag begins stands -/
theorem next_c60 {s : ByteArray} {st st2 : P3} {q : Pc} (hk : st.k ≤ s.size) (he : st.e = 0) (h : nextR s st = (q, st2)) (he2 : st2.e = 0) (hq : q.kind = 1 ∨ q.kind = 3) : c60 s st2.k + 1 ≤ c60 s st.k := by
  have hl := nextR_law (s := s) (p := st) ⟨Nat.le_refl _, hk, .inl he⟩
  rw [h] at hl
  rcases hl with ⟨h1, _, _⟩ | ⟨_, a, ha, h1, h2, h3, h4, _⟩
  · have h1 : q.kind = 0 := h1; omega
  · have ha : q.at' = a := ha
    have h3 : a < st2.k := h3
    refine c60_step h1 h3 h2 ?_
    unfold nextR at h
    split at h
    · cases h; rcases hq with hq | hq <;> simp [Pc.zero] at hq
    · split at h
      · cases h; rcases hq with hq | hq <;> simp [Pc.zero] at hq
      · rename_i hc _
        have hlt : (asides s (s.size + 1) st).k < s.size := by omega
        generalize (asides s (s.size + 1) st) = p at *
        have hpl := (pieceOf_law (bad := p.bad) hlt).2.2.1
        rw [h] at hpl
        have hpl : q.at' = p.k := hpl
        have hak : a = p.k := by omega
        subst hak
        unfold pieceOf at h
        split at h
        · unfold cdT at h
          split at h
          · cases h; rcases hq with hq | hq <;> simp at hq
          · cases h; rcases hq with hq | hq <;> simp at hq
        · split at h
          · cases h; rcases hq with hq | hq <;> simp at hq
          · split at h
            · rename_i hx
              exact has_first (c := 60) (l := []) (by omega) rfl hx
            · cases h; rcases hq with hq | hq <;> simp at hq
theorem nextR_at {s : ByteArray} {st st2 : P3} {q : Pc} (hk : st.k ≤ s.size) (he : st.e = 0) (h : nextR s st = (q, st2)) : 0 ≤ q.at' ∧ q.at' ≤ s.size := by
  have hl := nextR_law (s := s) (p := st) ⟨Nat.le_refl _, hk, .inl he⟩
  rw [h] at hl
  rcases hl with ⟨h1, _, _⟩ | ⟨_, a, ha, h1, h2, h3, h4, _⟩
  · have h1 : q.kind = 0 := h1
    unfold nextR at h
    split at h
    · cases h; exact ⟨by decide, by show (0 : Int) ≤ _; omega⟩
    · split at h
      · cases h; exact ⟨by decide, by show (0 : Int) ≤ _; omega⟩
      · rename_i hc _
        have hlt : (asides s (s.size + 1) st).k < s.size := by omega
        have hpl := (pieceOf_law (bad := (asides s (s.size + 1) st).bad) hlt).2.1
        rw [h] at hpl
        exact absurd h1 hpl
  · have ha : q.at' = a := ha
    omega
/-- an error that may be answered -/
def Er (s : ByteArray) (z : Int × Int) : Prop := (z.1 = 2 ∨ z.1 = 3 ∨ z.1 = 5 ∨ z.1 = 7) ∧ 0 ≤ z.2 ∧ z.2 ≤ s.size
theorem next_er {s : ByteArray} {st st2 : P3} {q : Pc} (hk : st.k ≤ s.size) (he : st.e = 0) (h : nextR s st = (q, st2)) (he2 : st2.e ≠ 0) : Er s (st2.e, st2.bad) := by
  have hl := nextR_law (s := s) (p := st) ⟨Nat.le_refl _, hk, .inl he⟩
  rw [h] at hl
  rcases hl with ⟨_, h2, _⟩ | ⟨_, a, _, _, _, _, _, h7⟩
  · rcases h2 with h2 | ⟨h2, h3, h4⟩
    · exact absurd h2 he2
    · exact ⟨by show st2.e = 2 ∨ _; rcases h2 with h | h | h; exact .inl h; exact .inr (.inl h); exact .inr (.inr (.inr h)), h3, h4⟩
  · exact absurd h7 he2
theorem enterL_er (d : Nat) : ∀ (l o : List (ByteArray × ByteArray)) (R : List Bd), (enterL d l o R).2.1 = 0 ∨ (enterL d l o R).2.1 = 3 ∨ (enterL d l o R).2.1 = 5
  | [], o, R => .inl rfl
  | a :: l, o, R => by
    rw [enterL]
    split
    · split
      · exact .inr (.inl rfl)
      · split
        · exact .inr (.inr rfl)
        · exact enterL_er d l o _
    · exact enterL_er d l _ R
theorem split_name {n : ByteArray} (h : (split n).2.2 = true) : name (split n).2.1 = true := by
  unfold split at h ⊢
  split
  · rename_i hc
    rw [if_pos hc] at h
    simp only [Bool.and_eq_true] at h
    exact h.2
  · rename_i hc
    rw [if_neg hc] at h
    exact h
theorem nameP_name {R : List Bd} {n : ByteArray} (h : (nameP R n).2.2 = true) : name (nameP R n).2.1 = true := by
  unfold nameP at h ⊢
  split
  · rename_i hc
    rw [if_pos hc] at h
    split
    · exact split_name hc
    · rename_i ho
      rw [if_neg ho] at h
      cases h
  · rename_i hc
    rw [if_neg hc] at h
    cases h
theorem begin_er (p : Pc) (R : List Bd) (d n : Nat) (hd : d < 32) : (∀ z, (beginT p R d n).1 = .error z → (z.1 = 3 ∨ z.1 = 5) ∧ z.2 = p.at') ∧ ∀ x, (beginT p R d n).1 = .ok x → name x.2.1 = true ∧ (beginT p R d n).2.2.1 = d + 1 := by
  unfold beginT
  split
  · exact ⟨fun z h => by cases h; exact ⟨.inr rfl, rfl⟩, fun x h => by cases h⟩
  · rw [if_neg (by omega)]
    split
    · rename_i he
      refine ⟨fun z h => by cases h; refine ⟨?_, rfl⟩; have := enterL_er (d + 1) p.attrs [] R; show (enterL (d + 1) p.attrs [] R).2.1 = 3 ∨ (enterL (d + 1) p.attrs [] R).2.1 = 5; omega, fun x h => by cases h⟩
    · split
      · exact ⟨fun z h => by cases h; exact ⟨.inl rfl, rfl⟩, fun x h => by cases h⟩
      · rename_i hn
        split
        · exact ⟨fun z h => by cases h; exact ⟨.inl rfl, rfl⟩, fun x h => by cases h⟩
        · exact ⟨fun z h => by (cases h), fun x h => by cases h; exact ⟨nameP_name (by simpa using hn), rfl⟩⟩
def nmN : Nod → ByteArray
  | .mk _ nm _ _ _ => nm
/-- what a reading needs: steps, levels -/
def Need (s : ByteArray) (f : Nat) : Option Nod → Rs → Prop
  | none, r => 2 * (s.size - r.st.k) + 2 ≤ f ∧ r.d + 1 + c60 s r.st.k ≤ 32
  | some y, r => 2 * (s.size - r.st.k) + 1 ≤ f ∧ r.d + c60 s r.st.k ≤ 32 ∧ name (nmN y) = true
/-- the elements that are there -/
def cntO : Option Nod → Nat
  | none => 1
  | some y => cnt y
def Good2 (s : ByteArray) (o : Option Nod) (r : Rs) (q : Except (Int × Int) Nod × Rs) : Prop := (∀ z, q.1 = .error z → Er s z) ∧ ∀ y, q.1 = .ok y → name (nmN y) = true ∧ q.2.d = r.d ∧ cnt y + c60 s q.2.st.k ≤ cntO o + c60 s r.st.k
theorem goT_er (s : ByteArray) : ∀ (f : Nat) (o : Option Nod) (p : Pc) (r : Rs), InvR s r → (0 ≤ p.at' ∧ p.at' ≤ s.size) → Need s f o r → Good2 s o r (goT s f o p r)
  | 0, none, p, r, h, _, hn => by obtain ⟨h1, _⟩ := hn; omega
  | 0, some y, p, r, h, _, hn => by obtain ⟨h1, _⟩ := hn; omega
  | f + 1, none, p, r, h, hp, hN => by
    obtain ⟨n1, n2⟩ := hN
    have hb := beginT_inv p r.R r.d r.n h.R h.d
    have hr := begin_er p r.R r.d r.n (by omega)
    rw [goT]
    split
    · rename_i z R1 d1 n1 he
      rw [he] at hr
      obtain ⟨h1, h2⟩ := hr.1 z rfl
      exact ⟨fun z' hz => by cases hz; exact ⟨by rcases h1 with h | h; exact .inr (.inl h); exact .inr (.inr (.inl h)), by rw [h2]; exact hp⟩, fun y h => by cases h⟩
    · rename_i x R1 d1 m1 he
      rw [he] at hb hr
      obtain ⟨g1, g2⟩ := hr.2 x rfl
      have g2 : d1 = r.d + 1 := g2
      have hn := hb.2.2 x rfl
      have h1 : InvR s ⟨r.st, R1, d1, m1⟩ := ⟨hb.1, hb.2.1, hn, h.k, h.e⟩
      split
      · exact ⟨fun z hz => by (cases hz), fun y hy => by cases hy; exact ⟨g1, by show d1 - 1 = r.d; omega, by show 1 + 0 + c60 s r.st.k ≤ 1 + c60 s r.st.k; omega⟩⟩
      · have ih := goT_er s f (some ⟨x.1, x.2.1, x.2.2, [], ByteArray.empty⟩) p ⟨r.st, R1, d1, m1⟩ h1 hp ⟨by show 2 * (s.size - r.st.k) + 1 ≤ f; omega, by show d1 + c60 s r.st.k ≤ 32; omega, g1⟩
        split
        rename_i res r2 hg
        rw [hg] at ih
        exact ⟨fun z hz => ih.1 z hz, fun y hy => ⟨(ih.2 y hy).1, by have h3 : r2.d = d1 := (ih.2 y hy).2.1; show r2.d - 1 = r.d; omega, (ih.2 y hy).2.2⟩⟩
  | f + 1, some ⟨sp, nm, at1, ks, tx⟩, p, r, h, hp, hN => by
    obtain ⟨n1, n2, n3⟩ := hN
    have n3 : name nm = true := n3
    rw [goT]
    split
    rename_i q st2 hn
    have hq := nextR_at h.k h.e hn
    split
    · rename_i he
      exact ⟨fun z hz => by cases hz; exact next_er h.k h.e hn he, fun y h => by cases h⟩
    · rename_i he
      have he2 : st2.e = 0 := by simpa using he
      have hs := next_step h.k h.e hn he2
      have hk2 : r.st.k ≤ st2.k ∧ st2.k ≤ s.size := by
        have := h.k
        rcases hs with h1 | h1 <;> omega
      have h1 : InvR s ⟨st2, r.R, r.d, r.n⟩ := ⟨h.R, h.d, h.n, hk2.2, he2⟩
      have hm := c60_mono s hk2.1
      split
      · rename_i h4
        have ih := goT_er s f (some ⟨sp, nm, at1, ks, tx ++ q.text⟩) p ⟨st2, r.R, r.d, r.n⟩ h1 hp ⟨by show 2 * (s.size - st2.k) + 1 ≤ f; rcases hs with g | g <;> omega, by show r.d + c60 s st2.k ≤ 32; omega, n3⟩
        refine ⟨ih.1, fun y hy => ⟨(ih.2 y hy).1, (ih.2 y hy).2.1, ?_⟩⟩
        have h5 : cnt y + _ ≤ 1 + cntL ks + c60 s st2.k := (ih.2 y hy).2.2
        show cnt y + _ ≤ 1 + cntL ks + c60 s r.st.k
        omega
      · split
        · rename_i h13
          have hc := next_c60 h.k h.e hn he2 h13
          have ih := goT_er s f none q ⟨st2, r.R, r.d, r.n⟩ h1 hq ⟨by show 2 * (s.size - st2.k) + 2 ≤ f; rcases hs with g | g <;> omega, by show r.d + 1 + c60 s st2.k ≤ 32; omega⟩
          have iv := goT_inv s f none q ⟨st2, r.R, r.d, r.n⟩ h1
          split
          · rename_i y r2 hg
            rw [hg] at ih iv
            have h2 := iv.ok y rfl
            have h3 : st2.k ≤ r2.st.k := h2.2
            have h4 : r2.d = r.d := (ih.2 y rfl).2.1
            have h6 : cnt y + c60 s r2.st.k ≤ 1 + c60 s st2.k := (ih.2 y rfl).2.2
            have hm2 := c60_mono s h3
            have hk3 := h2.1.k
            have ih2 := goT_er s f (some ⟨sp, nm, at1, ks ++ [y], tx⟩) p r2 h2.1 hp ⟨by show 2 * (s.size - r2.st.k) + 1 ≤ f; rcases hs with g | g <;> omega, by show r2.d + c60 s r2.st.k ≤ 32; omega, n3⟩
            refine ⟨ih2.1, fun x hx => ⟨(ih2.2 x hx).1, (ih2.2 x hx).2.1.trans h4, ?_⟩⟩
            have h5 : cnt x + _ ≤ 1 + cntL (ks ++ [y]) + c60 s r2.st.k := (ih2.2 x hx).2.2
            rw [cntL_append] at h5
            have h7 : cntL [y] = cnt y := by rw [cntL, cntL]; omega
            show cnt x + _ ≤ 1 + cntL ks + c60 s r.st.k
            omega
          · rename_i z r2 hg
            rw [hg] at ih
            exact ⟨fun z' hz => by cases hz; exact ih.1 z rfl, fun y h => by cases h⟩
        · split
          · split
            · exact ⟨fun z hz => by cases hz; exact ⟨.inr (.inl rfl), hq⟩, fun y h => by cases h⟩
            · split
              · exact ⟨fun z hz => by cases hz; exact ⟨.inr (.inl rfl), hp⟩, fun y h => by cases h⟩
              · exact ⟨fun z hz => by (cases hz), fun y hy => by cases hy; exact ⟨n3, rfl, by show 1 + cntL ks + c60 s st2.k ≤ 1 + cntL ks + c60 s r.st.k; omega⟩⟩
          · exact ⟨fun z hz => by cases hz; exact ⟨.inr (.inl rfl), by show (0 : Int) ≤ (st2.k : Int); omega, by show (st2.k : Int) ≤ _; omega⟩, fun y h => by cases h⟩
theorem docT_er (s : ByteArray) : ∀ (f : Nat) (o : Option Nod) (r : Rs), InvR s r → s.size - r.st.k + 1 ≤ f → (o = none → r.d + c60 s r.st.k ≤ 32) → (∀ y, o = some y → name (nmN y) = true ∧ cnt y ≤ 33) → (∀ z, docT s f o r = .error z → Er s z) ∧ ∀ y, docT s f o r = .ok y → name (nmN y) = true ∧ cnt y ≤ 33
  | 0, o, r, h, hf, _, _ => by omega
  | f + 1, o, r, h, hf, hd, ho => by
    rw [docT]
    split
    rename_i q st2 hn
    have hq := nextR_at h.k h.e hn
    split
    · rename_i he
      exact ⟨fun z hz => by cases hz; exact next_er h.k h.e hn he, fun y h => by cases h⟩
    · rename_i he
      have he2 : st2.e = 0 := by simpa using he
      have hs := next_step h.k h.e hn he2
      have hk2 : r.st.k ≤ st2.k ∧ st2.k ≤ s.size := by
        have := h.k
        rcases hs with h1 | h1 <;> omega
      have h1 : InvR s ⟨st2, r.R, r.d, r.n⟩ := ⟨h.R, h.d, h.n, hk2.2, he2⟩
      have hm := c60_mono s hk2.1
      have er3 : ∀ z, (Except.error ((3 : Int), q.at') : Except (Int × Int) Nod) = .error z → Er s z := fun z hz => by cases hz; exact ⟨.inr (.inl rfl), hq⟩
      cases o with
      | some y =>
        simp only
        split
        · exact ⟨fun z hz => by (cases hz), fun y' hy => by cases hy; exact ho _ rfl⟩
        · rename_i h0
          split
          · exact docT_er s f _ _ h1 (by show s.size - st2.k + 1 ≤ f; rcases hs with g | g <;> omega) (fun e => by cases e) ho
          · exact ⟨er3, fun y h => by cases h⟩
      | none =>
        have hd := hd rfl
        simp only
        split
        · rename_i h4
          exact docT_er s f _ _ h1 (by show s.size - st2.k + 1 ≤ f; rcases hs with g | g <;> omega) (fun _ => by show r.d + c60 s st2.k ≤ 32; omega) ho
        · split
          · rename_i h13
            have hc := next_c60 h.k h.e hn he2 h13
            have ih := goT_er s (2 * s.size + 2) none q ⟨st2, r.R, r.d, r.n⟩ h1 hq ⟨by show 2 * (s.size - st2.k) + 2 ≤ _; omega, by show r.d + 1 + c60 s st2.k ≤ 32; omega⟩
            have iv := goT_inv s (2 * s.size + 2) none q ⟨st2, r.R, r.d, r.n⟩ h1
            split
            · rename_i y r2 hg
              rw [hg] at ih iv
              have h2 := iv.ok y rfl
              have h3 : st2.k ≤ r2.st.k := h2.2
              have hk3 := h2.1.k
              exact docT_er s f (some y) r2 h2.1 (by rcases hs with g | g <;> omega) (fun e => by cases e) (fun y' e => by cases e; exact ⟨(ih.2 y rfl).1, by have h5 : cnt y + c60 s r2.st.k ≤ 1 + c60 s st2.k := (ih.2 y rfl).2.2; omega⟩)
            · rename_i z r2 hg
              rw [hg] at ih
              exact ⟨fun z' hz => by cases hz; exact ih.1 z rfl, fun y h => by cases h⟩
          · exact ⟨er3, fun y h => by cases h⟩
/-- what Parse answers for a text of few '<' -/
theorem parse_er {s : ByteArray} (h : c60 s 0 ≤ 32) : (∀ z, parseT s = .error z → Er s z) ∧ ∀ y, parseT s = .ok y → name (nmN y) = true ∧ cnt y ≤ 33 :=
  docT_er s (s.size + 1) none r0 ⟨by decide, by decide, by decide, Nat.zero_le _, rfl⟩ (by show s.size - 0 + 1 ≤ _; omega) (fun _ => by show 0 + c60 s 0 ≤ 32; omega) (fun y e => by cases e)
end Xm
end Go.Proofs.YtdpkhmfolmcejaaGreatDoor

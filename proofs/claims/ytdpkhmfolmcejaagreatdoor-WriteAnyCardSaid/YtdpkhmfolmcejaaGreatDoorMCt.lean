/- How many attributes a text without '<' can hold, that is put together of two ends and few letters. No program. -/
/- A tag that is read is a name and spans: what the scanner reads of attributes, by bytes. No program. -/
/- A document of few of each, between '<' and '<'. No program. -/
/- What was cut is read as an element of which none has more attributes than may be, and its document is not too long. No program. -/
import Derived.Test.YtdpkhmfolmcejaaGreatDoorProg
import Derived.Test.YtdpkhmfolmcejaaGreatDoorMWr
import Derived.Test.YtdpkhmfolmcejaaGreatDoorMDo
import Derived.Test.YtdpkhmfolmcejaaGreatDoorMBack
import Derived.Test.YtdpkhmfolmcejaaGreatDoorMAny
namespace Go.Proofs.YtdpkhmfolmcejaaGreatDoor
namespace Ct
/-- a blank; a byte of a name -/
def bl (c : UInt8) : Bool := c == 32 || c == 9 || c == 10 || c == 13
def nm (c : UInt8) : Bool := !(bl c) && !(c == 38) && !(c == 61) && !(c == 39) && !(c == 34) && !(c == 60) && !(c == 62)
def w1 (c : UInt8) : Nat := if bl c || c == 61 || c == 39 then 1 else 0
def w2 (a c : UInt8) : Nat := if bl a && nm c then 1 else 0
def pw (a : UInt8) : List UInt8 → Nat
  | [] => 0
  | c :: _ => w2 a c
/-- how much there is of what attributes in apostrophes are made of -/
def W : List UInt8 → Nat
  | [] => 0
  | a :: l => w1 a + pw a l + W l
theorem W_cons (a : UInt8) (l : List UInt8) : W (a :: l) = w1 a + pw a l + W l := rfl
theorem W_append (x y : List UInt8) : W x + W y ≤ W (x ++ y) := by
  induction x with
  | nil => simp [W]
  | cons a x ih =>
    rw [List.cons_append, W_cons, W_cons]
    have : pw a x ≤ pw a (x ++ y) := by
      cases x with
      | nil => exact Nat.zero_le _
      | cons b x => exact Nat.le_refl _
    omega
theorem W_suf (x y : List UInt8) : W y ≤ W (x ++ y) := by have := W_append x y; omega
/-- an attribute with the blanks ahead of it -/
structure Span (l : List UInt8) : Prop where
  out : ∃ b n b2 b3 q v, l = b ++ (n ++ (b2 ++ (61 :: (b3 ++ (q :: (v ++ [q])))))) ∧ b ≠ [] ∧ (∀ c ∈ b, bl c = true) ∧ n ≠ [] ∧ (∀ c ∈ n, nm c = true) ∧ (∀ c ∈ b2, bl c = true) ∧ (∀ c ∈ b3, bl c = true) ∧ (q = 34 ∨ q = 39) ∧ q ∉ v
theorem bl_ne {c d : UInt8} (h : bl c = true) (hd : bl d = false) : c ≠ d := fun e => by rw [e, hd] at h; cases h
theorem nm_ne {c d : UInt8} (h : nm c = true) (hd : nm d = false) : c ≠ d := fun e => by rw [e, hd] at h; cases h
/-- a span: what is ahead of its quote has none of 34, 39, 60, 62 -/
theorem Span.parts {l : List UInt8} (h : Span l) : ∃ u q v, l = u ++ q :: (v ++ [q]) ∧ (q = 34 ∨ q = 39) ∧ q ∉ v ∧ 34 ∉ u ∧ 62 ∉ u ∧ 4 ≤ u.length + 1 ∧ (q = 39 → 5 ≤ W l) := by
  obtain ⟨b, n, b2, b3, q, v, rfl, hb0, hb, hn0, hn, hb2, hb3, hq, hv⟩ := h.out
  have hno : ∀ d : UInt8, bl d = false → nm d = false → d ≠ 61 → d ∉ b ++ (n ++ (b2 ++ 61 :: b3)) := by
    intro d h1 h2 h3 hm
    simp only [List.mem_append, List.mem_cons] at hm
    rcases hm with hm | hm | hm | hm | hm
    · exact bl_ne (hb d hm) h1 rfl
    · exact nm_ne (hn d hm) h2 rfl
    · exact bl_ne (hb2 d hm) h1 rfl
    · exact h3 hm
    · exact bl_ne (hb3 d hm) h1 rfl
  refine ⟨b ++ (n ++ (b2 ++ 61 :: b3)), q, v, by simp [List.append_assoc], hq, hv, hno 34 (by decide) (by decide) (by decide), hno 62 (by decide) (by decide) (by decide), ?_, ?_⟩
  · have h1 : 0 < b.length := List.length_pos_iff.2 hb0
    have h2 : 0 < n.length := List.length_pos_iff.2 hn0
    simp only [List.length_append, List.length_cons]
    omega
  · rintro rfl
    obtain ⟨b', x, rfl⟩ : ∃ b' x, b = b' ++ [x] := ⟨b.dropLast, b.getLast hb0, (List.dropLast_concat_getLast hb0).symm⟩
    obtain ⟨y, n', rfl⟩ : ∃ y n', n = y :: n' := by
      cases n with
      | nil => exact absurd rfl hn0
      | cons y n' => exact ⟨y, n', rfl⟩
    have hx : bl x = true := hb x (by simp)
    have hy : nm y = true := hn y (by simp)
    have e1 : W [39] = 1 := by decide
    have e2 := W_suf v [39]
    have e3 : W (39 :: (v ++ [39])) ≥ 1 + W (v ++ [39]) := by rw [W_cons, show w1 39 = 1 by decide]; omega
    have e4 := W_suf b3 (39 :: (v ++ [39]))
    have e5 : W (61 :: (b3 ++ 39 :: (v ++ [39]))) ≥ 1 + W (b3 ++ 39 :: (v ++ [39])) := by rw [W_cons, show w1 61 = 1 by decide]; omega
    have e6 := W_suf b2 (61 :: (b3 ++ 39 :: (v ++ [39])))
    have e7 := W_suf n' (b2 ++ 61 :: (b3 ++ 39 :: (v ++ [39])))
    have e8 : W (x :: y :: (n' ++ (b2 ++ 61 :: (b3 ++ 39 :: (v ++ [39]))))) ≥ 2 + W (n' ++ (b2 ++ 61 :: (b3 ++ 39 :: (v ++ [39])))) := by
      rw [W_cons, W_cons, pw, w2, hx, hy, show w1 x = 1 by simp [w1, hx]]
      simp
    have e9 := W_suf b' (x :: y :: (n' ++ (b2 ++ 61 :: (b3 ++ 39 :: (v ++ [39])))))
    have : b' ++ [x] ++ (y :: n' ++ (b2 ++ 61 :: (b3 ++ 39 :: (v ++ [39])))) = b' ++ (x :: y :: (n' ++ (b2 ++ 61 :: (b3 ++ 39 :: (v ++ [39]))))) := by simp
    rw [this]
    omega
theorem Span.len {l : List UInt8} (h : Span l) : 5 ≤ l.length := by
  obtain ⟨u, q, v, rfl, _, _, _, _, h1, _⟩ := h.parts
  simp only [List.length_append, List.length_cons, List.length_nil]
  omega
/-- what stands between quotation marks -/
def segs : List UInt8 → List (List UInt8)
  | [] => [[]]
  | c :: l => if c = 34 then [] :: segs l else (c :: (segs l).headD []) :: (segs l).tail
theorem segs_ne (l : List UInt8) : ∃ h t, segs l = h :: t := by
  cases l with
  | nil => exact ⟨_, _, rfl⟩
  | cons c l => unfold segs; split <;> exact ⟨_, _, rfl⟩
def C (l : List UInt8) : Nat := ((segs l).map fun s => W s / 5).sum
theorem C_34 (l : List UInt8) : C (34 :: l) = C l := by simp [C, segs, W]
theorem C_cons {c : UInt8} {l : List UInt8} : C l ≤ C (c :: l) := by
  by_cases h : c = 34
  · rw [h, C_34]; exact Nat.le_refl _
  · obtain ⟨x, t, e⟩ := segs_ne l
    simp only [C, segs, if_neg h, e, List.headD_cons, List.tail_cons, List.map_cons, List.sum_cons]
    have : W x ≤ W (c :: x) := W_suf [c] x
    omega
theorem C_suf (x l : List UInt8) : C l ≤ C (x ++ l) := by
  induction x with
  | nil => exact Nat.le_refl _
  | cons c x ih => exact Nat.le_trans ih C_cons
theorem segs_app {x : List UInt8} (hx : 34 ∉ x) (l : List UInt8) : segs (x ++ l) = (x ++ (segs l).headD []) :: (segs l).tail := by
  induction x with
  | nil => obtain ⟨h, t, e⟩ := segs_ne l; simp [e]
  | cons c x ih =>
    have hc : c ≠ 34 := fun e => hx (by simp [e])
    rw [List.cons_append, segs, if_neg hc, ih (fun h => hx (by simp [h]))]
    rfl
theorem C_span {x l : List UInt8} (hx : 34 ∉ x) (h5 : 5 ≤ W x) : C l + 1 ≤ C (x ++ l) := by
  obtain ⟨y, t, e⟩ := segs_ne l
  simp only [C, segs_app hx, e, List.headD_cons, List.tail_cons, List.map_cons, List.sum_cons]
  have := W_append x y
  omega
/-- an apostrophe has an odd number of quotation marks behind it, or none -/
def Alt (l : List UInt8) : Prop := ∀ a b, l = a ++ 39 :: b → b.count 34 % 2 = 1 ∨ b.count 34 = 0
theorem Alt.suf {x l : List UInt8} (h : Alt (x ++ l)) : Alt l := fun a b e => h (x ++ a) b (by rw [e]; simp)
def Phi (l : List UInt8) : Nat := (l.count 34 + 1) / 2 + C l
theorem many : ∀ (Rs : List (List UInt8)) (post : List UInt8), (∀ s ∈ Rs, Span s) → Alt (Rs.flatten ++ post) → Rs.length ≤ Phi (Rs.flatten ++ post)
  | [], _, _, _ => Nat.zero_le _
  | s :: Rs, post, hs, ha => by
    have e : (s :: Rs).flatten ++ post = s ++ (Rs.flatten ++ post) := by simp
    rw [e] at ha ⊢
    have ih := many Rs post (fun r hr => hs r (by simp [hr])) ha.suf
    generalize hl : Rs.flatten ++ post = l at ha ih ⊢
    have hspan := hs s (by simp)
    have hmono := C_suf s l
    obtain ⟨u, q, v, rfl, hq, hv, hu34, _, _, h5⟩ := hspan.parts
    have hcu : u.count 34 = 0 := List.count_eq_zero.2 hu34
    unfold Phi at ih ⊢
    rw [List.length_cons, List.count_append]
    rcases hq with rfl | rfl
    · have : (u ++ 34 :: (v ++ [34])).count 34 ≥ 2 := by simp [List.count_append]; omega
      omega
    · have hcs : (u ++ 39 :: (v ++ [39])).count 34 = v.count 34 := by simp [List.count_append, hcu]
      rw [hcs]
      by_cases h0 : v.count 34 = 0
      · have hx : 34 ∉ u ++ 39 :: (v ++ [39]) := by rw [← List.count_eq_zero, hcs, h0]
        have := C_span (l := l) hx (h5 rfl)
        omega
      · by_cases h2 : v.count 34 = 1
        · have a1 := ha u (v ++ [39] ++ l) (by simp)
          have a2 := ha (u ++ 39 :: v) l (by simp)
          have e1 : (v ++ [39] ++ l).count 34 = 1 + l.count 34 := by simp [List.count_append, h2]
          rw [e1] at a1
          omega
        · omega
/-- in the marks' own order: an apostrophe stands within marks, or behind a '>'; a '>' stands in none -/
def Inp (l : List UInt8) : Prop := (∀ a b, l = a ++ 39 :: b → a.count 34 % 2 = 1 ∨ 62 ∈ a) ∧ ∀ a b, l = a ++ 62 :: b → a.count 34 % 2 = 0
theorem Inp.pre {x l : List UInt8} (h : Inp (x ++ l)) : Inp x := ⟨fun a b e => h.1 a (b ++ l) (by rw [e]; simp), fun a b e => h.2 a (b ++ l) (by rw [e]; simp)⟩
theorem Inp.span {w s : List UInt8} (h : Inp (w ++ s)) (hs : Span s) (h62 : 62 ∉ w) (hc : w.count 34 % 2 = 0) : s.count 34 = 2 ∧ 62 ∉ s := by
  obtain ⟨u, q, v, rfl, hq, hv, hu34, hu62, _, _⟩ := hs.parts
  have hcu : u.count 34 = 0 := List.count_eq_zero.2 hu34
  rcases hq with rfl | rfl
  · have hcv : v.count 34 = 0 := List.count_eq_zero.2 hv
    refine ⟨by simp [List.count_append, hcu, hcv], fun hm => ?_⟩
    simp only [List.mem_append, List.mem_cons, List.not_mem_nil, or_false] at hm
    rcases hm with hm | hm | hm | hm
    · exact hu62 hm
    · exact absurd hm (by decide)
    · obtain ⟨v1, v2, e⟩ := List.append_of_mem hm
      have := h.2 (w ++ u ++ 34 :: v1) (v2 ++ [34]) (by rw [e]; simp)
      have hc1 : v1.count 34 = 0 := List.count_eq_zero.2 fun hh => hv (by rw [e]; simp [hh])
      simp [List.count_append, hcu, hc1] at this
      omega
    · exact absurd hm (by decide)
  · have := h.1 (w ++ u) (v ++ [39]) (by simp)
    rw [List.count_append, hcu] at this
    rcases this with h1 | h1
    · omega
    · rcases List.mem_append.1 h1 with h1 | h1
      · exact absurd h1 h62
      · exact absurd h1 hu62
/-- what is between two '<' of a document -/
structure Chunk (z : List UInt8) : Prop where
  no : 60 ∉ z
  alt : Alt z
  qm : z.count 34 ≤ 8
  c : C z ≤ 5
  inp : Inp z
  len : z.length ≤ 320
def flat (cs : List (List UInt8)) : List UInt8 := (cs.map fun z => 60 :: z).flatten
theorem flat_cons (z : List UInt8) (cs : List (List UInt8)) : flat (z :: cs) = 60 :: (z ++ flat cs) := rfl
theorem flat_head (cs : List (List UInt8)) : flat cs = [] ∨ ∃ r, flat cs = 60 :: r := by
  cases cs with
  | nil => exact .inl rfl
  | cons z cs => exact .inr ⟨_, flat_cons z cs⟩
theorem flat_app (a b : List (List UInt8)) : flat (a ++ b) = flat a ++ flat b := by simp [flat]
def Doc (T : List UInt8) : Prop := ∃ cs, T = flat cs ∧ ∀ z ∈ cs, Chunk z
theorem flat_suf : ∀ (cs : List (List UInt8)) (M l E : List UInt8), (∀ z ∈ cs, 60 ∉ z) → flat cs = M ++ (l ++ E) → 60 ∉ l → (E = [] ∨ ∃ r, E = 60 :: r) → l = [] ∨ ∃ z ∈ cs, ∃ x, z = x ++ l
  | [], M, l, E, _, h, _, _ => by
    have : l = [] := by
      have h := congrArg List.length h
      simp [flat] at h
      exact List.length_eq_zero_iff.1 (by omega)
    exact .inl this
  | z :: cs, M, l, E, hz, h, hl, hE => by
    rw [flat_cons] at h
    cases M with
    | nil =>
      cases l with
      | nil => exact .inl rfl
      | cons c l =>
        rw [List.nil_append, List.cons_append] at h
        injection h with h1 h2
        exact absurd (by simp [h1]) hl
    | cons c M =>
      rw [List.cons_append] at h
      injection h with h1 h2
      rcases List.append_eq_append_iff.1 h2 with ⟨a, e1, e2⟩ | ⟨a, e1, e2⟩
      · rcases flat_suf cs a l E (fun y hy => hz y (by simp [hy])) e2 hl hE with h3 | ⟨y, hy, h3⟩
        · exact .inl h3
        · exact .inr ⟨y, by simp [hy], h3⟩
      · rcases List.append_eq_append_iff.1 e2 with ⟨b, e3, e4⟩ | ⟨b, e3, e4⟩
        · -- a = l ++ b
          subst e3
          cases b with
          | nil => exact .inr ⟨z, by simp, M, by rw [e1]; simp⟩
          | cons d b =>
            rcases hE with hE | ⟨r, hE⟩
            · rw [hE] at e4; cases e4
            · rw [hE] at e4
              injection e4 with e5 _
              exact absurd (by rw [e1]; simp [← e5]) (hz z (by simp))
        · subst e3
          cases b with
          | nil => exact .inr ⟨z, by simp, M, by rw [e1]; simp⟩
          | cons d b =>
            rcases flat_head cs with h5 | ⟨r, h5⟩
            · rw [h5] at e4; cases e4
            · rw [h5] at e4
              injection e4 with e5 _
              exact absurd (by simp [e5]) hl
theorem flat_pre : ∀ (cs : List (List UInt8)) (P w E : List UInt8), (∀ z ∈ cs, 60 ∉ z) → flat cs = P ++ 60 :: (w ++ E) → 60 ∉ w → ∃ z ∈ cs, ∃ x, z = w ++ x
  | [], P, w, E, _, h, _ => by
    have h := congrArg List.length h
    simp [flat] at h
  | z :: cs, P, w, E, hz, h, hw => by
    rw [flat_cons] at h
    cases P with
    | nil =>
      rw [List.nil_append] at h
      injection h with _ h
      rcases List.append_eq_append_iff.1 h with ⟨a, e1, e2⟩ | ⟨a, e1, e2⟩
      · subst e1
        cases a with
        | nil => exact ⟨z, by simp, [], by simp⟩
        | cons d a =>
          rcases flat_head cs with h5 | ⟨r, h5⟩
          · rw [h5] at e2; cases e2
          · rw [h5] at e2
            injection e2 with e5 _
            exact absurd (by simp [e5]) hw
      · exact ⟨z, by simp, a, e1⟩
    | cons c P =>
      rw [List.cons_append] at h
      injection h with _ h
      rcases List.append_eq_append_iff.1 h with ⟨a, e1, e2⟩ | ⟨a, e1, e2⟩
      · obtain ⟨y, hy, h3⟩ := flat_pre cs a w E (fun y hy => hz y (by simp [hy])) e2 hw
        exact ⟨y, by simp [hy], h3⟩
      · cases a with
        | nil =>
          rw [List.nil_append] at e2
          obtain ⟨y, hy, h3⟩ := flat_pre cs [] w E (fun y hy => hz y (by simp [hy])) (by rw [List.nil_append]; exact e2.symm) hw
          exact ⟨y, by simp [hy], h3⟩
        | cons d a =>
          injection e2 with e5 _
          exact absurd (by rw [e1]; simp [e5]) (hz z (by simp))
theorem len_in {cs : List (List UInt8)} (hz : ∀ z ∈ cs, Chunk z) {M l E : List UInt8} (h : flat cs = M ++ (l ++ E)) (hl : 60 ∉ l) : l.length ≤ 320 := by
  obtain ⟨e1, e2, rfl, he1, he2⟩ : ∃ e1 e2, E = e1 ++ e2 ∧ 60 ∉ e1 ∧ (e2 = [] ∨ ∃ r, e2 = 60 :: r) := by
    induction E with
    | nil => exact ⟨[], [], rfl, by simp, .inl rfl⟩
    | cons c E ih =>
      clear ih h
      suffices ∀ E : List UInt8, ∃ e1 e2, E = e1 ++ e2 ∧ (60 : UInt8) ∉ e1 ∧ (e2 = [] ∨ ∃ r, e2 = 60 :: r) from this _
      intro E
      induction E with
      | nil => exact ⟨[], [], rfl, by simp, .inl rfl⟩
      | cons c E ih =>
        by_cases h : c = 60
        · exact ⟨[], c :: E, rfl, by simp, .inr ⟨E, by rw [h]⟩⟩
        · obtain ⟨e1, e2, h1, h2, h3⟩ := ih
          exact ⟨c :: e1, e2, by rw [h1]; rfl, by simp [h2, Ne.symm h], h3⟩
  have h' : flat cs = M ++ ((l ++ e1) ++ e2) := by rw [h]; simp
  rcases flat_suf cs M (l ++ e1) e2 (fun z hz' => (hz z hz').no) h' (by simp [hl, he1]) he2 with h3 | ⟨z, hzm, x, h3⟩
  · have := congrArg List.length h3
    simp at this
    simp [this.1]
  · have := (hz z hzm).len
    rw [h3] at this
    simp at this
    omega
theorem split60 (E : List UInt8) : ∃ e1 e2, E = e1 ++ e2 ∧ (60 : UInt8) ∉ e1 ∧ (e2 = [] ∨ ∃ r, e2 = 60 :: r) := by
  induction E with
  | nil => exact ⟨[], [], rfl, by simp, .inl rfl⟩
  | cons c E ih =>
    by_cases h : c = 60
    · exact ⟨[], c :: E, rfl, by simp, .inr ⟨E, by rw [h]⟩⟩
    · obtain ⟨e1, e2, h1, h2, h3⟩ := ih
      exact ⟨c :: e1, e2, by rw [h1]; rfl, by simp [h2, Ne.symm h], h3⟩

section
variable {T X X' Y Y' I : List UInt8}
/-- behind the letters put in -/
theorem behind (hT : Doc T) (hY : T = Y' ++ Y) {pre post : List UInt8} {Rs : List (List UInt8)} (hs : ∀ s ∈ Rs, Span s) (h6 : 60 ∉ Rs.flatten) (h : X ++ (I ++ Y) = pre ++ (Rs.flatten ++ post)) (hp : X.length + I.length ≤ pre.length) : Rs.length ≤ 9 := by
  obtain ⟨cs, rfl, hz⟩ := hT
  have h' : (X ++ I) ++ Y = pre ++ (Rs.flatten ++ post) := by rw [← h]; simp
  obtain ⟨a, e1, e2⟩ : ∃ a, pre = (X ++ I) ++ a ∧ Y = a ++ (Rs.flatten ++ post) := by
    rcases List.append_eq_append_iff.1 h' with ⟨a, e1, e2⟩ | ⟨a, e1, e2⟩
    · exact ⟨a, e1, e2⟩
    · have hl := congrArg List.length e1
      simp at hl
      have ha : a = [] := List.length_eq_zero_iff.1 (by omega)
      subst ha
      exact ⟨[], by simpa using e1.symm, by simpa using e2.symm⟩
  obtain ⟨p1, p2, rfl, hp1, hp2⟩ := split60 post
  have hh : flat cs = (Y' ++ a) ++ ((Rs.flatten ++ p1) ++ p2) := by rw [hY, e2]; simp
  rcases flat_suf cs _ _ _ (fun z hz' => (hz z hz').no) hh (by simp only [List.mem_append, not_or]; exact ⟨h6, hp1⟩) hp2 with h3 | ⟨z, hzm, x, h3⟩
  · have ha : Alt (Rs.flatten ++ p1) := by rw [h3]; intro a b e; have := congrArg List.length e; simp at this
    have hm := many Rs p1 hs ha
    rw [h3] at hm
    have : Phi [] = 0 := by decide
    omega
  · have hk := hz z hzm
    have ha : Alt (Rs.flatten ++ p1) := by
      have := hk.alt
      rw [h3] at this
      exact this.suf
    have hm := many Rs p1 hs ha
    have h1 := hk.qm
    have h2 := hk.c
    rw [h3] at h1 h2
    have h4 := C_suf x (Rs.flatten ++ p1)
    rw [List.count_append] at h1
    unfold Phi at hm
    omega
theorem within (hT : Doc T) (hY : T = Y' ++ Y) (hI : I.length ≤ 6) {pre post : List UInt8} {Rs : List (List UInt8)} (hs : ∀ s ∈ Rs, Span s) (h6 : 60 ∉ Rs.flatten) (h : X ++ (I ++ Y) = pre ++ (Rs.flatten ++ post)) (hp : X.length < pre.length) : Rs.length ≤ 10 := by
  by_cases hq : X.length + I.length ≤ pre.length
  · have := behind hT hY hs h6 h hq
    omega
  · cases Rs with
    | nil => simp
    | cons s Rs =>
      have h5 := (hs s (by simp)).len
      have := behind (X := X) (I := I) hT hY (pre := pre ++ s) (post := post) (Rs := Rs) (fun r hr => hs r (by simp [hr])) (fun hm => h6 (by simp at hm ⊢; exact .inr hm)) (by rw [h]; simp) (by simp; omega)
      simp
      omega
theorem pre_chunk (hT : Doc T) (hX : T = X ++ X') {Z P w post : List UInt8} (hw : 60 ∉ w) (h : X ++ Z = P ++ 60 :: (w ++ post)) (hp : P.length + 1 + w.length ≤ X.length) : ∃ z x, Chunk z ∧ z = w ++ x := by
  obtain ⟨cs, hcs, hz⟩ := hT
  have hx : ∃ e, X = P ++ 60 :: (w ++ e) := by
    have h' : X ++ Z = (P ++ 60 :: w) ++ post := by rw [h]; simp
    rcases List.append_eq_append_iff.1 h' with ⟨a, e1, e2⟩ | ⟨a, e1, e2⟩
    · have hl := congrArg List.length e1
      simp at hl
      have ha : a = [] := List.length_eq_zero_iff.1 (by omega)
      subst ha
      exact ⟨[], by simpa using e1.symm⟩
    · exact ⟨a, by rw [e1]; simp⟩
  obtain ⟨e, hx⟩ := hx
  obtain ⟨z, hzm, x, h3⟩ := flat_pre cs P w (e ++ X') (fun z hz' => (hz z hz').no) (by rw [← hcs, hX, hx]; simp) hw
  exact ⟨z, x, hz z hzm, h3⟩
theorem ahead (hT : Doc T) (hX : T = X ++ X') (hY : T = Y' ++ Y) (hI : I.length ≤ 6) (Rs : List (List UInt8)) : ∀ (P w post : List UInt8), (∀ s ∈ Rs, Span s) → 60 ∉ Rs.flatten → 60 ∉ w → 62 ∉ w → w.count 34 % 2 = 0 → X ++ (I ++ Y) = P ++ 60 :: (w ++ (Rs.flatten ++ post)) → P.length + 1 + w.length ≤ X.length →
    2 * Rs.length + w.count 34 ≤ 30 := by
  induction Rs with
  | nil =>
    intro P w post hs h6 hw hw2 hc h hp
    obtain ⟨z, x, hz, h3⟩ := pre_chunk hT hX hw (by rw [h]) hp
    have h1 := hz.qm
    rw [h3, List.count_append] at h1
    simp
    omega
  | cons s Rs ih =>
    intro P w post hs h6 hw hw2 hc h hp
    have hss := hs s (by simp)
    have h6s : 60 ∉ s := fun hm => h6 (by simp [hm])
    have h6r : 60 ∉ Rs.flatten := fun hm => h6 (by rw [List.flatten_cons, List.mem_append]; exact .inr hm)
    have h' : X ++ (I ++ Y) = P ++ 60 :: ((w ++ s) ++ (Rs.flatten ++ post)) := by rw [h]; simp
    by_cases hq : P.length + 1 + (w ++ s).length ≤ X.length
    · have hws : 60 ∉ w ++ s := by simp [hw, h6s]
      obtain ⟨z, x, hz, h3⟩ := pre_chunk hT hX hws h' hq
      have hi : Inp (w ++ s) := by have := hz.inp; rw [h3] at this; exact this.pre
      obtain ⟨k1, k2⟩ := hi.span hss hw2 hc
      have ih := ih P (w ++ s) post (fun r hr => hs r (by simp [hr])) h6r hws (by simp [hw2, k2]) (by rw [List.count_append, k1]; omega) h' hq
      rw [List.count_append, k1] at ih
      simp
      omega
    · have hm := within (X := X) hT hY hI (pre := P ++ 60 :: (w ++ s)) (post := post) (Rs := Rs) (fun r hr => hs r (by simp [hr])) h6r (by rw [h']; simp) (by simp at hq ⊢; omega)
      obtain ⟨z, x, hz, h3⟩ := pre_chunk hT hX hw (by rw [h]) hp
      have h1 := hz.qm
      rw [h3, List.count_append] at h1
      simp
      omega
/-- a tag of what was cut has no more than fifteen attributes -/
theorem tag_le (hT : Doc T) (hX : T = X ++ X') (hY : T = Y' ++ Y) (hI : I.length ≤ 6) {Rs : List (List UInt8)} {P w post : List UInt8} (hs : ∀ s ∈ Rs, Span s) (h6 : 60 ∉ Rs.flatten) (hw : ∀ c ∈ w, nm c = true) (h : X ++ (I ++ Y) = P ++ 60 :: (w ++ (Rs.flatten ++ post))) : Rs.length ≤ 15 := by
  have no : ∀ d : UInt8, nm d = false → d ∉ w := fun d hd hm => nm_ne (hw d hm) hd rfl
  by_cases hp : P.length + 1 + w.length ≤ X.length
  · have := ahead hT hX hY hI Rs P w post hs h6 (no 60 (by decide)) (no 62 (by decide)) (by rw [List.count_eq_zero.2 (no 34 (by decide))]) h hp
    omega
  · have := within (X := X) hT hY hI (pre := P ++ 60 :: w) (post := post) hs h6 (by rw [h]; simp) (by simp; omega)
    omega
/-- what has no '<' in it is not long -/
theorem run_le (hT : Doc T) (hX : T = X ++ X') (hY : T = Y' ++ Y) (hI : I.length ≤ 6) {M l E : List UInt8} (h : X ++ (I ++ Y) = M ++ (l ++ E)) (hl : 60 ∉ l) : l.length ≤ 646 := by
  obtain ⟨cs, rfl, hz⟩ := hT
  -- what of it lies in X, in I, in Y
  have hsub : ∀ x : UInt8, x ∈ l.take (X.length - M.length) → x ∈ l := fun x hx => List.mem_of_mem_take hx
  have hsub2 : ∀ x : UInt8, x ∈ l.drop (X.length + I.length - M.length) → x ∈ l := fun x hx => List.mem_of_mem_drop hx
  have h1 : (l.take (X.length - M.length)).length ≤ 320 := by
    by_cases hm : M.length ≤ X.length
    · have hx : X = M ++ (l ++ E).take (X.length - M.length) := by
        have := congrArg (List.take X.length) h
        rw [List.take_append_of_le_length (Nat.le_refl _), List.take_length, List.take_append, List.take_of_length_le hm] at this
        exact this
      rw [List.take_append] at hx
      refine len_in hz (M := M) (E := E.take (X.length - M.length - l.length) ++ X') ?_ (fun hm => hl (hsub _ hm))
      rw [hX]
      conv => lhs; rw [hx]
      simp
    · rw [show X.length - M.length = 0 by omega]; simp
  have h2 : (l.drop (X.length + I.length - M.length)).length ≤ 320 := by
    have hy : Y = (M ++ (l ++ E)).drop (X.length + I.length) := by
      rw [← h, ← List.append_assoc, List.drop_left' (by simp)]
    rw [List.drop_append, List.drop_append] at hy
    refine len_in hz (M := Y' ++ M.drop (X.length + I.length)) (E := E.drop (X.length + I.length - M.length - l.length)) ?_ (fun hm => hl (hsub2 _ hm))
    rw [hY]
    conv => lhs; rw [hy]
    simp
  simp only [List.length_take, List.length_drop] at h1 h2
  omega
end
end Ct
end Go.Proofs.YtdpkhmfolmcejaaGreatDoor
namespace Go.Proofs.YtdpkhmfolmcejaaGreatDoor
namespace Xm
/-- the bytes from a place to another -/
def seg (s : ByteArray) (a b : Nat) : List UInt8 := (s.extract a b).data.toList
theorem seg_len {s : ByteArray} {a b : Nat} (hb : b ≤ s.size) : (seg s a b).length = b - a := by
  unfold seg
  rw [Array.length_toList]
  show (s.extract a b).size = b - a
  simp
  omega
theorem seg_nil (s : ByteArray) (a : Nat) : seg s a a = [] := by
  unfold seg
  rw [ByteArray.data_extract, Array.toList_extract, List.extract_eq_take_drop]
  simp
theorem seg_app {s : ByteArray} {a b c : Nat} (h1 : a ≤ b) (h2 : b ≤ c) : seg s a c = seg s a b ++ seg s b c := by
  unfold seg
  rw [ByteArray.data_extract, ByteArray.data_extract, ByteArray.data_extract, Array.toList_extract, Array.toList_extract, Array.toList_extract, List.extract_eq_take_drop, List.extract_eq_take_drop, List.extract_eq_take_drop, show c - a = (b - a) + (c - b) by omega, List.take_add, List.drop_drop, show a + (b - a) = b by omega]
theorem seg_at {s : ByteArray} {a b i : Nat} (hb : b ≤ s.size) (hi : i < b - a) : (seg s a b)[i]? = some (s[a + i]'(by omega)) := by
  unfold seg
  have hz : i < (s.extract a b).size := by simp; omega
  rw [Array.getElem?_toList]
  rw [show (s.extract a b).data[i]? = some ((s.extract a b).data[i]'hz) from Array.getElem?_eq_getElem hz]
  congr 1
  exact ByteArray.getElem_extract ..
theorem seg_mem {s : ByteArray} {a b : Nat} (hb : b ≤ s.size) {c : UInt8} (h : c ∈ seg s a b) : ∃ i, a ≤ i ∧ i < b ∧ bt s i = (c.toNat : Int) := by
  obtain ⟨i, hi⟩ := List.mem_iff_getElem?.1 h
  have hlt := (List.getElem?_eq_some_iff.1 hi).1
  rw [seg_len hb] at hlt
  rw [seg_at hb hlt] at hi
  have hi := Option.some.inj hi
  exact ⟨a + i, by omega, by omega, by rw [← hi, bt_eq]⟩
theorem seg_one {s : ByteArray} {a : Nat} (h : a < s.size) : seg s a (a + 1) = [s[a]] := by
  have hl := seg_len (s := s) (a := a) (b := a + 1) (by omega)
  obtain ⟨c, e⟩ := List.length_eq_one_iff.1 (show (seg s a (a + 1)).length = 1 by rw [hl]; omega)
  have h0 := seg_at (s := s) (a := a) (b := a + 1) (i := 0) (by omega) (by omega)
  rw [e] at h0 ⊢
  simpa using h0
theorem u8_of {c : UInt8} {n : Nat} (hn : n < 256) (h : (c.toNat : Int) = n) : c = UInt8.ofNat n := by
  apply UInt8.toNat_inj.1
  rw [UInt8.toNat_ofNat']
  omega
theorem skip_sp (s : ByteArray) : ∀ (n k : Nat), s.size - k = n → k ≤ s.size → ∀ i, k ≤ i → i < skip s k → blank (bt s i) = true := by
  intro n
  induction n with
  | zero => intro k hn hk i h1 h2; unfold skip at h2; rw [if_neg (by omega)] at h2; omega
  | succ n ih =>
    intro k hn hk i h1 h2
    unfold skip at h2
    rw [if_pos (by omega)] at h2
    split at h2
    · rename_i hb
      by_cases e : i = k
      · rw [e]; exact hb
      · exact ih (k + 1) (by omega) (by omega) i (by omega) h2
    · omega
theorem nameEnd_sp (s : ByteArray) : ∀ (n k : Nat), s.size - k = n → k ≤ s.size → ∀ i, k ≤ i → i < nameEnd s k → part (bt s i) = true ∨ bt s i = 58 := by
  intro n
  induction n with
  | zero => intro k hn hk i h1 h2; unfold nameEnd at h2; rw [if_neg (by omega)] at h2; omega
  | succ n ih =>
    intro k hn hk i h1 h2
    unfold nameEnd at h2
    rw [if_pos (by omega)] at h2
    split at h2
    · rename_i hb
      by_cases e : i = k
      · rw [e]; exact hb
      · exact ih (k + 1) (by omega) (by omega) i (by omega) h2
    · omega
theorem bl_of {c : UInt8} (h : blank (c.toNat : Int) = true) : Ct.bl c = true := by
  have key : ∀ n : Nat, n < 256 → blank (n : Int) = true → Ct.bl (UInt8.ofNat n) = true := by decide +kernel
  have := key c.toNat c.toNat_lt h
  rwa [UInt8.ofNat_toNat] at this
theorem nm_of {c : UInt8} (h : part (c.toNat : Int) = true ∨ (c.toNat : Int) = 58) : Ct.nm c = true := by
  have key : ∀ n : Nat, n < 256 → (part (n : Int) || decide ((n : Int) = 58)) = true → Ct.nm (UInt8.ofNat n) = true := by decide +kernel
  have := key c.toNat c.toNat_lt (by rcases h with h | h <;> simp [h])
  rwa [UInt8.ofNat_toNat] at this
theorem skip_bl {s : ByteArray} {k : Nat} (hk : k ≤ s.size) : ∀ c ∈ seg s k (skip s k), Ct.bl c = true := by
  intro c hc
  obtain ⟨i, h1, h2, h3⟩ := seg_mem (skip_bd s _ k rfl hk).2 hc
  have := skip_sp s _ k rfl hk i h1 h2
  rw [h3] at this
  exact bl_of this
theorem name_nm {s : ByteArray} {k : Nat} (hk : k ≤ s.size) : ∀ c ∈ seg s k (nameEnd s k), Ct.nm c = true := by
  intro c hc
  obtain ⟨i, h1, h2, h3⟩ := seg_mem (nameEnd_bd s _ k rfl hk).2 hc
  have := nameEnd_sp s _ k rfl hk i h1 h2
  rw [h3] at this
  exact nm_of this
theorem idxB_none {l : List UInt8} {c : UInt8} (h : Lib.indexByte l c < 0) : c ∉ l := by
  intro hm
  obtain ⟨a, b, e, hn⟩ := List.eq_append_cons_of_mem hm
  rw [e, idx_first a c b hn] at h
  omega
theorem ind_none : ∀ (l : List UInt8) (c : UInt8), c ∉ l → Lib.index l [c] = -1
  | [], c, _ => rfl
  | d :: l, c, h => by
    have ih := ind_none l c (fun hm => h (by simp [hm]))
    unfold Lib.index
    rw [if_neg (by
      intro hp
      have := List.isPrefixOf_iff_prefix.1 hp
      obtain ⟨t, e⟩ := this
      rw [List.singleton_append] at e
      injection e with e1 _
      exact h (by simp [e1])), ih]
    rfl
theorem named_long {x : ByteArray} (h : named x ≠ 0) : 2 ≤ x.size := by
  have key : ∀ l : List (ByteArray × Int), find x l ≠ 0 → ∃ p ∈ l, p.1 = x := by
    intro l
    induction l with
    | nil => intro h; exact absurd rfl h
    | cons p l ih =>
      intro h
      unfold find at h
      split at h
      · rename_i e; exact ⟨p, by simp, e⟩
      · obtain ⟨q, h1, h2⟩ := ih h
        exact ⟨q, by simp [h1], h2⟩
  obtain ⟨p, hp, e⟩ := key tabN h
  rw [← e]
  simp only [tabN, List.mem_cons, List.not_mem_nil, or_false] at hp
  rcases hp with rfl | rfl | rfl | rfl | rfl <;> decide
/-- an entity's name has two bytes at least; what is opened is no longer -/
theorem one_long {x : ByteArray} (h : one x ≠ 0) : 2 ≤ x.size := by
  unfold one at h
  split at h
  · rename_i h0
    rcases Nat.lt_or_ge x.size 2 with h1 | h1
    · exfalso
      apply h
      have hz : (cut x 1 x.size).size = 0 := by unfold cut; simp; omega
      unfold number
      rw [if_neg (by omega)]
      unfold num1
      rw [if_pos (.inl hz)]
    · exact h1
  · exact named_long h
theorem openS_le (x : ByteArray) : ∀ (d k : Nat) (acc : List UInt8), x.size - k = d → (openS x k acc).1.length ≤ acc.length + (x.size - k) := by
  intro d
  induction d using Nat.strongRecOn with
  | _ d ih =>
    intro k acc hd
    rw [openS]
    split
    · rename_i hlt
      split
      · split
        · simp
        · rename_i hf
          split
          · simp
          · rename_i hone
            have hb := (far_bd (s := x) (k := k) (by omega) 59).2 (by omega)
            have h := ih (x.size - (k + (far x k 59).toNat + 1)) (by omega) (k + (far x k 59).toNat + 1) (acc ++ put (one (cut x (k + 1) (k + (far x k 59).toNat)))) rfl
            rw [List.length_append] at h
            have h4 := put_len (one (cut x (k + 1) (k + (far x k 59).toNat)))
            have h2 := one_long hone
            have h3 : (cut x (k + 1) (k + (far x k 59).toNat)).size ≤ (far x k 59).toNat - 1 := by unfold cut; simp; omega
            omega
      · have h := ih (x.size - (k + 1)) (by omega) (k + 1) (acc ++ [UInt8.ofNat (bt x k).toNat]) rfl
        rw [List.length_append, List.length_singleton] at h
        omega
    · simp
theorem opened_le (x : ByteArray) : (opened x).size ≤ x.size := by
  unfold opened
  split
  · exact Nat.zero_le _
  · have := openS_le x _ 0 [] rfl
    rw [str_size]
    simpa using this
theorem has_seg {s x : ByteArray} {k : Nat} (hk : k ≤ s.size) (h : hasAt s k x = true) : k + x.size ≤ s.size ∧ seg s k (k + x.size) = x.data.toList := by
  have h1 := hasAt_bd hk h
  refine ⟨h1, ?_⟩
  simp only [hasAt, pre, Bool.and_eq_true, decide_eq_true_eq, beq_iff_eq] at h
  have h2 := h.2
  rw [ByteArray.toList_eq, ByteArray.toList_eq, ByteArray.extract_extract] at h2
  unfold seg
  rw [← h2, Nat.add_zero, Nat.min_eq_left h1]
theorem skipT_inv2 {s x : ByteArray} {p : P3} (hk : p.k ≤ s.size) (h : (skipT s p x).e = 0) : p.e = 0 ∧ skip s p.k + x.size ≤ s.size ∧ seg s (skip s p.k) (skip s p.k + x.size) = x.data.toList ∧ (skipT s p x).k = skip s (skip s p.k + x.size) := by
  have h0 := skipT_inv h
  unfold skipT at h ⊢
  rw [if_pos h0] at h ⊢
  split at h
  · rename_i h1
    obtain ⟨h2, h3⟩ := has_seg (skip_bd s _ p.k rfl hk).2 h1
    rw [if_pos h1]
    exact ⟨h0, h2, h3, rfl⟩
  · exact absurd h (err_wrong (by decide))
/-- an attribute with the blanks ahead of it is a span -/
theorem attr_span {s : ByteArray} {k a : Nat} {e bad : Int} (hk : k ≤ s.size) (ha : a = skip s k) (hlt : k < a) (h : (attrT s ⟨a, e, bad⟩).e = 0) :
    ∃ b, (attrT s ⟨a, e, bad⟩).k = b ∧ a < b ∧ b ≤ s.size ∧ Ct.Span (seg s k b) ∧ 60 ∉ seg s k b ∧ (nameS s a).size + (attrV s ⟨a, e, bad⟩).size ≤ b - k := by
  have hka := skip_bd s _ k rfl hk
  rw [← ha] at hka
  have hbl := skip_bl (s := s) hk
  rw [← ha] at hbl
  unfold attrT attr2 at h
  have hq1 : (skipT s (nameT s ⟨a, e, bad⟩) eqS).e = 0 := by
    split at h
    · rename_i h1; exact absurd h h1
    · omega
  have hnk : (nameT s ⟨a, e, bad⟩).k = nameEnd s a := nameT_k s _
  have hn1 := nameEnd_bd s _ a rfl hka.2
  obtain ⟨hne, hq2, hq3, hq4⟩ := skipT_inv2 (x := eqS) (by rw [hnk]; exact hn1.2) hq1
  rw [hnk] at hq2 hq3 hq4
  have hb1 := skip_bd s _ _ rfl hn1.2
  have hok := (nameT_inv hne).2
  have hnm0 : a < nameEnd s a := by
    rcases Nat.lt_or_ge a (nameEnd s a) with h1 | h1
    · exact h1
    · exfalso
      have e1 : nameEnd s a = a := by omega
      simp only at hok
      unfold nameOk at hok
      rw [e1] at hok
      have e2 : s.extract a a = ByteArray.empty := by
        apply ByteArray.ext; apply Array.ext'
        exact seg_nil s a
      rw [e2] at hok
      revert hok
      decide +kernel
  generalize hp2 : skipT s (nameT s ⟨a, e, bad⟩) eqS = p2 at hq1 hq4
  rw [hp2] at h
  have hes : eqS.size = 1 := rfl
  rw [hes] at hq2 hq3 hq4
  have hsk2 := skip_bd s _ _ rfl hq2
  rw [if_neg (by omega)] at h
  split at h
  · exact absurd h (err_wrong (by decide))
  · rename_i hqt
    have hqt : quoteAt s p2.k = true := by simpa using hqt
    unfold quoteAt at hqt
    simp only [Bool.and_eq_true, decide_eq_true_eq, Bool.or_eq_true, beq_iff_eq] at hqt
    obtain ⟨hq5, hq6⟩ := hqt
    unfold valT at h
    split at h
    · exact absurd h (err_wrong (by decide))
    · rename_i hfar
      split at h
      · exact absurd h (err_wrong (by decide))
      · rename_i h60
        generalize hq : p2.k = o at *
        have hquo : s.extract o (o + 1) = str [s[o]] := by
          apply ByteArray.ext; apply Array.ext'
          exact seg_one hq5
        rw [hquo] at hfar h60 h
        have hvr : seg s (o + 1) s.size = (s.extract (o + 1) s.size).data.toList := rfl
        have hmem : s[o] ∈ seg s (o + 1) s.size := by
          apply Classical.byContradiction
          intro hm
          apply hfar
          unfold farS
          show Lib.index _ [s[o]] < 0
          rw [← hvr, ind_none _ _ hm]
          decide
        obtain ⟨v, r, hv, hvn⟩ := List.eq_append_cons_of_mem hmem
        have hn : farS s (o + 1) (str [s[o]]) = (v.length : Int) := by
          unfold farS
          show Lib.index _ [s[o]] = _
          rw [← hvr, hv, ind_first v _ r hvn]
        rw [hn, Int.toNat_natCast] at h60 h
        have hvl : v.length + 1 ≤ s.size - (o + 1) := by
          have := congrArg List.length hv
          rw [seg_len (Nat.le_refl _)] at this
          simp at this
          omega
        have hend : o + 1 + v.length + 1 ≤ s.size := by omega
        have hsegv : seg s (o + 1) (o + 1 + v.length) = v ∧ seg s (o + 1 + v.length) (o + 1 + v.length + 1) = [s[o]] := by
          have e1 := seg_app (s := s) (a := o + 1) (b := o + 1 + v.length) (c := s.size) (by omega) (by omega)
          have e2 := seg_app (s := s) (a := o + 1 + v.length) (b := o + 1 + v.length + 1) (c := s.size) (by omega) (by omega)
          rw [e2, hv] at e1
          have l1 := seg_len (s := s) (a := o + 1) (b := o + 1 + v.length) (by omega)
          have l2 := seg_len (s := s) (a := o + 1 + v.length) (b := o + 1 + v.length + 1) (by omega)
          obtain ⟨e3, e4⟩ := List.append_inj e1 (by omega)
          have e4 : [s[o]] ++ r = _ := e4
          obtain ⟨e5, _⟩ := List.append_inj e4 (by simp; omega)
          exact ⟨e3.symm, e5.symm⟩
        obtain ⟨hsv, hsq⟩ := hsegv
        have hv60 : 60 ∉ v := by
          have := idxB_none (show Lib.indexByte (seg s (o + 1) (o + 1 + v.length)) 60 < 0 by unfold seg; omega)
          rw [hsv] at this
          exact this
        have hqq : s[o] = 34 ∨ s[o] = 39 := by
          rw [← bt_eq hq5] at hq6
          rcases hq6 with h6 | h6
          · left; have := u8_of (n := 34) (by omega) h6; rw [this]; rfl
          · right; have := u8_of (n := 39) (by omega) h6; rw [this]; rfl
        have hB : (attrT s ⟨a, e, bad⟩).k = o + 1 + v.length + 1 := by
          unfold attrT attr2
          rw [hp2, if_neg (by omega), if_neg (by
            unfold quoteAt
            rw [hq, decide_eq_true hq5]
            rcases hq6 with h6 | h6 <;> simp [h6])]
          unfold valT
          rw [hq, hquo, if_neg hfar, hn, Int.toNat_natCast, if_neg h60]
          unfold openT wrong
          split
          · rfl
          · split <;> rfl
        have hseg : seg s k (o + 1 + v.length + 1) = seg s k a ++ (seg s a (nameEnd s a) ++ (seg s (nameEnd s a) (skip s (nameEnd s a)) ++ (61 :: (seg s (skip s (nameEnd s a) + 1) o ++ (s[o] :: (v ++ [s[o]])))))) := by
          rw [seg_app (s := s) (a := k) (b := a) (by omega) (by omega), seg_app (s := s) (a := a) (b := nameEnd s a) (by omega) (by omega), seg_app (s := s) (a := nameEnd s a) (b := skip s (nameEnd s a)) (by omega) (by omega),
            seg_app (s := s) (a := skip s (nameEnd s a)) (b := skip s (nameEnd s a) + 1) (by omega) (by omega), hq3, seg_app (s := s) (a := skip s (nameEnd s a) + 1) (b := o) (by omega) (by omega), seg_app (s := s) (a := o) (b := o + 1) (by omega) (by omega), seg_one hq5,
            seg_app (s := s) (a := o + 1) (b := o + 1 + v.length) (by omega) (by omega), hsv, hsq]
          rfl
        have hb3 := skip_bl (s := s) hq2
        rw [← hq4] at hb3
        refine ⟨o + 1 + v.length + 1, hB, by omega, hend, ⟨seg s k a, seg s a (nameEnd s a), seg s (nameEnd s a) (skip s (nameEnd s a)), seg s (skip s (nameEnd s a) + 1) o, s[o], v, hseg, ?_, hbl, ?_, name_nm hka.2, skip_bl hn1.2, hb3, hqq, hvn⟩, ?_, ?_⟩
        · intro h0
          have := seg_len (s := s) (a := k) (b := a) hka.2
          rw [h0] at this
          simp at this
          omega
        · intro h0
          have := seg_len (s := s) (a := a) (b := nameEnd s a) hn1.2
          rw [h0] at this
          simp at this
          omega
        · rw [hseg]
          simp only [List.mem_append, List.mem_cons, not_or, List.not_mem_nil, not_false_eq_true, and_true]
          have b6 : ∀ l : List UInt8, (∀ c ∈ l, Ct.bl c = true) → (60 : UInt8) ∉ l := fun l hl hm => by have := hl _ hm; revert this; decide
          refine ⟨b6 _ hbl, fun hm => ?_, b6 _ (skip_bl hn1.2), by decide, b6 _ hb3, ?_, hv60, ?_⟩
          · have := name_nm hka.2 _ hm
            revert this; decide
          · rcases hqq with h6 | h6 <;> rw [h6] <;> decide
          · rcases hqq with h6 | h6 <;> rw [h6] <;> decide
        · have hs1 : (nameS s a).size ≤ nameEnd s a - a := by
            unfold nameS
            rw [if_pos hok]
            simp
            omega
          have hs2 : (attrV s ⟨a, e, bad⟩).size ≤ v.length := by
            unfold attrV attrV2
            rw [hp2, if_neg (by omega)]
            split
            · exact Nat.zero_le _
            · unfold valV
              rw [hq, hquo, if_neg hfar, hn, Int.toNat_natCast, if_neg h60]
              refine Nat.le_trans (opened_le _) ?_
              simp
              omega
          omega
/-- how much there is of attributes -/
def szA (l : List (ByteArray × ByteArray)) : Nat := (l.map fun a => a.1.size + a.2.size).sum
theorem szA_app (a b : List (ByteArray × ByteArray)) : szA (a ++ b) = szA a + szA b := by simp [szA]
/-- a tag that is read: spans, one behind the other -/
theorem tagL_spans (s : ByteArray) : ∀ (n : Nat) (st : P3) (l : List (ByteArray × ByteArray)), st.k ≤ s.size → (tagL n s st l).2.2.e = 0 → l.length + n = 17 →
    ∃ (Rs : List (List UInt8)) (b : Nat), (∀ r ∈ Rs, Ct.Span r) ∧ st.k ≤ b ∧ b ≤ s.size ∧ seg s st.k b = Rs.flatten ∧ 60 ∉ Rs.flatten ∧ (tagL n s st l).2.1.length = l.length + Rs.length ∧ szA (tagL n s st l).2.1 ≤ szA l + (b - st.k) ∧ b ≤ (tagL n s st l).2.2.k ∧ (tagL n s st l).2.2.k ≤ s.size ∧ (∀ a ∈ (tagL n s st l).2.1, a ∈ l ∨ a.1.size + a.2.size ≤ b - st.k)
  | 0, st, l, hk, h, hn => ⟨[], st.k, by simp, Nat.le_refl _, hk, by rw [seg_nil]; rfl, by simp, by simp [tagL], by simp [tagL], Nat.le_refl _, hk, fun a ha => .inl ha⟩
  | n + 1, st, l, hk, h, hn => by
    have hsk := skip_bd s _ st.k rfl hk
    have e0 := tagL_st h
    unfold tagL at h ⊢
    rw [if_neg (by omega)] at h ⊢
    split at h
    · rename_i h2
      rw [if_pos h2]
      have := hasAt_bd hsk.2 h2
      have e2 : closeE.size = 2 := rfl
      exact ⟨[], st.k, by simp, Nat.le_refl _, hk, by rw [seg_nil]; rfl, by simp, by simp, by simp, by show st.k ≤ skip s st.k + 2; omega, by show skip s st.k + 2 ≤ s.size; omega, fun a ha => .inl ha⟩
    · rename_i h2
      rw [if_neg h2]
      split at h
      · rename_i h3
        rw [if_pos h3]
        have := hasAt_bd hsk.2 h3
        have e2 : closeT.size = 1 := rfl
        exact ⟨[], st.k, by simp, Nat.le_refl _, hk, by rw [seg_nil]; rfl, by simp, by simp, by simp, by show st.k ≤ skip s st.k + 1; omega, by show skip s st.k + 1 ≤ s.size; omega, fun a ha => .inl ha⟩
      · rename_i h3
        rw [if_neg h3]
        split at h
        · exact absurd h (err_wrong (by decide))
        · rename_i h4
          rw [if_neg h4]
          have hst := tagL_st h
          split at hst
          · exact absurd hst (err_wrong (by decide))
          · rename_i h5
            rw [if_neg h5] at h ⊢
            obtain ⟨b, hb1, hb2, hb3, hb4, hb5, hb6⟩ := attr_span (s := s) (k := st.k) (a := skip s st.k) (e := st.e) (bad := st.bad) hk rfl (by omega) hst
            obtain ⟨Rs, c, g1, g2, g3, g4, g5, g6, g7, g8, g9, g10⟩ := tagL_spans s n (attrT s ⟨skip s st.k, st.e, st.bad⟩) (l ++ [(nameS s (skip s st.k), attrV s ⟨skip s st.k, st.e, st.bad⟩)]) (by rw [hb1]; exact hb3) h (by simp; omega)
            rw [hb1] at g2 g4 g7 g10
            refine ⟨seg s st.k b :: Rs, c, ?_, by omega, g3, ?_, ?_, ?_, ?_, g8, g9, fun a ha => ?_⟩
            · intro r hr
              rcases List.mem_cons.1 hr with rfl | hr
              · exact hb4
              · exact g1 r hr
            · rw [seg_app (s := s) (a := st.k) (b := b) (by omega) (by omega), g4]; rfl
            · rw [List.flatten_cons, List.mem_append, not_or]; exact ⟨hb5, g5⟩
            · rw [g6]; simp; omega
            · rw [szA_app] at g7
              have : szA [(nameS s (skip s st.k), attrV s ⟨skip s st.k, st.e, st.bad⟩)] = (nameS s (skip s st.k)).size + (attrV s ⟨skip s st.k, st.e, st.bad⟩).size := by simp [szA]
              omega
            · rcases g10 a ha with h | h
              · rcases List.mem_append.1 h with h | h
                · exact .inl h
                · rw [List.mem_singleton] at h
                  subst h
                  right
                  show (nameS s (skip s st.k)).size + (attrV s ⟨skip s st.k, st.e, st.bad⟩).size ≤ c - st.k
                  omega
              · right; omega
end Xm
end Go.Proofs.YtdpkhmfolmcejaaGreatDoor
namespace Go.Proofs.YtdpkhmfolmcejaaGreatDoor
namespace Ct
open Xm
theorem Alt_cons {c : UInt8} {l : List UInt8} (h : c = 39 → l.count 34 % 2 = 1 ∨ l.count 34 = 0) (ha : Alt l) : Alt (c :: l) := by
  intro a b e
  cases a with
  | nil => injection e with e1 e2; subst e2; exact h e1
  | cons d a => injection e with e1 e2; exact ha a b e2
theorem Alt_app {x l : List UInt8} (h : 34 ∉ x) (hl : l.count 34 % 2 = 1 ∨ l.count 34 = 0) (ha : Alt l) : Alt (x ++ l) := by
  induction x with
  | nil => exact ha
  | cons c x ih =>
    have hx : 34 ∉ x := fun hm => h (by simp [hm])
    refine Alt_cons (c := c) (l := x ++ l) (fun _ => ?_) (ih hx)
    rw [List.count_append, List.count_eq_zero.2 hx]
    omega
theorem Alt_no {x l : List UInt8} (h : 39 ∉ x) (ha : Alt l) : Alt (x ++ l) := by
  induction x with
  | nil => exact ha
  | cons c x ih => exact Alt_cons (fun e => absurd (by simp [e]) h) (ih fun hm => h (by simp [hm]))
def Inq (k : Nat) (l : List UInt8) : Prop := (∀ a b, l = a ++ 39 :: b → (k + a.count 34) % 2 = 1 ∨ 62 ∈ a) ∧ ∀ a b, l = a ++ 62 :: b → (k + a.count 34) % 2 = 0
theorem Inq_cons {k : Nat} {c : UInt8} {l : List UInt8} (h1 : c = 39 → k % 2 = 1) (h2 : c = 62 → k % 2 = 0) (h : Inq (k + if c = 34 then 1 else 0) l) : Inq k (c :: l) := by
  refine ⟨fun a b e => ?_, fun a b e => ?_⟩
  · cases a with
    | nil => injection e with e1 e2; left; simp; exact h1 e1
    | cons d a =>
      injection e with e1 e2
      subst e1
      rcases h.1 a b e2 with h3 | h3
      · left
        rw [List.count_cons]
        by_cases hc : c = 34 <;> simp [hc] at h3 ⊢ <;> omega
      · right; simp [h3]
  · cases a with
    | nil => injection e with e1 e2; simp; exact h2 e1
    | cons d a =>
      injection e with e1 e2
      subst e1
      have h3 := h.2 a b e2
      rw [List.count_cons]
      by_cases hc : c = 34 <;> simp [hc] at h3 ⊢ <;> omega
theorem Inq_app {k : Nat} {x l : List UInt8} (h3 : 34 ∉ x) (h1 : 39 ∈ x → k % 2 = 1) (h2 : 62 ∈ x → k % 2 = 0) (h : Inq k l) : Inq k (x ++ l) := by
  induction x with
  | nil => exact h
  | cons c x ih =>
    have hc : c ≠ 34 := fun e => h3 (by simp [e])
    refine Inq_cons (fun e => h1 (by simp [e])) (fun e => h2 (by simp [e])) ?_
    rw [if_neg hc]
    exact ih (fun hm => h3 (by simp [hm])) (fun hm => h1 (by simp [hm])) (fun hm => h2 (by simp [hm]))
theorem Inq_end {k : Nat} {t : List UInt8} (hk : k % 2 = 0) (h : 34 ∉ t) : Inq k (62 :: t) := by
  refine ⟨fun a b e => ?_, fun a b e => ?_⟩
  · cases a with
    | nil => injection e with e1 e2; exact absurd e1 (by decide)
    | cons d a => injection e with e1 e2; right; simp [← e1]
  · cases a with
    | nil => simpa using hk
    | cons d a =>
      injection e with e1 e2
      have : (d :: a).count 34 = 0 := by
        rw [List.count_eq_zero]
        intro hm
        rcases List.mem_cons.1 hm with hm | hm
        · rw [← e1] at hm; exact absurd hm (by decide)
        · exact h (by rw [e2]; simp [hm])
      rw [this]; exact hk
theorem W_quiet {x l : List UInt8} (h : ∀ c ∈ x, nm c = true) : W (x ++ l) = W l := by
  induction x with
  | nil => rfl
  | cons c x ih =>
    have hc := h c (by simp)
    rw [List.cons_append, W_cons, ih fun d hd => h d (by simp [hd])]
    have hb : bl c = false := by cases e : bl c with
      | false => rfl
      | true => simp [nm, e] at hc
    have h1 : c ≠ 61 := nm_ne hc (by decide)
    have h2 : c ≠ 39 := nm_ne hc (by decide)
    have e1 : w1 c = 0 := by simp [w1, hb, h1, h2]
    have e2 : pw c (x ++ l) = 0 := by
      cases x ++ l with
      | nil => rfl
      | cons d r => simp [pw, w2, hb]
    omega
theorem W_clL : ∀ (v : List UInt8) (a : UInt8), pw a (clL v) + W (clL v) ≤ v.length
  | [], a => by simp [clL, pw, W]
  | c :: v, a => by
    have ih := W_clL v
    have e : clL (c :: v) = clB c ++ clL v := rfl
    rw [e, List.length_cons]
    unfold clB
    have key : ∀ x : List UInt8, (∀ d ∈ x, bl d = false ∧ d ≠ 61 ∧ d ≠ 39) → W (x ++ clL v) = W (clL v) := by
      intro x hx
      induction x with
      | nil => rfl
      | cons d x ihx =>
        obtain ⟨hb, h1, h2⟩ := hx d (by simp)
        rw [List.cons_append, W_cons, ihx fun d hd => hx d (by simp [hd])]
        have e1 : w1 d = 0 := by simp [w1, hb, h1, h2]
        have e2 : pw d (x ++ clL v) = 0 := by
          cases x ++ clL v with
          | nil => rfl
          | cons y r => simp [pw, w2, hb]
        omega
    have hW := ih 0
    have amp : ∀ x : List UInt8, (∀ d ∈ (38 :: x), bl d = false ∧ d ≠ 61 ∧ d ≠ 39) → pw a ((38 :: x) ++ clL v) + W ((38 :: x) ++ clL v) ≤ v.length + 1 := by
      intro x hx
      rw [key _ hx]
      have : pw a ((38 :: x) ++ clL v) = 0 := by simp [pw, w2, nm]
      omega
    repeat' split
    all_goals first
      | exact amp _ (by decide)
      | skip
    have h1 := ih c
    have e2 : W ([c] ++ clL v) = w1 c + pw c (clL v) + W (clL v) := rfl
    have e3 : pw a ([c] ++ clL v) = w2 a c := rfl
    rw [e2, e3]
    have : w2 a c + w1 c ≤ 1 := by
      unfold w2 w1
      by_cases hn : nm c = true
      · have hb : bl c = false := by cases e : bl c with
          | false => rfl
          | true => simp [nm, e] at hn
        have g1 : c ≠ 61 := nm_ne hn (by decide)
        have g2 : c ≠ 39 := nm_ne hn (by decide)
        simp [hb, g1, g2]
        split <;> omega
      · have : nm c = false := by simpa using hn
        simp [this]
        split <;> omega
    omega
theorem w2_le (a c : UInt8) : w2 a c ≤ 1 := by
  unfold w2
  split
  · exact Nat.le_refl _
  · exact Nat.zero_le _
theorem pw_le (a : UInt8) (l : List UInt8) : pw a l ≤ 1 := by
  cases l with
  | nil => exact Nat.zero_le _
  | cons c l => exact w2_le a c
theorem W_bl : ∀ (e : List UInt8), W e ≤ 2 * e.length
  | [] => Nat.zero_le _
  | c :: e => by
    have := W_bl e
    have h1 : w1 c ≤ 1 := by unfold w1; split <;> omega
    have h2 := pw_le c e
    rw [W_cons, List.length_cons]
    omega
theorem C_seg {x l : List UInt8} (h : 34 ∉ x) : C (x ++ 34 :: l) = W x / 5 + C l := by
  simp [C, segs_app h, segs]
theorem C_one {x : List UInt8} (h : 34 ∉ x) : C x = W x / 5 := by
  have := segs_app h []
  rw [List.append_nil] at this
  simp [C, this, segs]
/-- what a tag's attributes are -/
structure Ats (al : List (List UInt8 × List UInt8)) : Prop where
  len : al.length ≤ 4
  n : ∀ a ∈ al, ∀ c ∈ a.1, nm c = true
  v : (al.map fun a => a.2.length / 5).sum ≤ 3
theorem clL_34 (v : List UInt8) : 34 ∉ clL v := clL_no (.inr (.inl rfl)) v
theorem clL_62 (v : List UInt8) : 62 ∉ clL v := clL_no (.inr (.inr rfl)) v
theorem nm_no {n : List UInt8} (h : ∀ c ∈ n, nm c = true) (d : UInt8) (hd : nm d = false) : d ∉ n := fun hm => nm_ne (h d hm) hd rfl
theorem ats_cons (a : List UInt8 × List UInt8) (al : List (List UInt8 × List UInt8)) (l : List UInt8) : atsB [32] (a :: al) ++ l = (32 :: (a.1 ++ [61])) ++ 34 :: (clL a.2 ++ 34 :: (atsB [32] al ++ l)) := by
  simp [atsB, atB]
theorem ats_mk (al : List (List UInt8 × List UInt8)) (hn : ∀ a ∈ al, ∀ c ∈ a.1, nm c = true) (l : List UInt8) (hl : 34 ∉ l) : (atsB [32] al ++ l).count 34 = 2 * al.length := by
  induction al with
  | nil => exact List.count_eq_zero.2 hl
  | cons a al ih =>
    have h1 := nm_no (hn a (by simp)) 34 (by decide)
    rw [ats_cons]
    simp only [List.count_append, List.count_cons] at ih ⊢
    rw [ih fun b hb => hn b (by simp [hb]), List.count_eq_zero.2 h1, List.count_eq_zero.2 (clL_34 a.2)]
    simp
    omega
theorem ats_alt (al : List (List UInt8 × List UInt8)) (hn : ∀ a ∈ al, ∀ c ∈ a.1, nm c = true) (l : List UInt8) (hl : 34 ∉ l) : Alt (atsB [32] al ++ l) := by
  induction al with
  | nil =>
    have := Alt_app (x := l) (l := []) hl (.inr rfl) (by intro a b e; have := congrArg List.length e; simp at this)
    rw [List.append_nil] at this
    simpa [atsB] using this
  | cons a al ih =>
    have ih := ih fun b hb => hn b (by simp [hb])
    have h1 := nm_no (hn a (by simp)) 39 (by decide)
    have hc := ats_mk al (fun b hb => hn b (by simp [hb])) l hl
    rw [ats_cons]
    refine Alt_no (by simp [h1]) (Alt_cons (fun e => absurd e (by decide)) (Alt_app (clL_34 a.2) (.inl ?_) (Alt_cons (fun e => absurd e (by decide)) ih)))
    rw [List.count_cons, hc]
    simp
theorem ats_c (al : List (List UInt8 × List UInt8)) (hn : ∀ a ∈ al, ∀ c ∈ a.1, nm c = true) (x l : List UInt8) (hx : ∀ c ∈ x, nm c = true) (hl : 34 ∉ l) : C (x ++ (atsB [32] al ++ l)) ≤ (al.map fun a => a.2.length / 5).sum + W l / 5 := by
  induction al generalizing x with
  | nil =>
    have : atsB [32] [] ++ l = l := by simp [atsB]
    rw [this, C_one (by simp [nm_no hx 34 (by decide), hl]), W_quiet hx]
    simp
  | cons a al ih =>
    have h1 := hn a (by simp)
    have ih := ih (fun b hb => hn b (by simp [hb])) [] (by simp)
    rw [List.nil_append] at ih
    rw [ats_cons, ← List.append_assoc, C_seg (by
      simp only [List.mem_append, List.mem_cons, not_or]
      exact ⟨nm_no hx 34 (by decide), by decide, nm_no h1 34 (by decide), by decide, by simp⟩), C_seg (clL_34 a.2), W_quiet hx]
    have e1 : W (32 :: (a.1 ++ [61])) ≤ 3 := by
      rw [W_cons, W_quiet h1]
      have : W [61] = 1 := by decide
      have h2 := pw_le 32 (a.1 ++ [61])
      have : w1 32 = 1 := by decide
      omega
    have e2 := W_clL a.2 0
    have e3 : W (clL a.2) / 5 ≤ a.2.length / 5 := Nat.div_le_div_right (by omega)
    simp only [List.map_cons, List.sum_cons]
    omega
theorem ats_inq (al : List (List UInt8 × List UInt8)) (hn : ∀ a ∈ al, ∀ c ∈ a.1, nm c = true) (l : List UInt8) (k : Nat) (hk : k % 2 = 0) (hl : ∀ j, j % 2 = 0 → Inq j l) : Inq k (atsB [32] al ++ l) := by
  induction al generalizing k with
  | nil => simpa [atsB] using hl k hk
  | cons a al ih =>
    have h1 := hn a (by simp)
    rw [ats_cons]
    refine Inq_app (by
      simp only [List.mem_append, List.mem_cons, not_or]
      exact ⟨by decide, nm_no h1 34 (by decide), by decide, by simp⟩) (fun hm => ?_) (fun _ => hk) (Inq_cons (fun e => absurd e (by decide)) (fun e => absurd e (by decide)) ?_)
    · exfalso
      simp only [List.mem_append, List.mem_cons, List.not_mem_nil, or_false] at hm
      rcases hm with hm | hm | hm
      · exact absurd hm (by decide)
      · exact nm_no h1 39 (by decide) hm
      · exact absurd hm (by decide)
    · rw [if_pos rfl]
      refine Inq_app (clL_34 a.2) (fun _ => by omega) (fun hm => absurd hm (clL_62 a.2)) (Inq_cons (fun e => absurd e (by decide)) (fun e => absurd e (by decide)) ?_)
      rw [if_pos rfl]
      exact ih (fun b hb => hn b (by simp [hb])) (k + 1 + 1) (by omega)
/-- a tag, with what follows it -/
theorem chunk_tag {x h t : List UInt8} {al : List (List UInt8 × List UInt8)} (hx : ∀ c ∈ x, nm c = true) (ha : Ats al) (h60 : 60 ∉ atsB [32] al) (hal : (atsB [32] al).length ≤ 225) (hxl : x.length ≤ 9) (hh : ∀ c ∈ h, nm c = true) (hhl : h.length ≤ 1) (ht : 34 ∉ t) (ht6 : 60 ∉ t) (htl : t.length ≤ 80) (hw : W t ≤ 14) :
    Chunk (x ++ (atsB [32] al ++ (h ++ 62 :: t))) := by
  have h34 : 34 ∉ h ++ 62 :: t := by
    simp only [List.mem_append, List.mem_cons, not_or]
    exact ⟨nm_no hh 34 (by decide), by decide, ht⟩
  have hW : W (h ++ 62 :: t) = W t := by
    rw [W_quiet hh, W_cons]
    have : pw 62 t = 0 := by
      cases t with
      | nil => rfl
      | cons d e => rfl
    rw [this, show w1 62 = 0 by decide]
    omega
  refine ⟨?_, Alt_no (nm_no hx 39 (by decide)) (ats_alt al ha.n _ h34), ?_, ?_, ?_, ?_⟩
  · simp only [List.mem_append, List.mem_cons, not_or]
    exact ⟨nm_no hx 60 (by decide), h60, nm_no hh 60 (by decide), by decide, ht6⟩
  · rw [List.count_append, List.count_eq_zero.2 (nm_no hx 34 (by decide)), ats_mk al ha.n _ h34]
    have := ha.len
    omega
  · have := ats_c al ha.n x _ hx h34
    rw [hW] at this
    have := ha.v
    omega
  · have hi : Inq 0 (x ++ (atsB [32] al ++ (h ++ 62 :: t))) :=
      Inq_app (nm_no hx 34 (by decide)) (fun hm => absurd hm (nm_no hx 39 (by decide))) (fun _ => rfl) (ats_inq al ha.n _ 0 rfl fun j hj =>
        Inq_app (nm_no hh 34 (by decide)) (fun hm => absurd hm (nm_no hh 39 (by decide))) (fun _ => hj) (Inq_end hj ht))
    exact ⟨fun a b e => by have := hi.1 a b e; simpa using this, fun a b e => by have := hi.2 a b e; simpa using this⟩
  · simp only [List.length_append, List.length_cons]
    omega
theorem nl_nm {n : List UInt8} (h : Nl n) : ∀ c ∈ n, nm c = true := fun c hc => nm_of (.inl (h.part c hc).1)
theorem bl_no {e : List UInt8} (he : ∀ c ∈ e, c = 10 ∨ c = 32) (d : UInt8) (h1 : d ≠ 10) (h2 : d ≠ 32) : d ∉ e := fun hm => by rcases he d hm with h | h; exact h1 h; exact h2 h
theorem ats_of {v space : List UInt8} (hv : v ∈ spaces) {al : List (List UInt8 × List UInt8)} (ha : NiceA al) : Ats (tagA v space al) ∧ 60 ∉ atsB [32] (tagA v space al) ∧ (atsB [32] (tagA v space al)).length ≤ 225 := by
  have b1 := spD_bd hv (str space)
  have b2 := atD_bd al (niceA_bd ha)
  have hl := ha.1
  have hv5 : v.length / 5 = 0 := by
    simp only [spaces, List.mem_cons, List.not_mem_nil, or_false] at hv
    rcases hv with rfl | rfl | rfl | rfl <;> rfl
  have hn : ∀ a ∈ al, (∀ c ∈ a.1, nm c = true) ∧ a.2.length ≤ 9 := fun a hm => by
    obtain ⟨j, hj⟩ := List.mem_iff_getElem?.1 hm
    have hjl := (List.getElem?_eq_some_iff.1 hj).1
    obtain ⟨n, e, h1, h2, h3, h4⟩ := ha.2 j a hj
    refine ⟨fun c hc => ?_, h4⟩
    rw [e] at hc
    rcases List.mem_append.1 hc with hc | hc
    · exact nl_nm h1 c hc
    · rw [List.mem_singleton] at hc
      have : j = 0 ∨ j = 1 ∨ j = 2 := by omega
      rcases this with rfl | rfl | rfl <;> (subst hc; decide)
  have hs : (al.map fun a => a.2.length / 5).sum ≤ al.length := by
    have key : ∀ l : List (List UInt8 × List UInt8), (∀ a ∈ l, a.2.length ≤ 9) → (l.map fun a => a.2.length / 5).sum ≤ l.length := by
      intro l
      induction l with
      | nil => intro _; simp
      | cons a l ih =>
        intro h
        have := ih fun b hb => h b (by simp [hb])
        have := h a (by simp)
        simp only [List.map_cons, List.sum_cons, List.length_cons]
        omega
    exact key al fun a hm => (hn a hm).2
  refine ⟨?_, ?_, ?_⟩
  · unfold tagA
    split
    · exact ⟨by omega, fun a hm => (hn a hm).1, by omega⟩
    · refine ⟨by simp; omega, fun a hm => ?_, by simp [hv5]; omega⟩
      rcases List.mem_cons.1 hm with rfl | hm
      · show ∀ c ∈ xmB, nm c = true; decide
      · exact (hn a hm).1
  · rw [← spD_ats, ← List.count_eq_zero, List.count_append, b1.2, b2.2]
  · rw [← spD_ats, List.length_append]
    omega
theorem kids_flat {d : Nat} {sp pad : List UInt8} (IH : ∀ (y : Nod) (e : List UInt8), Nice d y → (∀ c ∈ e, c = 10 ∨ c = 32) → e.length ≤ 4 → ∃ cs, nodB y (str sp) (pad ++ [32]) ++ e = flat cs ∧ ∀ z ∈ cs, Chunk z) (hp : ∀ c ∈ pad, c = 32) (hpl : pad.length ≤ 2) (ds : List (List UInt8)) (hds : ∀ z ∈ ds, Chunk z) :
    ∀ ks : List Nod, (∀ y ∈ ks, Nice d y) → ∃ e0 cs, 10 :: (docL ks (str sp) (pad ++ [32]) ++ (pad ++ flat ds)) = e0 ++ flat cs ∧ (∀ c ∈ e0, c = 10 ∨ c = 32) ∧ e0.length ≤ 4 ∧ ∀ z ∈ cs, Chunk z
  | [], _ => ⟨10 :: pad, ds, by simp [docL], fun c hc => by
      rcases List.mem_cons.1 hc with rfl | hc
      · exact .inl rfl
      · exact .inr (hp c hc), by simp; omega, hds⟩
  | y :: ks, h => by
    obtain ⟨e1, cs1, h1, h2, h3, h4⟩ := kids_flat IH hp hpl ds hds ks fun z hz => h z (by simp [hz])
    obtain ⟨cs2, h5, h6⟩ := IH y e1 (h y (by simp)) h2 h3
    refine ⟨10 :: (pad ++ [32]), cs2 ++ cs1, ?_, fun c hc => ?_, by simp; omega, fun z hz => ?_⟩
    · rw [flat_app, ← h5, docL, docN_nod]
      have : 10 :: ((pad ++ [32] ++ (nodB y (str sp) (pad ++ [32]) ++ [10]) ++ docL ks (str sp) (pad ++ [32])) ++ (pad ++ flat ds)) = 10 :: (pad ++ [32]) ++ (nodB y (str sp) (pad ++ [32]) ++ (10 :: (docL ks (str sp) (pad ++ [32]) ++ (pad ++ flat ds)))) := by simp
      rw [this, h1]
      simp
    · simp only [List.mem_cons, List.mem_append, List.not_mem_nil, or_false] at hc
      rcases hc with hc | hc | hc
      · exact .inl hc
      · exact .inr (hp c hc)
      · exact .inr hc
    · rcases List.mem_append.1 hz with hz | hz
      · exact h6 z hz
      · exact h4 z hz
theorem nod_flat : ∀ (d : Nat) (y : Nod) (space pad e : List UInt8), Nice d y → (∀ c ∈ pad, c = 32) → pad.length + d ≤ 3 → (∀ c ∈ e, c = 10 ∨ c = 32) → e.length ≤ 4 → ∃ cs, nodB y (str space) pad ++ e = flat cs ∧ ∀ z ∈ cs, Chunk z
  | 0, _, _, _, _, h, _, _, _, _ => by cases h
  | d + 1, .mk sp nm0 l ks tx, space, pad, e, h, hp, hpl, he, hel => by
    obtain ⟨⟨v, hv, rfl⟩, ⟨n, rfl, hn, hn7⟩, ⟨al, rfl, ha⟩, hk3, hks, ⟨t, rfl, ht, ht12, _⟩, htx⟩ := h
    obtain ⟨hA, h60, hal⟩ := ats_of (space := space) hv ha
    have hnm := nl_nm hn
    have hnl : n.length ≤ 8 := by obtain ⟨r, rfl, h1, _⟩ := hn; simp; omega
    have hWe := W_bl e
    have he34 := bl_no he 34 (by decide) (by decide)
    have he60 := bl_no he 60 (by decide) (by decide)
    have hcl : Chunk (47 :: (n ++ ([62] ++ e))) := by
      have := chunk_tag (x := 47 :: n) (h := []) (t := e) (al := []) (fun c hc => by
        rcases List.mem_cons.1 hc with rfl | hc
        · decide
        · exact hnm c hc) ⟨by simp, by simp, by simp⟩ (by simp [atsB]) (by simp [atsB]) (by simp; omega) (by simp) (by simp) he34 he60 (by omega) (by omega)
      simpa [atsB] using this
    by_cases h0 : ks = []
    · subst h0
      by_cases ht0 : t = []
      · subst ht0
        refine ⟨[n ++ (atsB [32] (tagA v space al) ++ ([47] ++ 62 :: e))], ?_, ?_⟩
        · rw [nod_one]
          simp [flat, tagB, endB]
        · intro z hz
          rw [List.mem_singleton] at hz
          subst hz
          exact chunk_tag hnm hA h60 hal (by omega) (by decide) (by simp) he34 he60 (by omega) (by omega)
      · refine ⟨[n ++ (atsB [32] (tagA v space al) ++ ([] ++ 62 :: clL t)), 47 :: (n ++ ([62] ++ e))], ?_, ?_⟩
        · rw [nod_text pad ht0]
          simp [flat, tagB, endB, backB]
        · intro z hz
          simp only [List.mem_cons, List.not_mem_nil, or_false] at hz
          rcases hz with rfl | rfl
          · have h1 := W_clL t 0
            have h2 := clL_len t
            exact chunk_tag hnm hA h60 hal (by omega) (by simp) (by simp) (clL_34 t) (clL_no (.inl rfl) t) (by omega) (by omega)
          · exact hcl
    · obtain ⟨e0, cs, g1, g2, g3, g4⟩ := kids_flat (d := d) (sp := v) (pad := pad) (fun y e hy he hel => nod_flat d y v (pad ++ [32]) e hy (fun c hc => by
          rcases List.mem_append.1 hc with hc | hc
          · exact hp c hc
          · simpa using hc) (by simp; omega) he hel) hp (by omega) [47 :: (n ++ ([62] ++ e))] (by intro z hz; rw [List.mem_singleton] at hz; rw [hz]; exact hcl) ks hks
      have hWe0 := W_bl e0
      refine ⟨(n ++ (atsB [32] (tagA v space al) ++ ([] ++ 62 :: e0))) :: cs, ?_, ?_⟩
      · rw [nod_kids _ _ h0, flat_cons]
        have e1 : tagB n [32] (tagA v space al) [] false ++ ([10] ++ (docL ks (str v) (pad ++ [32]) ++ (pad ++ backB n []))) ++ e = 60 :: (n ++ (atsB [32] (tagA v space al) ++ (62 :: (10 :: (docL ks (str v) (pad ++ [32]) ++ (pad ++ flat [47 :: (n ++ ([62] ++ e))])))))) := by
          simp [tagB, endB, backB, flat]
        rw [e1, g1]
        simp
      · intro z hz
        rcases List.mem_cons.1 hz with rfl | hz
        · exact chunk_tag hnm hA h60 hal (by omega) (by simp) (by simp) (bl_no g2 34 (by decide) (by decide)) (bl_no g2 60 (by decide) (by decide)) (by omega) (by omega)
        · exact g4 z hz
theorem doc_flat {y : Nod} (h : Nice 3 y) : Doc (docN y ByteArray.empty []) := by
  obtain ⟨cs, h1, h2⟩ := nod_flat 3 y [] [] [10] h (by simp) (by simp) (by simp) (by simp)
  refine ⟨cs, ?_, h2⟩
  rw [← h1, docN_nod]
  rfl
end Ct
end Go.Proofs.YtdpkhmfolmcejaaGreatDoor
namespace Go.Proofs.YtdpkhmfolmcejaaGreatDoor
namespace Xm
/-- what is asked of a text: its tags are short -/
def TagOk (s : ByteArray) : Prop := ∀ (P w post : List UInt8) (Rs : List (List UInt8)), s.data.toList = P ++ 60 :: (w ++ (Rs.flatten ++ post)) → (∀ c ∈ w, Ct.nm c = true) → (∀ r ∈ Rs, Ct.Span r) → 60 ∉ Rs.flatten → Rs.length ≤ 15 ∧ Rs.flatten.length ≤ 646
def AtZ (l : List (ByteArray × ByteArray)) : Prop := l.length ≤ 15 ∧ ∀ a ∈ l, a.2.size ≤ 646
theorem AtZ.nil : AtZ [] := ⟨Nat.zero_le _, by simp⟩
theorem seg_data (s : ByteArray) : s.data.toList = seg s 0 s.size := by
  unfold seg
  rw [ByteArray.data_extract, Array.toList_extract, List.extract_eq_take_drop, List.drop_zero, Nat.sub_zero]
  exact (List.take_of_length_le (by rw [Array.length_toList]; exact Nat.le_refl _)).symm
theorem tagR_z {s : ByteArray} {k : Nat} {bad : Int} (hs : TagOk s) (h60 : seg s k (k + 1) = [60]) (hk : k + 1 ≤ s.size) (h : (tagR s ⟨k + 1, 0, bad⟩).2.2.e = 0) :
    AtZ (tagR s ⟨k + 1, 0, bad⟩).2.1 ∧ (nameS s (k + 1)).size + szA (tagR s ⟨k + 1, 0, bad⟩).2.1 + k ≤ (tagR s ⟨k + 1, 0, bad⟩).2.2.k := by
  unfold tagR at h ⊢
  have hnk : (nameT s ⟨k + 1, 0, bad⟩).k = nameEnd s (k + 1) := nameT_k s _
  have hn1 := nameEnd_bd s _ (k + 1) rfl hk
  obtain ⟨Rs, b, g1, g2, g3, g4, g5, g6, g7, g8, g9, g10⟩ := tagL_spans s 17 (nameT s ⟨k + 1, 0, bad⟩) [] (by rw [hnk]; exact hn1.2) h rfl
  rw [hnk] at g2 g4 g7 g10
  have hd : s.data.toList = seg s 0 k ++ 60 :: (seg s (k + 1) (nameEnd s (k + 1)) ++ (Rs.flatten ++ seg s b s.size)) := by
    rw [seg_data, seg_app (s := s) (a := 0) (b := k) (by omega) (by omega), seg_app (s := s) (a := k) (b := k + 1) (by omega) (by omega), h60, seg_app (s := s) (a := k + 1) (b := nameEnd s (k + 1)) (by omega) (by omega), seg_app (s := s) (a := nameEnd s (k + 1)) (b := b) (by omega) (by omega), g4]
    rfl
  obtain ⟨t1, t2⟩ := hs _ _ _ _ hd (name_nm hk) g1 g5
  have hbl : b - nameEnd s (k + 1) ≤ 646 := by
    rw [← g4, seg_len g3] at t2
    exact t2
  refine ⟨⟨by rw [g6]; simpa using t1, fun a ha => ?_⟩, ?_⟩
  · rcases g10 a ha with h | h
    · simp at h
    · omega
  · have hs1 : (nameS s (k + 1)).size ≤ nameEnd s (k + 1) - (k + 1) := by
      unfold nameS
      split
      · simp; omega
      · exact Nat.zero_le _
    have e0 : szA [] = 0 := rfl
    rw [e0] at g7
    omega
/-- how much a piece holds -/
def szP (q : Pc) : Nat := q.name.size + szA q.attrs + q.text.size
theorem pieceOf_z {s : ByteArray} {k : Nat} {bad : Int} (hs : TagOk s) (hk : k < s.size) (h : (pieceOf s k bad).2.e = 0) : AtZ (pieceOf s k bad).1.attrs ∧ szP (pieceOf s k bad).1 + k ≤ (pieceOf s k bad).2.k := by
  have e0 : szA [] = 0 := rfl
  unfold pieceOf at h ⊢
  split
  · rename_i h1
    rw [if_pos h1] at h
    unfold cdT at h ⊢
    split
    · rename_i h2
      rw [if_pos h2] at h
      exact absurd h (err_wrong (by decide))
    · rename_i h2
      refine ⟨AtZ.nil, ?_⟩
      have e1 : (s.extract (k + 9) (k + 9 + (farS s (k + 9) cdE).toNat)).size ≤ (farS s (k + 9) cdE).toNat := by simp; omega
      unfold szP wrong
      split <;> (show 0 + szA [] + (s.extract (k + 9) (k + 9 + (farS s (k + 9) cdE).toNat)).size + k ≤ k + 9 + (farS s (k + 9) cdE).toNat + 3; omega)
  · rename_i h1
    rw [if_neg h1] at h
    split
    · rename_i h2
      rw [if_pos h2] at h
      refine ⟨AtZ.nil, ?_⟩
      have h3 := hasAt_bd (Nat.le_of_lt hk) h2
      have e2 : backS.size = 2 := rfl
      have hn1 := nameEnd_bd s _ (k + 2) rfl (by omega)
      have hs1 : (nameS s (k + 2)).size ≤ nameEnd s (k + 2) - (k + 2) := by
        unfold nameS
        split
        · simp; omega
        · exact Nat.zero_le _
      have hs2 := skip_bd s _ (nameEnd s (k + 2)) rfl hn1.2
      have e3 : (backT s k bad).k = skip s (nameEnd s (k + 2)) + 1 := by
        unfold backT blanksT
        rw [nameT_k]
      show (nameS s (k + 2)).size + szA [] + 0 + k ≤ (backT s k bad).k
      omega
    · rename_i h2
      rw [if_neg h2] at h
      split
      · rename_i h3
        rw [if_pos h3] at h
        obtain ⟨h4, h5⟩ := has_seg (Nat.le_of_lt hk) h3
        have h5 : seg s k (k + 1) = [60] := h5
        obtain ⟨g1, g2⟩ := tagR_z (bad := bad) hs h5 (by omega) h
        exact ⟨g1, by show (nameS s (k + 1)).size + szA _ + 0 + k ≤ _; omega⟩
      · rename_i h3
        rw [if_neg h3] at h
        refine ⟨AtZ.nil, ?_⟩
        have e1 := opened_le (s.extract k (k + runN s k))
        have e2 : (s.extract k (k + runN s k)).size ≤ runN s k := by simp; omega
        have e3 : (openT ⟨k + runN s k, 0, bad⟩ (s.extract k (k + runN s k)) k).k = k + runN s k := by
          unfold openT wrong
          split
          · rfl
          · split <;> rfl
        show 0 + szA [] + (opened _).size + k ≤ (openT _ _ _).k
        omega
theorem nextR_z {s : ByteArray} {p : P3} (hs : TagOk s) (hk : p.k ≤ s.size) (he : p.e = 0) (h : (nextR s p).2.e = 0) : AtZ (nextR s p).1.attrs ∧ szP (nextR s p).1 + p.k ≤ (nextR s p).2.k ∧ (nextR s p).2.k ≤ s.size := by
  have hst : St s p.k p := ⟨Nat.le_refl _, hk, .inl he⟩
  have h1 := St.asides (s.size + 1) p hst
  unfold nextR at h ⊢
  generalize asides s (s.size + 1) p = q at *
  split
  · exact ⟨AtZ.nil, by show 0 + p.k ≤ q.k; have := h1.1; omega, h1.2.1⟩
  · rename_i hq
    have hlt : q.k < s.size := by omega
    rw [if_neg hq] at h
    split
    · rename_i h2
      rw [if_pos h2] at h
      exact absurd h h2
    · rename_i h2
      rw [if_neg h2] at h
      obtain ⟨g1, g2⟩ := pieceOf_z (bad := q.bad) hs hlt h
      have h3 := pieceOf_law (bad := q.bad) hlt
      have := h1.1
      exact ⟨g1, by omega, (h3.2.2.2 h).2⟩
mutual
/-- how much an element holds -/
def mu : Nod → Nat
  | .mk _ nm l ks tx => nm.size + szA l + tx.size + muL ks
def muL : List Nod → Nat
  | [] => 0
  | y :: ys => mu y + muL ys
end
theorem muL_app (a b : List Nod) : muL (a ++ b) = muL a + muL b := by
  induction a with
  | nil => simp [muL]
  | cons y a ih => rw [List.cons_append, muL, muL, ih]; omega
/-- few attributes, short spaces -/
inductive Zd : Nod → Prop
  | mk (sp nm tx : ByteArray) (l : List (ByteArray × ByteArray)) (ks : List Nod) (h1 : sp.size ≤ 646) (h2 : l.length ≤ 15) (h3 : ∀ y ∈ ks, Zd y) : Zd (.mk sp nm l ks tx)
theorem Zd.mx {y : Nod} (h : Zd y) : mxA y ≤ 15 := by
  induction h with
  | mk sp nm tx l ks h1 h2 h3 ih =>
    rw [mxA]
    have : mxL ks ≤ 15 := by
      clear h3
      induction ks with
      | nil => exact Nat.zero_le _
      | cons y ks ihk =>
        rw [mxL]
        have := ih y List.mem_cons_self
        have := ihk fun z hz => ih z (List.mem_cons_of_mem _ hz)
        omega
    omega
def RZ (R : List Bd) : Prop := ∀ r ∈ R, r.2.1.size ≤ 646
theorem enterL_z (d : Nat) : ∀ (l o : List (ByteArray × ByteArray)) (R : List Bd), (∀ a ∈ l, a.2.size ≤ 646) → RZ R → RZ (enterL d l o R).1
  | [], o, R, _, hR => hR
  | a :: l, o, R, h, hR => by
    have ha := h a List.mem_cons_self
    have hl : ∀ b ∈ l, b.2.size ≤ 646 := fun b hb => h b (List.mem_cons_of_mem _ hb)
    unfold enterL
    split
    · split
      · exact hR
      · split
        · exact hR
        · exact enterL_z d l o (((tellP a.1).1, a.2, d) :: R) hl (fun r hr => by
            rcases List.mem_cons.1 hr with rfl | hr
            · exact ha
            · exact hR r hr)
    · exact enterL_z d l (o ++ [a]) R hl hR
theorem leaveL_z {R : List Bd} {d : Nat} (h : RZ R) : RZ (leaveL R d) := by
  unfold leaveL
  split
  · exact h
  · exact fun r hr => h r ((List.dropWhile_sublist _).subset hr)
theorem enterL_sz (d : Nat) : ∀ (l o : List (ByteArray × ByteArray)) (R : List Bd), szA (enterL d l o R).2.2 ≤ szA o + szA l
  | [], o, R => by simp [enterL]
  | a :: l, o, R => by
    have e1 : szA (a :: l) = szA [a] + szA l := by rw [← szA_app]; rfl
    have e0 : szA [] = 0 := rfl
    unfold enterL
    split
    · split
      · rw [e0]; omega
      · split
        · rw [e0]; omega
        · have := enterL_sz d l o (((tellP a.1).1, a.2, d) :: R)
          omega
    · have := enterL_sz d l (o ++ [a]) R
      rw [szA_app] at this
      omega
theorem split_sz (n : ByteArray) : (split n).2.1.size ≤ n.size := by
  unfold Xm.split
  split
  · unfold cut; simp
  · exact Nat.le_refl _
theorem beginT_z {p : Pc} {R : List Bd} {d n : Nat} (hp : AtZ p.attrs) (hR : RZ R) : RZ (beginT p R d n).2.1 ∧ ∀ x, (beginT p R d n).1 = .ok x → x.1.size ≤ 646 ∧ x.2.2.length ≤ 15 ∧ x.2.1.size + szA x.2.2 ≤ p.name.size + szA p.attrs := by
  have g1 := enterL_z (d + 1) p.attrs [] R hp.2 hR
  have g2 := (enterL_len (d + 1) p.attrs [] R).2.1
  have g3 := enterL_sz (d + 1) p.attrs [] R
  have e0 : szA [] = 0 := rfl
  unfold beginT
  split
  · exact ⟨hR, fun x h => by cases h⟩
  · split
    · exact ⟨hR, fun x h => by cases h⟩
    · split
      · exact ⟨g1, fun x h => by cases h⟩
      · split
        · exact ⟨g1, fun x h => by cases h⟩
        · split
          · exact ⟨g1, fun x h => by cases h⟩
          · refine ⟨g1, fun x h => ?_⟩
            have h := Except.ok.inj h
            subst h
            refine ⟨?_, by have := hp.1; simp at g2; show (enterL _ _ _ _).2.2.length ≤ 15; omega, ?_⟩
            · show (nameP _ _).1.size ≤ 646
              unfold nameP
              split
              · split
                · unfold ofT
                  split
                  · rename_i r hr
                    exact g1 r (List.mem_of_find?_eq_some hr)
                  · exact Nat.zero_le _
                · exact Nat.zero_le _
              · exact Nat.zero_le _
            · show (nameP _ _).2.1.size + szA (enterL _ _ _ _).2.2 ≤ _
              have : (nameP (enterL (d + 1) p.attrs [] R).1 p.name).2.1.size ≤ p.name.size := by
                unfold nameP
                split
                · split
                  · exact split_sz _
                  · exact Nat.zero_le _
                · exact Nat.zero_le _
              omega
theorem trim_le (v : ByteArray) : (trim v).size ≤ v.size := by
  unfold trim cut
  simp
  omega
def mu0 (o : Option Nod) (p : Pc) : Nat := match o with | none => p.name.size + szA p.attrs | some x => mu x
theorem goT_z {s : ByteArray} (hs : TagOk s) : ∀ (f : Nat) (o : Option Nod) (p : Pc) (r : Rs), r.st.e = 0 → r.st.k ≤ s.size → RZ r.R → AtZ p.attrs → (∀ x, o = some x → Zd x) →
    RZ (goT s f o p r).2.R ∧ ∀ y r', goT s f o p r = (.ok y, r') → Zd y ∧ r'.st.e = 0 ∧ r'.st.k ≤ s.size ∧ r.st.k ≤ r'.st.k ∧ mu y + r.st.k ≤ mu0 o p + r'.st.k := by
  intro f
  induction f with
  | zero => intro o p r _ _ hR _ _; unfold goT; exact ⟨hR, fun y r' h => by cases h⟩
  | succ f ih =>
    intro o p r he hk hR hp ho
    cases o with
    | none =>
      obtain ⟨b1, b2⟩ := beginT_z (d := r.d) (n := r.n) hp hR
      rw [goT]
      split
      · rename_i z R1 d1 n1 hb
        rw [hb] at b1
        exact ⟨b1, fun y r' h => by cases h⟩
      · rename_i x R1 d1 n1 hb
        rw [hb] at b1 b2
        obtain ⟨x1, x2, x3⟩ := b2 x rfl
        split
        · refine ⟨leaveL_z b1, fun y r' h => ?_⟩
          injection h with h1 h2
          injection h1 with h1
          subst h1 h2
          refine ⟨.mk _ _ _ _ _ x1 x2 (fun y hy => by simp at hy), he, hk, Nat.le_refl _, ?_⟩
          show x.2.1.size + szA x.2.2 + 0 + 0 + r.st.k ≤ p.name.size + szA p.attrs + r.st.k
          omega
        · obtain ⟨g1, g2⟩ := ih (some ⟨x.1, x.2.1, x.2.2, [], ByteArray.empty⟩) p ⟨r.st, R1, d1, n1⟩ he hk b1 hp (fun z hz => by
            injection hz with hz
            subst hz
            exact .mk _ _ _ _ _ x1 x2 (fun y hy => by simp at hy))
          split
          rename_i res r2 hg
          rw [hg] at g1
          refine ⟨leaveL_z g1, fun y r' h => ?_⟩
          injection h with h1 h2
          subst h1 h2
          obtain ⟨i1, i2, i3, i4, i5⟩ := g2 y r2 hg
          refine ⟨i1, i2, i3, i4, ?_⟩
          have i5 : mu y + r.st.k ≤ x.2.1.size + szA x.2.2 + 0 + 0 + r2.st.k := i5
          show mu y + r.st.k ≤ p.name.size + szA p.attrs + r2.st.k
          omega
    | some x =>
      obtain ⟨sp, nm, l, ks, tx⟩ := x
      have hx := ho _ rfl
      cases hx with
      | mk _ _ _ _ _ z1 z2 z3 =>
      rw [goT]
      split
      rename_i q st2 hn
      split
      · exact ⟨hR, fun y r' h => by cases h⟩
      · rename_i he2
        have he2 : st2.e = 0 := by simpa using he2
        have hq := nextR_z (p := r.st) hs hk he (by rw [hn]; exact he2)
        rw [hn] at hq
        obtain ⟨q1, q2, q3⟩ := hq
        simp only at q1 q2 q3
        unfold szP at q2
        split
        · obtain ⟨g1, g2⟩ := ih (some ⟨sp, nm, l, ks, tx ++ q.text⟩) p ⟨st2, r.R, r.d, r.n⟩ he2 q3 hR hp (fun z hz => by
            injection hz with hz
            subst hz
            exact .mk _ _ _ _ _ z1 z2 z3)
          refine ⟨g1, fun y r' h => ?_⟩
          obtain ⟨i1, i2, i3, i4, i5⟩ := g2 y r' h
          have i4 : st2.k ≤ r'.st.k := i4
          have i5 : mu y + st2.k ≤ nm.size + szA l + (tx ++ q.text).size + muL ks + r'.st.k := i5
          rw [ByteArray.size_append] at i5
          refine ⟨i1, i2, i3, by omega, ?_⟩
          show mu y + r.st.k ≤ nm.size + szA l + tx.size + muL ks + r'.st.k
          omega
        · split
          · obtain ⟨g1, g2⟩ := ih none q ⟨st2, r.R, r.d, r.n⟩ he2 q3 hR q1 (fun z hz => by cases hz)
            split
            · rename_i y r2 hg
              rw [hg] at g1
              obtain ⟨i1, i2, i3, i4, i5⟩ := g2 y r2 hg
              have i4 : st2.k ≤ r2.st.k := i4
              have i5 : mu y + st2.k ≤ q.name.size + szA q.attrs + r2.st.k := i5
              obtain ⟨k1, k2⟩ := ih (some ⟨sp, nm, l, ks ++ [y], tx⟩) p r2 i2 i3 g1 hp (fun z hz => by
                injection hz with hz
                subst hz
                refine .mk _ _ _ _ _ z1 z2 (fun w hw => ?_)
                rcases List.mem_append.1 hw with hw | hw
                · exact z3 w hw
                · rw [List.mem_singleton] at hw; rw [hw]; exact i1)
              refine ⟨k1, fun w r' h => ?_⟩
              obtain ⟨j1, j2, j3, j4, j5⟩ := k2 w r' h
              have j5 : mu w + r2.st.k ≤ nm.size + szA l + tx.size + muL (ks ++ [y]) + r'.st.k := j5
              rw [muL_app] at j5
              have e1 : muL [y] = mu y + 0 := by rw [muL, muL]
              refine ⟨j1, j2, j3, by omega, ?_⟩
              show mu w + r.st.k ≤ nm.size + szA l + tx.size + muL ks + r'.st.k
              omega
            · rename_i z r2 hg
              rw [hg] at g1
              exact ⟨g1, fun y r' h => by cases h⟩
          · split
            · split
              · exact ⟨hR, fun y r' h => by cases h⟩
              · split
                · exact ⟨hR, fun y r' h => by cases h⟩
                · refine ⟨hR, fun y r' h => ?_⟩
                  injection h with h1 h2
                  injection h1 with h1
                  subst h1 h2
                  refine ⟨.mk _ _ _ _ _ z1 z2 z3, he2, q3, by show r.st.k ≤ st2.k; omega, ?_⟩
                  show nm.size + szA l + (if ks ≠ [] then ByteArray.empty else trim tx).size + muL ks + r.st.k ≤ nm.size + szA l + tx.size + muL ks + st2.k
                  have := trim_le tx
                  have e0 : ByteArray.empty.size = 0 := rfl
                  split <;> omega
            · exact ⟨hR, fun y r' h => by cases h⟩
theorem docT_z {s : ByteArray} (hs : TagOk s) : ∀ (f : Nat) (o : Option Nod) (r : Rs), r.st.e = 0 → r.st.k ≤ s.size → RZ r.R → (∀ y, o = some y → Zd y ∧ mu y ≤ s.size) → ∀ y, docT s f o r = .ok y → Zd y ∧ mu y ≤ s.size := by
  intro f
  induction f with
  | zero => intro o r _ _ _ _ y h; unfold docT at h; cases h
  | succ f ih =>
    intro o r he hk hR ho y h
    rw [docT] at h
    split at h
    rename_i q st2 hn
    split at h
    · cases h
    · rename_i he2
      have he2 : st2.e = 0 := by simpa using he2
      have hq := nextR_z (p := r.st) hs hk he (by rw [hn]; exact he2)
      rw [hn] at hq
      obtain ⟨q1, q2, q3⟩ := hq
      simp only at q1 q2 q3
      unfold szP at q2
      cases o with
      | some z =>
        simp only at h
        split at h
        · have h := Except.ok.inj h
          subst h
          exact ho _ rfl
        · split at h
          · exact ih _ ⟨st2, r.R, r.d, r.n⟩ he2 q3 hR ho y h
          · cases h
      | none =>
        simp only at h
        split at h
        · exact ih _ ⟨st2, r.R, r.d, r.n⟩ he2 q3 hR ho y h
        · split at h
          · obtain ⟨g1, g2⟩ := goT_z hs (2 * s.size + 2) none q ⟨st2, r.R, r.d, r.n⟩ he2 q3 hR q1 (fun z hz => by cases hz)
            split at h
            · rename_i z r2 hg
              rw [hg] at g1
              obtain ⟨i1, i2, i3, i4, i5⟩ := g2 z r2 hg
              have i4 : st2.k ≤ r2.st.k := i4
              have i5 : mu z + st2.k ≤ q.name.size + szA q.attrs + r2.st.k := i5
              exact ih (some z) r2 i2 i3 g1 (fun w hw => by
                injection hw with hw
                subst hw
                exact ⟨i1, by omega⟩) y h
            · cases h
          · cases h
theorem parse_z {s : ByteArray} (hs : TagOk s) {y : Nod} (h : parseT s = .ok y) : Zd y ∧ mu y ≤ s.size := by
  refine docT_z hs _ none r0 rfl (Nat.zero_le _) ?_ (fun y h => by cases h) y h
  intro r hr
  simp only [r0, newB, xmlB, List.mem_cons, List.not_mem_nil, or_false] at hr
  rcases hr with rfl | rfl
  · exact Nat.zero_le _
  · decide
theorem atD_z : ∀ (l : List (ByteArray × ByteArray)), (∀ a ∈ l, a.1.size ≠ 0) → (atD l).length ≤ 6 * szA l
  | [], _ => Nat.zero_le _
  | a :: l, h => by
    have ih := atD_z l fun b hb => h b (List.mem_cons_of_mem _ hb)
    have ha := h a List.mem_cons_self
    have e : atD (a :: l) = (32 :: (bl a.1 ++ ([61, 34] ++ (clL (bl a.2) ++ [34])))) ++ atD l := by simp [atD]
    have e1 : szA (a :: l) = a.1.size + a.2.size + szA l := by simp [szA]
    have hc := clL_len (bl a.2)
    rw [bl_len] at hc
    rw [e, e1]
    simp only [List.length_append, List.length_cons, List.length_nil, bl_len]
    omega
theorem docL_z {sp : ByteArray} {K : Nat} : ∀ (ks : List Nod) (pad : List UInt8), (∀ y ∈ ks, (docN y sp pad).length ≤ 6 * mu y + cnt y * K) → (docL ks sp pad).length ≤ 6 * muL ks + cntL ks * K
  | [], _, _ => by simp [docL]
  | y :: ys, pad, h => by
    have h1 := h y List.mem_cons_self
    have h2 := docL_z ys pad fun z hz => h z (List.mem_cons_of_mem _ hz)
    rw [docL, List.length_append, muL, cntL, Nat.add_mul]
    omega
theorem docN_z {y : Nod} (hy : NdI y) : Zd y → ∀ (space : ByteArray) (pad : List UInt8) (K : Nat), 2 * (pad.length + dep y) + 3900 ≤ K → (docN y space pad).length ≤ 6 * mu y + cnt y * K := by
  induction hy with
  | mk sp nm tx l ks g1 g2 g3 g4 g5 g6 g7 ih =>
    intro hz space pad K hK
    cases hz with
    | mk _ _ _ _ _ z1 z2 z3 =>
    have hn := (name_pos g2).1
    have hA := atD_z l fun a ha => (name_pos (g3.1 a ha).1).1
    have hsp : (spD sp space).length ≤ 9 + 6 * 646 := by
      have hc := clL_len (bl sp)
      rw [bl_len] at hc
      unfold spD
      split
      · exact Nat.zero_le _
      · simp only [List.length_append, List.length_cons, List.length_nil]
        omega
    have hh : (headD sp nm l space pad).length ≤ pad.length + nm.size + 3886 + 6 * szA l := by
      unfold headD
      simp only [List.length_append, List.length_cons, bl_len]
      omega
    have em : mu (.mk sp nm l ks tx) = nm.size + szA l + tx.size + muL ks := by rw [mu]
    have ed : dep (.mk sp nm l ks tx) = depL ks + 1 := by rw [dep]
    rw [ed] at hK
    rw [em]
    by_cases hk : ks = []
    · subst hk
      have e : cnt (.mk sp nm l [] tx) = 1 := rfl
      rw [docN_nil, List.length_append, e]
      have hc := clL_len (bl tx)
      rw [bl_len] at hc
      split
      · simp only [List.length_cons, List.length_nil]; omega
      · simp only [List.length_append, List.length_cons, List.length_nil, bl_len]; omega
    · have e : cnt (.mk sp nm l ks tx) = 1 + cntL ks := rfl
      rw [docN_kids _ _ _ _ _ _ _ hk, List.length_append, List.length_append, List.length_append, List.length_append, e, Nat.add_mul]
      have hL := docL_z (sp := sp) (K := K) ks (pad ++ [32]) fun y hy => ih y hy (z3 y hy) sp (pad ++ [32]) K (by
        have := depL_mem hy
        rw [List.length_append, List.length_singleton]
        omega)
      simp only [List.length_append, List.length_cons, List.length_nil, bl_len]
      omega
theorem cut_ok : ∀ (Y y : Nod) (T s : ByteArray) (k m j : Nat), Nice 3 Y → T = str (docN Y ByteArray.empty []) → k ≤ j → j ≤ T.size → j ≤ k + 7 → m ≤ 6 → m ≤ s.size →
    parseT (T.extract 0 k ++ s.extract 0 m ++ T.extract j T.size) = .ok y → cnt y ≤ 33 → mxA y ≤ 15 ∧ (docN y ByteArray.empty []).length ≤ 200000 := by
  intro Y y T s k m j hY hT hkj hjT hj7 hm hms hp hcn
  obtain ⟨U, hU⟩ : ∃ U, U = T.extract 0 k ++ s.extract 0 m ++ T.extract j T.size := ⟨_, rfl⟩
  rw [← hU] at hp
  have hD := Ct.doc_flat hY
  have hTl : T.data.toList = docN Y ByteArray.empty [] := by rw [hT]; rfl
  rw [← hTl] at hD
  have hX : T.data.toList = seg T 0 k ++ seg T k T.size := by rw [seg_data, ← seg_app (by omega) (by omega)]
  have hYY : T.data.toList = seg T 0 j ++ seg T j T.size := by rw [seg_data, ← seg_app (by omega) (by omega)]
  have hI : (seg s 0 m).length ≤ 6 := by rw [seg_len hms]; omega
  have hUl : U.data.toList = seg T 0 k ++ (seg s 0 m ++ seg T j T.size) := by
    rw [hU, ByteArray.data_append, ByteArray.data_append, Array.toList_append, Array.toList_append, List.append_assoc]
    rfl
  have hok : TagOk U := by
    intro P w post Rs h hw hr h6
    rw [hUl] at h
    refine ⟨Ct.tag_le hD hX hYY hI hr h6 hw h, ?_⟩
    exact Ct.run_le hD hX hYY hI (M := P ++ 60 :: w) (E := post) (by rw [h]; simp) h6
  obtain ⟨z1, z2⟩ := parse_z hok hp
  have hUz : U.size ≤ 4634 := by
    have h1 := docN_bd 3 3 Y ByteArray.empty [] hY (by decide) rfl
    have h2 := nice_cnt3 Y hY
    have h3 : T.size = (docN Y ByteArray.empty []).length := by rw [hT, str_size]
    have h4 := congrArg List.length hUl
    rw [List.length_append, List.length_append, seg_len (by omega), seg_len hms, seg_len (Nat.le_refl _), Array.length_toList] at h4
    have h5 : U.size = U.data.size := rfl
    omega
  refine ⟨z1.mx, ?_⟩
  have hd := parse_dp hp
  have := docN_z (parse_ni hp) z1 ByteArray.empty [] (2 * 32 + 3900) (by simp; omega)
  have h6 : cnt y * (2 * 32 + 3900) ≤ 33 * (2 * 32 + 3900) := Nat.mul_le_mul_right _ hcn
  omega
end Xm
end Go.Proofs.YtdpkhmfolmcejaaGreatDoor

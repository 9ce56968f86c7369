/- Plain law of reach: where tokens may be, stage by stage, as they are come to. No program. -/
/- A map of the call's own whose keys are numbered as they come: the list of its keys. No program. -/
import Derived.Test.YtcnmaplopbbmaaaRPlay
import Derived.Test.YtcnmaplopbbmaaaMAf
import Derived.Maps.OwnSet
import Derived.Maps.Views
namespace Go.Proofs.Ytcnmaplopbbmaaa
open Go.RowKit
namespace Rs
abbrev M := List Bool
/-- the place of x in ls; the length: there is none -/
def pos (ls : List M) (x : M) : Nat := ls.findIdx (· == x)
/-- x, if it is new -/
def add (ls : List M) (x : M) : List M := if pos ls x < ls.length then ls else ls ++ [x]
abbrev Row := List (Int × Int)
def step (a : List M × Row) (t : Gr.Tn) : List M × Row := (add a.1 t.2.1, a.2 ++ [(t.1, (pos a.1 t.2.1 : Int))])
def run (ls : List M) (ts : List Gr.Tn) : List M × Row := ts.foldl step (ls, [])
/-- the first i places looked at: all that was come to, what leads where -/
def stage (f : M → List Gr.Tn) (m0 : M) : Nat → List M × List Row
  | 0 => ([m0], [])
  | i + 1 => match (stage f m0 i).1[i]? with
    | some l => ((run (stage f m0 i).1 (f l)).1, (stage f m0 i).2 ++ [(run (stage f m0 i).1 (f l)).2])
    | none => stage f m0 i
theorem pos_le (ls : List M) (x : M) : pos ls x ≤ ls.length := List.findIdx_le_length
theorem pos_at {ls : List M} {x : M} (h : pos ls x < ls.length) : ls[pos ls x]? = some x := by
  rw [List.getElem?_eq_getElem h]
  have := List.findIdx_getElem (p := (· == x)) (xs := ls) (w := h)
  simp at this
  unfold pos
  rw [this]
theorem pos_mem {ls : List M} {x : M} : pos ls x < ls.length ↔ x ∈ ls := by
  unfold pos
  rw [List.findIdx_lt_length]
  simp
/-- where no two are alike, the place is told by any one that is alike -/
theorem pos_eq {ls : List M} {x : M} (hn : ls.Nodup) {j : Nat} (hj : ls[j]? = some x) : pos ls x = j := by
  have hm : x ∈ ls := List.mem_of_getElem? hj
  have h1 := pos_at (pos_mem.2 hm)
  have hj' := (List.getElem?_eq_some_iff.1 hj).1
  exact (List.getElem?_inj (pos_mem.2 hm) hn).1 (h1.trans hj.symm)
theorem add_nodup {ls : List M} (h : ls.Nodup) (x : M) : (add ls x).Nodup := by
  unfold add
  split
  · exact h
  · rename_i hn
    rw [pos_mem] at hn
    rw [List.nodup_append]
    exact ⟨h, by simp, fun a ha b hb => by simp at hb; subst hb; intro e; subst e; exact hn ha⟩
theorem add_len (ls : List M) (x : M) : ls.length ≤ (add ls x).length ∧ (add ls x).length ≤ ls.length + 1 := by
  unfold add
  split <;> simp
theorem pos_add (ls : List M) (x : M) : pos ls x < (add ls x).length := by
  unfold add
  split
  · assumption
  · have := pos_le ls x
    simp
    omega
theorem add_pre (ls : List M) (x : M) : ∃ r, add ls x = ls ++ r := by
  unfold add
  split
  · exact ⟨[], by simp⟩
  · exact ⟨[x], rfl⟩
theorem fold_inv (ts : List Gr.Tn) : ∀ (a : List M × Row), (ts.foldl step a).2.length = a.2.length + ts.length ∧ a.1.length ≤ (ts.foldl step a).1.length ∧ (ts.foldl step a).1.length ≤ a.1.length + ts.length ∧ (a.1.Nodup → (ts.foldl step a).1.Nodup) ∧ (∃ r, (ts.foldl step a).1 = a.1 ++ r) := by
  induction ts with
  | nil => intro a; exact ⟨rfl, Nat.le_refl _, Nat.le_refl _, id, [], by simp⟩
  | cons t ts ih =>
    intro a
    rw [List.foldl_cons]
    obtain ⟨h1, h2, h3, h4, r, h5⟩ := ih (step a t)
    obtain ⟨g1, g2⟩ := add_len a.1 t.2.1
    obtain ⟨r', hr'⟩ := add_pre a.1 t.2.1
    refine ⟨?_, ?_, ?_, fun hn => h4 (add_nodup hn _), r' ++ r, ?_⟩
    · rw [h1]; simp [step]; omega
    · exact Nat.le_trans g1 h2
    · refine Nat.le_trans h3 ?_
      simp [step]
      omega
    · rw [h5]
      show add a.1 t.2.1 ++ r = _
      rw [hr', List.append_assoc]
/-- all that is come to has 64 truths; moves lead to what is there -/
def Ok (K : Int) (s : List M × List Row) : Prop := s.1.Nodup ∧ (∀ l ∈ s.1, l.length = 64) ∧ ∀ r ∈ s.2, ∀ m ∈ r, -1 ≤ m.1 ∧ m.1 < K ∧ 0 ≤ m.2 ∧ m.2 < s.1.length
structure Good (f : M → List Gr.Tn) (K : Int) : Prop where
  len : ∀ l, l.length = 64 → ∀ t ∈ f l, t.2.1.length = 64
  lab : ∀ l, ∀ t ∈ f l, -1 ≤ t.1 ∧ t.1 < K
theorem run_ok {K : Int} {ts : List Gr.Tn} (h1 : ∀ t ∈ ts, t.2.1.length = 64) (h2 : ∀ t ∈ ts, -1 ≤ t.1 ∧ t.1 < K) : ∀ a : List M × Row, (∀ l ∈ a.1, l.length = 64) → (∀ m ∈ a.2, -1 ≤ m.1 ∧ m.1 < K ∧ 0 ≤ m.2 ∧ m.2 < a.1.length) →
    (∀ l ∈ (ts.foldl step a).1, l.length = 64) ∧ ∀ m ∈ (ts.foldl step a).2, -1 ≤ m.1 ∧ m.1 < K ∧ 0 ≤ m.2 ∧ m.2 < (ts.foldl step a).1.length := by
  induction ts with
  | nil => intro a h3 h4; exact ⟨h3, h4⟩
  | cons t ts ih =>
    intro a h3 h4
    rw [List.foldl_cons]
    refine ih (fun x hx => h1 x (by simp [hx])) (fun x hx => h2 x (by simp [hx])) (step a t) ?_ ?_
    · intro l hl
      have : l ∈ add a.1 t.2.1 := hl
      unfold add at this
      split at this
      · exact h3 l this
      · rcases List.mem_append.1 this with e | e
        · exact h3 l e
        · simp at e; rw [e]; exact h1 t (by simp)
    · intro m hm
      have hm' : m ∈ a.2 ++ [(t.1, (pos a.1 t.2.1 : Int))] := hm
      have hl := (add_len a.1 t.2.1).1
      have hp := pos_add a.1 t.2.1
      show _ ∧ _ ∧ _ ∧ m.2 < ((add a.1 t.2.1).length : Int)
      rcases List.mem_append.1 hm' with e | e
      · have := h4 m e
        omega
      · simp at e
        subst e
        have := h2 t (by simp)
        simp only
        omega
theorem stage_ok {f : M → List Gr.Tn} {K : Int} (hf : Good f K) {m0 : M} (h0 : m0.length = 64) : ∀ i, Ok K (stage f m0 i)
  | 0 => ⟨by simp [stage], by simp [stage]; exact h0, by simp [stage]⟩
  | i + 1 => by
    obtain ⟨h1, h2, h3⟩ := stage_ok hf h0 i
    rw [stage]
    cases hl : (stage f m0 i).1[i]? with
    | none => exact ⟨h1, h2, h3⟩
    | some l =>
      have hl64 := h2 l (List.mem_of_getElem? hl)
      obtain ⟨_, g2, _, g4, _⟩ := fold_inv (f l) ((stage f m0 i).1, [])
      obtain ⟨k1, k2⟩ := run_ok (hf.len l hl64) (hf.lab l) ((stage f m0 i).1, []) h2 (by simp)
      refine ⟨g4 h1, k1, fun r hr m hm => ?_⟩
      rcases List.mem_append.1 hr with e | e
      · have := h3 r e m hm
        have g2' : (stage f m0 i).1.length ≤ (run (stage f m0 i).1 (f l)).1.length := g2
        show _ ∧ _ ∧ _ ∧ m.2 < ((run (stage f m0 i).1 (f l)).1.length : Int)
        omega
      · simp at e
        subst e
        exact k2 m hm
theorem stage_rows (f : M → List Gr.Tn) (m0 : M) : ∀ i, i ≤ (stage f m0 i).1.length → (∀ j, j < i → j < (stage f m0 j).1.length) → (stage f m0 i).2.length = i
  | 0, _, _ => rfl
  | i + 1, _, h => by
    have hi := h i (by omega)
    have ih := stage_rows f m0 i (by omega) (fun j hj => h j (by omega))
    rw [stage, List.getElem?_eq_getElem hi]
    simp [ih]
/-- what was there stays -/
theorem stage_pre (f : M → List Gr.Tn) (m0 : M) (i : Nat) : ∃ r, (stage f m0 (i + 1)).1 = (stage f m0 i).1 ++ r := by
  rw [stage]
  cases (stage f m0 i).1[i]? with
  | none => exact ⟨[], by simp⟩
  | some l => exact (fold_inv (f l) ((stage f m0 i).1, [])).2.2.2.2
theorem pop_zero : ∀ (n x : Nat), Mark.pop n x = 0 → x % 2 ^ n = 0
  | 0, x, _ => Nat.mod_one x
  | n + 1, x, h => by
    rw [Mark.pop] at h
    have := pop_zero n (x / 2) (by omega)
    obtain ⟨q, hq⟩ := Nat.dvd_of_mod_eq_zero this
    refine Nat.mod_eq_zero_of_dvd ⟨q, ?_⟩
    have h2 : x = 2 * (x / 2) := by omega
    rw [h2, hq, Nat.pow_succ]
    simp [Nat.mul_assoc, Nat.mul_left_comm]
theorem over_eq {l : M} (h : l.length = 64) : (Mark.pop 64 (Mark.ofBools l) == 0) = (Mark.ofBools l == 0) := by
  have hlt := Mark.ofBools_lt l
  rw [h] at hlt
  rw [Bool.eq_iff_iff]
  simp only [beq_iff_eq]
  constructor
  · intro h0
    have := pop_zero 64 _ h0
    rwa [Nat.mod_eq_of_lt hlt] at this
  · intro h0
    rw [h0]
    decide
/-- marks that are alike are of tokens that are alike -/
theorem mark_inj {l m : M} (hl : l.length = 64) (hm : m.length = 64) (h : Mark.ofBools l = Mark.ofBools m) : l = m := by
  refine List.ext_getElem (by omega) fun i h1 h2 => ?_
  have e := congrArg (fun x => x.testBit i) h
  simp only [Mark.testBit_ofBools] at e
  rwa [List.getD_eq_getElem?_getD, List.getD_eq_getElem?_getD, List.getElem?_eq_getElem h1, List.getElem?_eq_getElem h2] at e
end Rs
end Go.Proofs.Ytcnmaplopbbmaaa
namespace Go.Proofs.Ytcnmaplopbbmaaa
open Go.RowKit Go.Maps
namespace Mo
/-- the keys in the order in which they came; each has its place for its value -/
structure Ord (D : DataW Unit) (l : List Lit) : Prop where
  tidy : Tidy D
  nodup : l.Nodup
  size : Maps.size D = l.length
  hs : ∀ k, Maps.has D k = true ↔ k ∈ l
  at_ : ∀ (q : Nat) (k : Lit), l[q]? = some k → D.atKey k (.lit (.int .i64 0)) = .lit (.int .i64 (q : Int))
theorem ord_nil : Ord (.map []) [] := ⟨tidy_empty, List.nodup_nil, rfl, fun k => by simp [Maps.has], fun q k h => by simp at h⟩
theorem Ord.push {D : DataW Unit} {l : List Lit} (h : Ord D l) {k : Lit} (hk : WideAt.IsKeyLit k) (hn : k ∉ l) : Ord (D.put k (.lit (.int .i64 (l.length : Int)))) (l ++ [k]) where
  tidy := h.tidy.put hk _
  nodup := by
    rw [List.nodup_append]
    exact ⟨h.nodup, by simp, fun a ha b hb => by simp at hb; subst hb; intro e; subst e; exact hn ha⟩
  size := by
    have hf : Maps.has D k = false := by
      cases e : Maps.has D k with
      | false => rfl
      | true => exact (hn ((h.hs k).1 e)).elim
    rw [size_put h.tidy, hf]
    simp [h.size]
  hs := fun k' => by
    by_cases e : k' = k
    · subst e
      rw [has_put_same h.tidy.isMap hk]
      simp
    · rw [has_put_other e, h.hs k']
      simp [e]
  at_ := fun q k' hq => by
    by_cases hl : q < l.length
    · rw [List.getElem?_append_left hl] at hq
      have hm : k' ∈ l := List.mem_of_getElem? hq
      have e : k' ≠ k := fun e => hn (e ▸ hm)
      rw [atKey_put_other e]
      exact h.at_ q k' hq
    · rw [List.getElem?_append_right (by omega)] at hq
      have hq0 : q - l.length = 0 := by
        have := (List.getElem?_eq_some_iff.1 hq).1
        simpa using this
      rw [hq0] at hq
      simp at hq
      subst hq
      have : q = l.length := by omega
      rw [this]
      exact atKey_put_same h.tidy.isMap hk _ _
/-- what a look-up with ok finds -/
theorem Ord.look {D : DataW Unit} {l : List Lit} (h : Ord D l) (k : Lit) (c : Int) (hc : D.atKey k (.lit (.int .i64 0)) = .lit (.int .i64 c)) :
    (k ∉ l ∧ Maps.has D k = false) ∨ (∃ q : Nat, q < l.length ∧ l[q]? = some k ∧ c = (q : Int) ∧ Maps.has D k = true) := by
  by_cases hm : k ∈ l
  · right
    obtain ⟨q, hq, e⟩ := List.mem_iff_getElem.1 hm
    have e' : l[q]? = some k := by rw [List.getElem?_eq_getElem hq, e]
    refine ⟨q, hq, e', ?_, (h.hs k).2 hm⟩
    have := (h.at_ q k e').symm.trans hc
    injection this with this
    injection this with _ this
    exact this.symm
  · left
    refine ⟨hm, ?_⟩
    cases e : Maps.has D k with
    | false => rfl
    | true => exact (hm ((h.hs k).1 e)).elim
/-- a text as a key -/
def kl (s : ByteArray) : Lit := .string s.data.toList
theorem kl_inj {s t : ByteArray} (h : kl s = kl t) : s = t := by
  unfold kl at h
  injection h with h
  exact ByteArray.ext (Array.ext' h)
theorem kl_is (s : ByteArray) : WideAt.IsKeyLit (kl s) := by simp [kl, WideAt.IsKeyLit]
/-- a number as a key -/
def ki (z : Int) : Lit := .int .i64 z
theorem ki_inj {s t : Int} (h : ki s = ki t) : s = t := by
  unfold ki at h
  injection h
theorem ki_is (s : Int) : WideAt.IsKeyLit (ki s) := by simp [ki, WideAt.IsKeyLit]
/-- fewer things than places: a list without repeats in another one -/
theorem nodup_le {α : Type} [DecidableEq α] : ∀ {l m : List α}, l.Nodup → (∀ x ∈ l, x ∈ m) → l.length ≤ m.length
  | [], _, _, _ => Nat.zero_le _
  | a :: l, m, hn, hs => by
    have ha : a ∈ m := hs a (by simp)
    have h1 := nodup_le (l := l) (m := m.erase a) (List.nodup_cons.1 hn).2 (fun x hx => (List.mem_erase_of_ne (fun e => by subst e; exact (List.nodup_cons.1 hn).1 hx)).2 (hs x (by simp [hx])))
    rw [List.length_erase_of_mem ha] at h1
    have : 0 < m.length := List.length_pos_of_mem ha
    simp only [List.length_cons]
    omega
end Mo
end Go.Proofs.Ytcnmaplopbbmaaa

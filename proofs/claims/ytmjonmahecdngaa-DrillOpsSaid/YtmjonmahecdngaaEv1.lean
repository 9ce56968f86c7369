/- Ev: a function's code, run on what is known of its values. First part: what is known, and of which world. No program. -/
import Derived.WalkKit
import Derived.Lib.Hide
namespace Go.Proofs.Ytmjonmahecdngaa
open Go.RowKit
namespace Ev

/-- two lists, place by place -/
def All2 {α β : Type} (R : α → β → Prop) (xs : List α) (vs : List β) : Prop := xs.length = vs.length ∧ ∀ (j : Nat) x v, xs[j]? = some x → vs[j]? = some v → R x v
theorem All2.nil {α β : Type} {R : α → β → Prop} : All2 R [] [] := ⟨rfl, fun j x v h => by simp at h⟩
theorem All2.cons {α β : Type} {R : α → β → Prop} {x : α} {v : β} {xs : List α} {vs : List β} (h : R x v) (k : All2 R xs vs) : All2 R (x :: xs) (v :: vs) :=
  ⟨by simp [k.1], fun j y u hy hu => by
    cases j with
    | zero => simp at hy hu; subst hy; subst hu; exact h
    | succ j => exact k.2 j y u (by simpa using hy) (by simpa using hu)⟩
theorem All2.imp {α β : Type} {R R' : α → β → Prop} {xs : List α} {vs : List β} (h : All2 R xs vs) (k : ∀ x v, R x v → R' x v) : All2 R' xs vs := ⟨h.1, fun j x v a b => k _ _ (h.2 j x v a b)⟩
theorem All2.append {α β : Type} {R : α → β → Prop} {xs ys : List α} {vs us : List β} (h : All2 R xs vs) (k : All2 R ys us) : All2 R (xs ++ ys) (vs ++ us) := by
  refine ⟨by simp [h.1, k.1], fun j x v hx hv => ?_⟩
  by_cases hj : j < xs.length
  · rw [List.getElem?_append_left hj] at hx
    rw [List.getElem?_append_left (by rw [← h.1]; exact hj)] at hv
    exact h.2 j x v hx hv
  · rw [List.getElem?_append_right (by omega)] at hx
    rw [List.getElem?_append_right (by rw [← h.1]; omega), ← h.1] at hv
    exact k.2 _ x v hx hv
theorem All2.take {α β : Type} {R : α → β → Prop} {xs : List α} {vs : List β} (h : All2 R xs vs) (n : Nat) : All2 R (xs.take n) (vs.take n) := by
  refine ⟨by simp [h.1], fun j x v hx hv => ?_⟩
  rw [List.getElem?_take] at hx hv
  split at hx
  · rw [if_pos (by assumption)] at hv; exact h.2 j x v hx hv
  · cases hx
theorem All2.drop {α β : Type} {R : α → β → Prop} {xs : List α} {vs : List β} (h : All2 R xs vs) (n : Nat) : All2 R (xs.drop n) (vs.drop n) := by
  refine ⟨by simp [h.1], fun j x v hx hv => ?_⟩
  rw [List.getElem?_drop] at hx hv
  exact h.2 _ x v hx hv
theorem All2.map {α β γ : Type} {R : α → β → Prop} (f : γ → α) (g : γ → β) (h : ∀ c, R (f c) (g c)) (l : List γ) : All2 R (l.map f) (l.map g) := by
  refine ⟨by simp, fun j x v hx hv => ?_⟩
  rw [List.getElem?_map] at hx hv
  cases hc : l[j]? with
  | none => rw [hc] at hx; cases hx
  | some c => rw [hc] at hx hv; cases hx; cases hv; exact h c

/-- one cell, as far as it is known: a value without an address; a text; an empty slice of whatever place, not nil (without room?); an int's low bits; a slice into an object; an empty slice at a place of an object (where it has room); a pointer into one; a function with what it captured; a method of what a pointer points to -/
inductive C where
  | flat (v : Value)
  | str (l : List UInt8)
  | emp (z : Bool)
  | low (k r : Nat)
  | sl (i off len sz : Nat)
  | q (i off sz : Nat)
  | ptr (i off : Nat)
  | fn (f : FuncId) (caps : List (Nat × Nat))
  | mt (f : FuncId) (i off : Nat)
  deriving Inhabited
/-- one value: a cell, or a struct's or an array's cells -/
inductive S where
  | c (x : C)
  | a (cs : List C)
  deriving Inhabited
/-- what a slot holds: that is not known; nothing yet (or an operation that was passed over); a value; results -/
inductive PV where
  | any
  | skip
  | s (x : S)
  | t (xs : List S)
  deriving Inhabited
/-- an object: its cells; the type of its block; may it be written; is it still known; does its block end with it -/
structure O where
  cells : List C
  ty : TypeId
  rw : Bool
  live : Bool
  full : Bool
  deriving Inhabited
/-- the objects, and the least one that was written (of those that a call found) -/
structure St where
  h : List O
  lo : Nat
abbrev Env := List PV
/-- where an object lies: its block, its first cell there, how many cells the block has -/
structure Pl where
  b : Nat
  o : Nat
  n : Nat
abbrev M := Nat → Option Pl

theorem ite_some {c : Prop} [Decidable c] (A B : Addr) : (if c then some A else some B) = some (if c then A else B) := by split <;> rfl
/-- a value of one cell, that is -/
def one (v : Value) : Bool := v.oneCell'
def str' (l : List UInt8) : Value := .string ⟨l.toArray⟩

def VC (m : M) : C → Value → Prop
  | .flat v, x => x = v ∧ one v = true
  | .str l, x => x = str' l
  | .emp z, x => ∃ a cap, x = .slice (some a) 0 cap ∧ (z = true → cap = 0)
  | .low k r, x => ∃ n : Int, x = .int .i64 n ∧ n % ((2 ^ k : Nat) : Int) = (r : Int)
  | .sl i off len sz, x => ∃ p cap, m i = some p ∧ x = .slice (some ⟨p.b, p.o + off, none⟩) len cap ∧ len ≤ cap ∧ cap ≤ maxLen ∧ p.o + off + cap * sz ≤ p.n
  | .q i off sz, x => ∃ p a cap, m i = some p ∧ x = .slice (some a) 0 cap ∧ cap ≤ maxLen ∧ (0 < cap → a = ⟨p.b, p.o + off, none⟩ ∧ p.o + off + cap * sz ≤ p.n)
  | .ptr i off, x => ∃ p, m i = some p ∧ x = .pointer (some ⟨p.b, p.o + off, none⟩)
  | .fn f caps, x => ∃ as : List Value, x = .func (.func f) #[] as.toArray ∧ All2 (fun c v => ∃ p, m c.1 = some p ∧ v = .pointer (some ⟨p.b, p.o + c.2, none⟩)) caps as
  | .mt f i off, x => ∃ p, m i = some p ∧ x = .func (.func f) #[.pointer (some ⟨p.b, p.o + off, none⟩)] #[]
def VS (m : M) : S → Value → Prop
  | .c x, v => VC m x v
  | .a cs, v => ∃ vs : List Value, v = .agg vs.toArray ∧ All2 (VC m) cs vs
def VP (m : M) : PV → Value → Prop
  | .any, _ => True
  | .skip, v => v = undef
  | .s x, v => VS m x v
  | .t xs, v => ∃ vs : List Value, v = .tuple vs.toArray ∧ All2 (VS m) xs vs

theorem VC.one {m : M} {c : C} {v : Value} (h : VC m c v) : v.oneCell' = true := by
  cases c with
  | flat u => obtain ⟨rfl, h⟩ := h; exact h
  | str l => cases h; rfl
  | emp z => obtain ⟨a, cap, rfl, _⟩ := h; rfl
  | low k r => obtain ⟨n, rfl, _⟩ := h; rfl
  | sl i off len sz => obtain ⟨p, cap, _, rfl, _⟩ := h; rfl
  | q i off sz => obtain ⟨p, a, cap, _, rfl, _⟩ := h; rfl
  | ptr i off => obtain ⟨p, _, rfl⟩ := h; rfl
  | fn f caps => obtain ⟨as, rfl, _⟩ := h; rfl
  | mt f i off => obtain ⟨p, _, rfl⟩ := h; rfl
/-- the objects stay where they are -/
def Ext (m m' : M) (n : Nat) : Prop := ∀ i p, i < n → m i = some p → m' i = some p
theorem VC.ext {m m' : M} {c : C} {v : Value} (h : VC m c v) (k : ∀ i p, m i = some p → m' i = some p) : VC m' c v := by
  cases c with
  | flat u => exact h
  | str l => exact h
  | emp z => exact h
  | low k r => exact h
  | sl i off len sz => obtain ⟨p, cap, h1, h2⟩ := h; exact ⟨p, cap, k _ _ h1, h2⟩
  | q i off sz => obtain ⟨p, a, cap, h1, h2⟩ := h; exact ⟨p, a, cap, k _ _ h1, h2⟩
  | ptr i off => obtain ⟨p, h1, h2⟩ := h; exact ⟨p, k _ _ h1, h2⟩
  | fn f caps => obtain ⟨as, h1, h2⟩ := h; exact ⟨as, h1, h2.imp fun c v ⟨p, a, b⟩ => ⟨p, k _ _ a, b⟩⟩
  | mt f i off => obtain ⟨p, h1, h2⟩ := h; exact ⟨p, k _ _ h1, h2⟩
theorem VS.ext {m m' : M} {c : S} {v : Value} (h : VS m c v) (k : ∀ i p, m i = some p → m' i = some p) : VS m' c v := by
  cases c with
  | c x => exact VC.ext h k
  | a cs => obtain ⟨vs, h1, h2⟩ := h; exact ⟨vs, h1, h2.imp fun _ _ h => h.ext k⟩
theorem VP.ext {m m' : M} {c : PV} {v : Value} (h : VP m c v) (k : ∀ i p, m i = some p → m' i = some p) : VP m' c v := by
  cases c with
  | any => exact trivial
  | skip => exact h
  | s x => exact VS.ext h k
  | t cs => obtain ⟨vs, h1, h2⟩ := h; exact ⟨vs, h1, h2.imp fun _ _ h => h.ext k⟩

/-- the objects, in a world -/
structure SR (m : M) (h : List O) (w : World) : Prop where
  dom : ∀ i p, m i = some p → i < h.length
  obj : ∀ i p o, m i = some p → h[i]? = some o → o.live = true → ∃ cur fr, w.heap[p.b]? = some (.cells cur o.ty fr) ∧ cur.size = p.n ∧ p.o + o.cells.length ≤ p.n ∧
    (∀ j c, o.cells[j]? = some c → ∃ v, cur[p.o + j]? = some v ∧ VC m c v) ∧ (o.rw = true → fr = (0, 0)) ∧ (o.full = true → p.o = 0 ∧ o.cells.length = p.n)
  sep : ∀ i j p q o o', m i = some p → m j = some q → h[i]? = some o → h[j]? = some o' → o.rw = true → o.live = true → o'.live = true → i ≠ j → p.b ≠ q.b

/-- what a run may have turned: objects from lo on (of the n that it found), and what is new -/
structure Fr (lo : Nat) (m : M) (n : Nat) (w : World) (m' : M) (w' : World) : Prop where
  same : ∀ i p, m i = some p → m' i = some p
  back : ∀ i, i < n → m' i = m i
  new : ∀ j p, n ≤ j → m' j = some p → w.heap.size ≤ p.b ∨ ∃ i q, lo ≤ i ∧ i < n ∧ m i = some q ∧ q.b = p.b
  size : w.heap.size ≤ w'.heap.size
  os : w'.os = w.os
  tape : w'.tape = w.tape
  output : w'.output = w.output
  keep : ∀ b, b < w.heap.size → (∀ i p, lo ≤ i → i < n → m i = some p → p.b ≠ b) → w'.heap[b]? = w.heap[b]?

theorem Fr.refl (lo : Nat) {m : M} {n : Nat} (w : World) (hd : ∀ i p, m i = some p → i < n) : Fr lo m n w m w :=
  ⟨fun _ _ h => h, fun _ _ => rfl, fun j p hj h => by have := hd j p h; omega, Nat.le_refl _, rfl, rfl, rfl, fun _ _ _ => rfl⟩
theorem Fr.trans {lo : Nat} {m m1 m2 : M} {n n1 : Nat} {w w1 w2 : World} (h : Fr lo m n w m1 w1) (k : Fr lo m1 n1 w1 m2 w2) (hn : n ≤ n1) : Fr lo m n w m2 w2 where
  same := fun i p a => k.same i p (h.same i p a)
  back := fun i hi => (k.back i (by omega)).trans (h.back i hi)
  new := fun j p hj a => by
    by_cases hj1 : j < n1
    · rw [k.back j hj1] at a; exact h.new j p hj a
    · rcases k.new j p (by omega) a with c | ⟨i, q, c1, c2, c3, c4⟩
      · exact .inl (Nat.le_trans h.size c)
      · by_cases hi : i < n
        · rw [h.back i hi] at c3; exact .inr ⟨i, q, c1, hi, c3, c4⟩
        · rcases h.new i q (by omega) c3 with d | ⟨i', q', d1, d2, d3, d4⟩
          · exact .inl (by omega)
          · exact .inr ⟨i', q', d1, d2, d3, d4.trans c4⟩
  size := Nat.le_trans h.size k.size
  os := k.os.trans h.os
  tape := k.tape.trans h.tape
  output := k.output.trans h.output
  keep := fun b hb hne => by
    rw [k.keep b (Nat.lt_of_lt_of_le hb h.size) fun i p c1 c2 c3 => ?_]
    · exact h.keep b hb hne
    · by_cases hi : i < n
      · rw [h.back i hi] at c3; exact hne i p c1 hi c3
      · rcases h.new i p (by omega) c3 with d | ⟨i', q', d1, d2, d3, d4⟩
        · omega
        · rw [← d4]; exact hne i' q' d1 d2 d3
theorem Fr.mono {lo lo' : Nat} {m m' : M} {n : Nat} {w w' : World} (h : Fr lo m n w m' w') (k : lo' ≤ lo) : Fr lo' m n w m' w' :=
  { h with
    new := fun j p hj a => (h.new j p hj a).imp id fun ⟨i, q, c1, c⟩ => ⟨i, q, by omega, c⟩
    keep := fun b hb hne => h.keep b hb fun i p c1 => hne i p (by omega) }

/-- what a run leaves -/
structure Res (m : M) (st : St) (w : World) (m' : M) (st' : St) (w' : World) : Prop where
  sr : SR m' st'.h w'
  fr : Fr st'.lo m st.h.length w m' w'
  len : st.h.length ≤ st'.h.length
  lo : st'.lo ≤ st.lo
  old : ∀ i, i < st.h.length → i < st'.lo → st'.h[i]? = st.h[i]?
theorem Res.refl {m : M} {st : St} {w : World} (h : SR m st.h w) : Res m st w m st w := ⟨h, Fr.refl _ w h.dom, Nat.le_refl _, Nat.le_refl _, fun _ _ _ => rfl⟩
theorem Res.trans {m m1 m2 : M} {st st1 st2 : St} {w w1 w2 : World} (h : Res m st w m1 st1 w1) (k : Res m1 st1 w1 m2 st2 w2) : Res m st w m2 st2 w2 :=
  ⟨k.sr, (h.fr.mono k.lo).trans k.fr h.len, Nat.le_trans h.len k.len, Nat.le_trans k.lo h.lo, fun i hi hl => (k.old i (by have := h.len; omega) hl).trans (h.old i hi (by have := k.lo; omega))⟩

/-- a draw turns nothing -/
theorem SR.drew {m : M} {h : List O} {w : World} (hs : SR m h w) : SR m h w.drew := ⟨hs.dom, hs.obj, hs.sep⟩

/-- a new object, in a new block -/
def put (m : M) (i : Nat) (p : Pl) : M := fun j => if j = i then some p else m j
theorem put_same (m : M) (i : Nat) (p : Pl) : put m i p i = some p := by simp [put]
theorem put_ne (m : M) {i j : Nat} (p : Pl) (h : j ≠ i) : put m i p j = m j := by simp [put, h]
theorem put_ext {m : M} {n : Nat} (p : Pl) (hd : ∀ i q, m i = some q → i < n) : ∀ i q, m i = some q → put m n p i = some q := fun i q h => by
  have := hd i q h
  rw [put_ne m p (by omega), h]

theorem SR.lt {m : M} {h : List O} {w : World} (hs : SR m h w) {i : Nat} {p : Pl} {o : O} (hm : m i = some p) (ho : h[i]? = some o) (hl : o.live = true) : p.b < w.heap.size := by
  obtain ⟨cur, fr, hb, _⟩ := hs.obj i p o hm ho hl
  exact (Array.getElem?_eq_some_iff.1 hb).1

/-- a new block with these cells is a new object -/
theorem Res.alloc {m : M} {st : St} {w : World} (hs : SR m st.h w) (cs : List C) (vs : List Value) (T : TypeId) (hv : All2 (VC m) cs vs) (extra : List Value) (fl : Bool) (hfl : fl = true → extra = []) :
    Res m st w (put m st.h.length ⟨w.heap.size, 0, vs.length + extra.length⟩) ⟨st.h ++ [⟨cs, T, true, true, fl⟩], st.lo⟩ (w.alloc (.cells (vs ++ extra).toArray T)) := by
  have hext := put_ext (n := st.h.length) ⟨w.heap.size, 0, vs.length + extra.length⟩ hs.dom
  have hold : ∀ b, b < w.heap.size → (w.alloc (.cells (vs ++ extra).toArray T)).heap[b]? = w.heap[b]? := fun b hb => Below.heap_alloc w _ b hb
  refine ⟨⟨?_, ?_, ?_⟩, ⟨hext, ?_, ?_, by simp, rfl, rfl, rfl, fun b hb _ => hold b hb⟩, by simp, Nat.le_refl _, fun i hi _ => by simp [List.getElem?_append_left hi]⟩
  · intro i p hm
    by_cases hi : i = st.h.length
    · subst hi; simp
    · rw [put_ne _ _ hi] at hm; have := hs.dom i p hm; simp; omega
  · intro i p o hm ho hl
    by_cases hi : i = st.h.length
    · subst hi
      rw [put_same] at hm
      cases hm
      have : o = ⟨cs, T, true, true, fl⟩ := by simpa using ho.symm
      subst this
      refine ⟨_, _, heap_alloc_new w _, by simp, by simp [hv.1], fun j c hc => ?_, (fun _ => rfl), (fun h => ⟨rfl, by simp [hfl h, hv.1]⟩)⟩
      have hj : j < vs.length := by rw [← hv.1]; exact (List.getElem?_eq_some_iff.1 hc).1
      refine ⟨vs[j], by simp [List.getElem?_append_left hj], (hv.2 j c vs[j] hc (by simp [hj])).ext hext⟩
    · rw [put_ne _ _ hi] at hm
      have hlt := hs.dom i p hm
      rw [List.getElem?_append_left hlt] at ho
      obtain ⟨cur, fr, h1, h2, h3, h4, h5⟩ := hs.obj i p o hm ho hl
      exact ⟨cur, fr, by rw [hold _ (Array.getElem?_eq_some_iff.1 h1).1]; exact h1, h2, h3, fun j c hc => by obtain ⟨v, a, b⟩ := h4 j c hc; exact ⟨v, a, b.ext hext⟩, h5⟩
  · intro i j p q o o' hi hj ho ho' hrw hl hl' hne
    by_cases ei : i = st.h.length
    · subst ei
      rw [put_same] at hi; cases hi
      rw [put_ne _ _ (Ne.symm hne)] at hj
      rw [List.getElem?_append_left (hs.dom j q hj)] at ho'
      have := hs.lt hj ho' hl'
      show w.heap.size ≠ q.b
      omega
    · rw [put_ne _ _ ei] at hi
      rw [List.getElem?_append_left (hs.dom i p hi)] at ho
      by_cases ej : j = st.h.length
      · subst ej
        rw [put_same] at hj; cases hj
        have := hs.lt hi ho hl
        show p.b ≠ w.heap.size
        omega
      · rw [put_ne _ _ ej] at hj
        rw [List.getElem?_append_left (hs.dom j q hj)] at ho'
        exact hs.sep i j p q o o' hi hj ho ho' hrw hl hl' hne
  · intro i hi
    exact put_ne _ _ (by omega)
  · intro j p hj hm
    by_cases ej : j = st.h.length
    · subst ej; rw [put_same] at hm; cases hm; exact .inl (Nat.le_refl _)
    · rw [put_ne _ _ ej] at hm; have := hs.dom j p hm; omega

/-- an object is written -/
theorem Res.write {m : M} {st : St} {w : World} (hs : SR m st.h w) {i : Nat} {p : Pl} {o : O} (hm : m i = some p) (ho : st.h[i]? = some o) (hl : o.live = true) (hrw : o.rw = true)
    {cur : Array Value} (hb : w.heap[p.b]? = some (.cells cur o.ty (0, 0))) (cs : List C) (cur' : Array Value) (hsz : cur'.size = cur.size) (hn : p.o + cs.length ≤ cur'.size)
    (hc : ∀ (j : Nat) c, cs[j]? = some c → ∃ v, cur'[p.o + j]? = some v ∧ VC m c v) (fl : Bool) (hfl : fl = true → p.o = 0 ∧ cs.length = cur.size) :
    Res m st w m ⟨st.h.set i { o with cells := cs, full := fl }, min st.lo i⟩ (w.setRow p.b cur') := by
  have hi : i < st.h.length := hs.dom i p hm
  have hpn : cur.size = p.n := by
    obtain ⟨cur0, fr, h1, h2, _⟩ := hs.obj i p o hm ho hl
    rw [hb] at h1; cases h1; exact h2
  refine ⟨⟨fun j q hj => by simpa using hs.dom j q hj, ?_, ?_⟩, ⟨fun _ _ h => h, fun _ _ => rfl, fun j q hj hmj => by have := hs.dom j q hmj; omega, by simp, rfl, rfl, rfl, fun b hb' hne => ?_⟩, by simp, Nat.min_le_left _ _, fun j hj hjl => ?_⟩
  · intro j q o' hj ho' hl'
    by_cases e : j = i
    · subst e
      rw [hm] at hj; cases hj
      have : o' = { o with cells := cs, full := fl } := by simpa [List.getElem?_set, hi] using ho'.symm
      subst this
      refine ⟨cur', (0, 0), setRow_heap w p.b cur cur' _ _ hb, by rw [hsz, hpn], by show p.o + cs.length ≤ p.n; rw [← hpn, ← hsz]; omega, hc, (fun _ => rfl), (fun h => ⟨(hfl h).1, (hfl h).2.trans hpn⟩)⟩
    · have ho'' : st.h[j]? = some o' := by simpa [List.getElem?_set, Ne.symm e] using ho'
      obtain ⟨c1, fr, h1, h2⟩ := hs.obj j q o' hj ho'' hl'
      exact ⟨c1, fr, by rw [setRow_other w p.b q.b cur' (hs.sep i j p q o o' hm hj ho ho'' hrw hl hl' (Ne.symm e)).symm]; exact h1, h2⟩
  · intro a b pa pb oa ob ha hb1 hoa hob hrwa hla hlb hne
    have key : ∀ (j : Nat) (oj : O), (st.h.set i { o with cells := cs, full := fl })[j]? = some oj → ∃ oj', st.h[j]? = some oj' ∧ oj'.rw = oj.rw ∧ oj'.live = oj.live := fun j oj hj => by
      by_cases e : j = i
      · subst e
        have : oj = { o with cells := cs, full := fl } := by simpa [List.getElem?_set, hi] using hj.symm
        subst this
        exact ⟨o, ho, rfl, rfl⟩
      · exact ⟨oj, by simpa [List.getElem?_set, Ne.symm e] using hj, rfl, rfl⟩
    obtain ⟨oa', k1, k2, k3⟩ := key a oa hoa
    obtain ⟨ob', j1, j2, j3⟩ := key b ob hob
    exact hs.sep a b pa pb oa' ob' ha hb1 k1 j1 (k2 ▸ hrwa) (k3 ▸ hla) (j3 ▸ hlb) hne
  · exact setRow_other w p.b b cur' (fun e => hne i p (Nat.min_le_right _ _) hi hm e.symm)
  · have : j ≠ i := by
      have : min st.lo i ≤ i := Nat.min_le_right _ _
      show j ≠ i
      have hjl' : j < min st.lo i := hjl
      omega
    simp [Ne.symm this]

/-- an object is known no more -/
theorem SR.kill {m : M} {h : List O} {w : World} (hs : SR m h w) (i : Nat) (o : O) (hi : h[i]? = some o) : SR m (h.set i { o with live := false, cells := [] }) w := by
  have key : ∀ (j : Nat) (oj : O), (h.set i { o with live := false, cells := [] })[j]? = some oj → oj.live = true → h[j]? = some oj := fun j oj hj hl => by
    by_cases e : j = i
    · subst e
      have hlt := (List.getElem?_eq_some_iff.1 hi).1
      have : oj = { o with live := false, cells := [] } := by simpa [List.getElem?_set, hlt] using hj.symm
      subst this
      cases hl
    · simpa [List.getElem?_set, Ne.symm e] using hj
  exact ⟨fun j q hj => by simpa using hs.dom j q hj, fun j q o' hj ho' hl' => hs.obj j q o' hj (key j o' ho' hl') hl',
    fun a b pa pb oa ob ha hb hoa hob hrw hla hlb hne => hs.sep a b pa pb oa ob ha hb (key a oa hoa hla) (key b ob hob hlb) hrw hla hlb hne⟩
end Ev
end Go.Proofs.Ytmjonmahecdngaa

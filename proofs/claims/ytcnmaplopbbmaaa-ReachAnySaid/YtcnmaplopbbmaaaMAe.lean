/- Graphs, plain: nodes and edges as they lie in memory; what comes into a node and goes out of it; places. No program. -/
/- Graphs and tokens, plain: what may happen where tokens are (chapter 16, as galliardref13 has it). No program. -/
import Derived.Test.YtcnmaplopbbmaaaMAd
import Derived.Lib.Slices
namespace Go.Proofs.Ytcnmaplopbbmaaa
open Go.RowKit
namespace Gr
/-- structs of k cells, one behind the other -/
theorem flat_len {α : Type} {f : α → List Value} {k : Nat} (hk : ∀ x, (f x).length = k) : ∀ xs : List α, (xs.flatMap f).length = xs.length * k
  | [] => by simp
  | x :: xs => by
    rw [List.flatMap_cons, List.length_append, hk, flat_len hk xs, List.length_cons, Nat.succ_mul]
    omega
theorem flat_get {α : Type} {f : α → List Value} {k : Nat} (hk : ∀ x, (f x).length = k) : ∀ (xs : List α) (j : Nat) (x : α), xs[j]? = some x → ∀ q, q < k → (xs.flatMap f)[j * k + q]? = (f x)[q]?
  | [], j, x, h, _, _ => by simp at h
  | y :: xs, 0, x, h, q, hq => by
    simp at h
    subst h
    rw [List.flatMap_cons, List.getElem?_append_left (by rw [hk]; omega), Nat.zero_mul, Nat.zero_add]
  | y :: xs, j + 1, x, h, q, hq => by
    have h' : xs[j]? = some x := by simpa using h
    rw [List.flatMap_cons, List.getElem?_append_right (by rw [hk, Nat.succ_mul]; omega), hk, Nat.succ_mul, show j * k + k + q - k = j * k + q by omega]
    exact flat_get hk xs j x h' q hq
/-- such structs in a slice -/
def Recs {α : Type} (k : Nat) (f : α → List Value) (w : World) (v : Value) (xs : List α) : Prop := Seg k w v xs.length (xs.flatMap f)
theorem Recs.grow {α : Type} {k : Nat} {f : α → List Value} {w w' : World} {v : Value} {xs : List α} (h : Recs k f w v xs) (g : Flow.Grow w w') : Recs k f w' v xs := Seg.grow h g
theorem Recs.form {α : Type} {k : Nat} {f : α → List Value} {w : World} {v : Value} {xs : List α} (h : Recs k f w v xs) : ∃ a cap, v = .slice a xs.length cap := by
  obtain ⟨a, cap, e, _⟩ := h; exact ⟨a, cap, e⟩
theorem Recs.at {α : Type} {k : Nat} {f : α → List Value} (hk : ∀ x, (f x).length = k) (h0 : 0 < k) {w : World} {a : Option Addr} {n cap : Nat} {xs : List α} (h : Recs k f w (.slice a n cap) xs) {j : Nat} {x : α} (hx : xs[j]? = some x) :
    ∃ b off, a = some ⟨b, off, none⟩ ∧ ∀ q u, (f x)[q]? = some u → w.cell? ⟨b, off + (j * k + q), none⟩ = some u := by
  obtain ⟨a', cap', e, hl, _, hc⟩ := h
  cases e
  have hj := (List.getElem?_eq_some_iff.1 hx).1
  have hlen := flat_len hk xs
  have hm : (j + 1) * k ≤ xs.length * k := Nat.mul_le_mul_right _ hj
  rw [Nat.succ_mul] at hm
  obtain ⟨b, off, rfl, _, c0⟩ := hc (j * k) (by omega)
  refine ⟨b, off, rfl, fun q u hu => ?_⟩
  have hq : q < k := by rw [← hk x]; exact (List.getElem?_eq_some_iff.1 hu).1
  obtain ⟨_, _, e1, _, c1⟩ := hc (j * k + q) (by omega)
  cases e1
  rw [c1, flat_get hk xs j x hx q hq, hu]

structure Nd where
  kind : Int
  id : ByteArray
  fr : Int
  to : Int
  msg : Int
  rep : Int
  loop : Bool
def Nd.cells (n : Nd) : List Value := [.int .i64 n.kind, .string n.id, .int .i64 n.fr, .int .i64 n.to, .int .i64 n.msg, .int .i64 n.rep, .bool n.loop]
abbrev Ed := Int × Int
def ecells (e : Ed) : List Value := [.int .i64 e.1, .int .i64 e.2]
theorem Nd.cells_len (n : Nd) : n.cells.length = 7 := rfl
theorem ecells_len (e : Ed) : (ecells e).length = 2 := rfl
def NdsAt (w : World) (v : Value) (ns : List Nd) : Prop := Recs 7 Nd.cells w v ns
def EsAt (w : World) (v : Value) (es : List Ed) : Prop := Recs 2 ecells w v es
theorem EsAt.at {w : World} {a : Option Addr} {n cap : Nat} {es : List Ed} (h : EsAt w (.slice a n cap) es) {j : Nat} (hj : j < es.length) : ∃ b off, a = some ⟨b, off, none⟩ ∧
    w.cell? ⟨b, off + j * 2, none⟩ = some (.int .i64 (es.getD j (0, 0)).1) ∧ w.cell? ⟨b, off + j * 2 + 1, none⟩ = some (.int .i64 (es.getD j (0, 0)).2) := by
  have hx : es[j]? = some (es.getD j (0, 0)) := by rw [List.getD_eq_getElem?_getD, List.getElem?_eq_getElem hj]; rfl
  obtain ⟨b, off, rfl, hc⟩ := Recs.at ecells_len (by omega) h hx
  exact ⟨b, off, rfl, hc 0 _ rfl, by rw [Nat.add_assoc]; exact hc 1 _ rfl⟩
def nd0 : Nd := ⟨0, ⟨#[]⟩, 0, 0, 0, 0, false⟩
theorem NdsAt.at {w : World} {a : Option Addr} {n cap : Nat} {ns : List Nd} (h : NdsAt w (.slice a n cap) ns) {j : Nat} (hj : j < ns.length) : ∃ b off, a = some ⟨b, off, none⟩ ∧
    w.cell? ⟨b, off + j * 7, none⟩ = some (.int .i64 (ns.getD j nd0).kind) ∧ w.cell? ⟨b, off + j * 7 + 1, none⟩ = some (.string (ns.getD j nd0).id) ∧ w.cell? ⟨b, off + j * 7 + 2, none⟩ = some (.int .i64 (ns.getD j nd0).fr) ∧ w.cell? ⟨b, off + j * 7 + 3, none⟩ = some (.int .i64 (ns.getD j nd0).to) ∧
    w.cell? ⟨b, off + j * 7 + 4, none⟩ = some (.int .i64 (ns.getD j nd0).msg) ∧ w.cell? ⟨b, off + j * 7 + 5, none⟩ = some (.int .i64 (ns.getD j nd0).rep) ∧ w.cell? ⟨b, off + j * 7 + 6, none⟩ = some (.bool (ns.getD j nd0).loop) := by
  have hx : ns[j]? = some (ns.getD j nd0) := by rw [List.getD_eq_getElem?_getD, List.getElem?_eq_getElem hj]; rfl
  obtain ⟨b, off, rfl, hc⟩ := Recs.at Nd.cells_len (by omega) h hx
  refine ⟨b, off, rfl, hc 0 _ rfl, ?_, ?_, ?_, ?_, ?_, ?_⟩ <;> rw [Nat.add_assoc]
  · exact hc 1 _ rfl
  · exact hc 2 _ rfl
  · exact hc 3 _ rfl
  · exact hc 4 _ rfl
  · exact hc 5 _ rfl
  · exact hc 6 _ rfl
/-- the places of the first i edges that come into a node, and of those that go out of it -/
def inE (es : List Ed) (n : Int) : Nat → List Int
  | 0 => []
  | i + 1 => inE es n i ++ if (es.getD i (0, 0)).2 = n then [(i : Int)] else []
def outE (es : List Ed) (n : Int) : Nat → List Int
  | 0 => []
  | i + 1 => outE es n i ++ if (es.getD i (0, 0)).1 = n then [(i : Int)] else []
def tasks (ns : List Nd) : Nat → List Int
  | 0 => []
  | i + 1 => tasks ns i ++ if (ns.getD i nd0).kind = 3 then [(i : Int)] else []
theorem inE_len (es : List Ed) (n : Int) : ∀ i, (inE es n i).length ≤ i
  | 0 => Nat.le_refl _
  | i + 1 => by have := inE_len es n i; rw [inE, List.length_append]; split <;> simp <;> omega
theorem outE_len (es : List Ed) (n : Int) : ∀ i, (outE es n i).length ≤ i
  | 0 => Nat.le_refl _
  | i + 1 => by have := outE_len es n i; rw [outE, List.length_append]; split <;> simp <;> omega
theorem tasks_len (ns : List Nd) : ∀ i, (tasks ns i).length ≤ i
  | 0 => Nat.le_refl _
  | i + 1 => by have := tasks_len ns i; rw [tasks, List.length_append]; split <;> simp <;> omega
end Gr
end Go.Proofs.Ytcnmaplopbbmaaa
namespace Go.Proofs.Ytcnmaplopbbmaaa
open Go.RowKit
namespace Gr
/-- a graph: its nodes and edges; how many participants and messages -/
structure G where
  ns : List Nd
  es : List Ed
  np : Nat
  nm : Nat
def G.inn (g : G) (n : Int) : List Int := inE g.es n g.es.length
def G.out (g : G) (n : Int) : List Int := outE g.es n g.es.length
def G.tasks (g : G) : List Int := Gr.tasks g.ns g.ns.length
def G.nd (g : G) (i : Nat) : Nd := g.ns.getD i nd0
/-- the place of the first x in a list; -1: there is none -/
def idx {α : Type} [DecidableEq α] (l : List α) (x : α) : Int := match l.findIdx? (fun y => decide (y = x)) with
  | some i => (i : Int)
  | none => -1
def G.busy (g : G) (n : Int) : Int := if Lib.idxOf g.tasks n < 0 then -1 else (g.es.length : Int) + 2 * Lib.idxOf g.tasks n
def G.done (g : G) (n : Int) : Int := if g.busy n < 0 then -1 else g.busy n + 1
theorem idxFrom_lt (x : Int) : ∀ (l : List Int) (i : Nat), -1 ≤ Lib.idxFrom l x i ∧ Lib.idxFrom l x i < (i + l.length : Nat)
  | [], i => by simp [Lib.idxFrom]; omega
  | z :: l, i => by
    have := idxFrom_lt x l (i + 1)
    simp only [Lib.idxFrom]
    split
    · simp; omega
    · simp only [List.length_cons]; omega
theorem idxOf_lt (l : List Int) (x : Int) : -1 ≤ Lib.idxOf l x ∧ Lib.idxOf l x < (l.length : Nat) := by
  have := idxFrom_lt x l 0
  simpa [Lib.idxOf] using this
/-- interactions -/
abbrev Lb := Int × Int × Int
def lcells (l : Lb) : List Value := [.int .i64 l.1, .int .i64 l.2.1, .int .i64 l.2.2]
def Nd.first (n : Nd) : Lb := (n.fr, n.to, n.msg)
def Nd.back (n : Nd) : Lb := (n.to, n.fr, n.rep)
/-- tokens: at which places; would two have been at one? -/
abbrev Tk := List Bool × Bool
def put1 (t : Tk) (p : Int) : Tk := (t.1.set p.toNat true, t.2 || t.1.getD p.toNat false)
def wo (t : Tk) (p : Int) : Tk := (t.1.set p.toNat false, t.2)
def at1 (t : Tk) (p : Int) : Bool := t.1.getD p.toNat false
def G.outT (g : G) (n : Int) (t : Tk) : Tk := (g.out n).foldl put1 t
def G.fin (g : G) (i : Nat) (t : Tk) : Tk := if (g.nd i).loop then put1 t (g.busy i + 1) else g.outT i t
def G.begun (g : G) (i : Nat) (t : Tk) : Tk := if 0 ≤ (g.nd i).rep then put1 t (g.busy i) else g.fin i t
abbrev Tn := Int × Tk
def G.taskT (g : G) (L : List Lb) (i : Nat) (t : Tk) : List Tn :=
  ((g.inn i).flatMap fun p => if at1 t p then [(idx L (g.nd i).first, g.begun i (wo t p))] else []) ++
  (if at1 t (g.busy i) then [(idx L (g.nd i).back, g.fin i (wo t (g.busy i)))] else []) ++
  (if at1 t (g.busy i + 1) then [(idx L (g.nd i).first, g.begun i (wo t (g.busy i + 1))), (-1, g.outT i (wo t (g.busy i + 1)))] else [])
def G.nodeT (g : G) (L : List Lb) (i : Nat) (t : Tk) : List Tn :=
  if (g.nd i).kind = 3 then g.taskT L i t
  else if (g.nd i).kind = 5 then (if (g.inn i).length > 0 ∧ (g.inn i).all (at1 t) then [(-1, g.outT i ((g.inn i).foldl wo t))] else [])
  else if (g.nd i).kind = 4 ∨ (g.nd i).kind = 6 then (g.inn i).flatMap fun k => (g.out i).flatMap fun o => if at1 t k then [(-1, put1 (wo t k) o)] else []
  else if (g.nd i).kind = 2 then (g.inn i).flatMap fun k => if at1 t k then [(-1, wo t k)] else []
  else []
def G.turns (g : G) (L : List Lb) (t : Tk) : List Tn := (List.range g.ns.length).flatMap fun i => g.nodeT L i t
/-- the tokens of a turn are at 64 places -/
theorem put1_len (t : Tk) (p : Int) : (put1 t p).1.length = t.1.length := by simp [put1]
theorem wo_len (t : Tk) (p : Int) : (wo t p).1.length = t.1.length := by simp [wo]
theorem puts_len (l : List Int) : ∀ t : Tk, (l.foldl put1 t).1.length = t.1.length := by
  induction l with
  | nil => intro t; rfl
  | cons p l ih => intro t; rw [List.foldl_cons, ih, put1_len]
theorem wos_len (l : List Int) : ∀ t : Tk, (l.foldl wo t).1.length = t.1.length := by
  induction l with
  | nil => intro t; rfl
  | cons p l ih => intro t; rw [List.foldl_cons, ih, wo_len]
theorem G.outT_len (g : G) (n : Int) (t : Tk) : (g.outT n t).1.length = t.1.length := puts_len _ t
theorem G.fin_len (g : G) (i : Nat) (t : Tk) : (g.fin i t).1.length = t.1.length := by
  unfold G.fin
  split
  · exact put1_len _ _
  · exact g.outT_len _ _
theorem G.begun_len (g : G) (i : Nat) (t : Tk) : (g.begun i t).1.length = t.1.length := by
  unfold G.begun
  split
  · exact put1_len _ _
  · exact g.fin_len _ _
/-- a graph, as it lies in memory -/
structure GAt (w : World) (v0 v1 v2 v3 : Value) (g : G) : Prop where
  parts : ∃ a c, v0 = .slice a g.np c
  msgs : ∃ a c, v1 = .slice a g.nm c
  nodes : NdsAt w v2 g.ns
  edges : EsAt w v3 g.es
theorem GAt.grow {w w' : World} {v0 v1 v2 v3 : Value} {g : G} (h : GAt w v0 v1 v2 v3 g) (k : Flow.Grow w w') : GAt w' v0 v1 v2 v3 g := ⟨h.parts, h.msgs, Recs.grow h.nodes k, Recs.grow h.edges k⟩
/-- so many of each at most -/
structure G.Few (g : G) : Prop where
  np : g.np ≤ 1000000
  nm : g.nm ≤ 1000000
  ns : g.ns.length ≤ 1000000
  es : g.es.length ≤ 1000000
/-! ### may a graph be? -/
def G.partOk (g : G) (p : Int) : Bool := decide (0 ≤ p ∧ p < (g.np : Int))
def G.nodeOk (g : G) (n : Nd) : Bool :=
  if n.kind < 1 ∨ 6 < n.kind then false
  else if n.kind ≠ 3 then true
  else g.partOk n.fr && g.partOk n.to && decide (n.fr ≠ n.to) && decide (0 ≤ n.msg ∧ n.msg < (g.nm : Int)) && decide (-1 ≤ n.rep ∧ n.rep < (g.nm : Int))
/-- a node breaks a rule -/
def G.nodeBad (g : G) (i : Nat) : Bool :=
  (decide ((g.nd i).kind = 1) && decide (0 < (g.inn i).length)) || ((decide ((g.nd i).kind = 1) || decide ((g.nd i).kind = 3)) && decide ((g.out i).length ≠ 1))
/-- what is wrong first with the nodes from place i on, k of them -/
def G.chkN (g : G) : Nat → Nat → Option Int
  | _, 0 => none
  | i, k + 1 => if g.nodeOk (g.nd i) = false then some 1 else if g.nodeBad i = true then some 9 else g.chkN (i + 1) k
def G.edgeOk (g : G) (e : Ed) : Bool := decide (0 ≤ e.1 ∧ e.1 < (g.ns.length : Int)) && decide (0 ≤ e.2 ∧ e.2 < (g.ns.length : Int))
def G.chkE (g : G) : Nat → Nat → Option Int
  | _, 0 => none
  | i, k + 1 => if g.edgeOk (g.es.getD i (0, 0)) = false then some 1 else g.chkE (i + 1) k
def starts (ns : List Nd) : Nat → Nat
  | 0 => 0
  | i + 1 => starts ns i + if (ns.getD i nd0).kind = 1 then 1 else 0
def G.places (g : G) : Nat := g.es.length + 2 * g.tasks.length
def G.check (g : G) : Int :=
  if 16 < g.np ∨ 64 < g.places then 5
  else match g.chkN 0 g.ns.length with
    | some c => c
    | none => match g.chkE 0 g.es.length with
      | some c => c
      | none => if starts g.ns g.ns.length ≠ 1 then 9 else 0
theorem starts_le (ns : List Nd) : ∀ i, starts ns i ≤ i
  | 0 => Nat.le_refl _
  | i + 1 => by have := starts_le ns i; rw [starts]; split <;> omega
end Gr
end Go.Proofs.Ytcnmaplopbbmaaa

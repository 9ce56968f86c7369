/- Turns that are gathered, in memory; how a game's block turns. -/
import Derived.Test.YtcnmaplopbbmaaaGBegin
import Derived.Test.YtcnmaplopbbmaaaFlowAp
namespace Go.Proofs.Ytcnmaplopbbmaaa
open Go.RowKit
theorem info_turn : (Try.prog.info? 73).map (fun i => (i.zero, i.size, i.bytes)) = some (some (.agg #[.int .i64 0, .int .u64 0]), 2, 16) := by kernel_rfl
theorem by_own {W w w' : World} {B r : Option Nat} (h : W.grownBy w B) (k : w.grownBy w' r) (hr : ∀ g, r = some g → W.heap.size ≤ g) : W.grownBy w' B := by
  refine ⟨k.os.trans h.os, k.tape.trans h.tape, k.output.trans h.output, Nat.le_trans h.size k.size, fun b hb hn => ?_⟩
  exact (k.block b (Nat.lt_of_lt_of_le hb h.size) (fun e => by have := hr b e.symm; omega)).trans (h.block b hb hn)
theorem own_by {w w' : World} {bs e sz n B : Nat} {v : Value} {xs : List Value} (h : w.ownsRow bs e sz v n xs) (g : w.grownBy w' (some B)) (hB : B < bs) : w'.ownsRow bs e sz v n xs :=
  h.kept g (by
    rcases h.2 with ⟨rfl, rfl⟩ | ⟨q, cap, cur, hv, hq, _⟩
    · exact .inl rfl
    · refine .inr fun e => ?_
      rw [hv] at e
      simp [Value.ownBlock] at e
      omega)
theorem own_lo {w : World} {bs e sz n : Nat} {v : Value} {xs : List Value} (h : w.ownsRow bs e sz v n xs) : ∀ g, v.ownBlock = some g → bs ≤ g := fun g e => (h.lt g e).1
section
variable {P : Program} {W w : World} {ops : Array Oper} {rest : List Oper} {o : Oper} {a : Act} {Q : Exit → Act → World → Prop}
/-- elements, laid in a block of their own, are appended to a slice that is the call's own; one older block turns -/
theorem wpList_appB {B : Nat} (hgd : o.guard = none) (s x : Operand) (t : TypeId) (ho : o.op = .call { callee := .builtin .append, args := #[s, x], argTypes := #[t, t] })
    (e : TypeId) (i : TypeInfo) (z : Value) (size bytes : Nat) (ht : P.underlying t = some (.slice e)) (hi : P.info? e = some i) (hz : i.zero = some z)
    (hsize : i.size = size) (hby : i.bytes = bytes) (hzs : z.cells.size = size) (hsz : 0 < size)
    (v : Value) (n : Nat) (xs : List Value) (hs : a.eval s = v) (hown : w.ownsRow W.heap.size e size v n xs) (hg : W.grownBy w (some B))
    (q : Nat) (cs : List Value) (k cp : Nat) (hx : a.eval x = .slice (some ⟨q, 0, none⟩) k cp) (hcs : cs.length = k * size) (hq : ∀ j u, cs[j]? = some u → w.cell? ⟨q, j, none⟩ = some u) (h1 : ∀ u ∈ cs, u.oneCell' = true)
    (hk0 : 0 < k) (hn : n ≤ 10000000000) (hk : k ≤ 10000000000) (hb : bytes ≤ 1000)
    (h : ∀ v' w', w'.ownsRow W.heap.size e size v' (n + k) (xs ++ cs) → W.grownBy w' (some B) → w.grownBy w' v.ownBlock → (∃ g c, v' = .slice (some ⟨g, 0, none⟩) (n + k) c) → wpList P ops Q rest (a.put o.dst v') w') : wpList P ops Q (o :: rest) a w := by
  refine wpList_append_lies (P := P) w hgd s x t ho W.heap.size e i z size bytes ht hi hz hsize hby hzs hsz v n xs hs hown ⟨q, 0, none⟩ k cp cs hx hcs
    (fun j u hj => ?_) h1 hk0 (by unfold maxLen; omega) ?_ hg.size _ rfl fun g cap w' h2 h3 h4 h5 => ?_
  · rw [Addr.add_lit, Nat.zero_add]
    exact hq j u hj
  · have : (n + k) * bytes ≤ 20000000000 * 1000 := Nat.mul_le_mul (by omega) hb
    omega
  · exact h _ _ h2 (by_own hg h3 (own_lo hown)) h3 ⟨_, _, rfl⟩
end
theorem exec_appB {P : Program} {o : Oper} {ρ : Operand → Value} {w : World} (bs : Nat) (s x : Operand) (t : TypeId) (ho : o.op = .call { callee := .builtin .append, args := #[s, x], argTypes := #[t, t] })
    (e : TypeId) (i : TypeInfo) (z : Value) (size bytes : Nat) (ht : P.underlying t = some (.slice e)) (hi : P.info? e = some i) (hz : i.zero = some z)
    (hsize : i.size = size) (hby : i.bytes = bytes) (hzs : z.cells.size = size) (hsz : 0 < size)
    (v : Value) (n : Nat) (xs : List Value) (hs : ρ s = v) (hown : w.ownsRow bs e size v n xs) (hbs : bs ≤ w.heap.size)
    (q : Nat) (cs : List Value) (k cp : Nat) (hx : ρ x = .slice (some ⟨q, 0, none⟩) k cp) (hcs : cs.length = k * size) (hq : ∀ j u, cs[j]? = some u → w.cell? ⟨q, j, none⟩ = some u) (h1 : ∀ u ∈ cs, u.oneCell' = true)
    (hn : n ≤ 10000000000) (hk : k ≤ 10000000000) (hb : bytes ≤ 1000) :
    ∃ v' w', (execOp ρ o).run P w = .ok (.value v') w' ∧ w'.ownsRow bs e size v' (n + k) (xs ++ cs) ∧ w.grownBy w' v.ownBlock := by
  obtain ⟨v', w', hr, h2, h3, _⟩ := run_append_own (P := P) w bs t o.type e i z size bytes ht hi hz hsize hby hzs hsz v n xs hown ⟨q, 0, none⟩ k cp cs hcs (fun j u hj => by rw [Addr.add_lit, Nat.zero_add]; exact hq j u hj) h1 (by unfold maxLen; omega) (by
    have : (n + k) * bytes ≤ 20000000000 * 1000 := Nat.mul_le_mul (by omega) hb
    omega) hbs
  refine ⟨v', w', ?_, h2, h3⟩
  unfold execOp
  simp only [ho, resolve, invoke, builtin, Sem.run_bind, Sem.run_pure, Result.andThen_ok, List.map_toArray, List.map_cons, List.map_nil, hs, hx, hr]
theorem wp_appB {P : Program} {o : Oper} {a : Act} {w : World} {K : Act → World → Prop} {Q : Exit → Act → World → Prop} (bs : Nat) (s x : Operand) (t : TypeId) (ho : o.op = .call { callee := .builtin .append, args := #[s, x], argTypes := #[t, t] })
    (e : TypeId) (i : TypeInfo) (z : Value) (size bytes : Nat) (ht : P.underlying t = some (.slice e)) (hi : P.info? e = some i) (hz : i.zero = some z)
    (hsize : i.size = size) (hby : i.bytes = bytes) (hzs : z.cells.size = size) (hsz : 0 < size)
    (v : Value) (n : Nat) (xs : List Value) (hs : a.eval s = v) (hown : w.ownsRow bs e size v n xs) (hbs : bs ≤ w.heap.size)
    (q : Nat) (cs : List Value) (k cp : Nat) (hx : a.eval x = .slice (some ⟨q, 0, none⟩) k cp) (hcs : cs.length = k * size) (hq : ∀ j u, cs[j]? = some u → w.cell? ⟨q, j, none⟩ = some u) (h1 : ∀ u ∈ cs, u.oneCell' = true)
    (hn : n ≤ 10000000000) (hk : k ≤ 10000000000) (hb : bytes ≤ 1000)
    (h : ∀ v' w', w'.ownsRow bs e size v' (n + k) (xs ++ cs) → w.grownBy w' v.ownBlock → K (a.put o.dst v') w') : o.wp P a w K Q := by
  obtain ⟨v', w', hr, h2, h3⟩ := exec_appB (P := P) (o := o) (ρ := a.eval) bs s x t ho e i z size bytes ht hi hz hsize hby hzs hsz v n xs hs hown hbs q cs k cp hx hcs hq h1 hn hk hb
  exact Flow.run_wp hr (h v' w' h2 h3)
/-- one struct in a block of its own -/
theorem cells_of {w : World} {q : Nat} {cs : Array Value} {qt : TypeId} (hq : w.heap[q]? = some (.cells cs qt (0, 0))) : ∀ (j : Nat) (u : Value), cs.toList[j]? = some u → w.cell? ⟨q, j, none⟩ = some u := fun j u hj => by
  rw [cell_of_row w q _ _ _ _ hq, ← hj]
  exact Array.getElem?_toList.symm
namespace Gr
def tcells (t : Tn) : List Value := [.int .i64 t.1, .int .u64 (Mark.ofBools t.2.1 : Int)]
def bad (ts : List Tn) : Bool := ts.any (·.2.2)
theorem bad_append (a b : List Tn) : bad (a ++ b) = (bad a || bad b) := List.any_append
theorem err_err (a b : Bool) : err b (err a 0) = err (a || b) 0 := by cases a <;> cases b <;> rfl
theorem err_inj {a b : Bool} (h : err a 0 = err b 0) : a = b := by cases a <;> cases b <;> simp [err] at h <;> rfl
section
variable {W w w' : World} {B : Nat} {v0 v1 v2 v3 lv : Value} {g : G} {L : List Lb}
theorem Gm.nd7 {e : Int} {nb no cn i : Nat} (h : Gm w B v0 v1 (.slice (some ⟨nb, no, none⟩) g.ns.length cn) v3 lv g L e) (hi : i < g.ns.length) :
    w.cell? ⟨nb, no + i * 7, none⟩ = some (.int .i64 (g.nd i).kind) ∧ w.cell? ⟨nb, no + i * 7 + 1, none⟩ = some (.string (g.nd i).id) ∧ w.cell? ⟨nb, no + i * 7 + 2, none⟩ = some (.int .i64 (g.nd i).fr) ∧ w.cell? ⟨nb, no + i * 7 + 3, none⟩ = some (.int .i64 (g.nd i).to) ∧ w.cell? ⟨nb, no + i * 7 + 4, none⟩ = some (.int .i64 (g.nd i).msg) ∧ w.cell? ⟨nb, no + i * 7 + 5, none⟩ = some (.int .i64 (g.nd i).rep) ∧ w.cell? ⟨nb, no + i * 7 + 6, none⟩ = some (.bool (g.nd i).loop) := by
  obtain ⟨b, o, e1, cs⟩ := NdsAt.at h.at.nodes hi
  cases e1
  exact cs
theorem Gm.inj {e e' : Int} (h : Gm w B v0 v1 v2 v3 lv g L e) (k : Gm w B v0 v1 v2 v3 lv g L e') : e = e' := by
  have := h.row.symm.trans k.row
  simp [gcells] at this
  exact this
/-- a game's block turns in one way alone: something was wrong, which bT allows -/
structure RB (B : Nat) (v0 v1 v2 v3 lv : Value) (g : G) (L : List Lb) (bT : Bool) (w w' : World) : Prop where
  by_ : w.grownBy w' (some B)
  gm : ∀ u, Gm w B v0 v1 v2 v3 lv g L (err u 0) → ∃ u', Gm w' B v0 v1 v2 v3 lv g L (err u' 0) ∧ (u = true → u' = true) ∧ (u' = true → u = true ∨ bT = true)
theorem RB.grow {bT : Bool} (h : Flow.Grow w w') : RB B v0 v1 v2 v3 lv g L bT w w' := ⟨by_grow h, fun u k => ⟨u, k.grow h, id, .inl⟩⟩
theorem RB.refl {bT : Bool} (w : World) : RB B v0 v1 v2 v3 lv g L bT w w := RB.grow (Flow.grow_refl w)
theorem RB.trans {bT : Bool} {w'' : World} (h : RB B v0 v1 v2 v3 lv g L bT w w') (k : RB B v0 v1 v2 v3 lv g L bT w' w'') : RB B v0 v1 v2 v3 lv g L bT w w'' :=
  ⟨by_trans h.by_ k.by_, fun u h0 => by
    obtain ⟨u1, g1, a1, b1⟩ := h.gm u h0
    obtain ⟨u2, g2, a2, b2⟩ := k.gm u1 g1
    exact ⟨u2, g2, fun e => a2 (a1 e), fun e => (b2 e).elim b1 .inr⟩⟩
theorem RB.call {bT b u : Bool} (h : Gm w B v0 v1 v2 v3 lv g L (err u 0)) (hb : w.grownBy w' (some B)) (k : Gm w' B v0 v1 v2 v3 lv g L (err b (err u 0))) (hT : b = true → bT = true) : RB B v0 v1 v2 v3 lv g L bT w w' :=
  ⟨hb, fun u1 h1 => by
    obtain rfl := err_inj (h.inj h1)
    rw [err_err] at k
    exact ⟨_, k, fun e => by rw [e]; rfl, fun e => by cases hu : u with | true => exact .inl rfl | false => rw [hu, Bool.false_or] at e; exact .inr (hT e)⟩⟩
/-- it was wrong: it stays so -/
theorem RB.wrong {bT : Bool} (h : RB B v0 v1 v2 v3 lv g L bT w w') (k : Gm w B v0 v1 v2 v3 lv g L (err true 0)) : Gm w' B v0 v1 v2 v3 lv g L (err true 0) := by
  obtain ⟨u, h1, h2, _⟩ := h.gm true k
  rwa [h2 rfl] at h1
/-- in the end -/
theorem RB.done {bT u : Bool} (h : RB B v0 v1 v2 v3 lv g L bT w w') (k : Gm w B v0 v1 v2 v3 lv g L (err u 0)) (hT : bT = true → Gm w' B v0 v1 v2 v3 lv g L (err true 0)) : Gm w' B v0 v1 v2 v3 lv g L (err (u || bT) 0) := by
  obtain ⟨u1, h1, h2, h3⟩ := h.gm u k
  cases bT with
  | true => rw [Bool.or_true]; exact hT rfl
  | false =>
    rw [Bool.or_false]
    have : u1 = u := by
      cases u with
      | true => exact h2 rfl
      | false => cases u1 with | false => rfl | true => simp at h3
    rwa [this] at h1
/-- turns that are gathered: whether something was wrong so far, out -/
structure TI (W w : World) (B : Nat) (v0 v1 v2 v3 lv : Value) (g : G) (L : List Lb) (u : Bool) (out : Value) (ts : List Tn) : Prop where
  by_ : W.grownBy w (some B)
  gm : Gm w B v0 v1 v2 v3 lv g L (err u 0)
  own : w.ownsRow W.heap.size 73 2 out ts.length (ts.flatMap tcells)
  old : ∃ e, Gm W B v0 v1 v2 v3 lv g L e
variable {u : Bool} {out : Value} {ts : List Tn}
theorem TI.lt (h : TI W w B v0 v1 v2 v3 lv g L u out ts) : B < W.heap.size := by obtain ⟨e, k⟩ := h.old; exact k.lt
theorem TI.grow (h : TI W w B v0 v1 v2 v3 lv g L u out ts) (k : Flow.Grow w w') : TI W w' B v0 v1 v2 v3 lv g L u out ts := ⟨by_trans h.by_ (by_grow k), h.gm.grow k, own_keep h.own k, h.old⟩
theorem TI.from {w1 : World} (h : TI w1 w B v0 v1 v2 v3 lv g L u out ts) (k : W.grownBy w1 (some B)) {e : Int} (old : Gm W B v0 v1 v2 v3 lv g L e) : TI W w B v0 v1 v2 v3 lv g L u out ts := by
  refine ⟨by_trans k h.by_, h.gm, ⟨h.own.1, ?_⟩, ⟨e, old⟩⟩
  rcases h.own.2 with hn | ⟨q, cap, cur, h1, h2, h3⟩
  · exact .inl hn
  · exact .inr ⟨q, cap, cur, h1, Nat.le_trans k.size h2, h3⟩
theorem TI.start {e : Int} (old : Gm W B v0 v1 v2 v3 lv g L e) (h : Gm W B v0 v1 v2 v3 lv g L (err u 0)) : TI W W B v0 v1 v2 v3 lv g L u (.slice none 0 0) [] :=
  ⟨by_grow (Flow.grow_refl _), h, World.ownsRow_nil _ _ _ _, ⟨e, old⟩⟩
theorem TI.call {b : Bool} (h : TI W w B v0 v1 v2 v3 lv g L u out ts) (hb : w.grownBy w' (some B)) (k : Gm w' B v0 v1 v2 v3 lv g L (err b (err u 0))) : TI W w' B v0 v1 v2 v3 lv g L (u || b) out ts :=
  ⟨by_trans h.by_ hb, by rw [← err_err]; exact k, own_by h.own hb h.lt, h.old⟩
theorem TI.rb {bT : Bool} (h : TI W w B v0 v1 v2 v3 lv g L u out ts) (k : RB B v0 v1 v2 v3 lv g L bT w w') (hT : bT = true → Gm w' B v0 v1 v2 v3 lv g L (err true 0)) : TI W w' B v0 v1 v2 v3 lv g L (u || bT) out ts :=
  ⟨by_trans h.by_ k.by_, k.done h.gm hT, own_by h.own k.by_ h.lt, h.old⟩
theorem TI.after {u' : Bool} {out' : Value} {ts' : List Tn} (h : TI W w B v0 v1 v2 v3 lv g L u out ts) (k : TI w w' B v0 v1 v2 v3 lv g L u' out' ts') : TI W w' B v0 v1 v2 v3 lv g L u' out ts :=
  ⟨by_trans h.by_ k.by_, k.gm, own_by h.own k.by_ h.lt, h.old⟩
theorem TI.app {out' : Value} {new : List Tn} (h : TI W w B v0 v1 v2 v3 lv g L u out ts) (o : w'.ownsRow W.heap.size 73 2 out' (ts.length + new.length) (ts.flatMap tcells ++ new.flatMap tcells)) (k : w.grownBy w' out.ownBlock) : TI W w' B v0 v1 v2 v3 lv g L u out' (ts ++ new) := by
  have lo := own_lo h.own
  have hl := h.lt
  obtain ⟨e, old⟩ := h.old
  have hb := by_own h.by_ k lo
  refine ⟨hb, old.by hb ((k.block B h.gm.lt (fun e => by have := lo B e.symm; omega)).trans h.gm.row), by rw [List.length_append, List.flatMap_append]; exact o, ⟨e, old⟩⟩
end
end Gr
end Go.Proofs.Ytcnmaplopbbmaaa

/- A slice that the call itself made: append, where it comes to lie, and what stays as it was. No program. -/
import Derived.WalkKit
import Derived.Lib.Hide
namespace Go.Proofs.Ytcnmaplopbbmaaa
open Go.RowKit

/-- the slice stands in the block where the elder one stood, or in a new one -/
def Moved (w : World) (v v' : Value) : Prop := v'.ownBlock = v.ownBlock ∨ ∃ g, v'.ownBlock = some g ∧ w.heap.size ≤ g

/-- there is no room behind its last element -/
def Full (v : Value) (n : Nat) : Prop := v = .slice none 0 0 ∨ ∃ a, v = .slice (some a) n n
/-- it lies in a block that was not there -/
def Fresh (w : World) (v : Value) : Prop := ∃ g, v.ownBlock = some g ∧ w.heap.size ≤ g

theorem Moved.refl (w : World) (v : Value) : Moved w v v := .inl rfl
theorem Moved.trans {w w1 : World} {a b c : Value} (h : Moved w a b) (k : Moved w1 b c) (hs : w.heap.size ≤ w1.heap.size) : Moved w a c := by
  rcases k with k | ⟨g, hg, hk⟩
  · rcases h with h | ⟨g, hg, hk⟩
    · exact .inl (k.trans h)
    · exact .inr ⟨g, k.trans hg, hk⟩
  · exact .inr ⟨g, hg, Nat.le_trans hs hk⟩

/-- two steps, each of which writes where the slice stood -/
theorem grown_trans {w w1 w2 : World} {a b : Value} (h : w.grownBy w1 a.ownBlock) (m : Moved w a b) (k : w1.grownBy w2 b.ownBlock) : w.grownBy w2 a.ownBlock := by
  refine ⟨k.os.trans h.os, k.tape.trans h.tape, k.output.trans h.output, Nat.le_trans h.size k.size, fun i hi hne => ?_⟩
  rw [k.block i (Nat.lt_of_lt_of_le hi h.size) ?_, h.block i hi hne]
  intro e
  rcases m with m | ⟨g, hg, hs⟩
  · exact hne (e.trans m)
  · rw [hg] at e; cases e; omega

theorem grown_alloc {w wr : World} {row : Option Nat} (h : w.grownBy wr row) (o : Obj) : w.grownBy (wr.alloc o) row := by
  refine ⟨h.os, h.tape, h.output, Nat.le_trans h.size (by simp), fun i hi hne => ?_⟩
  rw [Below.heap_alloc wr o i (by have := h.size; omega)]
  exact h.block i hi hne

/-- a slice that grew, a new block laid beside, and grown once more -/
theorem put_step {w wr w1 : World} {v b v' : Value} {o : Obj} (h : w.grownBy wr v.ownBlock) (m : Moved w v b) (k : (wr.alloc o).grownBy w1 b.ownBlock) (m' : Moved (wr.alloc o) b v') :
    w.grownBy w1 v.ownBlock ∧ Moved w v v' :=
  ⟨grown_trans (grown_alloc h o) m k, m.trans m' (by have := h.size; simp; omega)⟩

theorem grown_below {w w' : World} {row : Option Nat} {B : Nat} (k : w.grownBy w' row) (hr : ∀ g, row = some g → B ≤ g) (hB : B ≤ w.heap.size) : Below B w w' :=
  ⟨k.os, k.tape, k.output, k.size, fun i hi => k.block i (by omega) (fun e => by have := hr i e.symm; omega)⟩

theorem alloc_grown {w w1 w' : World} {row : Option Nat} {o : Obj} (h : w.grownBy w1 row) (k : (w1.alloc o).grownBy w' none) : w.grownBy w' row := by
  refine ⟨k.os.trans h.os, k.tape.trans h.tape, k.output.trans h.output, Nat.le_trans h.size (Nat.le_trans (by simp) k.size), fun i hi hne => ?_⟩
  rw [k.block i (by simp; have := h.size; omega) (by simp)]
  exact (Below.heap_alloc w1 o i (by have := h.size; omega)).trans (h.block i hi hne)

section
variable {P : Program} (w : World)

theorem moved_of_append (base : Nat) (t ty e : TypeId) (i : TypeInfo) (z : Value) (size bytes : Nat) (ht : P.underlying t = some (.slice e)) (hi : P.info? e = some i) (hz : i.zero = some z)
    (hsize : i.size = size) (hby : i.bytes = bytes)
    (v : Value) (n : Nat) (xs : List Value) (hown : w.ownsRow base e size v n xs)
    (a : Addr) (m c : Nat) (news : List Value) (hl : news.length = m * size) (hnews : ∀ j u, news[j]? = some u → w.cell? (a.add j) = some u) (h1 : ∀ u ∈ news, u.oneCell' = true)
    (h63 : n + m ≤ maxLen) (hbytes : (n + m) * bytes ≤ 140737488355328) {v' : Value} {w' : World}
    (hr : (Builtin.append_ #[t, t] ty #[v, .slice (some a) m c]).run P w = .ok v' w') : Moved w v v' ∧ (Full v n → 0 < m → w.grownBy w' none ∧ Fresh w v') := by
  subst hsize hby
  have hsmall : n + m ≤ 9223372036854775807 := by simp only [maxLen] at h63; omega
  rcases hown.2 with ⟨rfl, rfl⟩ | ⟨g, cap, cur, rfl, hbg, hg, hnc, hcm, hcs, htake⟩
  · by_cases hm : m = 0
    · subst hm
      have hr' : (Builtin.append_ #[t, t] ty #[.slice none 0 0, .slice (some a) 0 c]).run P w = .ok (.slice none 0 0) w := by
        simp [Builtin.append_, run_underlying ht, sizeOf, typeInfo, hi, Builtin.lenOf, Builtin.firstCells, loadCells, loadCellsFrom]
      rw [hr'] at hr; cases hr
      exact ⟨.inl rfl, fun _ h => absurd h (by omega)⟩
    · have hr' := run_append_nil (P := P) w t ty e i z ht hi hz a m c news hl hnews (by omega) (by omega) (by have hb := hbytes; simp only [Nat.zero_add] at hb; omega)
      rw [hr'] at hr; cases hr
      exact ⟨.inr ⟨_, rfl, Nat.le_refl _⟩, fun _ _ => ⟨⟨rfl, rfl, rfl, by simp, fun k hk _ => Below.heap_alloc w.drew _ k hk⟩, _, rfl, Nat.le_refl _⟩⟩
  · by_cases hroom : n + m ≤ cap
    · have hfit : n * i.size + news.length ≤ cur.size := by rw [hl, hcs, ← Nat.add_mul]; exact Nat.mul_le_mul_right _ hroom
      have hr' := run_append_room (P := P) w t ty e i ht hi g n cap cur hg a m c news hl hnews h1 hroom hfit
      rw [hr'] at hr; cases hr
      refine ⟨.inl rfl, fun hf h => ?_⟩
      rcases hf with hf | ⟨ad, hf⟩
      · simp at hf
      · simp only [Value.slice.injEq] at hf; omega
    · have holds : ∀ j u, xs[j]? = some u → w.cell? ((⟨g, 0, none⟩ : Addr).add j) = some u := hown.cells (g := g) rfl
      have hr' := run_append_grow (P := P) w t ty e i z ht hi hz ⟨g, 0, none⟩ n cap xs hown.1 holds a m c news hl hnews (by omega) (by omega) (growslice_fits (by omega) hbytes)
      rw [hr'] at hr; cases hr
      exact ⟨.inr ⟨_, rfl, Nat.le_refl _⟩, fun _ _ => ⟨⟨rfl, rfl, rfl, by simp, fun k hk _ => Below.heap_alloc w.drew _ k hk⟩, _, rfl, Nat.le_refl _⟩⟩

/-- append to a slice of the call's own, of whatever source -/
theorem wpList_append_put {ops : Array Oper} {rest : List Oper} {o : Oper} {act : Act} {Q : Exit → Act → World → Prop} (hgd : o.guard = none) (s x : Operand) (t : TypeId)
    (ho : o.op = .call { callee := .builtin .append, args := #[s, x], argTypes := #[t, t] })
    (e : TypeId) (i : TypeInfo) (z : Value) (size bytes : Nat) (ht : P.underlying t = some (.slice e)) (hi : P.info? e = some i) (hz : i.zero = some z)
    (hsize : i.size = size) (hby : i.bytes = bytes) (hzs : z.cells.size = size) (hsz : 0 < size)
    (v : Value) (n : Nat) (xs : List Value) (hs : act.eval s = v) (hown : w.ownsRow 0 e size v n xs)
    (ao : Option Addr) (m c : Nat) (news : List Value) (hx : act.eval x = .slice ao m c) (hl : news.length = m * size) (hnone : ao = none → m = 0 ∧ c = 0) (hnews : ∀ ad, ao = some ad → ∀ j u, news[j]? = some u → w.cell? (ad.add j) = some u) (h1 : ∀ u ∈ news, u.oneCell' = true)
    (h63 : n + m ≤ maxLen) (hbytes : (n + m) * bytes ≤ 140737488355328)
    (h : ∀ v' w', w'.ownsRow 0 e size v' (n + m) (xs ++ news) → w.grownBy w' v.ownBlock → Moved w v v' → (Full v n → 0 < m → w.grownBy w' none ∧ Fresh w v') → wpList P ops Q rest (act.put o.dst v') w') : wpList P ops Q (o :: rest) act w := by
  refine wpList_plain hgd fun K hK => ?_
  have go : ∃ v' w', (Builtin.append_ #[t, t] o.type #[v, .slice ao m c]).run P w = .ok v' w' ∧ w'.ownsRow 0 e size v' (n + m) (xs ++ news) ∧ w.grownBy w' v.ownBlock ∧ Moved w v v' ∧ (Full v n → 0 < m → w.grownBy w' none ∧ Fresh w v') := by
    cases ao with
    | some ad =>
      obtain ⟨v', w', hr, h2, h3, _⟩ := run_append_own (P := P) w 0 t o.type e i z size bytes ht hi hz hsize hby hzs hsz v n xs hown ad m c news hl (hnews ad rfl) h1 h63 hbytes (Nat.zero_le _)
      have hm := moved_of_append w 0 t o.type e i z size bytes ht hi hz hsize hby v n xs hown ad m c news hl (hnews ad rfl) h1 h63 hbytes hr
      exact ⟨v', w', hr, h2, h3, hm.1, hm.2⟩
    | none =>
      obtain ⟨rfl, rfl⟩ := hnone rfl
      have hnews : news = [] := List.eq_nil_of_length_eq_zero (by simpa using hl)
      subst hnews
      exact ⟨v, w, run_append_owned_none (P := P) w 0 t o.type e i size ht hi v n xs hown, by simpa using hown, World.grownBy.refl _ _, Moved.refl _ _, fun _ h => absurd h (by omega)⟩
  obtain ⟨v', w', hr, h2, h3, h4, h5⟩ := go
  unfold Oper.wp execOp
  simp only [ho, resolve, invoke, builtin, Sem.run_bind, Sem.run_pure, Result.andThen_ok, List.map_toArray, List.map_cons, List.map_nil, hs, hx, hr]
  exact hK _ _ (h v' w' h2 h3 h4 h5)

/-- what may be appended to: the call's own slice; or one that reads so and has no room (a text's bytes) -/
def Base (w : World) (e size : Nat) (v : Value) (n : Nat) (xs : List Value) : Prop :=
  w.ownsRow 0 e size v n xs ∨ ∃ a, v = .slice (some a) n n ∧ a.block < w.heap.size ∧ xs.length = n * size ∧ ∀ j u, xs[j]? = some u → w.cell? (a.add j) = some u
theorem Base.alloc {w : World} {e size : Nat} {v : Value} {n : Nat} {xs : List Value} (h : Base w e size v n xs) (o : Obj) : Base (w.alloc o) e size v n xs := by
  rcases h with h | ⟨a, rfl, hb, hl, hc⟩
  · exact .inl (h.alloc o)
  · refine .inr ⟨a, rfl, by simp; omega, hl, fun j u hj => ?_⟩
    have h := hc j u hj
    have hlt := World.block_lt_of_cell? w _ h
    exact (World.cell?_of_block (Below.heap_alloc w o _ hlt)).trans h
theorem Base.lt {w : World} {e size : Nat} {v : Value} {n : Nat} {xs : List Value} (h : Base w e size v n xs) : ∀ g, v.ownBlock = some g → g < w.heap.size := by
  intro g hg
  rcases h with h | ⟨a, rfl, hb, _⟩
  · exact (h.lt g hg).2
  · simp [Value.ownBlock] at hg; omega
theorem Base.len {w : World} {e size : Nat} {v : Value} {n : Nat} {xs : List Value} (h : Base w e size v n xs) : xs.length = n * size := by
  rcases h with h | ⟨a, rfl, hb, hl, hc⟩
  · exact h.1
  · exact hl

/-- at least one element behind it -/
theorem wpList_append_base {ops : Array Oper} {rest : List Oper} {o : Oper} {act : Act} {Q : Exit → Act → World → Prop} (hgd : o.guard = none) (s x : Operand) (t : TypeId)
    (ho : o.op = .call { callee := .builtin .append, args := #[s, x], argTypes := #[t, t] })
    (e : TypeId) (i : TypeInfo) (z : Value) (size bytes : Nat) (ht : P.underlying t = some (.slice e)) (hi : P.info? e = some i) (hz : i.zero = some z)
    (hsize : i.size = size) (hby : i.bytes = bytes) (hzs : z.cells.size = size) (hsz : 0 < size)
    (v : Value) (n : Nat) (xs : List Value) (hs : act.eval s = v) (hown : Base w e size v n xs)
    (ad : Addr) (m c : Nat) (hm0 : 0 < m) (news : List Value) (hx : act.eval x = .slice (some ad) m c) (hl : news.length = m * size) (hnews : ∀ ad', some ad = some ad' → ∀ j u, news[j]? = some u → w.cell? (ad'.add j) = some u) (h1 : ∀ u ∈ news, u.oneCell' = true)
    (h63 : n + m ≤ maxLen) (hbytes : (n + m) * bytes ≤ 140737488355328)
    (h : ∀ v' w', w'.ownsRow 0 e size v' (n + m) (xs ++ news) → w.grownBy w' v.ownBlock → Moved w v v' → (Full v n → w.grownBy w' none ∧ Fresh w v') → wpList P ops Q rest (act.put o.dst v') w') : wpList P ops Q (o :: rest) act w := by
  rcases hown with hown | ⟨a, rfl, hb, hlx, hcx⟩
  · exact wpList_append_put w hgd s x t ho e i z size bytes ht hi hz hsize hby hzs hsz v n xs hs hown (some ad) m c news hx hl (by simp) hnews h1 h63 hbytes fun v' w' a b c d => h v' w' a b c fun f => d f hm0
  · refine wpList_plain hgd fun K hK => ?_
    subst hsize hby
    have hr := run_append_grow (P := P) w t o.type e i z ht hi hz a n n xs hlx hcx ad m c news hl (hnews ad rfl) (by omega) (by simp only [maxLen] at h63; omega) (growslice_fits (by omega) hbytes)
    have hge := grownCap_ge w (n + m) n e
    have hcm : grownCap w (n + m) n e ≤ maxLen := grownCap_le_maxLen w (n + m) n e h63
    have hlen : (xs ++ news).length = (n + m) * i.size := by rw [List.length_append, hlx, hl, Nat.add_mul]
    have hG : w.grownBy (w.drew.alloc (.cells (xs.toArray ++ news.toArray ++ Builtin.zeroCells z.cells (grownCap w (n + m) n e - (n + m))) e)) none := ⟨rfl, rfl, rfl, by simp, fun k hk _ => Below.heap_alloc w.drew _ k hk⟩
    unfold Oper.wp execOp
    simp only [ho, resolve, invoke, builtin, Sem.run_bind, Sem.run_pure, Result.andThen_ok, List.map_toArray, List.map_cons, List.map_nil, hs, hx, hr]
    refine hK _ _ (h _ _ ⟨hlen, .inr ⟨w.heap.size, _, _, rfl, Nat.zero_le _, heap_alloc_new w.drew _, hge, hcm, ?_, ?_⟩⟩ ⟨hG.os, hG.tape, hG.output, hG.size, fun k hk _ => hG.block k hk (by simp)⟩ (.inr ⟨_, rfl, Nat.le_refl _⟩) fun _ => ⟨hG, _, rfl, Nat.le_refl _⟩)
    · simp only [Array.size_append, List.size_toArray, size_zeroCells, hzs, hlx, hl, ← Nat.add_mul]
      congr 1
      omega
    · simp only [Array.toList_append, List.append_assoc]
      rw [← List.append_assoc, ← hlen]
      exact List.take_left
end

/-- one new cell at the head of a new block -/
theorem one_new {w : World} {u : Value} {e : TypeId} : ∀ ad, some (⟨w.heap.size, 0, none⟩ : Addr) = some ad → ∀ j x, ([u] : List Value)[j]? = some x → (w.alloc (.cells #[u] e)).cell? (ad.add j) = some x := by
  intro ad had j x hj
  cases had
  match j, hj with
  | 0, hj => simp at hj; subst hj; simp [Addr.add]

/-- what a loop of appends keeps, of a slice that had no room: nothing that was there turns -/
structure Kept (w wr : World) (v b : Value) : Prop where
  grown : w.grownBy wr v.ownBlock
  moved : Moved w v b

theorem Kept.refl (w : World) (v : Value) : Kept w w v v := ⟨World.grownBy.refl _ _, Moved.refl _ _⟩
/-- a new block laid beside, and grown once more -/
theorem Kept.step {w wr w1 : World} {v b v' : Value} {o : Obj} (h : Kept w wr v b) (k : (wr.alloc o).grownBy w1 b.ownBlock) (m' : Moved (wr.alloc o) b v') : Kept w w1 v v' :=
  have r := put_step h.grown h.moved k m'
  ⟨r.1, r.2⟩
/-- .. grown once more, no new block -/
theorem Kept.more {w wr w1 : World} {v b v' : Value} (h : Kept w wr v b) (k : wr.grownBy w1 b.ownBlock) (m' : Moved wr b v') : Kept w w1 v v' :=
  ⟨grown_trans h.grown h.moved k, h.moved.trans m' h.grown.size⟩

/-- the slice is the one that had no room, or lies in a new block; nothing that was there has turned -/
def Apart (w wr : World) (v b : Value) : Prop := w.grownBy wr none ∧ (b = v ∨ Fresh w b)
theorem Apart.refl (w : World) (v : Value) : Apart w w v v := ⟨World.grownBy.refl _ _, .inl rfl⟩

theorem grow_trans {a b c : World} (h : a.grownBy b none) (k : b.grownBy c none) : a.grownBy c none :=
  ⟨k.os.trans h.os, k.tape.trans h.tape, k.output.trans h.output, Nat.le_trans h.size k.size, fun i hi hne => (k.block i (Nat.lt_of_lt_of_le hi h.size) hne).trans (h.block i hi hne)⟩
theorem grow_fresh {w w1 w2 : World} {b : Value} (h : w.grownBy w1 none) (hb : Fresh w b) (k : w1.grownBy w2 b.ownBlock) : w.grownBy w2 none := by
  obtain ⟨g, hg, hs⟩ := hb
  refine ⟨k.os.trans h.os, k.tape.trans h.tape, k.output.trans h.output, Nat.le_trans h.size k.size, fun i hi hne => ?_⟩
  rw [k.block i (Nat.lt_of_lt_of_le hi h.size) (by rw [hg]; intro e; cases e; omega)]
  exact h.block i hi hne
theorem Apart.step {w wr w1 : World} {v b v' : Value} {o : Obj} {n m : Nat} (h : Apart w wr v b) (hf : b = v → Full v n) (k : (wr.alloc o).grownBy w1 b.ownBlock) (mv : Moved (wr.alloc o) b v')
    (hF : b = v → Full b n → 0 < m → (wr.alloc o).grownBy w1 none ∧ Fresh (wr.alloc o) v') (hm : 0 < m) : Apart w w1 v v' := by
  obtain ⟨hg, hb⟩ := h
  have ha : w.grownBy (wr.alloc o) none := grow_trans hg (World.grownBy_alloc _ _ _)
  by_cases hbv : b = v
  · obtain ⟨h1, g, h2, h3⟩ := hF hbv (by rw [hbv]; exact hf hbv) hm
    exact ⟨grow_trans ha h1, .inr ⟨g, h2, Nat.le_trans ha.size h3⟩⟩
  · have hb := hb.resolve_left hbv
    refine ⟨grow_fresh ha hb k, .inr ?_⟩
    rcases mv with e | ⟨g, h2, h3⟩
    · obtain ⟨g, hg', hs⟩ := hb
      exact ⟨g, e.trans hg', hs⟩
    · exact ⟨g, h2, Nat.le_trans ha.size h3⟩
end Go.Proofs.Ytcnmaplopbbmaaa

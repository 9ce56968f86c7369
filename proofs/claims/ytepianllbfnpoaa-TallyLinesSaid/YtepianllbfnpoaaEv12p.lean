/- Ev: a region's operations in another order of their numbers. No program. -/
import Derived.Test.YtepianllbfnpoaaMEvc
namespace Go.Proofs.Ytepianllbfnpoaa
open Go.RowKit
namespace Ev
variable {P : Program}

def posOf (σ : List Nat) (j : Nat) : Nat := σ.idxOf j
def renE (σ : List Nat) (e : Edge) : Edge := { e with on := posOf σ e.on }
def renO (σ : List Nat) (o : Oper) : Oper := { o with after := (o.after.toList.map (renE σ)).toArray, guard := o.guard.map fun g => (posOf σ g.1, g.2) }
/-- operation σ[k] becomes operation k -/
def permOps (σ : List Nat) (ops : Array Oper) : Array Oper := (σ.map fun i => renO σ (ops.getD i default)).toArray
def permOk (σ : List Nat) (n : Nat) : Bool := Nat.beq σ.length n && (List.range n).all fun j => σ.contains j && Nat.beq (posOf σ (σ.getD j n)) j && Nat.blt (σ.getD j n) n
structure Perm (σ : List Nat) (n : Nat) : Prop where
  len : σ.length = n
  all : ∀ j, j < n → j ∈ σ
  at' : ∀ j i, σ[j]? = some i → posOf σ i = j
  lt : ∀ j ∈ σ, j < n
theorem perm_of {σ : List Nat} {n : Nat} (h : permOk σ n = true) : Perm σ n := by
  simp only [permOk, Bool.and_eq_true, Nat.beq_eq, List.all_eq_true, List.mem_range, List.contains_iff_mem] at h
  have g : ∀ j i, σ[j]? = some i → j < n ∧ σ.getD j n = i := fun j i hj => by
    have := (List.getElem?_eq_some_iff.1 hj).1
    exact ⟨by omega, by rw [List.getD_eq_getElem?_getD, hj]; rfl⟩
  refine ⟨h.1, fun j hj => (h.2 j hj).1.1, fun j i hj => ?_, fun i hi => ?_⟩
  · obtain ⟨h1, h2⟩ := g j i hj
    have := (h.2 j h1).1.2
    rwa [h2] at this
  · obtain ⟨j, hj⟩ := List.mem_iff_getElem?.1 hi
    obtain ⟨h1, h2⟩ := g j i hj
    have := (h.2 j h1).2
    rw [h2] at this
    simpa using this
theorem pos_lt {σ : List Nat} {n j : Nat} (h : Perm σ n) (hj : j < n) : posOf σ j < n := by
  rw [← h.len]; exact List.idxOf_lt_length_of_mem (h.all j hj)
theorem pos_get {σ : List Nat} {n j : Nat} (h : Perm σ n) (hj : j < n) : σ[posOf σ j]? = some j := by
  have h1 : posOf σ j < σ.length := by rw [h.len]; exact pos_lt h hj
  rw [List.getElem?_eq_getElem h1]
  congr 1
  exact List.getElem_idxOf h1
theorem pos_out {σ : List Nat} {n j : Nat} (h : Perm σ n) (hj : ¬ j < n) : posOf σ j = n := by
  rw [← h.len]
  exact List.idxOf_eq_length fun hm => hj (h.lt j hm)
theorem perm_size {σ : List Nat} {ops : Array Oper} (h : Perm σ ops.size) : (permOps σ ops).size = ops.size := by simp [permOps, h.len]
theorem perm_get {σ : List Nat} {ops : Array Oper} (h : Perm σ ops.size) {i : Nat} {o : Oper} (ho : ops[i]? = some o) : (permOps σ ops)[posOf σ i]? = some (renO σ o) := by
  have hi := (Array.getElem?_eq_some_iff.1 ho).1
  have := pos_get h hi
  simp only [permOps, List.getElem?_toArray, List.getElem?_map, this, Option.map_some]
  congr 2
  simp [ho]
theorem perm_none {σ : List Nat} {ops : Array Oper} (h : Perm σ ops.size) {j : Nat} (hj : ops[j]? = none) : (permOps σ ops)[posOf σ j]? = none := by
  have hj' : ¬ j < ops.size := by simpa using hj
  rw [pos_out h hj']
  have := perm_size h
  simp [this]
theorem perm_yield {σ : List Nat} {ops : Array Oper} (h : Perm σ ops.size) (tmps : Array Value) (j : Nat) : yielded (permOps σ ops) tmps (posOf σ j) = yielded ops tmps j := by
  unfold yielded
  have : ((permOps σ ops)[posOf σ j]?).bind (·.dst) = (ops[j]?).bind (·.dst) := by
    cases ho : ops[j]? with
    | none => rw [perm_none h ho]
    | some o => rw [perm_get h ho]; rfl
  rw [this]
theorem perm_wanted {σ : List Nat} {ops : Array Oper} (h : Perm σ ops.size) (tmps : Array Value) (o : Oper) : Region.wanted (renO σ o) (yielded (permOps σ ops) tmps) = Region.wanted o (yielded ops tmps) := by
  unfold Region.wanted renO
  cases hg : o.guard with
  | none => rfl
  | some g =>
    obtain ⟨j, want⟩ := g
    simp only [Option.map_some]
    rw [perm_yield h]
theorem ren_wp {σ : List Nat} {o : Oper} {a : Act} {w : World} {K : Act → World → Prop} {Q : Exit → Act → World → Prop} : (renO σ o).wp P a w K Q = o.wp P a w K Q := rfl
theorem ren_asks {σ : List Nat} {o : Oper} {a : Act} {w : World} : (renO σ o).asks P a w = o.asks P a w := rfl
theorem perm_inv {σ : List Nat} {ops : Array Oper} (h : Perm σ ops.size) {k : Nat} {o' : Oper} (ho : (permOps σ ops)[k]? = some o') : ∃ i o, ops[i]? = some o ∧ posOf σ i = k ∧ o' = renO σ o := by
  have hk : k < σ.length := by
    have := (Array.getElem?_eq_some_iff.1 ho).1
    rw [perm_size h] at this
    rw [h.len]; exact this
  have hi : σ[k]? = some σ[k] := List.getElem?_eq_getElem hk
  have hlt := h.lt _ (List.mem_of_getElem? hi)
  refine ⟨σ[k], ops[σ[k]]'hlt, by simp [hlt], h.at' _ _ hi, ?_⟩
  have := perm_get h (i := σ[k]) (o := ops[σ[k]]'hlt) (by simp [hlt])
  rw [h.at' _ _ hi, ho] at this
  exact Option.some.inj this
/-- the same have come up -/
structure Same (σ : List Nat) (n : Nat) (l l' : Array Bool) : Prop where
  s1 : l.size = n
  s2 : l'.size = n
  eq : ∀ j, j < n → l'[posOf σ j]? = l[j]?
theorem Same.get {σ : List Nat} {n : Nat} {l l' : Array Bool} (hp : Perm σ n) (h : Same σ n l l') (j : Nat) (b : Bool) : l'.getD (posOf σ j) b = l.getD j b := by
  rw [Array.getD_eq_getD_getElem?, Array.getD_eq_getD_getElem?]
  by_cases hj : j < n
  · rw [h.eq j hj]
  · rw [pos_out hp hj]
    have h1 : l'[n]? = none := by have := h.s2; simp; omega
    have h2 : l[j]? = none := by have := h.s1; simp; omega
    rw [h1, h2]
theorem pos_inj {σ : List Nat} {n i j : Nat} (hp : Perm σ n) (hi : i < n) (hj : j < n) (h : posOf σ i = posOf σ j) : i = j := by
  have h1 := pos_get hp hi
  rw [h, pos_get hp hj] at h1
  exact (Option.some.inj h1).symm
theorem Same.set {σ : List Nat} {n : Nat} {l l' : Array Bool} (hp : Perm σ n) (h : Same σ n l l') {i : Nat} (hi : i < n) : Same σ n (l.setIfInBounds i true) (l'.setIfInBounds (posOf σ i) true) := by
  refine ⟨by simpa using h.s1, by simpa using h.s2, fun j hj => ?_⟩
  by_cases e : j = i
  · subst e
    have h1 := pos_lt hp hi
    have h2 := h.s1
    have h3 := h.s2
    rw [Array.getElem?_setIfInBounds_self_of_lt (by omega), Array.getElem?_setIfInBounds_self_of_lt (by omega)]
  · rw [Array.getElem?_setIfInBounds_ne (fun e' => e (pos_inj hp hj hi e'.symm)), Array.getElem?_setIfInBounds_ne (Ne.symm e)]
    exact h.eq j hj
theorem perm_ready {σ : List Nat} {ops : Array Oper} {l l' : Array Bool} (hp : Perm σ ops.size) (hs : Same σ ops.size l l') (i : Nat) : i ∈ Region.ready .any ops l → posOf σ i ∈ Region.ready .any (permOps σ ops) l' := fun hi => by
  obtain ⟨h1, o, ho, h2⟩ := mem_ready.1 hi
  refine mem_ready.2 ⟨by rw [hs.get hp]; exact h1, _, perm_get hp ho, fun e he hb => ?_⟩
  obtain ⟨e0, he0, rfl⟩ : ∃ e0 ∈ o.after, renE σ e0 = e := by simpa [renO] using he
  show l'.getD (posOf σ e0.on) false = true
  rw [hs.get hp]
  exact h2 e0 he0 hb
theorem perm_unready {σ : List Nat} {ops : Array Oper} {l l' : Array Bool} (hp : Perm σ ops.size) (hs : Same σ ops.size l l') (h : Region.ready .any ops l = []) : Region.ready .any (permOps σ ops) l' = [] := by
  cases hr : Region.ready .any (permOps σ ops) l' with
  | nil => rfl
  | cons k r =>
    exfalso
    have hk : k ∈ Region.ready .any (permOps σ ops) l' := by rw [hr]; simp
    obtain ⟨h1, o', ho', h2⟩ := mem_ready.1 hk
    obtain ⟨i, o, ho, rfl, rfl⟩ := perm_inv hp ho'
    have : i ∈ Region.ready .any ops l := mem_ready.2 ⟨by rw [← hs.get hp]; exact h1, o, ho, fun e he hb => by
      rw [← hs.get hp]
      refine h2 (renE σ e) ?_ hb
      simp only [renO, List.mem_toArray, List.mem_map]
      exact ⟨e, by simpa using he, rfl⟩⟩
    rw [h] at this
    cases this
/-- **THE NUMBERS OF A REGION'S OPERATIONS DO NOT COUNT** -/
theorem perm_any {σ : List Nat} {ops : Array Oper} {Q : Exit → Act → World → Prop} (hp : Perm σ ops.size) : ∀ (fuel : Nat) (l l' : Array Bool) (a : Act) (w : World), Same σ ops.size l l' → wpAny P .any (permOps σ ops) Q fuel l' a w → wpAny P .any ops Q fuel l a w
  | 0, l, l', a, w, hs, h => by
    refine ⟨?_, h.2⟩
    cases hr : Region.ready .any ops l with
    | nil => rfl
    | cons i r =>
      have := perm_ready hp hs i (by rw [hr]; simp)
      rw [h.1] at this
      cases this
  | fuel + 1, l, l', a, w, hs, h => by
    refine ⟨fun hr => h.1 (perm_unready hp hs hr), fun i hi => ?_⟩
    obtain ⟨_, o, ho, _⟩ := mem_ready.1 hi
    have hio := (Array.getElem?_eq_some_iff.1 ho).1
    have hg := h.2 _ (perm_ready hp hs i hi)
    unfold wpOp at hg ⊢
    rw [perm_get hp ho] at hg
    rw [ho]
    simp only at hg ⊢
    rw [perm_wanted hp] at hg
    have ih := fun a w => perm_any (Q := Q) hp fuel (l.setIfInBounds i true) (l'.setIfInBounds (posOf σ i) true) a w (hs.set hp hio)
    cases hw : Region.wanted o (yielded ops a.tmps) with
    | true =>
      rw [hw] at hg
      simp only [if_true] at hg ⊢
      rcases hg with hg | hg
      · exact .inl (Oper.wp_mono ih hg)
      · exact .inr hg
    | false =>
      rw [hw] at hg
      simp only [Bool.false_eq_true, if_false] at hg ⊢
      exact ih _ _ hg
theorem same_none {σ : List Nat} {n : Nat} (hp : Perm σ n) : Same σ n (Array.replicate n false) (Array.replicate n false) :=
  ⟨by simp, by simp, fun j hj => by have := pos_lt hp hj; simp [hj, this]⟩
end Ev
end Go.Proofs.Ytepianllbfnpoaa

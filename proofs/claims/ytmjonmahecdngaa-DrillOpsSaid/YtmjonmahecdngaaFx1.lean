/- Fx: a run of Go code that the kernel computes fast. First part: trees of eight, numbers as rows of bytes. No program. -/
import Derived.WalkKit
namespace Go.Proofs.Ytmjonmahecdngaa
namespace Fx

/-- eight in a row -/
structure N8 (α : Type) where
  a0 : α
  a1 : α
  a2 : α
  a3 : α
  a4 : α
  a5 : α
  a6 : α
  a7 : α
def u0 {α : Type} (f : α → α) (t : N8 α) : N8 α := match t with | ⟨a0, a1, a2, a3, a4, a5, a6, a7⟩ => ⟨f a0, a1, a2, a3, a4, a5, a6, a7⟩
def u1 {α : Type} (f : α → α) (t : N8 α) : N8 α := match t with | ⟨a0, a1, a2, a3, a4, a5, a6, a7⟩ => ⟨a0, f a1, a2, a3, a4, a5, a6, a7⟩
def u2 {α : Type} (f : α → α) (t : N8 α) : N8 α := match t with | ⟨a0, a1, a2, a3, a4, a5, a6, a7⟩ => ⟨a0, a1, f a2, a3, a4, a5, a6, a7⟩
def u3 {α : Type} (f : α → α) (t : N8 α) : N8 α := match t with | ⟨a0, a1, a2, a3, a4, a5, a6, a7⟩ => ⟨a0, a1, a2, f a3, a4, a5, a6, a7⟩
def u4 {α : Type} (f : α → α) (t : N8 α) : N8 α := match t with | ⟨a0, a1, a2, a3, a4, a5, a6, a7⟩ => ⟨a0, a1, a2, a3, f a4, a5, a6, a7⟩
def u5 {α : Type} (f : α → α) (t : N8 α) : N8 α := match t with | ⟨a0, a1, a2, a3, a4, a5, a6, a7⟩ => ⟨a0, a1, a2, a3, a4, f a5, a6, a7⟩
def u6 {α : Type} (f : α → α) (t : N8 α) : N8 α := match t with | ⟨a0, a1, a2, a3, a4, a5, a6, a7⟩ => ⟨a0, a1, a2, a3, a4, a5, f a6, a7⟩
def u7 {α : Type} (f : α → α) (t : N8 α) : N8 α := match t with | ⟨a0, a1, a2, a3, a4, a5, a6, a7⟩ => ⟨a0, a1, a2, a3, a4, a5, a6, f a7⟩
/-- the place k: what lies there -/
def sel {α : Type} (k : Nat) (t : N8 α) : α := match k with
  | 0 => t.a0
  | 1 => t.a1
  | 2 => t.a2
  | 3 => t.a3
  | 4 => t.a4
  | 5 => t.a5
  | 6 => t.a6
  | _ => t.a7
def upd {α : Type} (k : Nat) (f : α → α) (t : N8 α) : N8 α := match k with
  | 0 => u0 f t
  | 1 => u1 f t
  | 2 => u2 f t
  | 3 => u3 f t
  | 4 => u4 f t
  | 5 => u5 f t
  | 6 => u6 f t
  | _ => u7 f t
theorem lt8 {k : Nat} (h : k < 8) : k = 0 ∨ k = 1 ∨ k = 2 ∨ k = 3 ∨ k = 4 ∨ k = 5 ∨ k = 6 ∨ k = 7 := by omega
theorem sel_same {α : Type} {k : Nat} (f : α → α) (t : N8 α) (h : k < 8) : sel k (upd k f t) = f (sel k t) := by
  obtain rfl | rfl | rfl | rfl | rfl | rfl | rfl | rfl := lt8 h <;> rfl
theorem sel_ne {α : Type} {k j : Nat} (f : α → α) (t : N8 α) (h : k < 8) (g : j < 8) (e : j ≠ k) : sel j (upd k f t) = sel j t := by
  obtain rfl | rfl | rfl | rfl | rfl | rfl | rfl | rfl := lt8 h <;> obtain rfl | rfl | rfl | rfl | rfl | rfl | rfl | rfl := lt8 g <;> first | rfl | exact absurd rfl e

/-- a tree of so many floors -/
def TR (α : Type) : Nat → Type
  | 0 => α
  | d + 1 => N8 (TR α d)
def get {α : Type} : (d : Nat) → Nat → TR α d → α
  | 0, _, t => t
  | d + 1, i, t => get d (i % 8 ^ d) (sel (i / 8 ^ d) t)
def set {α : Type} : (d : Nat) → Nat → α → TR α d → TR α d
  | 0, _, v, _ => v
  | d + 1, i, v, t => upd (i / 8 ^ d) (set d (i % 8 ^ d) v) t
def all {α : Type} (v : α) : (d : Nat) → TR α d
  | 0 => v
  | d + 1 => (fun x => (⟨x, x, x, x, x, x, x, x⟩ : N8 _)) (all v d)
theorem digit {i d : Nat} (h : i < 8 ^ (d + 1)) : i / 8 ^ d < 8 := by
  rw [Nat.div_lt_iff_lt_mul (Nat.pow_pos (by omega))]
  rwa [Nat.pow_succ, Nat.mul_comm] at h
theorem get_set {α : Type} : ∀ (d : Nat) {i : Nat} (v : α) (t : TR α d), i < 8 ^ d → get d i (set d i v t) = v
  | 0, _, _, _, _ => rfl
  | d + 1, i, v, t, h => by
    have hm : i % 8 ^ d < 8 ^ d := Nat.mod_lt _ (Nat.pow_pos (by omega))
    exact (congrArg (get d (i % 8 ^ d)) (sel_same (set d (i % 8 ^ d) v) (t : N8 (TR α d)) (digit h))).trans (get_set d v _ hm)
theorem get_ne {α : Type} : ∀ (d : Nat) {i j : Nat} (v : α) (t : TR α d), i < 8 ^ d → j < 8 ^ d → j ≠ i → get d j (set d i v t) = get d j t
  | 0, i, j, _, _, h, g, e => by simp at h g; omega
  | d + 1, i, j, v, t, h, g, e => by
    have hm : i % 8 ^ d < 8 ^ d := Nat.mod_lt _ (Nat.pow_pos (by omega))
    have gm : j % 8 ^ d < 8 ^ d := Nat.mod_lt _ (Nat.pow_pos (by omega))
    by_cases e1 : j / 8 ^ d = i / 8 ^ d
    · show get d (j % 8 ^ d) (sel (j / 8 ^ d) (upd (i / 8 ^ d) (set d (i % 8 ^ d) v) (t : N8 (TR α d)))) = get d (j % 8 ^ d) (sel (j / 8 ^ d) (t : N8 (TR α d)))
      rw [e1]
      refine (congrArg (get d (j % 8 ^ d)) (sel_same (set d (i % 8 ^ d) v) (t : N8 (TR α d)) (digit h))).trans (get_ne d v _ hm gm fun e2 => e ?_)
      rw [← Nat.div_add_mod i (8 ^ d), ← Nat.div_add_mod j (8 ^ d), e1, e2]
    · exact congrArg (get d (j % 8 ^ d)) (sel_ne (set d (i % 8 ^ d) v) (t : N8 (TR α d)) (digit h) (digit g) e1)
theorem get_all {α : Type} (v : α) : ∀ (d i : Nat), i < 8 ^ d → get d i (all v d) = v
  | 0, _, _ => rfl
  | d + 1, i, h => by
    have hm : i % 8 ^ d < 8 ^ d := Nat.mod_lt _ (Nat.pow_pos (by omega))
    have : sel (i / 8 ^ d) (all v (d + 1)) = all v d := by
      show sel (i / 8 ^ d) (⟨all v d, all v d, all v d, all v d, all v d, all v d, all v d, all v d⟩ : N8 _) = all v d
      obtain e | e | e | e | e | e | e | e := lt8 (digit h) <;> rw [e] <;> rfl
    exact (congrArg (get d (i % 8 ^ d)) this).trans (get_all v d _ hm)

/-! ### rows of bytes, the first one lowest -/
def bget (N j : Nat) : Nat := N / 256 ^ j % 256
/-- bytes from a on, so many -/
def bsub (N a n : Nat) : Nat := N / 256 ^ a % 256 ^ n
/-- m bytes (X) laid in at a -/
def bput (N a m X : Nat) : Nat := N % 256 ^ a + 256 ^ a * (X % 256 ^ m + 256 ^ m * (N / 256 ^ (a + m)))
theorem p256 (n : Nat) : 0 < 256 ^ n := Nat.pow_pos (by omega)
theorem bget_lt (N j : Nat) : bget N j < 256 := Nat.mod_lt _ (by omega)
theorem bget_mod {N n j : Nat} (h : j < n) : bget (N % 256 ^ n) j = bget N j := by
  unfold bget
  obtain ⟨r, rfl⟩ : ∃ r, n = j + 1 + r := ⟨n - (j + 1), by omega⟩
  have e : 256 ^ (j + 1 + r) = 256 ^ j * (256 * 256 ^ r) := by rw [Nat.pow_add, Nat.pow_succ, Nat.mul_assoc]
  rw [e, Nat.mod_mul_right_div_self, Nat.mod_mul_right_mod]
theorem bget_div (N a j : Nat) : bget (N / 256 ^ a) j = bget N (a + j) := by
  unfold bget; rw [Nat.div_div_eq_div_mul, ← Nat.pow_add]
theorem bget_sub {N a n j : Nat} (h : j < n) : bget (bsub N a n) j = bget N (a + j) := by
  unfold bsub; rw [bget_mod h, bget_div]
theorem bget_lo {x y a j : Nat} (h : j < a) : bget (x % 256 ^ a + 256 ^ a * y) j = bget x j := by
  rw [← bget_mod (N := x % 256 ^ a + 256 ^ a * y) h, ← bget_mod (N := x) h, Nat.add_mul_mod_self_left, Nat.mod_mod]
theorem bget_hi {x y a j : Nat} (hx : x < 256 ^ a) : bget (x + 256 ^ a * y) (a + j) = bget y j := by
  rw [← bget_div, Nat.add_mul_div_left _ _ (p256 a), Nat.div_eq_of_lt hx, Nat.zero_add]
theorem bget_put {N a m X j : Nat} : bget (bput N a m X) j = if j < a then bget N j else if j < a + m then bget X (j - a) else bget N j := by
  unfold bput
  have h1 : N % 256 ^ a < 256 ^ a := Nat.mod_lt _ (p256 a)
  have h2 : X % 256 ^ m < 256 ^ m := Nat.mod_lt _ (p256 m)
  by_cases c1 : j < a
  · rw [if_pos c1, bget_lo c1]
  · rw [if_neg c1]
    obtain ⟨r, rfl⟩ : ∃ r, j = a + r := ⟨j - a, by omega⟩
    rw [bget_hi h1]
    by_cases c2 : a + r < a + m
    · rw [if_pos c2, bget_lo (by omega), show a + r - a = r by omega]
    · rw [if_neg c2]
      obtain ⟨q, rfl⟩ : ∃ q, r = m + q := ⟨r - m, by omega⟩
      rw [bget_hi h2, bget_div, Nat.add_assoc]
theorem bget_cat {X Y a j : Nat} (hx : X < 256 ^ a) : bget (X + 256 ^ a * Y) j = if j < a then bget X j else bget Y (j - a) := by
  by_cases c1 : j < a
  · rw [if_pos c1]
    have := bget_lo (x := X) (y := Y) c1
    rwa [Nat.mod_eq_of_lt hx] at this
  · rw [if_neg c1]
    obtain ⟨r, rfl⟩ : ∃ r, j = a + r := ⟨j - a, by omega⟩
    rw [bget_hi hx, show a + r - a = r by omega]
/-- rows that are alike are one number -/
theorem row_ext : ∀ {n X Y : Nat}, X < 256 ^ n → Y < 256 ^ n → (∀ j, j < n → bget X j = bget Y j) → X = Y
  | 0, X, Y, hx, hy, _ => by simp at hx hy; omega
  | n + 1, X, Y, hx, hy, h => by
    have h0 := h 0 (by omega)
    simp only [bget, Nat.pow_zero, Nat.div_one] at h0
    have e : X / 256 = Y / 256 := by
      refine row_ext (n := n) ?_ ?_ fun j hj => ?_
      · rw [Nat.div_lt_iff_lt_mul (by omega)]; rwa [Nat.pow_succ] at hx
      · rw [Nat.div_lt_iff_lt_mul (by omega)]; rwa [Nat.pow_succ] at hy
      · have := h (j + 1) (by omega)
        rw [Nat.add_comm, ← bget_div, ← bget_div] at this
        simpa using this
    omega
/-- a row's number -/
def rowOf : List UInt8 → Nat
  | [] => 0
  | b :: r => b.toNat + 256 * rowOf r
theorem rowOf_lt : ∀ l : List UInt8, rowOf l < 256 ^ l.length
  | [] => by simp [rowOf]
  | b :: r => by
    have := rowOf_lt r
    have hb := b.toNat_lt
    simp only [rowOf, List.length_cons, Nat.pow_succ]
    omega
theorem bget_rowOf : ∀ {l : List UInt8} {j : Nat} (h : j < l.length), bget (rowOf l) j = l[j].toNat
  | b :: r, 0, h => by
    have hb := b.toNat_lt
    simp only [bget, rowOf, Nat.pow_zero, Nat.div_one, List.getElem_cons_zero]
    omega
  | b :: r, j + 1, h => by
    have hb := b.toNat_lt
    have ih := bget_rowOf (l := r) (j := j) (by simpa using h)
    have e : bget (rowOf (b :: r)) (j + 1) = bget (rowOf (b :: r) / 256 ^ 1) j := by rw [bget_div, Nat.add_comm]
    rw [e]
    have : rowOf (b :: r) / 256 ^ 1 = rowOf r := by simp only [rowOf]; omega
    rw [this, ih]
    rfl
/-- the bytes of a row -/
def rowL (n N : Nat) : List UInt8 := (List.range n).map fun j => UInt8.ofNat (bget N j)
theorem rowL_len (n N : Nat) : (rowL n N).length = n := by simp [rowL]
theorem rowL_get {n N j : Nat} (h : j < n) : (rowL n N)[j]? = some (UInt8.ofNat (bget N j)) := by simp [rowL, h]
theorem u8_bget (N j : Nat) : (UInt8.ofNat (bget N j)).toNat = bget N j := by
  have := bget_lt N j
  simp; omega
theorem rowL_rowOf (l : List UInt8) : rowL l.length (rowOf l) = l := by
  refine List.ext_getElem (by simp [rowL_len]) fun j h1 h2 => ?_
  have h := rowL_get (N := rowOf l) h2
  rw [List.getElem?_eq_getElem h1] at h
  rw [Option.some.inj h, bget_rowOf h2]
  simp
end Fx
end Go.Proofs.Ytmjonmahecdngaa

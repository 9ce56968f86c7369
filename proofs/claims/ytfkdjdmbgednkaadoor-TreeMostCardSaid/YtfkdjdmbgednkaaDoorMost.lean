/- tree: elements within elements; many elements beside one another. No program. -/
import Derived.Test.YtfkdjdmbgednkaaDoorPiece
namespace Go.Proofs.YtfkdjdmbgednkaaDoor
namespace Xm
def rep (x : List UInt8) : Nat → List UInt8
  | 0 => []
  | n + 1 => x ++ rep x n
theorem rep_len (x : List UInt8) : ∀ n, (rep x n).length = n * x.length
  | 0 => by simp [rep]
  | n + 1 => by rw [rep, List.length_append, rep_len x n, Nat.add_mul, Nat.one_mul, Nat.add_comm]
theorem rep_last (x : List UInt8) : ∀ n, rep x (n + 1) = rep x n ++ x
  | 0 => by simp [rep]
  | n + 1 => by rw [show rep x (n + 1 + 1) = x ++ rep x (n + 1) from rfl, rep_last x n, ← List.append_assoc, show x ++ rep x n = rep x (n + 1) from rfl, rep_last x n]
theorem rep_mem {x : List UInt8} {c : UInt8} : ∀ {n : Nat}, c ∈ rep x n → c ∈ x
  | 0, h => by cases h
  | n + 1, h => by
    rw [rep, List.mem_append] at h
    exact h.elim id rep_mem
/-- an element that holds none -/
def leaf (c : UInt8) : Nod := .mk ByteArray.empty (str [c]) [] [] ByteArray.empty
theorem begin_small {c : UInt8} (hc : Lc c) (kd : Int) (a : Int) {d n : Nat} (hd : d < 32) (hn : n < 2000) :
    beginT ⟨kd, str [c], [], ByteArray.empty, a⟩ newB d n = (.ok (ByteArray.empty, str [c], []), newB, d + 1, n + 1) := by
  have e : nameP newB (str [c]) = (ByteArray.empty, str [c], true) := by rcases hc with rfl | rfl <;> kernel_rfl
  unfold beginT
  rw [if_neg (by omega), if_neg (by omega)]
  simp only [enterL, e]
  rw [if_neg (by simp), if_neg (by simp), if_neg (by simp)]
theorem leave_small (d : Nat) : leaveL newB (d + 1) = newB := by
  unfold leaveL
  rw [if_neg (by omega)]
  simp [newB]
theorem trim_none : (trim ByteArray.empty).size = 0 := by kernel_rfl
/-- a leaf is read -/
theorem go_leaf {s : ByteArray} {c : UInt8} (hc : Lc c) (f : Nat) (a : Int) (st : P3) {d n : Nat} (hd : d < 32) (hn : n < 2000) :
    goT s (f + 1) none ⟨3, str [c], [], ByteArray.empty, a⟩ ⟨st, newB, d, n⟩ = (.ok (leaf c), ⟨st, newB, d, n + 1⟩) := by
  rw [goT, begin_small hc 3 a hd hn]
  simp only
  rw [if_pos trivial]
  unfold leaveR leaf
  simp only [leave_small, Nat.add_sub_cancel]
theorem go_big {s : ByteArray} (f : Nat) (p : Pc) (st : P3) (R : List Bd) {d n : Nat} (hn : 2000 ≤ n) :
    ∃ r, goT s (f + 1) none p ⟨st, R, d, n⟩ = (.error (5, p.at'), r) := by
  refine ⟨⟨st, R, d, n + 1⟩, ?_⟩
  rw [goT]
  unfold beginT
  rw [if_pos (show 2000 < n + 1 by omega)]
theorem go_deep32 {s : ByteArray} (f : Nat) (p : Pc) (st : P3) (R : List Bd) {n : Nat} (hn : n < 2000) :
    ∃ r, goT s (f + 1) none p ⟨st, R, 32, n⟩ = (.error (4, p.at'), r) := by
  refine ⟨⟨st, R, 32, n + 1⟩, ?_⟩
  rw [goT]
  unfold beginT
  rw [if_neg (show ¬ 2000 < n + 1 by omega), if_pos (show 32 ≤ 32 by omega)]
def aE : List UInt8 := [60, 97, 47, 62]
def aS : List UInt8 := [60, 97, 62]
def aZ : List UInt8 := [60, 47, 97, 62]
def rS : List UInt8 := [60, 114, 62]
def rZ : List UInt8 := [60, 47, 114, 62]
/-- what is still to be read of an element: its end -/
theorem go_end {s : ByteArray} {c : UInt8} (hc : Lc c) (f k n d : Nat) (sp nm : ByteArray) (at1 : List (ByteArray × ByteArray)) (ks : List Nod) (a kd : Int) (R : List Bd) (h : Lies s k [60, 47, c, 62]) :
    goT s (f + 1) (some ⟨sp, nm, at1, ks, ByteArray.empty⟩) ⟨kd, str [c], [], ByteArray.empty, a⟩ ⟨⟨k, 0, 0⟩, R, d, n⟩ = (.ok ⟨sp, nm, at1, ks, if ks ≠ [] then ByteArray.empty else trim ByteArray.empty⟩, ⟨⟨k + 4, 0, 0⟩, R, d, n⟩) := by
  rw [goT, next_end hc h]
  simp only
  rw [if_neg (by simp), if_neg (by decide), if_neg (by decide), if_pos trivial, if_neg (by simp), if_neg (by rw [trim_none]; simp)]
/-- many leaves, then the end -/
theorem go_many {s : ByteArray} : ∀ (j f k n : Nat) (sp nm : ByteArray) (at1 : List (ByteArray × ByteArray)) (ks : List Nod) (a kd : Int), n + j ≤ 2000 → j < f → Lies s k (rep aE j ++ rZ) →
    goT s f (some ⟨sp, nm, at1, ks, ByteArray.empty⟩) ⟨kd, str [114], [], ByteArray.empty, a⟩ ⟨⟨k, 0, 0⟩, newB, 1, n⟩ = (.ok ⟨sp, nm, at1, ks ++ List.replicate j (leaf 97), if ks ++ List.replicate j (leaf 97) ≠ [] then ByteArray.empty else trim ByteArray.empty⟩, ⟨⟨k + 4 * j + 4, 0, 0⟩, newB, 1, n + j⟩)
  | 0, f, k, n, sp, nm, at1, ks, a, kd, hn, hf, h => by
    obtain ⟨f, rfl⟩ : ∃ g, f = g + 1 := ⟨f - 1, by omega⟩
    rw [go_end (.inr rfl) f k n 1 sp nm at1 ks a kd newB h]
    simp
  | j + 1, f, k, n, sp, nm, at1, ks, a, kd, hn, hf, h => by
    obtain ⟨f, rfl⟩ : ∃ g, f = g + 1 + 1 := ⟨f - 2, by omega⟩
    rw [rep, List.append_assoc] at h
    rw [goT, next_empty (.inl rfl) h.left]
    simp only
    rw [if_neg (by simp), if_neg (by decide), if_pos (.inr trivial), go_leaf (.inl rfl) f _ _ (by omega) (by omega)]
    simp only
    rw [go_many j (f + 1) (k + 4) (n + 1) sp nm at1 (ks ++ [leaf 97]) a kd (by omega) (by omega) (h.right), List.append_assoc, List.replicate_succ, List.singleton_append]
    simp only [show k + 4 + 4 * j + 4 = k + 4 * (j + 1) + 4 by omega, show n + 1 + j = n + (j + 1) by omega]
/-- one too many -/
theorem go_toomany {s : ByteArray} : ∀ (j f k n : Nat) (sp nm : ByteArray) (at1 : List (ByteArray × ByteArray)) (ks : List Nod) (p : Pc) , n + j = 2000 → j + 1 < f → Lies s k (rep aE (j + 1)) →
    ∃ r, goT s f (some ⟨sp, nm, at1, ks, ByteArray.empty⟩) p ⟨⟨k, 0, 0⟩, newB, 1, n⟩ = (.error (5, ((k + 4 * j : Nat) : Int)), r)
  | 0, f, k, n, sp, nm, at1, ks, p, hn, hf, h => by
    obtain ⟨f, rfl⟩ : ∃ g, f = g + 1 + 1 := ⟨f - 2, by omega⟩
    rw [rep] at h
    obtain ⟨r, hr⟩ := go_big (s := s) f ⟨3, str [97], [], ByteArray.empty, k⟩ ⟨k + 4, 0, 0⟩ newB (d := 1) (n := n) (by omega)
    refine ⟨r, ?_⟩
    rw [goT, next_empty (.inl rfl) h.left]
    simp only
    rw [if_neg (by simp), if_neg (by decide), if_pos (.inr trivial), hr]
    simp
  | j + 1, f, k, n, sp, nm, at1, ks, p, hn, hf, h => by
    obtain ⟨f, rfl⟩ : ∃ g, f = g + 1 + 1 := ⟨f - 2, by omega⟩
    rw [rep] at h
    obtain ⟨r, hr⟩ := go_toomany (s := s) j (f + 1) (k + 4) (n + 1) sp nm at1 (ks ++ [leaf 97]) p (by omega) (by omega) h.right
    refine ⟨r, ?_⟩
    rw [goT, next_empty (.inl rfl) h.left]
    simp only
    rw [if_neg (by simp), if_neg (by decide), if_pos (.inr trivial), go_leaf (.inl rfl) f _ _ (by omega) (by omega)]
    simp only
    rw [hr, show k + 4 + 4 * j = k + 4 * (j + 1) by omega]
/-- elements within one another -/
def deepN : Nat → Nod
  | 0 => .mk ByteArray.empty (str [97]) [] [] (trim ByteArray.empty)
  | n + 1 => .mk ByteArray.empty (str [97]) [] [deepN n] ByteArray.empty
theorem deepN_dep : ∀ n, dep (deepN n) = n + 1
  | 0 => by simp [deepN, dep, depL]
  | n + 1 => by rw [deepN, dep, depL, depL, deepN_dep n, Nat.max_zero]
theorem go_deep {s : ByteArray} : ∀ (j f k d n : Nat) (a : Int) (B : List UInt8), d + j < 32 → n + j < 2000 → 3 * j + 3 < f → Lies s k (rep aS j ++ (rep aZ (j + 1) ++ B)) →
    goT s f none ⟨1, str [97], [], ByteArray.empty, a⟩ ⟨⟨k, 0, 0⟩, newB, d, n⟩ = (.ok (deepN j), ⟨⟨k + 3 * j + 4 * (j + 1), 0, 0⟩, newB, d, n + j + 1⟩)
  | 0, f, k, d, n, a, B, hd, hn, hf, h => by
    obtain ⟨f, rfl⟩ : ∃ g, f = g + 1 + 1 := ⟨f - 2, by omega⟩
    rw [goT, begin_small (d := d) (n := n) (.inl rfl) 1 a (by omega) (by omega)]
    simp only
    rw [if_neg (by decide), go_end (.inl rfl) f k (n + 1) (d + 1) _ _ _ _ a 1 newB (Lies.left (l := aZ) (r := B) (by simpa [rep] using h))]
    unfold leaveR
    simp [leave_small, deepN]
  | j + 1, f, k, d, n, a, B, hd, hn, hf, h => by
    obtain ⟨f, rfl⟩ : ∃ g, f = g + 1 + 1 + 1 := ⟨f - 3, by omega⟩
    rw [rep, List.append_assoc] at h
    have h2 : Lies s (k + 3) (rep aS j ++ (rep aZ (j + 1) ++ (aZ ++ B))) := by
      have := h.right
      rw [rep_last aZ (j + 1), List.append_assoc] at this
      exact this
    have h3 : Lies s (k + 3 + 3 * j + 4 * (j + 1)) aZ := by
      have h4 := h2.right
      have h5 := h4.right.left
      rw [rep_len, rep_len] at h5
      rw [show k + 3 + 3 * j + 4 * (j + 1) = k + 3 + j * aS.length + (j + 1) * aZ.length by show _ = k + 3 + j * 3 + (j + 1) * 4; omega]
      exact h5
    rw [goT, begin_small (d := d) (n := n) (.inl rfl) 1 a (by omega) (by omega)]
    simp only
    rw [if_neg (by decide), goT, next_start (.inl rfl) h.left]
    simp only
    rw [if_neg (by simp), if_neg (by decide), if_pos (.inl trivial), go_deep j (f + 1) (k + 3) (d + 1) (n + 1) k (aZ ++ B) (by omega) (by omega) (by omega) h2]
    simp only
    rw [go_end (.inl rfl) f _ (n + 1 + j + 1) (d + 1) _ _ _ _ a 1 newB h3]
    unfold leaveR
    simp only [leave_small, Nat.add_sub_cancel, deepN, List.nil_append, ne_eq, List.cons_ne_nil, not_false_eq_true, if_true]
    simp only [show k + 3 + 3 * j + 4 * (j + 1) + 4 = k + 3 * (j + 1) + 4 * (j + 1 + 1) by omega, show n + 1 + j + 1 = n + (j + 1) + 1 by omega]
/-- one too deep -/
theorem go_toodeep {s : ByteArray} : ∀ (j f k d n : Nat) (a : Int), d + j = 32 → n + j < 2000 → 3 * j + 3 < f → Lies s k (rep aS j) →
    ∃ r, goT s f none ⟨1, str [97], [], ByteArray.empty, a⟩ ⟨⟨k, 0, 0⟩, newB, d, n⟩ = (.error (4, if j = 0 then a else ((k + 3 * (j - 1) : Nat) : Int)), r)
  | 0, f, k, d, n, a, hd, hn, hf, h => by
    obtain ⟨f, rfl⟩ : ∃ g, f = g + 1 := ⟨f - 1, by omega⟩
    obtain rfl : d = 32 := by omega
    exact go_deep32 f _ _ _ (by omega)
  | j + 1, f, k, d, n, a, hd, hn, hf, h => by
    obtain ⟨f, rfl⟩ : ∃ g, f = g + 1 + 1 := ⟨f - 2, by omega⟩
    rw [rep] at h
    obtain ⟨r, hr⟩ := go_toodeep (s := s) j f (k + 3) (d + 1) (n + 1) k (by omega) (by omega) (by omega) h.right
    refine ⟨leaveR r, ?_⟩
    rw [goT, begin_small (d := d) (n := n) (.inl rfl) 1 a (by omega) (by omega)]
    simp only
    rw [if_neg (by decide), goT, next_start (.inl rfl) h.left]
    simp only
    rw [if_neg (by simp), if_neg (by decide), if_pos (.inl trivial), hr]
    simp only
    congr 2
    by_cases h0 : j = 0
    · subst h0; simp
    · rw [if_neg h0, if_neg (by omega), show k + 3 + 3 * (j - 1) = k + 3 * (j + 1 - 1) by omega]
end Xm
end Go.Proofs.YtfkdjdmbgednkaaDoor

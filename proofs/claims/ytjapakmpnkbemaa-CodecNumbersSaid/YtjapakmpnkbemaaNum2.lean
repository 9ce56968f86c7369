/- What is written is read again, and what is read was written so: plain facts on lists of bytes, no program. -/
import Derived.Test.YtjapakmpnkbemaaNum
namespace Go.Proofs.Ytjapakmpnkbemaa
namespace Num

theorem pow7 (k : Nat) : 2 ^ (7 * (k + 1)) = 128 * 2 ^ (7 * k) := by rw [Nat.mul_add, Nat.pow_add, Nat.mul_comm]
theorem total (n m k : Nat) : n + m % 128 * 2 ^ (7 * k) + m / 128 * 2 ^ (7 * (k + 1)) = n + m * 2 ^ (7 * k) := by
  rw [pow7, ← Nat.mul_assoc, Nat.add_assoc, ← Nat.add_mul]
  congr 2
  omega
theorem hi_byte {m : Nat} : (UInt8.ofNat (m % 128 + 128)).toNat = m % 128 + 128 := by rw [UInt8.toNat_ofNat']; omega
theorem lo_byte {m : Nat} (h : m < 128) : (UInt8.ofNat m).toNat = m := by rw [UInt8.toNat_ofNat']; omega

/-- what is written is read -/
theorem scan_vint (r : List UInt8) : ∀ (f k n m : Nat), (vint m).length ≤ f → (0 < k → 0 < m) → n + m * 2 ^ (7 * k) ≤ 2147483647 →
    scan k n (vint m ++ r) f = (n + m * 2 ^ (7 * k), k + (vint m).length)
  | 0, k, n, m, hl, _, _ => by have := vint_ne m; cases h : vint m <;> simp_all
  | f + 1, k, n, m, hl, h0, ht => by
    by_cases hm : m < 128
    · rw [vint_lo hm, List.singleton_append, scan, lo_byte hm, if_neg (by omega), if_neg (by omega)]
      simp
    · have hm : 128 ≤ m := by omega
      rw [vint_hi hm] at hl ⊢
      rw [List.cons_append, scan, hi_byte, if_pos (by omega), show m % 128 + 128 - 128 = m % 128 by omega,
        scan_vint r f (k + 1) _ (m / 128) (by simpa using hl) (by omega) (by rw [total]; exact ht), total, List.length_cons]
      congr 1
      omega

/-- what is too great is not read -/
theorem scan_big : ∀ (f k n m : Nat), 2147483647 < n + m * 2 ^ (7 * k) → scan k n (vint m) f = (0, 0)
  | 0, k, n, m, _ => by simp [scan]
  | f + 1, k, n, m, ht => by
    by_cases hm : m < 128
    · rw [vint_lo hm, scan, lo_byte hm, if_neg (by omega), if_pos (.inr ht)]
    · have hm : 128 ≤ m := by omega
      rw [vint_hi hm, scan, hi_byte, if_pos (by omega), show m % 128 + 128 - 128 = m % 128 by omega]
      exact scan_big f (k + 1) _ (m / 128) (by rw [total]; exact ht)

/-- what is read was written so -/
theorem scan_sound : ∀ (f k n : Nat) (l : List UInt8), scan k n l f = (0, 0) ∨
    ∃ m, scan k n l f = (n + m * 2 ^ (7 * k), k + (vint m).length) ∧ (0 < k → 0 < m) ∧ n + m * 2 ^ (7 * k) ≤ 2147483647 ∧ (vint m).length ≤ l.length ∧ vint m = l.take (vint m).length
  | 0, k, n, l => .inl (by simp [scan])
  | f + 1, k, n, [] => .inl (by simp [scan])
  | f + 1, k, n, c :: r => by
    have hc := c.toNat_lt
    rw [scan]
    split
    · rename_i h
      rcases scan_sound f (k + 1) (n + (c.toNat - 128) * 2 ^ (7 * k)) r with h' | ⟨m, h1, h2, h3, h4, h5⟩
      · exact .inl h'
      · have hm0 := h2 (by omega)
        have e1 : (c.toNat - 128 + 128 * m) % 128 = c.toNat - 128 := by omega
        have e2 : (c.toNat - 128 + 128 * m) / 128 = m := by omega
        have ev : vint (c.toNat - 128 + 128 * m) = c :: vint m := by
          rw [vint_hi (by omega), e1, e2, show c.toNat - 128 + 128 = c.toNat by omega]
          congr 1
          exact UInt8.ofNat_toNat
        have et := total n (c.toNat - 128 + 128 * m) k
        rw [e1, e2] at et
        rw [et] at h1 h3
        refine .inr ⟨c.toNat - 128 + 128 * m, ?_, fun _ => by omega, h3, by rw [ev]; simpa using h4, ?_⟩
        · rw [h1, ev, List.length_cons]
          congr 1
          omega
        · rw [ev, List.length_cons, List.take_succ_cons, ← h5]
    · rename_i h
      split
      · exact .inl rfl
      · rename_i hb
        have ev : vint c.toNat = [c] := by rw [vint_lo (by omega)]; congr 1; exact UInt8.ofNat_toNat
        refine .inr ⟨c.toNat, by rw [ev]; rfl, fun hk => by omega, by omega, by rw [ev]; simp, by rw [ev]; simp⟩

theorem get_vint {k : Nat} (r : List UInt8) (h : k < 2147483648) : get (vint k ++ r) = (k, (vint k).length) := by
  have := scan_vint r 5 0 0 k (vint_len_le 4 k (by omega)) (by omega) (by omega)
  simpa [get] using this
theorem get_big {k : Nat} (h : 2147483648 ≤ k) : get (vint k) = (0, 0) := scan_big 5 0 0 k (by omega)
theorem get_sound (l : List UInt8) : get l = (0, 0) ∨ ∃ m, get l = (m, (vint m).length) ∧ m < 2147483648 ∧ (vint m).length ≤ l.length ∧ vint m = l.take (vint m).length := by
  rcases scan_sound 5 0 0 l with h | ⟨m, h1, _, h3, h4, h5⟩
  · exact .inl h
  · exact .inr ⟨m, by simpa [get] using h1, by omega, h4, h5⟩
end Num
end Go.Proofs.Ytjapakmpnkbemaa

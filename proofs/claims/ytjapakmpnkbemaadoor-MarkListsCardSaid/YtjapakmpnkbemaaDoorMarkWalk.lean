/- package mark: bit, Has, Put, Take by their contracts. -/
import Derived.Test.YtjapakmpnkbemaaDoorProg
import Derived.Test.YtjapakmpnkbemaaDoorMark
import Derived.Outline
import Derived.Lib.Hide
namespace Go.Proofs.YtjapakmpnkbemaaDoor
open Go.RowKit

/-- a number of tokens as a value -/
def mk (m : Nat) : Value := .int .u64 (m : Int)

theorem ret_mark {a b : Int} {c : Bool} (h : a = b) : Ending.returned (.tuple #[.int .u64 a, .bool c]) = .returned (.tuple #[.int .u64 b, .bool c]) := by rw [h]
theorem pow_u64 {k : Nat} (h : 2 ^ k ≤ 2 ^ 63) : IntKind.u64.wrap (2 ^ k) = ((2 ^ k : Nat) : Int) := by
  have e : ((2 : Int) ^ k) = ((2 ^ k : Nat) : Int) := by simp
  rw [e]
  generalize 2 ^ k = q at h
  exact IntWalk.u64_in _ (by omega)
theorem ret_u64 {a b : Int} (h : a = b) : Ending.returned (.int .u64 a) = .returned (.int .u64 b) := by rw [h]

set_option maxRecDepth 100000 in
set_option maxHeartbeats 400000 in
theorem bit_any (p : Int) (w : World) : Calls Tryd.prog 15 #[.int .i64 p] w fun e w' => e = .returned (.int .u64 (Mark.bit p : Int)) ∧ w = w' := by
  by_cases h0 : 0 ≤ p
  · by_cases h1 : p < 64
    · have hp : (2 : Nat) ^ p.toNat ≤ 2 ^ 63 := Nat.pow_le_pow_right (by omega) (by omega)
      have Hb : Hid (_ = _) := Lib.hid (Mark.bit_in h0 h1)
      go_enter Tryd.func15, Tryd.ntmps15
      go_wp2
      go_ret
      exact ⟨ret_u64 (by rw [Hb.out]; exact pow_u64 hp), rfl⟩
    · have Hb : Hid (_ = _) := Lib.hid (Mark.bit_out (p := p) (by omega))
      go_enter Tryd.func15, Tryd.ntmps15
      go_wp2
      go_ret
      exact ⟨ret_u64 (by rw [Hb.out]; rfl), rfl⟩
  · have Hb : Hid (_ = _) := Lib.hid (Mark.bit_out (p := p) (by omega))
    go_enter Tryd.func15, Tryd.ntmps15
    go_wp2
    go_ret
    exact ⟨ret_u64 (by rw [Hb.out]; rfl), rfl⟩

set_option maxRecDepth 100000 in
set_option maxHeartbeats 400000 in
theorem has_any (m : Nat) (p : Int) (w : World) (hm : m < 2 ^ 64) : Calls Tryd.prog 13 #[.int .u64 (m : Int), .int .i64 p] w fun e w' => e = .returned (.bool (Mark.has m p)) ∧ w = w' := by
  have hlt := Mark.bit_lt p
  have hand := bits_and_u64_nat m (Mark.bit p) (by omega) (by omega)
  go_enter Tryd.func13, Tryd.ntmps13
  go_wp2_with (go_at_call 15; refine (bit_any p _).mono ?_; rintro e w' ⟨rfl, rfl⟩)
  go_ret
  refine ⟨congrArg (fun b => Ending.returned (.bool b)) ?_, rfl⟩
  have := Mark.and_bit_ne m p
  cases h : Mark.has m p <;> simp [h] at this ⊢ <;> omega

set_option maxRecDepth 100000 in
set_option maxHeartbeats 400000 in
theorem put_no (m : Nat) (p : Int) (w : World) (hm : m < 2 ^ 64) (h : ¬ (0 ≤ p ∧ p < 64) ∨ Mark.has m p = true) :
    Calls Tryd.prog 12 #[.int .u64 (m : Int), .int .i64 p] w fun e w' => e = .returned (.tuple #[.int .u64 (m : Int), .bool false]) ∧ w = w' := by
  have hlt := Mark.bit_lt p
  have hand := bits_and_u64_nat m (Mark.bit p) (by omega) (by omega)
  by_cases hz : Mark.bit p = 0
  · have hb : (((Mark.bit p : Nat) : Int) == 0) = true := by simp [hz]
    go_enter Tryd.func12, Tryd.ntmps12
    clear hz
    go_wp2_with (go_at_call 15; refine (bit_any p _).mono ?_; rintro e w' ⟨rfl, rfl⟩)
    go_ret2
    exact ⟨rfl, rfl⟩
  · have hb : (((Mark.bit p : Nat) : Int) == 0) = false := by simp [hz]
    have hh : Mark.has m p = true := by
      rcases h with h | h
      · exact absurd (Mark.bit_out h) hz
      · exact h
    have hn : (((m &&& Mark.bit p : Nat) : Int) != 0) = true := by
      have := (Mark.and_bit_ne m p).2 hh
      simp; omega
    go_enter Tryd.func12, Tryd.ntmps12
    clear hz hh h
    go_wp2_with (go_at_call 15; refine (bit_any p _).mono ?_; rintro e w' ⟨rfl, rfl⟩)
    go_ret2
    exact ⟨rfl, rfl⟩

set_option maxRecDepth 100000 in
set_option maxHeartbeats 400000 in
theorem put_yes (m : Nat) (p : Int) (w : World) (hm : m < 2 ^ 64) (h0 : 0 ≤ p) (h1 : p < 64) (h : Mark.has m p = false) :
    Calls Tryd.prog 12 #[.int .u64 (m : Int), .int .i64 p] w fun e w' => e = .returned (.tuple #[.int .u64 ((m ||| 2 ^ p.toNat : Nat) : Int), .bool true]) ∧ w = w' := by
  have hlt := Mark.bit_lt p
  have hand := bits_and_u64_nat m (Mark.bit p) (by omega) (by omega)
  have hor := bits_or_u64_nat m (Mark.bit p) (by omega) (by omega)
  have hb : (((Mark.bit p : Nat) : Int) == 0) = false := by have := Mark.bit_pos h0 h1; simp; omega
  have hn : (((m &&& Mark.bit p : Nat) : Int) != 0) = false := by
    have := mt (Mark.and_bit_ne m p).1 (by simp [h])
    simp; omega
  have Hb : Hid (_ = _) := Lib.hid (Mark.bit_in h0 h1)
  go_enter Tryd.func12, Tryd.ntmps12
  clear h
  go_wp2_with (go_at_call 15; refine (bit_any p _).mono ?_; rintro e w' ⟨rfl, rfl⟩)
  go_ret2
  exact ⟨ret_mark (by rw [← Hb.out]), rfl⟩

/-- the reference's tokens as cells: a truth for each place, and one more -/
def tokCells (l : List Bool) : Array Value := (l.map Value.bool ++ [Value.bool false]).toArray
theorem tokCells_size (l : List Bool) : (tokCells l).size = l.length + 1 := by simp [tokCells]
theorem tokCells_get {l : List Bool} {i : Nat} (h : i < l.length) : (tokCells l)[i]? = some (.bool (l.getD i false)) := by
  simp [tokCells, List.getElem?_append, h]

theorem wrap_u64_nat (X : Nat) : IntKind.u64.wrap ((X : Int) * 2) = ((2 * X % 2 ^ 64 : Nat) : Int) := by
  rw [IntKind.wrap_u64]
  omega

set_option maxRecDepth 100000 in
set_option maxHeartbeats 400000 in
theorem tokens_mark (l : List Bool) (w : World) (hl : l.length = 64) :
    Calls Tryd.prog 10 #[.agg (tokCells l)] w fun e w' => e = .returned (.int .u64 (Mark.ofBools l : Int)) ∧ w' = w.alloc (.cells (tokCells l) 27) := by
  have Hcell : Hid (∀ k, k < 64 → (w.alloc (.cells (tokCells l) 27)).cell? ⟨w.heap.size, k, none⟩ = some (.bool (l.getD k false))) := Lib.hid fun k hk => by
    rw [World.cell?_alloc_new]
    exact tokCells_get (by omega)
  have Hlt : Hid (∀ k, k ≤ 64 → Mark.ofBools (l.take k) < 2 ^ k) := Lib.hid fun k hk => by
    have := Mark.ofBools_lt (l.take k)
    rwa [List.length_take, Nat.min_eq_left (by omega)] at this
  have Hsn : Hid (∀ k, k < 64 → Mark.ofBools (l.take (k + 1)) = Mark.ofBools (l.take k) + if l.getD k false then 2 ^ k else 0) := Lib.hid fun k hk => by
    rw [List.take_succ_eq_append_getElem (by omega), Mark.ofBools_snoc, List.length_take, Nat.min_eq_left (by omega)]
    simp [show k < l.length by omega]
  have Hl := Lib.hid hl
  generalize tokCells l = c at *
  clear hl
  go_enter Tryd.func10, Tryd.ntmps10
  go_wp2_with fail
  go_loop [3, 4, 5] (fun m x i => ∃ k : Nat, k ≤ 64 ∧ i = .int .i64 k ∧ m = .int .u64 (Mark.ofBools (l.take k) : Int) ∧ x = .int .u64 ((2 ^ k % 2 ^ 64 : Nat) : Int)) (fun _ _ i => 64 - (intOf i).toNat)
  case atStart => exact ⟨0, by omega, rfl, rfl, rfl⟩
  case round =>
    obtain ⟨k, hk, rfl, rfl, rfl⟩ := hrel
    by_cases hk64 : k < 64
    · have hcell := Hcell.out k hk64
      have hp : (2 : Nat) ^ k ≤ 2 ^ 63 := Nat.pow_le_pow_right (by omega) (by omega)
      have hlt := Hlt.out k hk
      have hmod : Hid (2 ^ k % 2 ^ 64 = 2 ^ k) := Lib.hid (Nat.mod_eq_of_lt (by omega))
      have hx : Hid (2 ^ (k + 1) % 2 ^ 64 = 2 * 2 ^ k % 2 ^ 64) := Lib.hid (by rw [Nat.pow_succ, Nat.mul_comm])
      have hs := Hsn.out k hk64
      have Hs := Lib.hid hs
      rw [hmod.out]
      clear hs hmod
      have hlt' : Mark.ofBools (l.take k) < 2 ^ 63 := by
        rcases Nat.lt_or_ge k 63 with h | h
        · have : (2 : Nat) ^ k ≤ 2 ^ 63 := Nat.pow_le_pow_right (by omega) (by omega)
          omega
        · have : k = 63 := by omega
          subst this
          exact hlt
      generalize Mark.ofBools (l.take k) = M at *
      generalize hX : 2 ^ k = X at *
      clear hX
      cases hb : l.getD k false with
      | true =>
        rw [hb] at hcell Hs
        go_wp2
        go_round
        case rel =>
          refine ⟨k + 1, by omega, by go_num, ?_, ?_⟩
          · rw [Hs.out]; go_num
          · rw [hx.out]; exact congrArg (Value.int .u64) (wrap_u64_nat X)
        case measure => simp [intOf]; omega
      | false =>
        rw [hb] at hcell Hs
        go_wp2
        go_round
        case rel =>
          refine ⟨k + 1, by omega, by go_num, ?_, ?_⟩
          · rw [Hs.out]; go_num
          · rw [hx.out]; exact congrArg (Value.int .u64) (wrap_u64_nat X)
        case measure => simp [intOf]; omega
    · have : k = 64 := by omega
      subst this
      go_wp2
      go_ret
      exact ⟨ret_u64 (by rw [List.take_of_length_le (by rw [Hl.out]; omega)]), rfl⟩
end Go.Proofs.YtjapakmpnkbemaaDoor

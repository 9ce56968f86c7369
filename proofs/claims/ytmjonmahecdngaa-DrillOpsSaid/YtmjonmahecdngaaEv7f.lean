/- Ev: whole numbers, done at once. No program. -/
import Derived.Test.YtmjonmahecdngaaEv7
namespace Go.Proofs.Ytmjonmahecdngaa
open Go.RowKit
namespace Ev
variable {P : Program}

def wrapF (k : IntKind) (n : Int) : Int := match k with
  | .i64 => (match n % 18446744073709551616 with
    | .ofNat m => if Nat.ble 9223372036854775808 m then Int.subNatNat m 18446744073709551616 else .ofNat m
    | r => r)
  | .u64 => n % 18446744073709551616
  | .u32 => n % 4294967296
  | .u8 => n % 256
  | k => k.wrap n
theorem wrapF_eq (k : IntKind) (n : Int) : wrapF k n = k.wrap n := by
  cases k <;> simp only [wrapF] <;> try rfl
  have hp : 0 ≤ n % 18446744073709551616 := Int.emod_nonneg _ (by decide)
  have e1 : IntKind.wrap .i64 n = if n % 18446744073709551616 ≥ 9223372036854775808 then n % 18446744073709551616 - 18446744073709551616 else n % 18446744073709551616 := by
    simp [IntKind.wrap, IntKind.bits, IntKind.signed]
  rw [e1]
  cases hm : n % 18446744073709551616 with
  | ofNat m =>
    simp only [Nat.ble_eq]
    by_cases h : 9223372036854775808 ≤ m
    · rw [if_pos h, if_pos (show (Int.ofNat m) ≥ 9223372036854775808 by simp only [Int.ofNat_eq_natCast]; omega), Int.subNatNat_eq_coe]; rfl
    · rw [if_neg h, if_neg (show ¬ (Int.ofNat m) ≥ 9223372036854775808 by simp only [Int.ofNat_eq_natCast]; omega)]
  | negSucc m => rw [hm] at hp; omega
def ltF : Int → Int → Bool
  | .ofNat a, .ofNat b => Nat.blt a b
  | a, b => decide (a < b)
theorem ltF_eq (a b : Int) : ltF a b = decide (a < b) := by
  unfold ltF
  split
  · rename_i a b
    rw [Bool.eq_iff_iff]
    simp [Nat.blt_eq]
  · rfl
def eqF : Int → Int → Bool
  | .ofNat a, .ofNat b => Nat.beq a b
  | a, b => decide (a = b)
theorem eqF_eq (a b : Int) : eqF a b = decide (a = b) := by
  unfold eqF
  split
  · rename_i a b
    rw [Bool.eq_iff_iff]
    simp [Nat.beq_eq]
    omega
  · rfl
theorem not_lt_dec (a b : Int) : (!decide (b < a)) = decide (a ≤ b) := by rw [Bool.eq_iff_iff]; simp [Int.not_lt]
def natBits (op : BinOp) (a b : Nat) : Option Nat := match op with
  | .and => some (Nat.land a b)
  | .or => some (Nat.lor a b)
  | .xor => some (Nat.xor a b)
  | _ => none
/-- what it comes to, if it is one of these -/
def fastI (op : BinOp) (k k' : IntKind) (a b : Int) : Option Value := match op with
  | .add => if k = k' then some (.int k (wrapF k (a + b))) else none
  | .sub => if k = k' then some (.int k (wrapF k (a - b))) else none
  | .mul => if k = k' then some (.int k (wrapF k (a * b))) else none
  | .lss => if k = k' then some (.bool (ltF a b)) else none
  | .gtr => if k = k' then some (.bool (ltF b a)) else none
  | .leq => if k = k' then some (.bool (!ltF b a)) else none
  | .geq => if k = k' then some (.bool (!ltF a b)) else none
  | .eql => if k = k' then some (.bool (eqF a b)) else none
  | .neq => if k = k' then some (.bool (!eqF a b)) else none
  | .quo => if k = k' then (match b with | .ofNat (b + 1) => some (.int k (wrapF k (a.tdiv (.ofNat (b + 1))))) | _ => none) else none
  | .rem => if k = k' then (match b with | .ofNat (b + 1) => some (.int k (a.tmod (.ofNat (b + 1)))) | _ => none) else none
  | .shr => match a, b with
    | .ofNat a, .ofNat b => if Nat.ble b 63 && Nat.ble b k.bits then some (.int k (.ofNat (Nat.shiftRight a b))) else none
    | _, _ => none
  | .shl => match a, b with
    | .ofNat a, .ofNat b => if Nat.ble b 63 && Nat.ble b k.bits then some (.int k (wrapF k (.ofNat (Nat.shiftLeft a b)))) else none
    | _, _ => none
  | .and | .or | .xor => match a, b with
    | .ofNat a, .ofNat b => if k = k' ∧ a < 2 ^ k.bits ∧ b < 2 ^ k.bits then (match natBits op a b with | some r => some (.int k (wrapF k (.ofNat r))) | none => none) else none
    | _, _ => none
  | _ => none
theorem fastI_spec {op : BinOp} {k k' : IntKind} {a b : Int} {v : Value} (h : fastI op k k' a b = some v) (T : TypeId) (w : World) : (binOp op T (.int k a) (.int k' b)).run P w = .ok v w := by
  cases op <;> simp only [fastI] at h
  case quo =>
    split at h
    · subst k'
      split at h
      · rename_i n
        cases h
        have : (Int.ofNat (n + 1)) ≠ 0 := by simp only [Int.ofNat_eq_natCast]; omega
        simp only [binOp, Op.intDiv, wrapF_eq, if_neg this, ne_eq, not_true_eq_false, if_false]; rfl
      · cases h
    · cases h
  case rem =>
    split at h
    · subst k'
      split at h
      · rename_i n
        cases h
        have : (Int.ofNat (n + 1)) ≠ 0 := by simp only [Int.ofNat_eq_natCast]; omega
        simp only [binOp, Op.intDiv, if_neg this, ne_eq, not_true_eq_false, if_false]; rfl
      · cases h
    · cases h
  case shr =>
    split at h
    · rename_i a b
      split at h
      · rename_i hb
        cases h
        simp only [Bool.and_eq_true, Nat.ble_eq] at hb
        have h0 : ¬ (Int.ofNat b < 0) := by simp only [Int.ofNat_eq_natCast]; omega
        have hmin : min (Int.ofNat b).toNat k.bits = b := by show min b k.bits = b; exact Nat.min_eq_left hb.2
        have e : (Int.ofNat (Nat.shiftRight a b)) = (Int.ofNat a).fdiv (2 ^ b) := by
          show ((a >>> b : Nat) : Int) = _
          rw [Nat.shiftRight_eq_div_pow, Int.natCast_ediv, Int.natCast_pow]
          rw [Int.fdiv_eq_ediv_of_nonneg _ (by exact_mod_cast Nat.zero_le _)]
          rfl
        simp only [binOp, Op.shift, if_neg h0, hmin, ← e]; rfl
      · cases h
    · cases h
  case shl =>
    split at h
    · rename_i a b
      split at h
      · rename_i hb
        cases h
        simp only [Bool.and_eq_true, Nat.ble_eq] at hb
        have h0 : ¬ (Int.ofNat b < 0) := by simp only [Int.ofNat_eq_natCast]; omega
        have hmin : min (Int.ofNat b).toNat k.bits = b := by show min b k.bits = b; exact Nat.min_eq_left hb.2
        have e : (Int.ofNat (Nat.shiftLeft a b)) = (Int.ofNat a) * (2 ^ b) := by
          show ((a <<< b : Nat) : Int) = _
          rw [Nat.shiftLeft_eq, Int.natCast_mul, Int.natCast_pow]
          rfl
        simp only [binOp, Op.shift, if_neg h0, hmin, wrapF_eq, e]; rfl
      · cases h
    · cases h
  case and =>
    split at h
    · rename_i a b
      split at h
      · rename_i hh
        obtain ⟨rfl, ha, hb⟩ := hh
        simp only [natBits] at h
        cases h
        have e : (BitVec.ofInt k.bits (Int.ofNat a) &&& BitVec.ofInt k.bits (Int.ofNat b)).toNat = Nat.land a b := by
          show (BitVec.ofInt k.bits (a : Int) &&& BitVec.ofInt k.bits (b : Int)).toNat = a &&& b
          rw [BitVec.ofInt_natCast, BitVec.ofInt_natCast, BitVec.toNat_and, BitVec.toNat_ofNat, BitVec.toNat_ofNat, Nat.mod_eq_of_lt ha, Nat.mod_eq_of_lt hb]
        simp only [binOp, Op.intBits, wrapF_eq, ne_eq, not_true_eq_false, if_false, e]; rfl
      · cases h
    · cases h
  case or =>
    split at h
    · rename_i a b
      split at h
      · rename_i hh
        obtain ⟨rfl, ha, hb⟩ := hh
        simp only [natBits] at h
        cases h
        have e : (BitVec.ofInt k.bits (Int.ofNat a) ||| BitVec.ofInt k.bits (Int.ofNat b)).toNat = Nat.lor a b := by
          show (BitVec.ofInt k.bits (a : Int) ||| BitVec.ofInt k.bits (b : Int)).toNat = a ||| b
          rw [BitVec.ofInt_natCast, BitVec.ofInt_natCast, BitVec.toNat_or, BitVec.toNat_ofNat, BitVec.toNat_ofNat, Nat.mod_eq_of_lt ha, Nat.mod_eq_of_lt hb]
        simp only [binOp, Op.intBits, wrapF_eq, ne_eq, not_true_eq_false, if_false, e]; rfl
      · cases h
    · cases h
  case xor =>
    split at h
    · rename_i a b
      split at h
      · rename_i hh
        obtain ⟨rfl, ha, hb⟩ := hh
        simp only [natBits] at h
        cases h
        have e : (BitVec.ofInt k.bits (Int.ofNat a) ^^^ BitVec.ofInt k.bits (Int.ofNat b)).toNat = Nat.xor a b := by
          show (BitVec.ofInt k.bits (a : Int) ^^^ BitVec.ofInt k.bits (b : Int)).toNat = a ^^^ b
          rw [BitVec.ofInt_natCast, BitVec.ofInt_natCast, BitVec.toNat_xor, BitVec.toNat_ofNat, BitVec.toNat_ofNat, Nat.mod_eq_of_lt ha, Nat.mod_eq_of_lt hb]
        simp only [binOp, Op.intBits, wrapF_eq, ne_eq, not_true_eq_false, if_false, e]; rfl
      · cases h
    · cases h
  all_goals first
    | (cases h; done)
    | (split at h
       · subst k'
         cases h
         simp only [binOp, Op.intArith, Op.intCmp, wrapF_eq, ltF_eq, eqF_eq, not_lt_dec, ne_eq, not_true_eq_false, if_false]
         first
           | rfl
           | (simp; done)
           | (simp; omega)
       · cases h)
end Ev
end Go.Proofs.Ytmjonmahecdngaa

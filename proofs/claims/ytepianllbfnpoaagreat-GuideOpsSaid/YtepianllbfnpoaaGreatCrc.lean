/- crc.Add, crc.Sum by their contracts. -/
import Derived.Test.YtepianllbfnpoaaGreatMBase
import Derived.Test.YtepianllbfnpoaaGreatProg
namespace Go.Proofs.YtepianllbfnpoaaGreat
open Go.RowKit
namespace Crc
def step (s : Nat) : Nat := if s % 2 = 1 then Nat.xor (s / 2) 3988292384 else s / 2
def rounds : Nat → Nat → Nat
  | 0, s => s
  | n + 1, s => rounds n (step s)
def add (s b : Nat) : Nat := rounds 8 (Nat.xor s b)
def sumFrom : Nat → List Nat → Nat
  | s, [] => s
  | s, b :: l => sumFrom (add s b) l
def sum (l : List Nat) : Nat := 4294967295 - sumFrom 4294967295 l
theorem xor_lt {a b : Nat} (ha : a < 4294967296) (hb : b < 4294967296) : Nat.xor a b < 4294967296 := Nat.xor_lt_two_pow (n := 32) ha hb
theorem step_lt {s : Nat} (h : s < 4294967296) : step s < 4294967296 := by
  unfold step
  split
  · exact xor_lt (by omega) (by omega)
  · omega
theorem rounds_lt : ∀ (n : Nat) {s : Nat}, s < 4294967296 → rounds n s < 4294967296
  | 0, _, h => h
  | n + 1, _, h => rounds_lt n (step_lt h)
theorem add_lt {s b : Nat} (hs : s < 4294967296) (hb : b < 256) : add s b < 4294967296 := rounds_lt 8 (xor_lt hs (by omega))
theorem sumFrom_lt : ∀ (l : List Nat) {s : Nat}, s < 4294967296 → (∀ b ∈ l, b < 256) → sumFrom s l < 4294967296
  | [], _, h, _ => h
  | b :: l, _, h, hb => sumFrom_lt l (add_lt h (hb b (by simp))) fun c hc => hb c (by simp [hc])
theorem sumFrom_snoc (s : Nat) (l : List Nat) (b : Nat) : sumFrom s (l ++ [b]) = add (sumFrom s l) b := by
  induction l generalizing s with
  | nil => rfl
  | cons c l ih => exact ih _
end Crc
theorem u32_xor (a b : Nat) (ha : a < 4294967296) (hb : b < 4294967296) : bits .xor .u32 (a : Int) (b : Int) = (Nat.xor a b : Nat) := by
  have h := Crc.xor_lt ha hb
  show IntKind.u32.wrap ((BitVec.ofInt 32 (a : Int) ^^^ BitVec.ofInt 32 (b : Int)).toNat : Nat) = _
  rw [BitVec.ofInt_natCast, BitVec.ofInt_natCast, BitVec.toNat_xor, BitVec.toNat_ofNat, BitVec.toNat_ofNat, Nat.mod_eq_of_lt (by omega), Nat.mod_eq_of_lt (by omega), IntKind.wrap_u32]
  show ((Nat.xor a b : Nat) : Int) % _ = _
  omega
theorem u32_and1 (a : Nat) (ha : a < 4294967296) : bits .and .u32 (a : Int) 1 = ((a % 2 : Nat) : Int) := by
  show IntKind.u32.wrap ((BitVec.ofInt 32 (a : Int) &&& BitVec.ofInt 32 ((1 : Nat) : Int)).toNat : Nat) = _
  rw [BitVec.ofInt_natCast, BitVec.ofInt_natCast, BitVec.toNat_and, BitVec.toNat_ofNat, BitVec.toNat_ofNat, Nat.mod_eq_of_lt (by omega), Nat.mod_eq_of_lt (by omega), Nat.and_one_is_mod, IntKind.wrap_u32]
  omega
theorem u32_not (a : Nat) (ha : a < 4294967296) : bits .xor .u32 IntKind.u32.max (a : Int) = ((4294967295 - a : Nat) : Int) := by
  show IntKind.u32.wrap ((BitVec.ofInt 32 IntKind.u32.max ^^^ BitVec.ofInt 32 (a : Int)).toNat : Nat) = _
  rw [show BitVec.ofInt 32 IntKind.u32.max = BitVec.allOnes 32 from rfl, BitVec.allOnes_xor, BitVec.ofInt_natCast, BitVec.toNat_not, BitVec.toNat_ofNat, Nat.mod_eq_of_lt (by omega), IntKind.wrap_u32]
  omega
set_option maxRecDepth 100000 in
set_option maxHeartbeats 400000 in
theorem crc_add (s b : Nat) (hs : s < 4294967296) (hb : b < 256) (w : World) :
    Calls Tryz.prog 191 #[.int .u32 (s : Int), .int .u8 (b : Int)] w fun e w' => e = .returned (.int .u32 (Crc.add s b : Int)) ∧ w = w' := by
  have hx := u32_xor s b hs (by omega)
  have hlt := Crc.xor_lt hs (show b < 4294967296 by omega)
  have HT : Hid (Crc.rounds 8 (Nat.xor s b) = Crc.add s b) := Lib.hid rfl
  generalize Crc.add s b = R at *
  have hwr : IntKind.u32.wrap (b : Int) = (b : Int) := by rw [IntKind.wrap_u32]; omega
  generalize hX : Nat.xor s b = X at *
  clear hX
  go_enter Tryz.func191, Tryz.ntmps191
  go_wp2_with fail
  go_loop [0, 10] (fun m i => ∃ k M : Nat, k ≤ 8 ∧ i = .int .i64 k ∧ m = .int .u32 (M : Int) ∧ M < 4294967296 ∧ Hid (Crc.rounds (8 - k) M = R)) (fun _ i => 8 - (intOf i).toNat)
  case atStart => exact ⟨0, X, by omega, rfl, rfl, hlt, HT⟩
  case round =>
    obtain ⟨k, M, hk, rfl, rfl, hM, HM⟩ := hrel
    clear hx hwr
    by_cases hk8 : k < 8
    · have hand := u32_and1 M hM
      have hst : Hid (Crc.rounds (8 - (k + 1)) (Crc.step M) = R) := Lib.hid (by
        have := HM.out
        rw [show 8 - k = (8 - (k + 1)) + 1 by omega] at this
        exact this)
      by_cases ho : M % 2 = 1
      · have hh : Crc.step M = Nat.xor (M / 2) 3988292384 := if_pos ho
        have hl2 := Crc.step_lt hM
        rw [hh] at hst hl2
        have hd : ((M : Int) / 2) = ((M / 2 : Nat) : Int) := by omega
        have hxo : bits .xor .u32 ((M / 2 : Nat) : Int) 3988292384 = ((Nat.xor (M / 2) 3988292384 : Nat) : Int) := u32_xor (M / 2) 3988292384 (by omega) (by omega)
        rw [ho] at hand
        generalize Nat.xor (M / 2) 3988292384 = Y at *
        generalize M / 2 = H at *
        clear hh ho HM HT
        go_wp2
        go_round
        case rel => exact ⟨k + 1, Y, by omega, by go_num, rfl, hl2, hst⟩
        case measure => simp [intOf]; omega
      · have ho' : M % 2 = 0 := by omega
        have hh : Crc.step M = M / 2 := if_neg ho
        have hl2 := Crc.step_lt hM
        rw [hh] at hst hl2
        have hd : ((M : Int) / 2) = ((M / 2 : Nat) : Int) := by omega
        rw [ho'] at hand
        generalize M / 2 = H at *
        clear hh ho ho' HM HT
        go_wp2
        go_round
        case rel => exact ⟨k + 1, H, by omega, by go_num, rfl, hl2, hst⟩
        case measure => simp [intOf]; omega
    · have : k = 8 := by omega
      subst this
      have e : M = R := HM.out
      subst e
      go_wp2
      go_ret
      exact ⟨rfl, rfl⟩

set_option maxRecDepth 100000 in
set_option maxHeartbeats 400000 in
theorem crc_sum (v : Value) (bs : List UInt8) (w : World) (h : Bytes w v bs) :
    Calls Tryz.prog 161 #[v] w fun e w' => e = .returned (.int .u32 (Crc.sum (bs.map (·.toNat)) : Int)) ∧ w = w' := by
  by_cases hn : bs = []
  · subst hn
    obtain ⟨a, cap, rfl, _⟩ := h
    go_enter Tryz.func161, Tryz.ntmps161
    go_wp2_with fail
    refine wp_loop_rounds 1 ?_
    rw [rounds_succ]
    go_wp2_with fail
    go_ret
    exact ⟨congrArg (fun z => Ending.returned (Value.int .u32 z)) (u32_not 4294967295 (by omega)), rfl⟩
  · obtain ⟨b, off, cap, rfl, _, hc⟩ := h.shape hn
    have hm := h.len.2
    obtain ⟨len, hlen⟩ : ∃ len, len = bs.length := ⟨_, rfl⟩
    rw [← hlen] at hc hm ⊢
    have Hlen := Lib.hid hlen
    clear hlen hn h
    go_enter Tryz.func161, Tryz.ntmps161
    go_wp2_with fail
    go_loop [3, 8] (fun m i => ∃ k M : Nat, k ≤ len ∧ i = .int .i64 k ∧ m = .int .u32 (M : Int) ∧ M < 4294967296 ∧ Hid (Crc.sumFrom 4294967295 ((bs.take k).map (·.toNat)) = M)) (fun _ i => len - (intOf i).toNat)
    case atStart => exact ⟨0, 4294967295, by omega, rfl, rfl, by omega, Lib.hid rfl⟩
    case round =>
      obtain ⟨k, M, hk, rfl, rfl, hM, HM⟩ := hrel
      by_cases hkl : k < len
      · have hcell := hc k hkl
        have hb : (bs.getD k 0).toNat < 256 := (bs.getD k 0).toNat_lt
        have hs : Hid (Crc.sumFrom 4294967295 ((bs.take (k + 1)).map (·.toNat)) = Crc.add M (bs.getD k 0).toNat) := Lib.hid (by
          have hk' : k < bs.length := by rw [← Hlen.out]; exact hkl
          rw [List.take_succ_eq_append_getElem hk', List.map_append, List.map_singleton, Crc.sumFrom_snoc, HM.out]
          simp [hk'])
        have hl2 := Crc.add_lt hM hb
        have hcall := crc_add M (bs.getD k 0).toNat hM hb
        clear hc
        unfold u8v at hcell
        generalize (bs.getD k 0).toNat = z at *
        generalize Crc.add M z = Y at *
        go_wp2_with (go_at_call 191; refine (hcall _).mono ?_; rintro e w' ⟨rfl, rfl⟩)
        go_round
        case rel => exact ⟨k + 1, Y, by omega, by go_num, rfl, hl2, hs⟩
        case measure => simp [intOf]; omega
      · clear hc
        have HE : Hid (Crc.sum (bs.map (·.toNat)) = 4294967295 - M) := Lib.hid (by
          have := HM.out
          rw [List.take_of_length_le (by rw [← Hlen.out]; omega)] at this
          rw [Crc.sum, this])
        go_wp2_with fail
        go_ret
        refine ⟨?_, rfl⟩
        rw [HE.out]
        exact congrArg (fun z => Ending.returned (Value.int .u32 z)) (u32_not M hM)
end Go.Proofs.YtepianllbfnpoaaGreat

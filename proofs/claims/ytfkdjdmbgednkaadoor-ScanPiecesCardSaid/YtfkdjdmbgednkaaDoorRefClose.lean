/- galliardref01.Close by its contract. -/
import Derived.Test.YtfkdjdmbgednkaaDoorRefPlain
namespace Go.Proofs.YtfkdjdmbgednkaaDoor
open Go.RowKit
namespace Xm
/-- a byte as it is written -/
def clB (c : UInt8) : List UInt8 := if c = 38 then [38, 97, 109, 112, 59] else if c = 60 then [38, 108, 116, 59] else if c = 62 then [38, 103, 116, 59] else if c = 34 then [38, 113, 117, 111, 116, 59] else if c = 9 then [38, 35, 57, 59] else if c = 10 then [38, 35, 49, 48, 59] else if c = 13 then [38, 35, 49, 51, 59] else [c]
def clL (l : List UInt8) : List UInt8 := l.flatMap clB
def clS (s : ByteArray) : ByteArray := str (clL s.data.toList)
theorem clB_len (c : UInt8) : (clB c).length ≤ 6 := by
  unfold clB
  repeat' split
  all_goals simp
theorem clL_len : ∀ l, (clL l).length ≤ 6 * l.length
  | [] => Nat.zero_le _
  | c :: l => by
    have := clB_len c
    have := clL_len l
    unfold clL at *
    rw [List.flatMap_cons, List.length_append, List.length_cons]
    omega
theorem cl_step {s : ByteArray} {k : Nat} (h : k < s.size) : clL (s.data.toList.take (k + 1)) = clL (s.data.toList.take k) ++ clB s[k] := by
  have h' : k < s.data.toList.length := by simpa using h
  rw [← List.take_append_getElem h']
  unfold clL
  rw [List.flatMap_append, List.flatMap_cons, List.flatMap_nil, List.append_nil]
  rfl
end Xm
set_option maxRecDepth 100000 in
set_option maxHeartbeats 4000000 in
theorem close_any (s : ByteArray) (w : World) (hs : s.size ≤ 1000000000) : Calls Tryd.prog 31 #[.string s] w fun e w' => e = .returned (.string (Xm.clS s)) ∧ w = w' := by
  go_enter Tryd.func31, Tryd.ntmps31
  go_wp2
  go_loop [3, 4] (fun v3 v4 => ∃ (k : Nat) (acc : ByteArray), k ≤ s.size ∧ v4 = .int .i64 k ∧ v3 = .string acc ∧ acc.size ≤ 6 * k ∧ Hid (acc = str (Xm.clL (s.data.toList.take k)))) (fun _ v => s.size - (intOf v).toNat)
  case atStart => exact ⟨0, ByteArray.empty, Nat.zero_le _, rfl, rfl, Nat.le_refl _, Lib.hid rfl⟩
  case round =>
    obtain ⟨k, acc, hk, rfl, rfl, hacc, HA⟩ := hrel
    by_cases hlt : k < s.size
    rotate_left
    · have hd : decide ((k : Int) < (s.size : Int)) = false := by simp; omega
      have hd' : decide (k < s.size) = false := by simp; omega
      have HE : Hid (Xm.clS s = acc) := Lib.hid (by rw [HA.out, Xm.clS, List.take_of_length_le (by simpa using hlt)])
      go_wp2
      go_ret
      exact ⟨ret_str HE.out.symm, rfl⟩
    have hd : decide ((k : Int) < (s.size : Int)) = true := by simp; omega
    have hd' : decide (k < s.size) = true := by simp; omega
    have HS := Lib.hid (Xm.cl_step hlt)
    by_cases h38 : s[k] = 38
    · have HE : Hid (Xm.clB s[k] = [38, 97, 109, 112, 59]) := Lib.hid (by rw [h38]; rfl)
      have e38 : ((s[k].toNat : Nat) : Int) = 38 := by rw [h38]; rfl
      have hl : ¬ 9223372036854775807 < acc.size + 5 := by omega
      go_wp2
      go_round
      case rel => exact ⟨k + 1, acc ++ (⟨#[38, 97, 109, 112, 59]⟩ : ByteArray), by omega, by first | rfl | go_num, rfl, by rw [ByteArray.size_append]; show acc.size + 5 ≤ _; omega, Lib.hid (by rw [HS.out, HE.out, ← str_append, ← HA.out]; rfl)⟩
      case measure => simp only [intOf]; omega
    have e38 : ¬ ((s[k].toNat : Nat) : Int) = 38 := fun e => h38 (UInt8.toNat_inj.1 (by show s[k].toNat = 38; omega))
    by_cases h60 : s[k] = 60
    · have HE : Hid (Xm.clB s[k] = [38, 108, 116, 59]) := Lib.hid (by rw [h60]; rfl)
      have e60 : ((s[k].toNat : Nat) : Int) = 60 := by rw [h60]; rfl
      have hl : ¬ 9223372036854775807 < acc.size + 4 := by omega
      go_wp2
      go_round
      case rel => exact ⟨k + 1, acc ++ (⟨#[38, 108, 116, 59]⟩ : ByteArray), by omega, by first | rfl | go_num, rfl, by rw [ByteArray.size_append]; show acc.size + 4 ≤ _; omega, Lib.hid (by rw [HS.out, HE.out, ← str_append, ← HA.out]; rfl)⟩
      case measure => simp only [intOf]; omega
    have e60 : ¬ ((s[k].toNat : Nat) : Int) = 60 := fun e => h60 (UInt8.toNat_inj.1 (by show s[k].toNat = 60; omega))
    by_cases h62 : s[k] = 62
    · have HE : Hid (Xm.clB s[k] = [38, 103, 116, 59]) := Lib.hid (by rw [h62]; rfl)
      have e62 : ((s[k].toNat : Nat) : Int) = 62 := by rw [h62]; rfl
      have hl : ¬ 9223372036854775807 < acc.size + 4 := by omega
      go_wp2
      go_round
      case rel => exact ⟨k + 1, acc ++ (⟨#[38, 103, 116, 59]⟩ : ByteArray), by omega, by first | rfl | go_num, rfl, by rw [ByteArray.size_append]; show acc.size + 4 ≤ _; omega, Lib.hid (by rw [HS.out, HE.out, ← str_append, ← HA.out]; rfl)⟩
      case measure => simp only [intOf]; omega
    have e62 : ¬ ((s[k].toNat : Nat) : Int) = 62 := fun e => h62 (UInt8.toNat_inj.1 (by show s[k].toNat = 62; omega))
    by_cases h34 : s[k] = 34
    · have HE : Hid (Xm.clB s[k] = [38, 113, 117, 111, 116, 59]) := Lib.hid (by rw [h34]; rfl)
      have e34 : ((s[k].toNat : Nat) : Int) = 34 := by rw [h34]; rfl
      have hl : ¬ 9223372036854775807 < acc.size + 6 := by omega
      go_wp2
      go_round
      case rel => exact ⟨k + 1, acc ++ (⟨#[38, 113, 117, 111, 116, 59]⟩ : ByteArray), by omega, by first | rfl | go_num, rfl, by rw [ByteArray.size_append]; show acc.size + 6 ≤ _; omega, Lib.hid (by rw [HS.out, HE.out, ← str_append, ← HA.out]; rfl)⟩
      case measure => simp only [intOf]; omega
    have e34 : ¬ ((s[k].toNat : Nat) : Int) = 34 := fun e => h34 (UInt8.toNat_inj.1 (by show s[k].toNat = 34; omega))
    by_cases h9 : s[k] = 9
    · have HE : Hid (Xm.clB s[k] = [38, 35, 57, 59]) := Lib.hid (by rw [h9]; rfl)
      have e9 : ((s[k].toNat : Nat) : Int) = 9 := by rw [h9]; rfl
      have hl : ¬ 9223372036854775807 < acc.size + 4 := by omega
      go_wp2
      go_round
      case rel => exact ⟨k + 1, acc ++ (⟨#[38, 35, 57, 59]⟩ : ByteArray), by omega, by first | rfl | go_num, rfl, by rw [ByteArray.size_append]; show acc.size + 4 ≤ _; omega, Lib.hid (by rw [HS.out, HE.out, ← str_append, ← HA.out]; rfl)⟩
      case measure => simp only [intOf]; omega
    have e9 : ¬ ((s[k].toNat : Nat) : Int) = 9 := fun e => h9 (UInt8.toNat_inj.1 (by show s[k].toNat = 9; omega))
    by_cases h10 : s[k] = 10
    · have HE : Hid (Xm.clB s[k] = [38, 35, 49, 48, 59]) := Lib.hid (by rw [h10]; rfl)
      have e10 : ((s[k].toNat : Nat) : Int) = 10 := by rw [h10]; rfl
      have hl : ¬ 9223372036854775807 < acc.size + 5 := by omega
      go_wp2
      go_round
      case rel => exact ⟨k + 1, acc ++ (⟨#[38, 35, 49, 48, 59]⟩ : ByteArray), by omega, by first | rfl | go_num, rfl, by rw [ByteArray.size_append]; show acc.size + 5 ≤ _; omega, Lib.hid (by rw [HS.out, HE.out, ← str_append, ← HA.out]; rfl)⟩
      case measure => simp only [intOf]; omega
    have e10 : ¬ ((s[k].toNat : Nat) : Int) = 10 := fun e => h10 (UInt8.toNat_inj.1 (by show s[k].toNat = 10; omega))
    by_cases h13 : s[k] = 13
    · have HE : Hid (Xm.clB s[k] = [38, 35, 49, 51, 59]) := Lib.hid (by rw [h13]; rfl)
      have e13 : ((s[k].toNat : Nat) : Int) = 13 := by rw [h13]; rfl
      have hl : ¬ 9223372036854775807 < acc.size + 5 := by omega
      go_wp2
      go_round
      case rel => exact ⟨k + 1, acc ++ (⟨#[38, 35, 49, 51, 59]⟩ : ByteArray), by omega, by first | rfl | go_num, rfl, by rw [ByteArray.size_append]; show acc.size + 5 ≤ _; omega, Lib.hid (by rw [HS.out, HE.out, ← str_append, ← HA.out]; rfl)⟩
      case measure => simp only [intOf]; omega
    have e13 : ¬ ((s[k].toNat : Nat) : Int) = 13 := fun e => h13 (UInt8.toNat_inj.1 (by show s[k].toNat = 13; omega))
    have HE : Hid (Xm.clB s[k] = [s[k]]) := Lib.hid (by unfold Xm.clB; rw [if_neg h38, if_neg h60, if_neg h62, if_neg h34, if_neg h9, if_neg h10, if_neg h13])
    have hx1 : (s.extract k (k + 1)).size = 1 := by simp; omega
    have HX : Hid (s.extract k (k + 1) = str [s[k]]) := Lib.hid (by
      apply ByteArray.ext
      apply Array.ext'
      have h' : k < s.data.toList.length := by simpa using hlt
      rw [ByteArray.data_extract, Array.toList_extract, List.extract_eq_take_drop, Nat.add_sub_cancel_left, List.drop_eq_getElem_cons h']
      rfl)
    obtain ⟨v, hv⟩ : ∃ v, v = s.extract k (k + 1) := ⟨_, rfl⟩
    have hsl := run_cut s k (k + 1) (by omega) (by omega) (k : Int) ((k : Int) + 1) rfl (by omega)
    rw [← hv] at hsl hx1
    have HV := Lib.hid hv
    clear hv
    have hl : ¬ 9223372036854775807 < acc.size + v.size := by omega
    go_wp2
    go_round
    case rel => exact ⟨k + 1, acc ++ v, by omega, by first | rfl | go_num, rfl, by rw [ByteArray.size_append, hx1]; omega, Lib.hid (by rw [HS.out, HE.out, ← str_append, ← HA.out, HV.out, HX.out])⟩
    case measure => simp only [intOf]; omega
end Go.Proofs.YtfkdjdmbgednkaaDoor

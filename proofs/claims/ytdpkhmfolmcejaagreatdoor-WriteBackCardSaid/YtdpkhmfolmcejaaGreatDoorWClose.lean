/- entity.Close by its contract (Xm.clS, as galliardref01.Close). -/
import Derived.Test.YtdpkhmfolmcejaaGreatDoorMRef
import Derived.Test.YtdpkhmfolmcejaaGreatDoorOpen
namespace Go.Proofs.YtdpkhmfolmcejaaGreatDoor
open Go.RowKit
set_option maxRecDepth 100000 in
set_option maxHeartbeats 4000000 in
theorem eclose_any (s : ByteArray) (w : World) (hs : s.size ≤ 1000000000) : Calls Tryz.prog 30 #[.string s] w fun e w' => e = .returned (.string (Xm.clS s)) ∧ Flow.Grow w w' := by
  have HB0 : Hid (Lib.IsBuilder 45 5 w.heap.size w.heap.size (Lib.byteCells []) (w.alloc (.cells #[.pointer none, .slice none 0 0] 45))) := Lib.hid (Lib.fresh_isBuilder _ _ w)
  have HG0 : Hid (Below w.heap.size w (w.alloc (.cells #[.pointer none, .slice none 0 0] 45))) := Lib.hid ((Below.refl _ _).alloc (Nat.le_refl _) _)
  go_enter Tryz.func30, Tryz.ntmps30
  go_wp2
  go_loopw [7] (fun i wr => ∃ (k : Nat) (acc : List UInt8), k ≤ s.size ∧ i = .int .i64 k ∧ acc.length ≤ 6 * k ∧ Hid (Lib.IsBuilder 45 5 w.heap.size w.heap.size (Lib.byteCells acc) wr) ∧ Hid (Below w.heap.size w wr) ∧ Hid (acc = Xm.clL (s.data.toList.take k))) (fun i _ => s.size - (intOf i).toNat)
  case atStart => exact ⟨0, [], by omega, rfl, by simp, HB0, HG0, Lib.hid rfl⟩
  case round =>
    clear HB0 HG0
    obtain ⟨k, acc, hk, rfl, hal, HB, HG, HA⟩ := hrel
    by_cases hlt : k < s.size
    rotate_left
    · have hd : decide ((k : Int) < (s.size : Int)) = false := by simp; omega
      have hd' : decide (k < s.size) = false := by simp; omega
      have HE : Hid (Xm.clS s = str acc) := Lib.hid (by rw [HA.out, Xm.clS, List.take_of_length_le (by simpa using hlt)])
      have Hsz := Lib.hid HG.out.size
      go_wp2_with (go_at_call 17; refine (builder_String_any _ _ _ _ HB.out Hsz.out).mono ?_; rintro e w' ⟨rfl, hg1⟩)
      go_ret
      exact ⟨ret_str HE.out.symm, Flow.grow_below (HG.out.trans hg1)⟩
    have hd : decide ((k : Int) < (s.size : Int)) = true := by simp; omega
    have hd' : decide (k < s.size) = true := by simp; omega
    have HS := Lib.hid (Xm.cl_step hlt)
    have Hsz := Lib.hid HG.out.size
    by_cases h38 : s[k] = 38
    · have HE : Hid (Xm.clB s[k] = [38, 97, 109, 112, 59]) := Lib.hid (by rw [h38]; rfl)
      have e38 : ((s[k].toNat : Nat) : Int) = 38 := by rw [h38]; rfl
      have Hlen : Hid ((Lib.byteCells acc).length + (⟨#[38, 97, 109, 112, 59]⟩ : ByteArray).size ≤ 140737488355328) := Lib.hid (by rw [Lib.byteCells_length]; show acc.length + 5 ≤ _; omega)
      go_wp2_with (go_at_call 29; refine (writeString_any _ _ _ _ _ HB.out Hlen.out Hsz.out).mono ?_; rintro e w' ⟨rfl, hb1, hg1⟩)
      go_roundw
      case rel => exact ⟨k + 1, acc ++ [38, 97, 109, 112, 59], by omega, by first | rfl | go_num, by rw [List.length_append]; show acc.length + 5 ≤ _; omega, Lib.hid (by rw [show (⟨#[38, 97, 109, 112, 59]⟩ : ByteArray) = str [38, 97, 109, 112, 59] from rfl, strCells_str, ← Lib.byteCells_append] at hb1; exact .inr hb1), Lib.hid (HG.out.trans hg1), Lib.hid (by rw [HS.out, HE.out, ← HA.out])⟩
      case measure => simp only [intOf]; omega
    have e38 : ¬ ((s[k].toNat : Nat) : Int) = 38 := fun e => h38 (UInt8.toNat_inj.1 (by show s[k].toNat = 38; omega))
    by_cases h60 : s[k] = 60
    · have HE : Hid (Xm.clB s[k] = [38, 108, 116, 59]) := Lib.hid (by rw [h60]; rfl)
      have e60 : ((s[k].toNat : Nat) : Int) = 60 := by rw [h60]; rfl
      have Hlen : Hid ((Lib.byteCells acc).length + (⟨#[38, 108, 116, 59]⟩ : ByteArray).size ≤ 140737488355328) := Lib.hid (by rw [Lib.byteCells_length]; show acc.length + 4 ≤ _; omega)
      go_wp2_with (go_at_call 29; refine (writeString_any _ _ _ _ _ HB.out Hlen.out Hsz.out).mono ?_; rintro e w' ⟨rfl, hb1, hg1⟩)
      go_roundw
      case rel => exact ⟨k + 1, acc ++ [38, 108, 116, 59], by omega, by first | rfl | go_num, by rw [List.length_append]; show acc.length + 4 ≤ _; omega, Lib.hid (by rw [show (⟨#[38, 108, 116, 59]⟩ : ByteArray) = str [38, 108, 116, 59] from rfl, strCells_str, ← Lib.byteCells_append] at hb1; exact .inr hb1), Lib.hid (HG.out.trans hg1), Lib.hid (by rw [HS.out, HE.out, ← HA.out])⟩
      case measure => simp only [intOf]; omega
    have e60 : ¬ ((s[k].toNat : Nat) : Int) = 60 := fun e => h60 (UInt8.toNat_inj.1 (by show s[k].toNat = 60; omega))
    by_cases h62 : s[k] = 62
    · have HE : Hid (Xm.clB s[k] = [38, 103, 116, 59]) := Lib.hid (by rw [h62]; rfl)
      have e62 : ((s[k].toNat : Nat) : Int) = 62 := by rw [h62]; rfl
      have Hlen : Hid ((Lib.byteCells acc).length + (⟨#[38, 103, 116, 59]⟩ : ByteArray).size ≤ 140737488355328) := Lib.hid (by rw [Lib.byteCells_length]; show acc.length + 4 ≤ _; omega)
      go_wp2_with (go_at_call 29; refine (writeString_any _ _ _ _ _ HB.out Hlen.out Hsz.out).mono ?_; rintro e w' ⟨rfl, hb1, hg1⟩)
      go_roundw
      case rel => exact ⟨k + 1, acc ++ [38, 103, 116, 59], by omega, by first | rfl | go_num, by rw [List.length_append]; show acc.length + 4 ≤ _; omega, Lib.hid (by rw [show (⟨#[38, 103, 116, 59]⟩ : ByteArray) = str [38, 103, 116, 59] from rfl, strCells_str, ← Lib.byteCells_append] at hb1; exact .inr hb1), Lib.hid (HG.out.trans hg1), Lib.hid (by rw [HS.out, HE.out, ← HA.out])⟩
      case measure => simp only [intOf]; omega
    have e62 : ¬ ((s[k].toNat : Nat) : Int) = 62 := fun e => h62 (UInt8.toNat_inj.1 (by show s[k].toNat = 62; omega))
    by_cases h34 : s[k] = 34
    · have HE : Hid (Xm.clB s[k] = [38, 113, 117, 111, 116, 59]) := Lib.hid (by rw [h34]; rfl)
      have e34 : ((s[k].toNat : Nat) : Int) = 34 := by rw [h34]; rfl
      have Hlen : Hid ((Lib.byteCells acc).length + (⟨#[38, 113, 117, 111, 116, 59]⟩ : ByteArray).size ≤ 140737488355328) := Lib.hid (by rw [Lib.byteCells_length]; show acc.length + 6 ≤ _; omega)
      go_wp2_with (go_at_call 29; refine (writeString_any _ _ _ _ _ HB.out Hlen.out Hsz.out).mono ?_; rintro e w' ⟨rfl, hb1, hg1⟩)
      go_roundw
      case rel => exact ⟨k + 1, acc ++ [38, 113, 117, 111, 116, 59], by omega, by first | rfl | go_num, by rw [List.length_append]; show acc.length + 6 ≤ _; omega, Lib.hid (by rw [show (⟨#[38, 113, 117, 111, 116, 59]⟩ : ByteArray) = str [38, 113, 117, 111, 116, 59] from rfl, strCells_str, ← Lib.byteCells_append] at hb1; exact .inr hb1), Lib.hid (HG.out.trans hg1), Lib.hid (by rw [HS.out, HE.out, ← HA.out])⟩
      case measure => simp only [intOf]; omega
    have e34 : ¬ ((s[k].toNat : Nat) : Int) = 34 := fun e => h34 (UInt8.toNat_inj.1 (by show s[k].toNat = 34; omega))
    by_cases h9 : s[k] = 9
    · have HE : Hid (Xm.clB s[k] = [38, 35, 57, 59]) := Lib.hid (by rw [h9]; rfl)
      have e9 : ((s[k].toNat : Nat) : Int) = 9 := by rw [h9]; rfl
      have Hlen : Hid ((Lib.byteCells acc).length + (⟨#[38, 35, 57, 59]⟩ : ByteArray).size ≤ 140737488355328) := Lib.hid (by rw [Lib.byteCells_length]; show acc.length + 4 ≤ _; omega)
      go_wp2_with (go_at_call 29; refine (writeString_any _ _ _ _ _ HB.out Hlen.out Hsz.out).mono ?_; rintro e w' ⟨rfl, hb1, hg1⟩)
      go_roundw
      case rel => exact ⟨k + 1, acc ++ [38, 35, 57, 59], by omega, by first | rfl | go_num, by rw [List.length_append]; show acc.length + 4 ≤ _; omega, Lib.hid (by rw [show (⟨#[38, 35, 57, 59]⟩ : ByteArray) = str [38, 35, 57, 59] from rfl, strCells_str, ← Lib.byteCells_append] at hb1; exact .inr hb1), Lib.hid (HG.out.trans hg1), Lib.hid (by rw [HS.out, HE.out, ← HA.out])⟩
      case measure => simp only [intOf]; omega
    have e9 : ¬ ((s[k].toNat : Nat) : Int) = 9 := fun e => h9 (UInt8.toNat_inj.1 (by show s[k].toNat = 9; omega))
    by_cases h10 : s[k] = 10
    · have HE : Hid (Xm.clB s[k] = [38, 35, 49, 48, 59]) := Lib.hid (by rw [h10]; rfl)
      have e10 : ((s[k].toNat : Nat) : Int) = 10 := by rw [h10]; rfl
      have Hlen : Hid ((Lib.byteCells acc).length + (⟨#[38, 35, 49, 48, 59]⟩ : ByteArray).size ≤ 140737488355328) := Lib.hid (by rw [Lib.byteCells_length]; show acc.length + 5 ≤ _; omega)
      go_wp2_with (go_at_call 29; refine (writeString_any _ _ _ _ _ HB.out Hlen.out Hsz.out).mono ?_; rintro e w' ⟨rfl, hb1, hg1⟩)
      go_roundw
      case rel => exact ⟨k + 1, acc ++ [38, 35, 49, 48, 59], by omega, by first | rfl | go_num, by rw [List.length_append]; show acc.length + 5 ≤ _; omega, Lib.hid (by rw [show (⟨#[38, 35, 49, 48, 59]⟩ : ByteArray) = str [38, 35, 49, 48, 59] from rfl, strCells_str, ← Lib.byteCells_append] at hb1; exact .inr hb1), Lib.hid (HG.out.trans hg1), Lib.hid (by rw [HS.out, HE.out, ← HA.out])⟩
      case measure => simp only [intOf]; omega
    have e10 : ¬ ((s[k].toNat : Nat) : Int) = 10 := fun e => h10 (UInt8.toNat_inj.1 (by show s[k].toNat = 10; omega))
    by_cases h13 : s[k] = 13
    · have HE : Hid (Xm.clB s[k] = [38, 35, 49, 51, 59]) := Lib.hid (by rw [h13]; rfl)
      have e13 : ((s[k].toNat : Nat) : Int) = 13 := by rw [h13]; rfl
      have Hlen : Hid ((Lib.byteCells acc).length + (⟨#[38, 35, 49, 51, 59]⟩ : ByteArray).size ≤ 140737488355328) := Lib.hid (by rw [Lib.byteCells_length]; show acc.length + 5 ≤ _; omega)
      go_wp2_with (go_at_call 29; refine (writeString_any _ _ _ _ _ HB.out Hlen.out Hsz.out).mono ?_; rintro e w' ⟨rfl, hb1, hg1⟩)
      go_roundw
      case rel => exact ⟨k + 1, acc ++ [38, 35, 49, 51, 59], by omega, by first | rfl | go_num, by rw [List.length_append]; show acc.length + 5 ≤ _; omega, Lib.hid (by rw [show (⟨#[38, 35, 49, 51, 59]⟩ : ByteArray) = str [38, 35, 49, 51, 59] from rfl, strCells_str, ← Lib.byteCells_append] at hb1; exact .inr hb1), Lib.hid (HG.out.trans hg1), Lib.hid (by rw [HS.out, HE.out, ← HA.out])⟩
      case measure => simp only [intOf]; omega
    have e13 : ¬ ((s[k].toNat : Nat) : Int) = 13 := fun e => h13 (UInt8.toNat_inj.1 (by show s[k].toNat = 13; omega))
    have HE : Hid (Xm.clB s[k] = [s[k]]) := Lib.hid (by unfold Xm.clB; rw [if_neg h38, if_neg h60, if_neg h62, if_neg h34, if_neg h9, if_neg h10, if_neg h13])
    have Hlen : Hid ((Lib.byteCells acc).length + 1 ≤ 140737488355328) := Lib.hid (by rw [Lib.byteCells_length]; omega)
    have HC : Hid (Lib.byteCells acc ++ [.int .u8 (s[k].toNat : Int)] = Lib.byteCells (acc ++ [s[k]])) := Lib.hid (by rw [Lib.byteCells_append]; rfl)
    go_wp2_with (go_at_call 45; refine (writeByte_any _ _ _ _ _ HB.out Hlen.out Hsz.out).mono ?_; rintro e w' ⟨rfl, hb1, hg1⟩)
    go_roundw
    case rel => exact ⟨k + 1, acc ++ [s[k]], by omega, by first | rfl | go_num, by rw [List.length_append, List.length_singleton]; omega, Lib.hid (by rw [HC.out] at hb1; exact .inr hb1), Lib.hid (HG.out.trans hg1), Lib.hid (by rw [HS.out, HE.out, ← HA.out])⟩
    case measure => simp only [intOf]; omega
end Go.Proofs.YtdpkhmfolmcejaaGreatDoor

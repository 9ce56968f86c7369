/- strings.Repeat of a blank, by its contract. -/
/- entity.Close by its contract (Xm.clS, as galliardref01.Close). -/
/- write.node by its contract. -/
import Derived.Test.YtdpkhmfolmcejaaGreatDoorShelf
import Derived.Test.YtdpkhmfolmcejaaGreatDoorMFlow
import Derived.Test.YtdpkhmfolmcejaaGreatDoorUtf
import Derived.Test.YtdpkhmfolmcejaaGreatDoorMRef
import Derived.Test.YtdpkhmfolmcejaaGreatDoorMBu
import Derived.Test.YtdpkhmfolmcejaaGreatDoorMDo
import Derived.Test.YtdpkhmfolmcejaaGreatDoorName
import Derived.WalkKit
import Derived.Lib.Hide
import Derived.Deep.DeepCutAuto
import Derived.BigQuiet
import Derived.Deep.QuietTactic
namespace Go.Proofs.YtdpkhmfolmcejaaGreatDoor
open Go.RowKit
theorem run_cut0 (s : ByteArray) (b : Nat) (h2 : b ≤ s.size) (y : Int) (hy : y = b) (w : World) :
    (Instr.slice 9 (.string s) none (some (.int .i64 y)) none).run Tryz.prog w = .ok (.string (s.extract 0 b)) w := by
  subst hy
  simp [Instr.slice, run_underlying Tryz.underlying9, Sem.run_bind, Instr.sliceBounds, Instr.sliceBound, asIntOf, h2]
theorem pads_cut : ∀ (m n : Nat), n ≤ m → (str (List.replicate m 32)).extract 0 n = str (List.replicate n 32) := by
  intro m n h
  apply ByteArray.ext
  apply Array.ext'
  rw [ByteArray.data_extract, Array.toList_extract, List.extract_eq_take_drop]
  show ((List.replicate m (32 : UInt8)).drop 0).take (n - 0) = List.replicate n 32
  rw [List.drop_zero, Nat.sub_zero, List.take_replicate, Nat.min_eq_left h]
set_option maxRecDepth 100000 in
set_option maxHeartbeats 4000000 in
theorem repeat_sp (n : Nat) (hn : n ≤ 100) (w : World) : Calls Tryz.prog 28 #[.string ⟨#[32]⟩, .int .i64 (n : Int)] w fun e w' => e = .returned (.string (str (List.replicate n 32))) ∧ w' = w := by
  by_cases h0 : n = 0
  · subst h0
    go_enter Tryz.func28, Tryz.ntmps28
    go_wp2
    go_ret
    exact ⟨rfl, rfl⟩
  by_cases h1 : n = 1
  · subst h1
    go_enter Tryz.func28, Tryz.ntmps28
    go_wp2
    go_ret
    exact ⟨rfl, rfl⟩
  have d0 : ((n : Int) == 0) = false := by simp; omega
  have d1 : ((n : Int) == 1) = false := by simp; omega
  have g0 : ¬ (n : Int) < 0 := by omega
  have HM := Lib.hid (fun w => (Tryz.bits_Mul 1 n (by omega) (by omega) w).mono (R' := fun e w' => e = .returned (.tuple #[.int .u64 0, .int .u64 (n : Int)]) ∧ w' = w) (by
    rintro e w' ⟨rfl, rfl⟩
    refine ⟨?_, rfl⟩
    rw [Nat.one_mul, Nat.div_eq_of_lt (by omega), Nat.mod_eq_of_lt (by omega)]
    rfl))
  have w1 : IntKind.u64.wrap (n : Int) = (n : Int) := IntWalk.u64_in _ (by omega)
  have w2 : IntKind.i64.wrap (n : Int) = (n : Int) := IntWalk.i64_in _ (by omega)
  have g1 : ¬ 9223372036854775807 < (n : Int) := by omega
  have g2 : (n : Int) ≤ 128 := by omega
  obtain ⟨T, hT⟩ : ∃ T, T = str (List.replicate 128 32) := ⟨_, rfl⟩
  have hTz : T.size = 128 := by rw [hT, str_size, List.length_replicate]
  have HT : Hid (T.extract 0 n = str (List.replicate n 32)) := Lib.hid (by rw [hT]; exact pads_cut 128 n (by omega))
  have HP := Lib.hid (fun w => Tryz.strings_HasPrefix T ⟨#[32]⟩ w)
  have hp : Lib.hasPrefix T.data.toList [32] = true := by rw [hT]; rfl
  have HP2 := Lib.hid hp
  have hsl := run_cut0 T n (by omega) (n : Int) rfl
  have hTe : (⟨#[32, 32, 32, 32, 32, 32, 32, 32, 32, 32, 32, 32, 32, 32, 32, 32, 32, 32, 32, 32, 32, 32, 32, 32, 32, 32, 32, 32, 32, 32, 32, 32, 32, 32, 32, 32, 32, 32, 32, 32, 32, 32, 32, 32, 32, 32, 32, 32, 32, 32, 32, 32, 32, 32, 32, 32, 32, 32, 32, 32, 32, 32, 32, 32, 32, 32, 32, 32, 32, 32, 32, 32, 32, 32, 32, 32, 32, 32, 32, 32, 32, 32, 32, 32, 32, 32, 32, 32, 32, 32, 32, 32, 32, 32, 32, 32, 32, 32, 32, 32, 32, 32, 32, 32, 32, 32, 32, 32, 32, 32, 32, 32, 32, 32, 32, 32, 32, 32, 32, 32, 32, 32, 32, 32, 32, 32, 32, 32]⟩ : ByteArray) = T := by rw [hT]; rfl
  clear hT hp h0 h1 hn
  go_enter Tryz.func28, Tryz.ntmps28
  go_wp2_with (first | (go_at_call 41; refine (HM.out _).mono ?_; rintro e w' ⟨rfl, rfl⟩) | rw [hTe] | (go_at_call 42; refine (HP.out _).mono ?_; rintro e w' ⟨rfl, rfl⟩; rw [HP2.out]))
  go_ret
  exact ⟨by rw [HT.out]; rfl, rfl⟩
end Go.Proofs.YtdpkhmfolmcejaaGreatDoor
namespace Go.Proofs.YtdpkhmfolmcejaaGreatDoor
open Go.RowKit
set_option maxRecDepth 100000 in
set_option maxHeartbeats 4000000 in
theorem eclose_any (s : ByteArray) (w : World) (hs : s.size ≤ 1000000000) : Calls Tryz.prog 30 #[.string s] w fun e w' => e = .returned (.string (Xm.clS s)) ∧ Flow.Grow w w' := by
  have HB0 : Hid (Lib.IsBuilder 45 5 w.heap.size w.heap.size (Lib.byteCells []) (w.alloc (.cells #[.pointer none, .slice none 0 0] 45))) := Lib.hid (Lib.fresh_isBuilder _ _ w)
  have HG0 : Hid (Below w.heap.size w (w.alloc (.cells #[.pointer none, .slice none 0 0] 45))) := Lib.hid ((Below.refl _ _).alloc (Nat.le_refl _) _)
  go_enter Tryz.func30, Tryz.ntmps30
  go_wp2
  go_loopw [7] (fun i wr => ∃ (k : Nat) (acc : List UInt8), k ≤ s.size ∧ i = .int .i64 k ∧ acc.length ≤ 6 * k ∧ Hid (Lib.IsBuilder 45 5 w.heap.size w.heap.size (Lib.byteCells acc) wr) ∧ Hid (Below w.heap.size w wr) ∧ Hid (acc = Xm.clL (s.data.toList.take k))) (fun i _ => s.size - (intOf i).toNat)
  case atStart => exact ⟨0, [], by omega, rfl, by simp, HB0, HG0, Lib.hid rfl⟩
  case round =>
    clear HB0 HG0
    obtain ⟨k, acc, hk, rfl, hal, HB, HG, HA⟩ := hrel
    by_cases hlt : k < s.size
    rotate_left
    · have hd : decide ((k : Int) < (s.size : Int)) = false := by simp; omega
      have hd' : decide (k < s.size) = false := by simp; omega
      have HE : Hid (Xm.clS s = str acc) := Lib.hid (by rw [HA.out, Xm.clS, List.take_of_length_le (by simpa using hlt)])
      have Hsz := Lib.hid HG.out.size
      go_wp2_with (go_at_call 17; refine (builder_String_any _ _ _ _ HB.out Hsz.out).mono ?_; rintro e w' ⟨rfl, hg1⟩)
      go_ret
      exact ⟨ret_str HE.out.symm, Flow.grow_below (HG.out.trans hg1)⟩
    have hd : decide ((k : Int) < (s.size : Int)) = true := by simp; omega
    have hd' : decide (k < s.size) = true := by simp; omega
    have HS := Lib.hid (Xm.cl_step hlt)
    have Hsz := Lib.hid HG.out.size
    by_cases h38 : s[k] = 38
    · have HE : Hid (Xm.clB s[k] = [38, 97, 109, 112, 59]) := Lib.hid (by rw [h38]; rfl)
      have e38 : ((s[k].toNat : Nat) : Int) = 38 := by rw [h38]; rfl
      have Hlen : Hid ((Lib.byteCells acc).length + (⟨#[38, 97, 109, 112, 59]⟩ : ByteArray).size ≤ 140737488355328) := Lib.hid (by rw [Lib.byteCells_length]; show acc.length + 5 ≤ _; omega)
      go_wp2_with (go_at_call 29; refine (writeString_any _ _ _ _ _ HB.out Hlen.out Hsz.out).mono ?_; rintro e w' ⟨rfl, hb1, hg1⟩)
      go_roundw
      case rel => exact ⟨k + 1, acc ++ [38, 97, 109, 112, 59], by omega, by first | rfl | go_num, by rw [List.length_append]; show acc.length + 5 ≤ _; omega, Lib.hid (by rw [show (⟨#[38, 97, 109, 112, 59]⟩ : ByteArray) = str [38, 97, 109, 112, 59] from rfl, strCells_str, ← Lib.byteCells_append] at hb1; exact .inr hb1), Lib.hid (HG.out.trans hg1), Lib.hid (by rw [HS.out, HE.out, ← HA.out])⟩
      case measure => simp only [intOf]; omega
    have e38 : ¬ ((s[k].toNat : Nat) : Int) = 38 := fun e => h38 (UInt8.toNat_inj.1 (by show s[k].toNat = 38; omega))
    by_cases h60 : s[k] = 60
    · have HE : Hid (Xm.clB s[k] = [38, 108, 116, 59]) := Lib.hid (by rw [h60]; rfl)
      have e60 : ((s[k].toNat : Nat) : Int) = 60 := by rw [h60]; rfl
      have Hlen : Hid ((Lib.byteCells acc).length + (⟨#[38, 108, 116, 59]⟩ : ByteArray).size ≤ 140737488355328) := Lib.hid (by rw [Lib.byteCells_length]; show acc.length + 4 ≤ _; omega)
      go_wp2_with (go_at_call 29; refine (writeString_any _ _ _ _ _ HB.out Hlen.out Hsz.out).mono ?_; rintro e w' ⟨rfl, hb1, hg1⟩)
      go_roundw
      case rel => exact ⟨k + 1, acc ++ [38, 108, 116, 59], by omega, by first | rfl | go_num, by rw [List.length_append]; show acc.length + 4 ≤ _; omega, Lib.hid (by rw [show (⟨#[38, 108, 116, 59]⟩ : ByteArray) = str [38, 108, 116, 59] from rfl, strCells_str, ← Lib.byteCells_append] at hb1; exact .inr hb1), Lib.hid (HG.out.trans hg1), Lib.hid (by rw [HS.out, HE.out, ← HA.out])⟩
      case measure => simp only [intOf]; omega
    have e60 : ¬ ((s[k].toNat : Nat) : Int) = 60 := fun e => h60 (UInt8.toNat_inj.1 (by show s[k].toNat = 60; omega))
    by_cases h62 : s[k] = 62
    · have HE : Hid (Xm.clB s[k] = [38, 103, 116, 59]) := Lib.hid (by rw [h62]; rfl)
      have e62 : ((s[k].toNat : Nat) : Int) = 62 := by rw [h62]; rfl
      have Hlen : Hid ((Lib.byteCells acc).length + (⟨#[38, 103, 116, 59]⟩ : ByteArray).size ≤ 140737488355328) := Lib.hid (by rw [Lib.byteCells_length]; show acc.length + 4 ≤ _; omega)
      go_wp2_with (go_at_call 29; refine (writeString_any _ _ _ _ _ HB.out Hlen.out Hsz.out).mono ?_; rintro e w' ⟨rfl, hb1, hg1⟩)
      go_roundw
      case rel => exact ⟨k + 1, acc ++ [38, 103, 116, 59], by omega, by first | rfl | go_num, by rw [List.length_append]; show acc.length + 4 ≤ _; omega, Lib.hid (by rw [show (⟨#[38, 103, 116, 59]⟩ : ByteArray) = str [38, 103, 116, 59] from rfl, strCells_str, ← Lib.byteCells_append] at hb1; exact .inr hb1), Lib.hid (HG.out.trans hg1), Lib.hid (by rw [HS.out, HE.out, ← HA.out])⟩
      case measure => simp only [intOf]; omega
    have e62 : ¬ ((s[k].toNat : Nat) : Int) = 62 := fun e => h62 (UInt8.toNat_inj.1 (by show s[k].toNat = 62; omega))
    by_cases h34 : s[k] = 34
    · have HE : Hid (Xm.clB s[k] = [38, 113, 117, 111, 116, 59]) := Lib.hid (by rw [h34]; rfl)
      have e34 : ((s[k].toNat : Nat) : Int) = 34 := by rw [h34]; rfl
      have Hlen : Hid ((Lib.byteCells acc).length + (⟨#[38, 113, 117, 111, 116, 59]⟩ : ByteArray).size ≤ 140737488355328) := Lib.hid (by rw [Lib.byteCells_length]; show acc.length + 6 ≤ _; omega)
      go_wp2_with (go_at_call 29; refine (writeString_any _ _ _ _ _ HB.out Hlen.out Hsz.out).mono ?_; rintro e w' ⟨rfl, hb1, hg1⟩)
      go_roundw
      case rel => exact ⟨k + 1, acc ++ [38, 113, 117, 111, 116, 59], by omega, by first | rfl | go_num, by rw [List.length_append]; show acc.length + 6 ≤ _; omega, Lib.hid (by rw [show (⟨#[38, 113, 117, 111, 116, 59]⟩ : ByteArray) = str [38, 113, 117, 111, 116, 59] from rfl, strCells_str, ← Lib.byteCells_append] at hb1; exact .inr hb1), Lib.hid (HG.out.trans hg1), Lib.hid (by rw [HS.out, HE.out, ← HA.out])⟩
      case measure => simp only [intOf]; omega
    have e34 : ¬ ((s[k].toNat : Nat) : Int) = 34 := fun e => h34 (UInt8.toNat_inj.1 (by show s[k].toNat = 34; omega))
    by_cases h9 : s[k] = 9
    · have HE : Hid (Xm.clB s[k] = [38, 35, 57, 59]) := Lib.hid (by rw [h9]; rfl)
      have e9 : ((s[k].toNat : Nat) : Int) = 9 := by rw [h9]; rfl
      have Hlen : Hid ((Lib.byteCells acc).length + (⟨#[38, 35, 57, 59]⟩ : ByteArray).size ≤ 140737488355328) := Lib.hid (by rw [Lib.byteCells_length]; show acc.length + 4 ≤ _; omega)
      go_wp2_with (go_at_call 29; refine (writeString_any _ _ _ _ _ HB.out Hlen.out Hsz.out).mono ?_; rintro e w' ⟨rfl, hb1, hg1⟩)
      go_roundw
      case rel => exact ⟨k + 1, acc ++ [38, 35, 57, 59], by omega, by first | rfl | go_num, by rw [List.length_append]; show acc.length + 4 ≤ _; omega, Lib.hid (by rw [show (⟨#[38, 35, 57, 59]⟩ : ByteArray) = str [38, 35, 57, 59] from rfl, strCells_str, ← Lib.byteCells_append] at hb1; exact .inr hb1), Lib.hid (HG.out.trans hg1), Lib.hid (by rw [HS.out, HE.out, ← HA.out])⟩
      case measure => simp only [intOf]; omega
    have e9 : ¬ ((s[k].toNat : Nat) : Int) = 9 := fun e => h9 (UInt8.toNat_inj.1 (by show s[k].toNat = 9; omega))
    by_cases h10 : s[k] = 10
    · have HE : Hid (Xm.clB s[k] = [38, 35, 49, 48, 59]) := Lib.hid (by rw [h10]; rfl)
      have e10 : ((s[k].toNat : Nat) : Int) = 10 := by rw [h10]; rfl
      have Hlen : Hid ((Lib.byteCells acc).length + (⟨#[38, 35, 49, 48, 59]⟩ : ByteArray).size ≤ 140737488355328) := Lib.hid (by rw [Lib.byteCells_length]; show acc.length + 5 ≤ _; omega)
      go_wp2_with (go_at_call 29; refine (writeString_any _ _ _ _ _ HB.out Hlen.out Hsz.out).mono ?_; rintro e w' ⟨rfl, hb1, hg1⟩)
      go_roundw
      case rel => exact ⟨k + 1, acc ++ [38, 35, 49, 48, 59], by omega, by first | rfl | go_num, by rw [List.length_append]; show acc.length + 5 ≤ _; omega, Lib.hid (by rw [show (⟨#[38, 35, 49, 48, 59]⟩ : ByteArray) = str [38, 35, 49, 48, 59] from rfl, strCells_str, ← Lib.byteCells_append] at hb1; exact .inr hb1), Lib.hid (HG.out.trans hg1), Lib.hid (by rw [HS.out, HE.out, ← HA.out])⟩
      case measure => simp only [intOf]; omega
    have e10 : ¬ ((s[k].toNat : Nat) : Int) = 10 := fun e => h10 (UInt8.toNat_inj.1 (by show s[k].toNat = 10; omega))
    by_cases h13 : s[k] = 13
    · have HE : Hid (Xm.clB s[k] = [38, 35, 49, 51, 59]) := Lib.hid (by rw [h13]; rfl)
      have e13 : ((s[k].toNat : Nat) : Int) = 13 := by rw [h13]; rfl
      have Hlen : Hid ((Lib.byteCells acc).length + (⟨#[38, 35, 49, 51, 59]⟩ : ByteArray).size ≤ 140737488355328) := Lib.hid (by rw [Lib.byteCells_length]; show acc.length + 5 ≤ _; omega)
      go_wp2_with (go_at_call 29; refine (writeString_any _ _ _ _ _ HB.out Hlen.out Hsz.out).mono ?_; rintro e w' ⟨rfl, hb1, hg1⟩)
      go_roundw
      case rel => exact ⟨k + 1, acc ++ [38, 35, 49, 51, 59], by omega, by first | rfl | go_num, by rw [List.length_append]; show acc.length + 5 ≤ _; omega, Lib.hid (by rw [show (⟨#[38, 35, 49, 51, 59]⟩ : ByteArray) = str [38, 35, 49, 51, 59] from rfl, strCells_str, ← Lib.byteCells_append] at hb1; exact .inr hb1), Lib.hid (HG.out.trans hg1), Lib.hid (by rw [HS.out, HE.out, ← HA.out])⟩
      case measure => simp only [intOf]; omega
    have e13 : ¬ ((s[k].toNat : Nat) : Int) = 13 := fun e => h13 (UInt8.toNat_inj.1 (by show s[k].toNat = 13; omega))
    have HE : Hid (Xm.clB s[k] = [s[k]]) := Lib.hid (by unfold Xm.clB; rw [if_neg h38, if_neg h60, if_neg h62, if_neg h34, if_neg h9, if_neg h10, if_neg h13])
    have Hlen : Hid ((Lib.byteCells acc).length + 1 ≤ 140737488355328) := Lib.hid (by rw [Lib.byteCells_length]; omega)
    have HC : Hid (Lib.byteCells acc ++ [.int .u8 (s[k].toNat : Int)] = Lib.byteCells (acc ++ [s[k]])) := Lib.hid (by rw [Lib.byteCells_append]; rfl)
    go_wp2_with (go_at_call 45; refine (writeByte_any _ _ _ _ _ HB.out Hlen.out Hsz.out).mono ?_; rintro e w' ⟨rfl, hb1, hg1⟩)
    go_roundw
    case rel => exact ⟨k + 1, acc ++ [s[k]], by omega, by first | rfl | go_num, by rw [List.length_append, List.length_singleton]; omega, Lib.hid (by rw [HC.out] at hb1; exact .inr hb1), Lib.hid (HG.out.trans hg1), Lib.hid (by rw [HS.out, HE.out, ← HA.out])⟩
    case measure => simp only [intOf]; omega
end Go.Proofs.YtdpkhmfolmcejaaGreatDoor
namespace Go.Proofs.YtdpkhmfolmcejaaGreatDoor
open Go.RowKit
namespace Xm
def xmlns : List UInt8 := [120, 109, 108, 110, 115]
/-- an attribute by itself may not be -/
def badA (a : ByteArray × ByteArray) : Bool := !(name a.1) || (a.1.toList == xmlns || decide (0 ≤ text a.2 0))
def attsB : List (ByteArray × ByteArray) → List (ByteArray × ByteArray) → Bool
  | _, [] => true
  | pre, a :: r => !(badA a) && (!(pre.any (named1 a.1)) && attsB (pre ++ [a]) r)
def bad1 (sp nm tx : ByteArray) : Bool := !(name nm) || (decide (0 ≤ text sp 0) || (decide (0 ≤ text tx 0) || (trim tx).toList != tx.toList))
def bad2 (l : List (ByteArray × ByteArray)) (n : Nat) (tx : ByteArray) : Bool := (decide (0 < n) && decide (0 < tx.size)) || decide (15 < l.length)
/-- an element, without those within it, may be -/
def nodeB (sp nm : ByteArray) (l : List (ByteArray × ByteArray)) (n : Nat) (tx : ByteArray) : Bool := !(bad1 sp nm tx) && (!(bad2 l n tx) && attsB [] l)
end Xm
theorem name_q (s : ByteArray) (b : Bool) (hb : Xm.name s = b) (hs : s.size ≤ 1000000000) (w : World) : Calls Tryz.prog 53 #[.string s] w fun e w' => e = .returned (.bool b) ∧ w' = w :=
  (name_any s w (by omega)).mono fun _ _ ⟨h1, h2⟩ => ⟨by rw [h1, hb], h2.symm⟩
theorem ctext_q (s : ByteArray) (k : Int) (hk : Xm.text s 0 = k) (hs : s.size ≤ 1000000000) (w : World) : Calls Tryz.prog 54 #[.string s] w fun e w' => e = .returned (.int .i64 k) ∧ w' = w :=
  (ctext_any s w (by omega)).mono fun _ _ ⟨h1, h2⟩ => ⟨by rw [h1, hk], h2.symm⟩
theorem ctext_r (s : ByteArray) (hs : s.size ≤ 1000000000) (w : World) : Calls Tryz.prog 54 #[.string s] w fun e w' => e = .returned (.int .i64 (Xm.text s 0)) ∧ w' = w := ctext_q s _ rfl hs w
theorem trim_q (s t : ByteArray) (ht : Xm.trim s = t) (hs : s.size ≤ 1000000000) (w : World) : Calls Tryz.prog 50 #[.string s] w fun e w' => e = .returned (.string t) ∧ w' = w :=
  (trim_any s w (by omega)).mono fun _ _ ⟨h1, h2⟩ => ⟨by rw [h1, ht], h2.symm⟩
set_option maxRecDepth 100000 in
set_option maxHeartbeats 400000 in
theorem node1_any (x y na : ByteArray) (A : Nat) (w : World) (hA : A < w.heap.size) (hc : w.cell? ⟨A, 0, none⟩ = some (.string na)) :
    Calls Tryz.prog 56 #[.agg #[.string x, .string y], .pointer (some ⟨A, 0, none⟩)] w fun e w' => e = .returned (.bool (Xm.named1 na (x, y))) ∧ Flow.Grow w w' := by
  have hc2 : (w.alloc (.cells #[.string x, .string y] 41)).cell? ⟨A, 0, none⟩ = some (.string na) := (Xm.cell_grow (Flow.grow_alloc _ _) hA).trans hc
  go_enter Tryz.func56, Tryz.ntmps56
  go_wp2
  go_ret
  exact ⟨rfl, Flow.grow_alloc _ _⟩

set_option maxRecDepth 100000 in
set_option maxHeartbeats 1000000 in
theorem indexNode_any (v : Value) (l : List (ByteArray × ByteArray)) (na : ByteArray) (A : Nat) (w : World) (hv : Xm.AttrsAt w v l) (hA : A < w.heap.size) (hc : w.cell? ⟨A, 0, none⟩ = some (.string na)) :
    Calls Tryz.prog 80 #[v, .func (.func 56) #[] #[.pointer (some ⟨A, 0, none⟩)]] w fun e w' => (∃ k : Int, e = .returned (.int .i64 k) ∧ decide (0 ≤ k) = l.any (Xm.named1 na)) ∧ Flow.Grow w w' := by
  rcases hv with ⟨rfl, rfl⟩ | ⟨g, off, cap, rfl, hlc, hcm, hg, hcell⟩
  · go_enter Tryz.func80, Tryz.ntmps80
    go_wp2_with fail
    refine wp_loop_rounds 1 ?_
    rw [rounds_succ]
    go_wp2_with fail
    go_ret
    exact ⟨⟨-1, rfl, rfl⟩, Flow.grow_refl _⟩
  · obtain ⟨len, hlen⟩ : ∃ len, len = l.length := ⟨_, rfl⟩
    have Hc := Lib.hid hc
    have HA := Lib.hid hA
    have Hg := Lib.hid hg
    have Hcell := Lib.hid hcell
    rw [← hlen] at hlc ⊢
    have Hlen := Lib.hid hlen
    unfold maxLen at hcm
    clear hlen hc hA hg hcell
    go_enter Tryz.func80, Tryz.ntmps80
    go_wp2_with fail
    go_loopw [8] (fun i wr => ∃ k : Nat, k ≤ len ∧ i = .int .i64 k ∧ Hid (l.any (Xm.named1 na) = (l.drop k).any (Xm.named1 na)) ∧ Hid (Flow.Grow w wr)) (fun i _ => len - (intOf i).toNat)
    case atStart => exact ⟨0, by omega, rfl, Lib.hid rfl, Lib.hid (Flow.grow_refl _)⟩
    case round =>
      obtain ⟨k, hk, rfl, Hall, HG⟩ := hrel
      by_cases hkl : k < len
      · have hk' : k < l.length := by rw [← Hlen.out]; exact hkl
        obtain ⟨x, y, hxy⟩ : ∃ x y, l[k]? = some (x, y) := ⟨l[k].1, l[k].2, List.getElem?_eq_getElem hk'⟩
        have hgc := Xm.attrCells_get l k (x, y) hxy
        have k0 := Xm.cell_grow HG.out (o := off + k * 2) Hg.out |>.trans (Hcell.out _ _ hgc.1)
        have k1 := Xm.cell_grow HG.out (o := off + k * 2 + 1) Hg.out |>.trans (Hcell.out _ _ hgc.2)
        have Hcr := Lib.hid (Xm.cell_grow HG.out (o := 0) HA.out |>.trans Hc.out)
        have HAr : Hid (A < wr.heap.size) := Lib.hid (Nat.lt_of_lt_of_le HA.out HG.out.size)
        have Hs : Hid ((l.drop k).any (Xm.named1 na) = (Xm.named1 na (x, y) || (l.drop (k + 1)).any (Xm.named1 na))) := Lib.hid (by
          rw [List.drop_eq_getElem_cons hk', List.any_cons]
          have : l[k] = (x, y) := (List.getElem?_eq_some_iff.1 hxy).2
          rw [this])
        clear hgc hxy hk'
        cases hb : Xm.named1 na (x, y) with
        | false =>
          have Hs' : Hid (l.any (Xm.named1 na) = (l.drop (k + 1)).any (Xm.named1 na)) := Lib.hid (by rw [Hall.out, Hs.out, hb]; rfl)
          have Hb := Lib.hid hb
          clear hb
          go_wp2_with (go_at_call 56; refine (node1_any _ _ _ _ _ HAr.out Hcr.out).mono ?_; rintro e w' ⟨rfl, hg1⟩; rw [Hb.out])
          go_roundw
          case rel => exact ⟨k + 1, by omega, by go_num, Hs', Lib.hid (HG.out.trans hg1)⟩
          case measure => simp [intOf]; omega
        | true =>
          have Hs' : Hid (l.any (Xm.named1 na) = true) := Lib.hid (by rw [Hall.out, Hs.out, hb]; rfl)
          have Hb := Lib.hid hb
          clear hb
          go_wp2_with (go_at_call 56; refine (node1_any _ _ _ _ _ HAr.out Hcr.out).mono ?_; rintro e w' ⟨rfl, hg1⟩; rw [Hb.out])
          go_ret
          exact ⟨⟨k, rfl, by rw [Hs'.out]; simp⟩, HG.out.trans hg1⟩
      · have Hs' : Hid (l.any (Xm.named1 na) = false) := Lib.hid (by
          rw [Hall.out, List.drop_eq_nil_of_le (by have := Hlen.out; omega)]; rfl)
        go_wp2
        go_ret
        exact ⟨⟨-1, rfl, by rw [Hs'.out]; rfl⟩, HG.out⟩
set_option maxRecDepth 100000 in
set_option maxHeartbeats 400000 in
theorem containsNode_any (v : Value) (l : List (ByteArray × ByteArray)) (na : ByteArray) (A : Nat) (w : World) (hv : Xm.AttrsAt w v l) (hA : A < w.heap.size) (hc : w.cell? ⟨A, 0, none⟩ = some (.string na)) :
    Calls Tryz.prog 55 #[v, .func (.func 56) #[] #[.pointer (some ⟨A, 0, none⟩)]] w fun e w' => e = .returned (.bool (l.any (Xm.named1 na))) ∧ Flow.Grow w w' := by
  have HV := Lib.hid hv
  have HA := Lib.hid hA
  have HC := Lib.hid hc
  clear hv hA hc
  go_enter Tryz.func55, Tryz.ntmps55
  go_wp2_with (go_at_call 80; refine (indexNode_any _ _ _ _ _ HV.out HA.out HC.out).mono ?_; rintro e w' ⟨⟨k, rfl, hk⟩, hg⟩; have HK := Lib.hid hk; clear hk)
  go_ret
  exact ⟨ret_bool HK.out, hg⟩
set_option maxRecDepth 100000 in
set_option maxHeartbeats 8000000 in
theorem node_any (sp nm tx : ByteArray) (ao ka : Option Addr) (ac n kc : Nat) (l : List (ByteArray × ByteArray)) (w : World) (hA : Xm.AttrsAt w (.slice ao l.length ac) l) (hsp : sp.size ≤ 1000000000) (hnm : nm.size ≤ 1000000000) (htx : tx.size ≤ 1000000000) (hl : ∀ a ∈ l, a.1.size ≤ 1000000000 ∧ a.2.size ≤ 1000000000) :
    Calls Tryz.prog 37 #[.agg #[.string sp, .string nm, .slice ao l.length ac, .slice ka n kc, .string tx]] w fun e w' => e = .returned (.bool (Xm.nodeB sp nm l n tx)) ∧ Flow.Grow w w' := by
  have HA := Lib.hid hA
  have Hsp := Lib.hid hsp
  have Hnm := Lib.hid hnm
  have Htx := Lib.hid htx
  have Hl := Lib.hid hl
  clear hA hsp hnm htx hl
  obtain ⟨L, hL⟩ : ∃ L, L = l.length := ⟨_, rfl⟩
  have HL := Lib.hid hL
  rw [← hL] at HA ⊢
  clear hL
  go_enter Tryz.func37, Tryz.ntmps37
  go_upto_region 1 with fail
  have G2 : Hid (Flow.Grow w (w.alloc (.cells #[.string sp, .string nm, .slice ao L ac, .slice ka n kc, .string tx] 25))) := Lib.hid (Flow.grow_alloc _ _)
  have HX : Hid (Xm.RowN (w.alloc (.cells #[.string sp, .string nm, .slice ao L ac, .slice ka n kc, .string tx] 25)) w.heap.size #[.string sp, .string nm, .slice ao L ac, .slice ka n kc, .string tx]) := Lib.hid (heap_alloc_new _ _)
  obtain ⟨X, hX⟩ : ∃ X, X = w.heap.size := ⟨_, rfl⟩
  rw [← hX] at HX ⊢
  clear hX
  generalize w.alloc (.cells #[.string sp, .string nm, .slice ao L ac, .slice ka n kc, .string tx] 25) = w1 at *
  go_cut [28] (fun v28 wx => v28 = .bool (Xm.bad1 sp nm tx) ∧ Hid (Flow.Grow w wx) ∧ Hid (Xm.RowN wx X #[.string sp, .string nm, .slice ao L ac, .slice ka n kc, .string tx]))
  case first =>
    have x0 := fun k => (cell_of_row (w1.drewN k) X 0 _ _ _ HX.out).trans rfl
    have x1 := fun k => (cell_of_row (w1.drewN k) X 1 _ _ _ HX.out).trans rfl
    have x4 := fun k => (cell_of_row (w1.drewN k) X 4 _ _ _ HX.out).trans rfl
    cases hn : Xm.name nm with
    | false =>
      have Hn := Lib.hid hn
      have HE : Hid (Xm.bad1 sp nm tx = true) := Lib.hid (by simp [Xm.bad1, hn])
      clear hn
      go_quiet ((go_at_call 53; exact Calls.quiet_of_same (name_q nm false Hn.out Hnm.out _)))
      go_wp2_with fail
      go_meet
      case rel => exact ⟨by rw [HE.out], Lib.hid (G2.out.trans (Flow.grow_drewN _ _)), Lib.hid (HX.out.grow (Flow.grow_drewN _ _))⟩
    | true =>
      have Hn := Lib.hid hn
      obtain ⟨S, hS⟩ : ∃ S, S = Xm.text sp 0 := ⟨_, rfl⟩
      have HS := Lib.hid hS.symm
      by_cases hs0 : 0 ≤ S
      · have HE : Hid (Xm.bad1 sp nm tx = true) := Lib.hid (by simp [Xm.bad1, hn, ← hS, hs0])
        clear hn hS
        go_quiet (first | (go_at_call 53; exact Calls.quiet_of_same (name_q nm true Hn.out Hnm.out _)) | (go_at_call 54; exact Calls.quiet_of_same (ctext_q sp S HS.out Hsp.out _)))
        go_wp2_with fail
        go_meet
        case rel => exact ⟨by rw [HE.out], Lib.hid (G2.out.trans (Flow.grow_drewN _ _)), Lib.hid (HX.out.grow (Flow.grow_drewN _ _))⟩
      rw [hS] at hs0
      have d1 : decide (0 ≤ Xm.text sp 0) = false := decide_eq_false hs0
      by_cases ht0 : 0 ≤ Xm.text tx 0
      · have HE : Hid (Xm.bad1 sp nm tx = true) := Lib.hid (by simp [Xm.bad1, hn, ht0])
        clear hn hS HS
        go_quiet (first | (go_at_call 53; exact Calls.quiet_of_same (name_q nm true Hn.out Hnm.out _)) | (go_at_call 54; refine Calls.quiet_of_same (ctext_r _ ?_ _); (first | exact Hsp.out | exact Htx.out)))
        go_wp2_with fail
        go_meet
        case rel => exact ⟨by rw [HE.out], Lib.hid (G2.out.trans (Flow.grow_drewN _ _)), Lib.hid (HX.out.grow (Flow.grow_drewN _ _))⟩
      have d2 : decide (0 ≤ Xm.text tx 0) = false := decide_eq_false ht0
      obtain ⟨R, hR⟩ : ∃ R, R = Xm.trim tx := ⟨_, rfl⟩
      have HR := Lib.hid hR.symm
      have HE : Hid (Xm.bad1 sp nm tx = (R.toList != tx.toList)) := Lib.hid (by rw [Xm.bad1, hn, ← hR, d1, d2]; rfl)
      clear hn hS HS hR
      cases hr : (R.toList != tx.toList) with
      | false =>
        have HE' : Hid (Xm.bad1 sp nm tx = false) := Lib.hid (HE.out.trans hr)
        go_quiet (first | (go_at_call 53; exact Calls.quiet_of_same (name_q nm true Hn.out Hnm.out _)) | (go_at_call 50; exact Calls.quiet_of_same (trim_q tx R HR.out Htx.out _)) | (go_at_call 54; refine Calls.quiet_of_same (ctext_r _ ?_ _); (first | exact Hsp.out | exact Htx.out)))
        go_wp2_with fail
        go_meet
        case rel => exact ⟨by rw [HE'.out, ← hr]; rfl, Lib.hid (G2.out.trans (Flow.grow_drewN _ _)), Lib.hid (HX.out.grow (Flow.grow_drewN _ _))⟩
      | true =>
        have HE' : Hid (Xm.bad1 sp nm tx = true) := Lib.hid (HE.out.trans hr)
        have hr2 : ¬ R.toList = tx.toList := by simpa using hr
        go_quiet (first | (go_at_call 53; exact Calls.quiet_of_same (name_q nm true Hn.out Hnm.out _)) | (go_at_call 50; exact Calls.quiet_of_same (trim_q tx R HR.out Htx.out _)) | (go_at_call 54; refine Calls.quiet_of_same (ctext_r _ ?_ _); (first | exact Hsp.out | exact Htx.out)))
        go_wp2_with fail
        go_meet
        case rel => exact ⟨by rw [HE'.out, ← hr]; rfl, Lib.hid (G2.out.trans (Flow.grow_drewN _ _)), Lib.hid (HX.out.grow (Flow.grow_drewN _ _))⟩
  case rest =>
    obtain ⟨rfl, HG, HXc⟩ := hcut
    clear G2 HX
    cases hb1 : Xm.bad1 sp nm tx with
    | true =>
      have HE : Hid (Xm.nodeB sp nm l n tx = false) := Lib.hid (by rw [Xm.nodeB, hb1]; rfl)
      clear hb1
      go_wp2_with fail
      go_ret
      exact ⟨ret_bool HE.out.symm, HG.out⟩
    | false =>
      have HB1 := Lib.hid hb1
      clear hb1
      go_upto_region 3 with fail
      go_cut [43] (fun v43 wx => v43 = .bool (Xm.bad2 l n tx) ∧ Hid (Flow.Grow w wx) ∧ Hid (Xm.RowN wx X #[.string sp, .string nm, .slice ao L ac, .slice ka n kc, .string tx]))
      case first =>
        have x2 := fun k => (cell_of_row (wc.drewN k) X 2 _ _ _ HXc.out).trans rfl
        have x3 := fun k => (cell_of_row (wc.drewN k) X 3 _ _ _ HXc.out).trans rfl
        have x4 := fun k => (cell_of_row (wc.drewN k) X 4 _ _ _ HXc.out).trans rfl
        have x2 := (cell_of_row wc X 2 _ _ _ HXc.out).trans rfl
        have x3 := (cell_of_row wc X 3 _ _ _ HXc.out).trans rfl
        have x4 := (cell_of_row wc X 4 _ _ _ HXc.out).trans rfl
        have HLl := HL.out
        by_cases hn0 : 0 < n
        · have i0 : (0 : Int) < (n : Int) := by omega
          by_cases ht : tx.size = 0
          · have t1 := Xm.emp_t ht
            by_cases hl : 15 < L
            · have i2 : (15 : Int) < (L : Int) := by omega
              have HE : Hid (Xm.bad2 l n tx = true) := Lib.hid (by simp [Xm.bad2, ← HLl, hl])
              clear HLl ht
              go_wp2_with fail
              go_meet
              case rel => exact ⟨by rw [HE.out], HG, HXc⟩
            · have i2 : ¬ (15 : Int) < (L : Int) := by omega
              have HE : Hid (Xm.bad2 l n tx = false) := Lib.hid (by simp [Xm.bad2, ← HLl, ht]; omega)
              clear HLl ht
              go_wp2_with fail
              go_meet
              case rel => exact ⟨by rw [HE.out], HG, HXc⟩
          · have t1 := Xm.emp_n ht
            have t2 := Xm.emp_f ht
            have HE : Hid (Xm.bad2 l n tx = true) := Lib.hid (by simp [Xm.bad2, hn0]; omega)
            clear HLl ht
            go_wp2_with fail
            go_meet
            case rel => exact ⟨by rw [HE.out], HG, HXc⟩
        · have i0 : ¬ (0 : Int) < (n : Int) := by omega
          by_cases hl : 15 < L
          · have i2 : (15 : Int) < (L : Int) := by omega
            have HE : Hid (Xm.bad2 l n tx = true) := Lib.hid (by simp [Xm.bad2, ← HLl, hl])
            clear HLl
            go_wp2_with fail
            go_meet
            case rel => exact ⟨by rw [HE.out], HG, HXc⟩
          · have i2 : ¬ (15 : Int) < (L : Int) := by omega
            have HE : Hid (Xm.bad2 l n tx = false) := Lib.hid (by simp [Xm.bad2, ← HLl]; omega)
            clear HLl
            go_wp2_with fail
            go_meet
            case rel => exact ⟨by rw [HE.out], HG, HXc⟩
      case rest =>
        obtain ⟨rfl, HG2, HX2⟩ := hcut
        rename World => w2
        clear HG HXc
        cases hb2 : Xm.bad2 l n tx with
        | true =>
          have HE : Hid (Xm.nodeB sp nm l n tx = false) := Lib.hid (by rw [Xm.nodeB, HB1.out, hb2]; rfl)
          clear hb2
          go_wp2_with fail
          go_ret
          exact ⟨ret_bool HE.out.symm, HG2.out⟩
        | false =>
          have HE : Hid (Xm.nodeB sp nm l n tx = Xm.attsB [] l) := Lib.hid (by rw [Xm.nodeB, HB1.out, hb2]; rfl)
          clear hb2
          have x2 := (cell_of_row w2 X 2 _ _ _ HX2.out).trans rfl
          go_wp2_with fail
          go_loopw [47] (fun v47 wr => ∃ (i : Nat) (a b : List (ByteArray × ByteArray)), l = a ++ b ∧ a.length = i ∧ v47 = .int .i64 (i : Int) ∧ Hid (Xm.nodeB sp nm l n tx = Xm.attsB a b) ∧ Hid (Flow.Grow w wr) ∧ Hid (Xm.RowN wr X #[.string sp, .string nm, .slice ao L ac, .slice ka n kc, .string tx])) (fun v47 _ => L - (intOf v47).toNat)
          case atStart => exact ⟨0, [], l, rfl, rfl, rfl, HE, HG2, HX2⟩
          case round =>
            obtain ⟨i, a, b, hab, hai, rfl, HR, HG, HXr⟩ := hrel
            rename World => wr
            have hLl := HL.out
            cases b with
            | nil =>
              rw [List.append_nil] at hab
              subst hab
              have HR2 : Hid (Xm.nodeB sp nm l n tx = true) := Lib.hid (by rw [HR.out]; rfl)
              have g1 : ¬ (i : Int) < (L : Int) := by rw [hLl]; omega
              clear hLl
              go_wp2_with fail
              go_ret
              exact ⟨ret_bool HR2.out.symm, HG.out⟩
            | cons y b' =>
              obtain ⟨an, av⟩ := y
              have hlt : i < l.length := by rw [hab]; simp; omega
              have hy : l[i]? = some (an, av) := by rw [hab, ← hai]; simp
              have Hsz := Lib.hid (Hl.out (an, av) (by rw [hab]; simp))
              rcases HA.out with ⟨_, h0⟩ | ⟨ga, offa, capa, hva, q1, q2, hga, hcell⟩
              · exfalso
                rw [h0] at hlt; simp at hlt
              rw [← hLl] at hva q1 hlt
              simp only [Value.slice.injEq, true_and] at hva
              obtain ⟨rfl, rfl⟩ := hva
              have hgc := Xm.attrCells_get l i (an, av) hy
              have k0 := (Xm.cell_grow HG.out hga).trans (hcell _ _ hgc.1)
              have k1 := (Xm.cell_grow HG.out hga).trans (hcell _ _ hgc.2)
              simp only at k0 k1
              rw [← Nat.add_assoc] at k1
              have HAB : Hid (l = (a ++ [(an, av)]) ++ b') := Lib.hid (by rw [hab]; simp)
              have HPre : Hid (∀ wq, Flow.Grow w wq → Xm.AttrsAt wq (.slice (some ⟨ga, offa, none⟩) i (ac - 0)) a) := Lib.hid (fun wq hq => by
                refine .inr ⟨ga, offa, ac - 0, by rw [hai], by omega, by omega, Nat.lt_of_lt_of_le hga hq.size, fun j u hu => ?_⟩
                have hj : (Xm.attrCells l)[j]? = some u := by
                  rw [hab, Xm.attrCells_append, List.getElem?_append_left (List.getElem?_eq_some_iff.1 hu).1]
                  exact hu
                exact (Xm.cell_grow hq hga).trans (hcell _ _ hj))
              have HR2 : Hid (Xm.nodeB sp nm l n tx = (!(Xm.badA (an, av)) && (!(a.any (Xm.named1 an)) && Xm.attsB (a ++ [(an, av)]) b'))) := Lib.hid (by rw [HR.out]; rfl)
              have g1 : (i : Int) < (L : Int) := by omega
              have g3 : ¬ (L : Int) ≤ (i : Int) := by omega
              have g4 : (i : Int) ≤ (ac : Int) := by omega
              have hi63 : (i : Int) + 1 ≤ 9223372036854775807 := by rw [maxLen] at q2; omega
              have eN : IntKind.i64.wrap ((i : Int) + 1) = (i : Int) + 1 := IntWalk.i64_in _ (by omega)
              have Hlt := Lib.hid (And.intro hlt hai)
              clear hab hy hgc hcell q1 q2 hLl hga hlt
              go_upto_region 8 with fail
              have GA : Hid (Flow.Grow wr (wr.alloc (.cells #[.string an, .string av] 41))) := Lib.hid (Flow.grow_alloc _ _)
              have HY : Hid (∀ wq, Flow.Grow (wr.alloc (.cells #[.string an, .string av] 41)) wq → wr.heap.size < wq.heap.size ∧ wq.cell? ⟨wr.heap.size, 0, none⟩ = some (.string an) ∧ wq.cell? ⟨wr.heap.size, 1, none⟩ = some (.string av)) := Lib.hid (fun wq hq => ⟨Nat.lt_of_lt_of_le (by simp) hq.size, (Xm.cell_grow hq (by simp)).trans (by simp [go_sem]), (Xm.cell_grow hq (by simp)).trans (by simp [go_sem])⟩)
              obtain ⟨Y, hY⟩ : ∃ Y, Y = wr.heap.size := ⟨_, rfl⟩
              rw [← hY] at HY ⊢
              clear hY k0 k1
              generalize wr.alloc (.cells #[.string an, .string av] 41) = w3 at *
              have HX3 := Lib.hid (HXr.out.grow GA.out)
              have HG3 := Lib.hid (HG.out.trans GA.out)
              go_cut [47, 66] from 47 to 73 (fun v47 v66 wx => v47 = .int .i64 (i : Int) ∧ v66 = .bool (Xm.badA (an, av)) ∧ Hid (Flow.Grow w3 wx))
              case first =>
                have y0 := (HY.out _ (Flow.grow_refl _)).2.1
                have y1 := (HY.out _ (Flow.grow_refl _)).2.2
                cases hn : Xm.name an with
                | false =>
                  have Hn := Lib.hid hn
                  have HB : Hid (Xm.badA (an, av) = true) := Lib.hid (by simp [Xm.badA, hn])
                  clear hn
                  go_wp2_with ((go_at_call 53; refine (name_q an false Hn.out Hsz.out.1 _).mono ?_; rintro e w' ⟨rfl, rfl⟩))
                  go_meet
                  case rel => exact ⟨rfl, by rw [HB.out], Lib.hid (Flow.grow_refl _)⟩
                | true =>
                  have Hn := Lib.hid hn
                  cases hx : (an.toList == ([120, 109, 108, 110, 115] : List UInt8)) with
                  | true =>
                    have HB : Hid (Xm.badA (an, av) = true) := Lib.hid (by rw [Xm.badA, hn]; show (false || ((an.toList == ([120, 109, 108, 110, 115] : List UInt8)) || _)) = true; rw [hx]; rfl)
                    have hx2 : an.toList = [120, 109, 108, 110, 115] := by simpa using hx
                    clear hn
                    go_wp2_with ((go_at_call 53; refine (name_q an true Hn.out Hsz.out.1 _).mono ?_; rintro e w' ⟨rfl, rfl⟩))
                    go_meet
                    case rel => exact ⟨rfl, by rw [HB.out], Lib.hid (Flow.grow_refl _)⟩
                  | false =>
                    obtain ⟨S, hS⟩ : ∃ S, S = Xm.text av 0 := ⟨_, rfl⟩
                    have HS := Lib.hid hS.symm
                    have HB : Hid (Xm.badA (an, av) = decide (0 ≤ S)) := Lib.hid (by rw [Xm.badA, hn]; show (false || ((an.toList == ([120, 109, 108, 110, 115] : List UInt8)) || decide (0 ≤ Xm.text av 0))) = _; rw [hx, ← hS]; rfl)
                    have hx2 : ¬ an.toList = [120, 109, 108, 110, 115] := by simpa using hx
                    clear hn hS
                    go_wp2_with (first | (go_at_call 53; refine (name_q an true Hn.out Hsz.out.1 _).mono ?_; rintro e w' ⟨rfl, rfl⟩) | (go_at_call 54; refine (ctext_q av S HS.out Hsz.out.2 _).mono ?_; rintro e w' ⟨rfl, rfl⟩))
                    go_meet
                    case rel => exact ⟨rfl, by rw [HB.out], Lib.hid (Flow.grow_refl _)⟩
              case rest =>
                obtain ⟨rfl, rfl, HGx⟩ := hcut
                rename World => w4
                cases hba : Xm.badA (an, av) with
                | true =>
                  have HF : Hid (Xm.nodeB sp nm l n tx = false) := Lib.hid (by rw [HR2.out, hba]; rfl)
                  clear hba
                  go_wp2_with fail
                  go_ret
                  exact ⟨ret_bool HF.out.symm, HG3.out.trans HGx.out⟩
                | false =>
                  have HG4 := Lib.hid (HG3.out.trans HGx.out)
                  have HP4 := Lib.hid (HPre.out _ HG4.out)
                  have z2 := (cell_of_row w4 X 2 _ _ _ (HX3.out.grow HGx.out)).trans rfl
                  have HYl : Hid (Y < w4.heap.size) := Lib.hid (HY.out _ HGx.out).1
                  have HYc : Hid (w4.cell? ⟨Y, 0, none⟩ = some (.string an)) := Lib.hid (HY.out _ HGx.out).2.1
                  cases hna : a.any (Xm.named1 an) with
                  | true =>
                    have HF : Hid (Xm.nodeB sp nm l n tx = false) := Lib.hid (by rw [HR2.out, hba, hna]; rfl)
                    have HN := Lib.hid hna
                    clear hba hna
                    go_wp2_with (go_at_call 55; refine (containsNode_any _ a an Y _ HP4.out HYl.out HYc.out).mono ?_; rintro e w5 ⟨rfl, hg5⟩; rw [HN.out])
                    go_ret
                    exact ⟨ret_bool HF.out.symm, HG4.out.trans hg5⟩
                  | false =>
                    have HF : Hid (Xm.nodeB sp nm l n tx = Xm.attsB (a ++ [(an, av)]) b') := Lib.hid (by rw [HR2.out, hba, hna]; rfl)
                    have HN := Lib.hid hna
                    clear hba hna
                    go_wp2_with (go_at_call 55; refine (containsNode_any _ a an Y _ HP4.out HYl.out HYc.out).mono ?_; rintro e w5 ⟨rfl, hg5⟩; rw [HN.out])
                    go_roundw
                    case rel => exact ⟨i + 1, a ++ [(an, av)], b', HAB.out, by rw [List.length_append, Hlt.out.2]; rfl, by first | rfl | go_num, HF, Lib.hid (HG4.out.trans hg5), Lib.hid ((HX3.out.grow HGx.out).grow hg5)⟩
                    case measure => have := Hlt.out.1; simp only [intOf]; omega
end Go.Proofs.YtdpkhmfolmcejaaGreatDoor

/- strings.Repeat of a blank, by its contract. -/
import Derived.Test.YtdpkhmfolmcejaaGreatDoorShelf
import Derived.Test.YtdpkhmfolmcejaaGreatDoorMFlow
import Derived.Test.YtdpkhmfolmcejaaGreatDoorUtf
import Derived.WalkKit
import Derived.Lib.Hide
namespace Go.Proofs.YtdpkhmfolmcejaaGreatDoor
open Go.RowKit
theorem run_cut0 (s : ByteArray) (b : Nat) (h2 : b ≤ s.size) (y : Int) (hy : y = b) (w : World) :
    (Instr.slice 9 (.string s) none (some (.int .i64 y)) none).run Tryz.prog w = .ok (.string (s.extract 0 b)) w := by
  subst hy
  simp [Instr.slice, run_underlying Tryz.underlying9, Sem.run_bind, Instr.sliceBounds, Instr.sliceBound, asIntOf, h2]
theorem pads_cut : ∀ (m n : Nat), n ≤ m → (str (List.replicate m 32)).extract 0 n = str (List.replicate n 32) := by
  intro m n h
  apply ByteArray.ext
  apply Array.ext'
  rw [ByteArray.data_extract, Array.toList_extract, List.extract_eq_take_drop]
  show ((List.replicate m (32 : UInt8)).drop 0).take (n - 0) = List.replicate n 32
  rw [List.drop_zero, Nat.sub_zero, List.take_replicate, Nat.min_eq_left h]
set_option maxRecDepth 100000 in
set_option maxHeartbeats 4000000 in
theorem repeat_sp (n : Nat) (hn : n ≤ 100) (w : World) : Calls Tryz.prog 28 #[.string ⟨#[32]⟩, .int .i64 (n : Int)] w fun e w' => e = .returned (.string (str (List.replicate n 32))) ∧ w' = w := by
  by_cases h0 : n = 0
  · subst h0
    go_enter Tryz.func28, Tryz.ntmps28
    go_wp2
    go_ret
    exact ⟨rfl, rfl⟩
  by_cases h1 : n = 1
  · subst h1
    go_enter Tryz.func28, Tryz.ntmps28
    go_wp2
    go_ret
    exact ⟨rfl, rfl⟩
  have d0 : ((n : Int) == 0) = false := by simp; omega
  have d1 : ((n : Int) == 1) = false := by simp; omega
  have g0 : ¬ (n : Int) < 0 := by omega
  have HM := Lib.hid (fun w => (Tryz.bits_Mul 1 n (by omega) (by omega) w).mono (R' := fun e w' => e = .returned (.tuple #[.int .u64 0, .int .u64 (n : Int)]) ∧ w' = w) (by
    rintro e w' ⟨rfl, rfl⟩
    refine ⟨?_, rfl⟩
    rw [Nat.one_mul, Nat.div_eq_of_lt (by omega), Nat.mod_eq_of_lt (by omega)]
    rfl))
  have w1 : IntKind.u64.wrap (n : Int) = (n : Int) := IntWalk.u64_in _ (by omega)
  have w2 : IntKind.i64.wrap (n : Int) = (n : Int) := IntWalk.i64_in _ (by omega)
  have g1 : ¬ 9223372036854775807 < (n : Int) := by omega
  have g2 : (n : Int) ≤ 128 := by omega
  obtain ⟨T, hT⟩ : ∃ T, T = str (List.replicate 128 32) := ⟨_, rfl⟩
  have hTz : T.size = 128 := by rw [hT, str_size, List.length_replicate]
  have HT : Hid (T.extract 0 n = str (List.replicate n 32)) := Lib.hid (by rw [hT]; exact pads_cut 128 n (by omega))
  have HP := Lib.hid (fun w => Tryz.strings_HasPrefix T ⟨#[32]⟩ w)
  have hp : Lib.hasPrefix T.data.toList [32] = true := by rw [hT]; rfl
  have HP2 := Lib.hid hp
  have hsl := run_cut0 T n (by omega) (n : Int) rfl
  have hTe : (⟨#[32, 32, 32, 32, 32, 32, 32, 32, 32, 32, 32, 32, 32, 32, 32, 32, 32, 32, 32, 32, 32, 32, 32, 32, 32, 32, 32, 32, 32, 32, 32, 32, 32, 32, 32, 32, 32, 32, 32, 32, 32, 32, 32, 32, 32, 32, 32, 32, 32, 32, 32, 32, 32, 32, 32, 32, 32, 32, 32, 32, 32, 32, 32, 32, 32, 32, 32, 32, 32, 32, 32, 32, 32, 32, 32, 32, 32, 32, 32, 32, 32, 32, 32, 32, 32, 32, 32, 32, 32, 32, 32, 32, 32, 32, 32, 32, 32, 32, 32, 32, 32, 32, 32, 32, 32, 32, 32, 32, 32, 32, 32, 32, 32, 32, 32, 32, 32, 32, 32, 32, 32, 32, 32, 32, 32, 32, 32, 32]⟩ : ByteArray) = T := by rw [hT]; rfl
  clear hT hp h0 h1 hn
  go_enter Tryz.func28, Tryz.ntmps28
  go_wp2_with (first | (go_at_call 41; refine (HM.out _).mono ?_; rintro e w' ⟨rfl, rfl⟩) | rw [hTe] | (go_at_call 42; refine (HP.out _).mono ?_; rintro e w' ⟨rfl, rfl⟩; rw [HP2.out]))
  go_ret
  exact ⟨by rw [HT.out]; rfl, rfl⟩
end Go.Proofs.YtdpkhmfolmcejaaGreatDoor

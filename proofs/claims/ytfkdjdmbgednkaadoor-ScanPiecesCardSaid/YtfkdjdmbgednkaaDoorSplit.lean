/- chars.Split by its contract. -/
import Derived.Test.YtfkdjdmbgednkaaDoorName
namespace Go.Proofs.YtfkdjdmbgednkaaDoor
open Go.RowKit
namespace Xm
/-- where the first colon stands, from a place on -/
def col (s : ByteArray) (k : Nat) : Nat := if k < s.size then (if bt s k = 58 then k else col s (k + 1)) else s.size
  termination_by s.size - k
def split (s : ByteArray) : ByteArray × ByteArray × Bool :=
  if col s 0 < s.size then (cut s 0 (col s 0), cut s (col s 0 + 1) s.size, name (cut s 0 (col s 0)) && name (cut s (col s 0 + 1) s.size)) else (ByteArray.empty, s, name s)
end Xm
theorem ret_split {p : ByteArray × ByteArray × Bool} {a b : ByteArray} {c : Bool} (h : p = (a, b, c)) : Ending.returned (.tuple #[.string a, .string b, .bool c]) = .returned (.tuple #[.string p.1, .string p.2.1, .bool p.2.2]) := by rw [h]
theorem name_quiet (s : ByteArray) (b : Bool) (hb : Xm.name s = b) (hs : s.size ≤ 9223372036854775807) (w : World) : Calls Tryd.prog 78 #[.string s] w fun e w' => e = .returned (.bool b) ∧ w' = w :=
  (name_any s w hs).mono fun _ _ ⟨h1, h2⟩ => ⟨by rw [h1, hb], h2.symm⟩

set_option maxRecDepth 100000 in
set_option maxHeartbeats 1000000 in
theorem split_any (s : ByteArray) (w : World) (hs : s.size ≤ 9223372036854775807) : Calls Tryd.prog 60 #[.string s] w fun e w' => e = .returned (.tuple #[.string (Xm.split s).1, .string (Xm.split s).2.1, .bool (Xm.split s).2.2]) ∧ ∃ n, w' = w.drewN n := by
  go_enter Tryd.func60, Tryd.ntmps60
  go_wp2
  go_loop [8] (fun i => ∃ k : Nat, k ≤ s.size ∧ i = .int .i64 k ∧ Hid (Xm.col s 0 = Xm.col s k)) (fun i => s.size - (intOf i).toNat)
  case atStart => exact ⟨0, by omega, rfl, Lib.hid rfl⟩
  case round =>
    obtain ⟨k, hk, rfl, HC⟩ := hrel
    by_cases hlt : k < s.size
    · have Hb := Lib.hid (Xm.bt_eq hlt)
      by_cases h58 : Xm.bt s k = 58
      · have g : (Xm.bt s k == 58) = true := by simpa using h58
        have HK : Hid (Xm.col s 0 = k) := Lib.hid (by rw [HC.out, Xm.col, if_pos hlt, if_pos h58])
        clear h58
        have HS : Hid (Xm.split s = (s.extract 0 k, s.extract (k + 1) s.size, Xm.name (s.extract 0 k) && Xm.name (s.extract (k + 1) s.size))) := Lib.hid (by simp only [Xm.split, HK.out, if_pos hlt, Xm.cut])
        have z1 : (s.extract 0 k).size ≤ 9223372036854775807 := by simp; omega
        have z2 : (s.extract (k + 1) s.size).size ≤ 9223372036854775807 := by simp; omega
        have e1 : IntKind.i64.wrap ((k : Int) + 1) = (k : Int) + 1 := IntWalk.i64_in _ (by omega)
        cases hb1 : Xm.name (s.extract 0 k)
        · have H1 := Lib.hid hb1
          have HR : Hid (Xm.split s = (s.extract 0 k, s.extract (k + 1) s.size, false)) := Lib.hid (by rw [HS.out, hb1]; rfl)
          clear hb1
          go_wp2_with (rw [Hb.out])
          go_quiet ((go_at_call 78; exact Calls.quiet_of_same (name_quiet _ false H1.out z1 _)))
          go_wp2
          go_ret3
          exact ⟨ret_split HR.out, _, rfl⟩
        · have H1 := Lib.hid hb1
          have HR : Hid (Xm.split s = (s.extract 0 k, s.extract (k + 1) s.size, Xm.name (s.extract (k + 1) s.size))) := Lib.hid (by rw [HS.out, hb1]; rfl)
          clear hb1
          obtain ⟨b2, hb2⟩ : ∃ b2, Xm.name (s.extract (k + 1) s.size) = b2 := ⟨_, rfl⟩
          have H2 := Lib.hid hb2
          clear hb2
          go_wp2_with (rw [Hb.out])
          go_quiet ((go_at_call 78; exact Calls.quiet_of_same (name_quiet _ _ (by first | with_reducible exact H1.out | with_reducible exact H2.out) (by first | with_reducible exact z1 | with_reducible exact z2) _)))
          go_wp2
          go_ret3
          exact ⟨ret_split (by rw [HR.out, H2.out]), _, rfl⟩
      · have g : (Xm.bt s k == 58) = false := by simpa using h58
        have HK : Hid (Xm.col s 0 = Xm.col s (k + 1)) := Lib.hid (by rw [HC.out, Xm.col, if_pos hlt, if_neg h58])
        clear h58
        go_wp2_with (rw [Hb.out])
        go_round
        case rel => exact ⟨k + 1, by omega, by go_num, HK⟩
        case measure => simp [intOf]; omega
    · have HR : Hid (Xm.split s = (ByteArray.empty, s, Xm.name s)) := Lib.hid (by
        have : ¬ Xm.col s 0 < s.size := by rw [HC.out, Xm.col, if_neg hlt]; omega
        simp only [Xm.split, if_neg this])
      go_wp2_with (go_at_call 78; refine (name_any _ _ hs).mono ?_; rintro e w' ⟨rfl, rfl⟩)
      go_ret3
      exact ⟨ret_split HR.out, 0, rfl⟩
end Go.Proofs.YtfkdjdmbgednkaaDoor

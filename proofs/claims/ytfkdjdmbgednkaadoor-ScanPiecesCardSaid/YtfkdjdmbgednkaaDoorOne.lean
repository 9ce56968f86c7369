/- entity.One by its contract. -/
import Derived.Test.YtfkdjdmbgednkaaDoorNumb
namespace Go.Proofs.YtfkdjdmbgednkaaDoor
open Go.RowKit
set_option maxRecDepth 100000 in
set_option maxHeartbeats 1000000 in
theorem one_any (s : ByteArray) (w : World) (hT : Xm.Tab w) (hs : s.size ≤ 9223372036854775807) : Calls Tryd.prog 82 #[.string s] w fun e w' => e = .returned (.int .i64 (Xm.one s)) ∧ Flow.Grow w w' := by
  have HT := Lib.hid hT
  clear hT
  by_cases hz : s.size = 0
  · have HE : Hid (Xm.one s = Xm.named s) := Lib.hid (by rw [Xm.one, if_neg (by omega)])
    have hE := Xm.emp_t hz
    clear hz
    go_enter Tryd.func82, Tryd.ntmps82
    go_wp2_with (go_at_call 94; refine (named_any _ _ HT.out).mono ?_; rintro e w' ⟨rfl, hg⟩)
    go_ret
    exact ⟨ret_int HE.out.symm, hg⟩
  · have hlt : 0 < s.size := by omega
    have hE := Xm.emp_f hz
    have Hb := Lib.hid (Xm.bt_eq hlt)
    by_cases h35 : Xm.bt s 0 = 35
    · have g : (Xm.bt s 0 == 35) = true := by simpa using h35
      have HE : Hid (Xm.one s = Xm.number (s.extract 1 s.size)) := Lib.hid (by rw [Xm.one, if_pos ⟨hlt, h35⟩]; rfl)
      have hxm : (s.extract 1 s.size).size ≤ 9223372036854775807 := by simp; omega
      have Hxm := Lib.hid hxm
      clear hz h35 hxm
      go_enter Tryd.func82, Tryd.ntmps82
      go_wp2_with (first | (go_at_call 93; refine (number_any _ _ Hxm.out).mono ?_; rintro e w' ⟨rfl, hg⟩) | rw [Hb.out])
      go_ret
      exact ⟨ret_int HE.out.symm, hg⟩
    · have g : (Xm.bt s 0 == 35) = false := by simpa using h35
      have HE : Hid (Xm.one s = Xm.named s) := Lib.hid (by rw [Xm.one, if_neg (by omega)])
      clear hz h35
      go_enter Tryd.func82, Tryd.ntmps82
      go_wp2_with (first | (go_at_call 94; refine (named_any _ _ HT.out).mono ?_; rintro e w' ⟨rfl, hg⟩) | rw [Hb.out])
      go_ret
      exact ⟨ret_int HE.out.symm, hg⟩
end Go.Proofs.YtfkdjdmbgednkaaDoor

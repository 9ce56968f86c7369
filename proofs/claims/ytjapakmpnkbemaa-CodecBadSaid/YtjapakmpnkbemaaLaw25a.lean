/- galliardlaw25.awake is true. -/
import Derived.Test.YtjapakmpnkbemaaLawNum
import Derived.Test.YtjapakmpnkbemaaGet
namespace Go.Proofs.Ytjapakmpnkbemaa
open Go.RowKit

theorem vint_300 : Num.vint 300 = [172, 2] := by rw [Num.vint_hi (by omega), Num.vint_lo (by omega)]; rfl
theorem get_300 : Num.get [172, 2, 7] = (300, 2) := by decide

theorem strBytes {w : World} {v : Value} {l : List UInt8} (h : Bytes w v l) : (convert 22 9 v).run Try.prog w = .ok (.string (str l)) w :=
  run_str h 22 9 5 Try.underlying22 Try.underlying5 Try.underlying9

set_option maxRecDepth 100000 in
set_option maxHeartbeats 400000 in
theorem awake25 (w : World) : Calls Try.prog 9 #[] w fun e w' => e = .returned (.bool true) ∧ Flow.Grow w w' := by
  have H1 : Hid (Bytes (w.alloc (.cells #[.int .u8 172, .int .u8 2, .int .u8 7] 5)) (.slice (some ⟨w.heap.size, 0, none⟩) 3 3) [172, 2, 7]) :=
    Lib.hid (Bytes.of_own (World.ownsRow_lit (base := 0) (e := 5) w #[.int .u8 172, .int .u8 2, .int .u8 7] 3 (Nat.zero_le _) (by decide) rfl) (by simp))
  have H2 := fun (W : World) => put_nil 300 W (by omega)
  have H2' := Lib.hid H2
  clear H2
  go_enter Try.func9, Try.ntmps9
  go_wp2_with (go_at_call 7; refine (get_any H1.out).mono ?_; rintro e w' ⟨rfl, rfl⟩; rw [get_300])
  refine (H2'.out _).mono ?_
  rintro e w1 ⟨v', rfl, ⟨hown, hb, hf⟩, hg⟩
  have hs := strBytes hb
  rw [show (300 : Int).toNat = 300 from rfl, vint_300, str] at hs
  have HG : Hid (Flow.Grow w w1) := Lib.hid ((Flow.grow_alloc _ _).trans hg)
  clear hown hg hb hf H1 H2'
  go_wp2
  go_ret
  exact ⟨rfl, HG.out⟩
end Go.Proofs.Ytjapakmpnkbemaa

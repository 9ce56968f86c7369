/- galliardlaw15.awake is true. -/
import Derived.Test.YtjapakmpnkbemaaDoorOf
namespace Go.Proofs.YtjapakmpnkbemaaDoor
open Go.RowKit

set_option maxRecDepth 100000 in
set_option maxHeartbeats 400000 in
theorem count_10 (w : World) : Calls Tryd.prog 7 #[.int .u64 10] w fun e w' => e = .returned (.int .i64 2) ∧ w = w' := by
  go_enter Tryd.func7, Tryd.ntmps7
  go_wp2
  go_ret
  exact ⟨by kernel_rfl, rfl⟩

set_option maxRecDepth 100000 in
set_option maxHeartbeats 400000 in
theorem awake15 (w : World) : Calls Tryd.prog 6 #[] w fun e w' => e = .returned (.bool true) ∧ Flow.Grow w w' := by
  have H1 : Hid (Ints (w.alloc (.cells #[.int .i64 1, .int .i64 3] 3)) (.slice (some ⟨w.heap.size, 0, none⟩) 2 2) [1, 3]) :=
    Lib.hid (Seg.of_own (World.ownsRow_lit (base := 0) (e := 3) w #[.int .i64 1, .int .i64 3] 2 (Nat.zero_le _) (by decide) rfl))
  have H2 : Hid (Mark.ofL 0 [1, 3] = 10) := Lib.hid (by decide)
  go_enter Tryd.func6, Tryd.ntmps6
  go_wp2_with (go_at_call 8; refine (of_any _ _ _ (by decide) H1.out).mono ?_; rintro e w' ⟨rfl, rfl⟩; rw [H2.out])
  refine (put_no 10 3 _ (by omega) (.inr (by decide))).mono ?_
  rintro e w' ⟨rfl, rfl⟩
  go_wp2_with fail
  refine (count_10 _).mono ?_
  rintro e w' ⟨rfl, rfl⟩
  go_wp2_with fail
  refine (has_any 10 3 _ (by omega)).mono ?_
  rintro e w' ⟨rfl, rfl⟩
  rw [show Mark.has 10 3 = true by decide]
  go_wp2_with fail
  have H3 : Ints ((w.alloc (.cells #[.int .i64 1, .int .i64 3] 3)).alloc (.cells #[.int .i64 1, .int .i64 3] 3)) (.slice (some ⟨w.heap.size + 1, 0, none⟩) 2 2) [1, 3] := by
    have h := Seg.of_own (sz := 1) (World.ownsRow_lit (base := 0) (e := 3) (w.alloc (.cells #[.int .i64 1, .int .i64 3] 3)) #[.int .i64 1, .int .i64 3] 2 (Nat.zero_le _) (by decide) rfl)
    simpa [Ints] using h
  refine (all_any 10 (by omega) _ _ _ (by decide) H3).mono ?_
  rintro e w' ⟨rfl, rfl⟩
  rw [show Mark.allL 10 [1, 3] = true by decide]
  clear H1 H2 H3
  go_wp2
  go_ret
  exact ⟨rfl, (Flow.grow_alloc _ _).trans (Flow.grow_alloc _ _)⟩
end Go.Proofs.YtjapakmpnkbemaaDoor

/- galliardlaw45.awake returns true: run through by the kernel. -/
import Derived.Test.YtepianllbfnpoaaGreatFxCrc
namespace Go.Proofs.YtepianllbfnpoaaGreat
open Go.RowKit Ev Fx
theorem noCount : NoCount Tryz.prog := noCount_of (by kernel_rfl)
theorem mixed : Tryz.prog.follows .mixedOrders = true := by kernel_rfl
set_option maxRecDepth 1000000 in
theorem awake45_run : fxFun Tryz.prog crcOrcF 100000 1000 38 [] st0 endV = some (.bool true) := by kernel_rfl
theorem awake45 (w : World) : Calls Tryz.prog 38 #[] w fun e w' => e = .returned (.bool true) ∧ Flow.Grow w w' :=
  run_calls noCount mixed crcOrc_ok crcOrc_keep crcOrcF_ok awake45_run (args := []) ⟨rfl, fun j x v h => by simp at h⟩ w
end Go.Proofs.YtepianllbfnpoaaGreat

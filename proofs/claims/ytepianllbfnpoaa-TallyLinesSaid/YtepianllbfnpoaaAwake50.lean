/- galliardlaw50.awake returns true: run through by the kernel. -/
import Derived.Test.YtepianllbfnpoaaFxCrc
namespace Go.Proofs.Ytepianllbfnpoaa
open Go.RowKit Ev Fx
theorem noCount : NoCount Try.prog := noCount_of (by kernel_rfl)
theorem mixed : Try.prog.follows .mixedOrders = true := by kernel_rfl
set_option maxRecDepth 1000000 in
theorem awake50_run : fxFun Try.prog crcOrcF 100000 1000 11 [] st0 endV = some (.bool true) := by kernel_rfl
theorem awake50 (w : World) : Calls Try.prog 11 #[] w fun e w' => e = .returned (.bool true) ∧ Flow.Grow w w' :=
  run_calls noCount mixed crcOrc_ok crcOrc_keep crcOrcF_ok awake50_run (args := []) ⟨rfl, fun j x v h => by simp at h⟩ w
end Go.Proofs.Ytepianllbfnpoaa

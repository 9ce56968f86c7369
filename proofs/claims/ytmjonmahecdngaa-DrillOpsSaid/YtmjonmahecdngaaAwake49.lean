/- galliardlaw49.awake returns true: run through by the kernel. -/
import Derived.Test.YtmjonmahecdngaaFxCrc
namespace Go.Proofs.Ytmjonmahecdngaa
open Go.RowKit Ev Fx
theorem noCount : NoCount Try.prog := noCount_of (by kernel_rfl)
theorem mixed : Try.prog.follows .mixedOrders = true := by kernel_rfl
set_option maxRecDepth 1000000 in
theorem awake49_run : fxFun Try.prog crcOrcF 100000 1000 9 [] st0 endV = some (.bool true) := by kernel_rfl
theorem awake49 (w : World) : Calls Try.prog 9 #[] w fun e w' => e = .returned (.bool true) ∧ Flow.Grow w w' :=
  run_calls noCount mixed crcOrc_ok crcOrc_keep crcOrcF_ok awake49_run (args := []) ⟨rfl, fun j x v h => by simp at h⟩ w
end Go.Proofs.Ytmjonmahecdngaa

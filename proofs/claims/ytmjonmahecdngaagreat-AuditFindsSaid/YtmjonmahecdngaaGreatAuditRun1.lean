/- galliardlaw46.AuditFinds, its low bits known: run through by the kernel. -/
import Derived.Test.YtmjonmahecdngaaGreatFxCrc
namespace Go.Proofs.YtmjonmahecdngaaGreat
open Go.RowKit Ev Fx
set_option maxRecDepth 1000000 in
theorem audit1_run : fxFun Tryz.prog crcOrcF 100000 1000 3 [.c (.o (.low 2 1))] st0 endV = some (.bool true) := by kernel_rfl
end Go.Proofs.YtmjonmahecdngaaGreat

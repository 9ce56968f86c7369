/- galliardlaw46.AuditFinds returns true. -/
import Derived.Test.YtmjonmahecdngaaGreatAuditRun0
import Derived.Test.YtmjonmahecdngaaGreatAuditRun1
import Derived.Test.YtmjonmahecdngaaGreatAuditRun2
import Derived.Test.YtmjonmahecdngaaGreatAuditRun3
namespace Go.Proofs.YtmjonmahecdngaaGreat
open Go.RowKit Ev Fx
theorem noCount : NoCount Tryz.prog := noCount_of (by kernel_rfl)
theorem mixed : Tryz.prog.follows .mixedOrders = true := by kernel_rfl
theorem audit_walk (n : Int) (w : World) : Calls Tryz.prog 3 #[.int .i64 n] w fun e w' => e = .returned (.bool true) ∧ Flow.Grow w w' := by
  obtain ⟨r, hr, h⟩ := vp_low 2 n
  have ha : All2 (VP fun _ => none) [.s (.c (.low 2 r))] [.int .i64 n] := All2.cons (h _) All2.nil
  have hr' : r = 0 ∨ r = 1 ∨ r = 2 ∨ r = 3 := by omega
  rcases hr' with rfl | rfl | rfl | rfl
  · exact run_calls noCount mixed crcOrc_ok crcOrc_keep crcOrcF_ok audit0_run (args := [.int .i64 n]) ha w
  · exact run_calls noCount mixed crcOrc_ok crcOrc_keep crcOrcF_ok audit1_run (args := [.int .i64 n]) ha w
  · exact run_calls noCount mixed crcOrc_ok crcOrc_keep crcOrcF_ok audit2_run (args := [.int .i64 n]) ha w
  · exact run_calls noCount mixed crcOrc_ok crcOrc_keep crcOrcF_ok audit3_run (args := [.int .i64 n]) ha w
end Go.Proofs.YtmjonmahecdngaaGreat

/- scan: what is told of no scanner. -/
import Derived.Test.YtfkdjdmbgednkaaDoorScan10
namespace Go.Proofs.YtfkdjdmbgednkaaDoor
open Go.RowKit
set_option maxRecDepth 100000 in
theorem err_nil (w : World) : Calls Tryd.prog 14 #[.pointer none] w fun r w' => r = .returned (.int .i64 1) ∧ w = w' := by
  go_enter Tryd.func14, Tryd.ntmps14
  go_wp2
  go_ret
  exact ⟨rfl, rfl⟩
set_option maxRecDepth 100000 in
theorem at_nil (w : World) : Calls Tryd.prog 16 #[.pointer none] w fun r w' => r = .returned (.int .i64 0) ∧ w = w' := by
  go_enter Tryd.func16, Tryd.ntmps16
  go_wp2
  go_ret
  exact ⟨rfl, rfl⟩
set_option maxRecDepth 100000 in
theorem wrong_nil (z a : Int) (w : World) : Calls Tryd.prog 18 #[.pointer none, .int .i64 z, .int .i64 a] w fun r w' => r = .returned (.tuple #[]) ∧ w = w' := by
  go_enter Tryd.func18, Tryd.ntmps18
  go_wp2
  go_end0
  exact ⟨rfl, rfl⟩
set_option maxRecDepth 100000 in
set_option maxHeartbeats 1000000 in
theorem next_nil (w : World) : Calls Tryd.prog 12 #[.pointer none] w fun r w' => r = .returned (.agg #[.int .i64 0, .string ByteArray.empty, .slice none 0 0, .string ByteArray.empty, .int .i64 0]) ∧ Flow.Grow w w' := by
  have hg : Xm.Row5 (w.alloc (.cells #[.int .i64 0, .string ⟨#[]⟩, .slice none 0 0, .string ⟨#[]⟩, .int .i64 0] 27)) w.heap.size #[.int .i64 0, .string ⟨#[]⟩, .slice none 0 0, .string ⟨#[]⟩, .int .i64 0] := heap_alloc_new _ _
  have HG := Lib.hid hg
  clear hg
  go_enter Tryd.func12, Tryd.ntmps12
  go_wp2
  (try simp only [Exit.inBlock, Exit.then])
  exact bodyPost_ret (next_res _ _ w.heap.size _ rfl HG.out rfl) rfl ⟨rfl, Flow.grow_alloc _ _⟩
end Go.Proofs.YtfkdjdmbgednkaaDoor

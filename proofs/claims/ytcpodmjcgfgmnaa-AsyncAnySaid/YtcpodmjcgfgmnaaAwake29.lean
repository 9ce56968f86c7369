/- galliardlaw29.awake returns true: run through by the kernel (by Ev alone: it is small). -/
import Derived.Test.YtcpodmjcgfgmnaaMEve
import Derived.Test.YtcpodmjcgfgmnaaProg
namespace Go.Proofs.Ytcpodmjcgfgmnaa
open Go.RowKit Ev
theorem noCount:NoCount Try.prog:=noCount_of (by kernel_rfl)
theorem mixed:Try.prog.follows .mixedOrders=true:=by kernel_rfl
set_option maxRecDepth 1000000 in
theorem awake29_run:endE (evFun Try.prog noOrc 100000 1000 7 [] ⟨[],0⟩)=some (.bool true):=by kernel_rfl
theorem awake29 (w:World):Calls Try.prog 7 #[] w fun e w'=>e=.returned (.bool true)∧Flow.Grow w w' :=
 closed_ends noCount mixed noOrc_ok noOrc_keep awake29_run (args:=[]) ⟨rfl,fun j x v h=>by simp at h⟩ w
end Go.Proofs.Ytcpodmjcgfgmnaa

/- galliardlaw31.awake returns true: run through by the kernel. -/
import Derived.Test.YtcpodmjcgfgmnaaGreatMFxc
import Derived.Test.YtcpodmjcgfgmnaaGreatMEve
import Derived.Test.YtcpodmjcgfgmnaaGreatProg
namespace Go.Proofs.YtcpodmjcgfgmnaaGreat
open Go.RowKit Ev Fx
theorem Zas:Qcx Tryz.prog:=Qtm (by kernel_rfl)
theorem mixed:Tryz.prog.follows .mixedOrders=true:=by kernel_rfl
set_option maxRecDepth 1000000 in
theorem Qq8:Qwo Tryz.prog (fun _=>none) 100000 1000 7 [] st0 endV=some (.bool true):=by kernel_rfl
theorem Qq9 (w:World):Calls Tryz.prog 7 #[] w fun e w'=>e=.returned (.bool true)∧Flow.Grow w w' :=
 Qu1 Zas mixed Qyf Qtl Zb8 Qq8 (args:=[]) ⟨rfl,fun j x v h=>by simp at h⟩ w
end Go.Proofs.YtcpodmjcgfgmnaaGreat

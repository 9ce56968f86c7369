/- tree: Parse by its contract. -/
import Derived.Test.YtdpkhmfolmcejaaMFlow
import Derived.Test.YtdpkhmfolmcejaaMScan
import Derived.Deep.AppendLies
import Derived.Deep.RegionLaw
import Derived.Recover
namespace Go.Proofs.Ytdpkhmfolmcejaa
open Go.RowKit
namespace Xm
def r0 : Rs := ⟨⟨0, 0, 0⟩, newB, 0, 0⟩
end Xm
end Go.Proofs.Ytdpkhmfolmcejaa

/- codec.Put by its contract: a number's bytes behind those of a slice that the call itself made. -/
import Derived.Test.YtepianllbfnpoaaProg
import Derived.Test.YtepianllbfnpoaaMBase
import Derived.Outline
namespace Go.Proofs.Ytepianllbfnpoaa
open Go.RowKit

theorem Fresh.mono {w w' : World} {v : Value} (h : Fresh w' v) (hs : w.heap.size ≤ w'.heap.size) : Fresh w v := by
  obtain ⟨g, h1, h2⟩ := h
  exact ⟨g, h1, Nat.le_trans hs h2⟩

end Go.Proofs.Ytepianllbfnpoaa

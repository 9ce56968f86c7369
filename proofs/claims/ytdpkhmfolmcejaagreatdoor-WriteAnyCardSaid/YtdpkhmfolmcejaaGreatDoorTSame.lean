/- tree.Same by its contract: elements that are alike. -/
import Derived.Test.YtdpkhmfolmcejaaGreatDoorMDo
import Derived.Deep.DeepCutAuto
namespace Go.Proofs.YtdpkhmfolmcejaaGreatDoor
open Go.RowKit
namespace Xm
/-- a slice of elements, where they lie -/
structure KidsAt (w : World) (kv : Value) (ks : List Nod) (L : Nat) (vs : List V5) (g off : Nat) (F : Nat → Prop) : Prop where
  len : L = ks.length
  k : (ks = [] ∧ ∃ a c, kv = .slice a 0 c) ∨ ∃ cap, kv = .slice (some ⟨g, off, none⟩) L cap ∧ L ≤ cap ∧ cap ≤ maxLen ∧ g < w.heap.size
  l : vs.length = ks.length
  c : ks ≠ [] → ∀ j u, (flat vs)[j]? = some u → w.cell? ⟨g, off + j, none⟩ = some u
  n : ∀ (j : Nat) (y : Nod) (v : V5), ks[j]? = some y → vs[j]? = some v → NodAt F w (V5.agg v) y
theorem KidsAt.grow {w w' : World} {kv : Value} {ks : List Nod} {L : Nat} {vs : List V5} {g off : Nat} {F : Nat → Prop} (h : KidsAt w kv ks L vs g off F) (gr : Flow.Grow w w') : KidsAt w' kv ks L vs g off (fun _ => True) := by
  refine ⟨h.len, ?_, h.l, fun hne j u hu => ?_, fun j y v h1 h2 => (h.n j y v h1 h2).grow gr⟩
  · rcases h.k with h | ⟨c, h1, h2, h3, h4⟩
    · exact .inl h
    · exact .inr ⟨c, h1, h2, h3, Nat.lt_of_lt_of_le h4 gr.size⟩
  · rcases h.k with h | ⟨c, h1, h2, h3, h4⟩
    · exact absurd h.1 hne
    · exact (cell_grow gr h4).trans (h.c hne j u hu)
end Xm
end Go.Proofs.YtdpkhmfolmcejaaGreatDoor

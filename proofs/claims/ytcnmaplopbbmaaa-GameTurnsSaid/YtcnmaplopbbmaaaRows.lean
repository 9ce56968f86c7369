/-
  No cell of these rows narrows 'for every input' (looked for: loops, veiled, ifaces, maps, wideKeys, modest, calm, conditions, laid).
  DERIVED. THE GIVEN ROWS OF THIS SEAT. 3 by the template 'for every input the law returns true; each argument reads behind the call as it read before'; 0 by the template 'total and deterministic' (their statements: YtcnmaplopbbmaaaTotals.lean).
  GIVEN WITH THE SEED: the statements are not yours to turn. If you find one false, say at which input.
  Laid BY PROGRAM, IN A SANDBOX (cutbox-rows.mjs): the forced cells as the released guide's own fill.sh prints them over the translation 7dc2986e506b3fb9… (all of the seat's roots in one cut). By AI agents, Wed Nov 11 2026. No macro, syntax, notation, axiom, sorry.
-/
import Derived.Test.YtcnmaplopbbmaaaChecked
import GoSem.Claim
import GoSem.ClaimJoined
import GoSem.ClaimMapViews
import Derived.JoinedTies
import Derived.KernelRfl
namespace Go.Proofs.Ytcnmaplopbbmaaa
/- THE CELL 'sum', in the pinned program and in every row, IS THE sha256 OF THE DUMP (.gsa) THAT YtcnmaplopbbmaaaProg.lean LOADS. Nothing in Lean hashes anything: it is a label: what it is worth is what the hold of that sum in a sandbox is worth. -/
noncomputable def Try.pinned : Pinned := { name := "ytcnmaplopbbmaaa", sum := "7dc2986e506b3fb9eff7e5db0f3cbff414a58a79936e84d7f371566befe7ebf8", checked := Try.checked }
namespace Rows
def none {H : Type} : Left H := { results := [], args := [] }

/-- 'galliardlaw16.GameAny': WHATEVER THE INPUT: true; the input reads as it did. -/
def gameAnySpec : ChangeSpec := { name := "gameAny", fn := fun _ => fun
  | [d1, d2] => { results := [.lit (.bool true)], args := [d1, d2] }
  | _ => none }
def gameAnyRow : OpenClaim := { program := "ytcnmaplopbbmaaa", sum := "7dc2986e506b3fb9eff7e5db0f3cbff414a58a79936e84d7f371566befe7ebf8", func := "galliard/galliardlaw16.GameAny", spec := "gameAny", unfollowed := true, recurses := true, apart := false }
def GameAnySaid : Prop := gameAnyRow.holds Try.pinned (OpenSpec.ofChange gameAnySpec)

/-- ITS FALSE NEIGHBOUR: 'it returns false'. Refute it at one input. -/
def gameAnyWrong : ChangeSpec := { name := "gameAny", fn := fun _ => fun
  | [d1, d2] => { results := [.lit (.bool false)], args := [d1, d2] }
  | _ => none }
def GameAnyWrongFalsely : Prop := gameAnyRow.holds Try.pinned (OpenSpec.ofChange gameAnyWrong)

/-- 'galliardlaw17.ReachAny': WHATEVER THE INPUT: true; the input reads as it did. -/
def reachAnySpec : ChangeSpec := { name := "reachAny", fn := fun _ => fun
  | [d1, d2] => { results := [.lit (.bool true)], args := [d1, d2] }
  | _ => none }
def reachAnyRow : OpenClaim := { program := "ytcnmaplopbbmaaa", sum := "7dc2986e506b3fb9eff7e5db0f3cbff414a58a79936e84d7f371566befe7ebf8", func := "galliard/galliardlaw17.ReachAny", spec := "reachAny", unfollowed := true, recurses := true, apart := false }
def ReachAnySaid : Prop := reachAnyRow.holds Try.pinned (OpenSpec.ofChange reachAnySpec)

/-- ITS FALSE NEIGHBOUR: 'it returns false'. Refute it at one input. -/
def reachAnyWrong : ChangeSpec := { name := "reachAny", fn := fun _ => fun
  | [d1, d2] => { results := [.lit (.bool false)], args := [d1, d2] }
  | _ => none }
def ReachAnyWrongFalsely : Prop := reachAnyRow.holds Try.pinned (OpenSpec.ofChange reachAnyWrong)

/-- 'galliardlaw16.GameTurns': WHATEVER THE INPUT: true; the input reads as it did. -/
def gameTurnsSpec : ChangeSpec := { name := "gameTurns", fn := fun _ => fun
  | [d] => { results := [.lit (.bool true)], args := [d] }
  | _ => none }
def gameTurnsRow : OpenClaim := { program := "ytcnmaplopbbmaaa", sum := "7dc2986e506b3fb9eff7e5db0f3cbff414a58a79936e84d7f371566befe7ebf8", func := "galliard/galliardlaw16.GameTurns", spec := "gameTurns", unfollowed := true, recurses := true, apart := false }
def GameTurnsSaid : Prop := gameTurnsRow.holds Try.pinned (OpenSpec.ofChange gameTurnsSpec)

/-- ITS FALSE NEIGHBOUR: 'it returns false'. Refute it at one input. -/
def gameTurnsWrong : ChangeSpec := { name := "gameTurns", fn := fun _ => fun
  | [d] => { results := [.lit (.bool false)], args := [d] }
  | _ => none }
def GameTurnsWrongFalsely : Prop := gameTurnsRow.holds Try.pinned (OpenSpec.ofChange gameTurnsWrong)

/- THE SECOND FORM. 'bulk': how many values and letters a reading holds, each counted each time it is reached (what is shared counts as often as it is met; a slice's spare places count too). A statement '..UptoSaid' is the law's where the arguments, and the package variables that the reading takes, are together of bulk at most 1048576: NARROWER than '..Said'. Prove '..Said' where nothing that the law and all that it calls make is longer than what came in: it says more and counts as full. Else prove '..UptoSaid'. A law counts once. -/
mutual
def uptoBulk {H : Type} : DataW H → Nat
  | .lit (.string bytes) => bytes.length + 1
  | .lit _ => 1
  | .nil => 1
  | .ptr d => uptoBulk d + 1
  | .slice elems spare => uptoBulkAll elems + uptoBulkAll spare + 1
  | .agg parts => uptoBulkAll parts + 1
  | .iface _ d => uptoBulk d + 1
  | .map entries => uptoBulkEntries entries + 1
  | .held _ => 1
def uptoBulkAll {H : Type} : List (DataW H) → Nat
  | [] => 0
  | d :: r => uptoBulk d + uptoBulkAll r
def uptoBulkEntries {H : Type} : List (Lit × DataW H) → Nat
  | [] => 0
  | x :: r => uptoBulkEntry x + uptoBulkEntries r
def uptoBulkEntry {H : Type} : Lit × DataW H → Nat
  | (.string bytes, d) => bytes.length + uptoBulk d + 1
  | (_, d) => uptoBulk d + 1
 end
def uptoSmall : (H : Type) → List (DataW H) → Bool := fun _ ds => decide (uptoBulkAll ds ≤ 1048576)
def OpenSpec.upto (s : _root_.Go.ChangeSpec) : _root_.Go.OpenSpec := { _root_.Go.OpenSpec.ofChange s with cond := some uptoSmall }

/-- 'galliardlaw16.GameAny', WHERE WHAT IT READS IS OF BULK AT MOST 1048576: true; the input reads as it did. -/
def gameAnyUptoRow : OpenClaim := { program := "ytcnmaplopbbmaaa", sum := "7dc2986e506b3fb9eff7e5db0f3cbff414a58a79936e84d7f371566befe7ebf8", func := "galliard/galliardlaw16.GameAny", spec := "gameAny", unfollowed := true, recurses := true, apart := false, narrowed := true }
def GameAnyUptoSaid : Prop := gameAnyUptoRow.holds Try.pinned (OpenSpec.upto gameAnySpec)

/-- 'galliardlaw17.ReachAny', WHERE WHAT IT READS IS OF BULK AT MOST 1048576: true; the input reads as it did. -/
def reachAnyUptoRow : OpenClaim := { program := "ytcnmaplopbbmaaa", sum := "7dc2986e506b3fb9eff7e5db0f3cbff414a58a79936e84d7f371566befe7ebf8", func := "galliard/galliardlaw17.ReachAny", spec := "reachAny", unfollowed := true, recurses := true, apart := false, narrowed := true }
def ReachAnyUptoSaid : Prop := reachAnyUptoRow.holds Try.pinned (OpenSpec.upto reachAnySpec)

/-- 'galliardlaw16.GameTurns', WHERE WHAT IT READS IS OF BULK AT MOST 1048576: true; the input reads as it did. -/
def gameTurnsUptoRow : OpenClaim := { program := "ytcnmaplopbbmaaa", sum := "7dc2986e506b3fb9eff7e5db0f3cbff414a58a79936e84d7f371566befe7ebf8", func := "galliard/galliardlaw16.GameTurns", spec := "gameTurns", unfollowed := true, recurses := true, apart := false, narrowed := true }
def GameTurnsUptoSaid : Prop := gameTurnsUptoRow.holds Try.pinned (OpenSpec.upto gameTurnsSpec)

end Rows
end Go.Proofs.Ytcnmaplopbbmaaa

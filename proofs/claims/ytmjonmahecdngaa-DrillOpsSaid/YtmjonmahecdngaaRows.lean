/-
  No cell of these rows narrows 'for every input' (looked for: loops, veiled, ifaces, maps, wideKeys, modest, calm, conditions, laid).
  DERIVED. THE GIVEN ROWS OF THIS SEAT. 4 by the template 'for every input the law returns true; each argument reads behind the call as it read before'; 0 by the template 'total and deterministic' (their statements: YtmjonmahecdngaaTotals.lean).
  GIVEN WITH THE SEED: the statements are not yours to turn. If you find one false, say at which input.
  Laid BY PROGRAM, IN A SANDBOX (cutbox-rows.mjs): the forced cells as the released guide's own fill.sh prints them over the translation 267ecf1db49a6ef5… (all of the seat's roots in one cut). By AI agents, Wed Nov 11 2026. No macro, syntax, notation, axiom, sorry.
-/
import Derived.Test.YtmjonmahecdngaaChecked
import GoSem.Claim
import GoSem.ClaimJoined
import GoSem.ClaimMapViews
import Derived.JoinedTies
import Derived.KernelRfl
namespace Go.Proofs.Ytmjonmahecdngaa
/- THE CELL 'sum', in the pinned program and in every row, IS THE sha256 OF THE DUMP (.gsa) THAT YtmjonmahecdngaaProg.lean LOADS. Nothing in Lean hashes anything: it is a label: what it is worth is what the hold of that sum in a sandbox is worth. -/
noncomputable def Try.pinned : Pinned := { name := "ytmjonmahecdngaa", sum := "267ecf1db49a6ef56ecf9090cdb86621612b73ed178e763ec4a533a6b32d0285", checked := Try.checked }
namespace Rows
def none {H : Type} : Left H := { results := [], args := [] }

/-- 'galliardlaw49.DrillOps': WHATEVER THE INPUT: true; the input reads as it did. -/
def drillOpsSpec : ChangeSpec := { name := "drillOps", fn := fun _ => fun
  | [d1, d2, d3] => { results := [.lit (.bool true)], args := [d1, d2, d3] }
  | _ => none }
def drillOpsRow : OpenClaim := { program := "ytmjonmahecdngaa", sum := "267ecf1db49a6ef56ecf9090cdb86621612b73ed178e763ec4a533a6b32d0285", func := "galliard/galliardlaw49.DrillOps", spec := "drillOps", unfollowed := true, recurses := true, apart := false }
def DrillOpsSaid : Prop := drillOpsRow.holds Try.pinned (OpenSpec.ofChange drillOpsSpec)

/-- ITS FALSE NEIGHBOUR: 'it returns false'. Refute it at one input. -/
def drillOpsWrong : ChangeSpec := { name := "drillOps", fn := fun _ => fun
  | [d1, d2, d3] => { results := [.lit (.bool false)], args := [d1, d2, d3] }
  | _ => none }
def DrillOpsWrongFalsely : Prop := drillOpsRow.holds Try.pinned (OpenSpec.ofChange drillOpsWrong)

/-- 'galliardlaw41.ActMany': WHATEVER THE INPUT: true; the input reads as it did. -/
def actManySpec : ChangeSpec := { name := "actMany", fn := fun _ => fun
  | [d1, d2] => { results := [.lit (.bool true)], args := [d1, d2] }
  | _ => none }
def actManyRow : OpenClaim := { program := "ytmjonmahecdngaa", sum := "267ecf1db49a6ef56ecf9090cdb86621612b73ed178e763ec4a533a6b32d0285", func := "galliard/galliardlaw41.ActMany", spec := "actMany", unfollowed := true, recurses := true, apart := false }
def ActManySaid : Prop := actManyRow.holds Try.pinned (OpenSpec.ofChange actManySpec)

/-- ITS FALSE NEIGHBOUR: 'it returns false'. Refute it at one input. -/
def actManyWrong : ChangeSpec := { name := "actMany", fn := fun _ => fun
  | [d1, d2] => { results := [.lit (.bool false)], args := [d1, d2] }
  | _ => none }
def ActManyWrongFalsely : Prop := actManyRow.holds Try.pinned (OpenSpec.ofChange actManyWrong)

/-- 'galliardlaw42.FallEvery': WHATEVER THE INPUT: true; the input reads as it did. -/
def fallEverySpec : ChangeSpec := { name := "fallEvery", fn := fun _ => fun
  | [d] => { results := [.lit (.bool true)], args := [d] }
  | _ => none }
def fallEveryRow : OpenClaim := { program := "ytmjonmahecdngaa", sum := "267ecf1db49a6ef56ecf9090cdb86621612b73ed178e763ec4a533a6b32d0285", func := "galliard/galliardlaw42.FallEvery", spec := "fallEvery", unfollowed := true, recurses := true, apart := false }
def FallEverySaid : Prop := fallEveryRow.holds Try.pinned (OpenSpec.ofChange fallEverySpec)

/-- ITS FALSE NEIGHBOUR: 'it returns false'. Refute it at one input. -/
def fallEveryWrong : ChangeSpec := { name := "fallEvery", fn := fun _ => fun
  | [d] => { results := [.lit (.bool false)], args := [d] }
  | _ => none }
def FallEveryWrongFalsely : Prop := fallEveryRow.holds Try.pinned (OpenSpec.ofChange fallEveryWrong)

/-- 'galliardlaw42.FallCuts': WHATEVER THE INPUT: true; the input reads as it did. -/
def fallCutsSpec : ChangeSpec := { name := "fallCuts", fn := fun _ => fun
  | [d1, d2] => { results := [.lit (.bool true)], args := [d1, d2] }
  | _ => none }
def fallCutsRow : OpenClaim := { program := "ytmjonmahecdngaa", sum := "267ecf1db49a6ef56ecf9090cdb86621612b73ed178e763ec4a533a6b32d0285", func := "galliard/galliardlaw42.FallCuts", spec := "fallCuts", unfollowed := true, recurses := true, apart := false }
def FallCutsSaid : Prop := fallCutsRow.holds Try.pinned (OpenSpec.ofChange fallCutsSpec)

/-- ITS FALSE NEIGHBOUR: 'it returns false'. Refute it at one input. -/
def fallCutsWrong : ChangeSpec := { name := "fallCuts", fn := fun _ => fun
  | [d1, d2] => { results := [.lit (.bool false)], args := [d1, d2] }
  | _ => none }
def FallCutsWrongFalsely : Prop := fallCutsRow.holds Try.pinned (OpenSpec.ofChange fallCutsWrong)

/- THE SECOND FORM. 'bulk': how many values and letters a reading holds, each counted each time it is reached (what is shared counts as often as it is met; a slice's spare places count too). A statement '..UptoSaid' is the law's where the arguments, and the package variables that the reading takes, are together of bulk at most 1048576: NARROWER than '..Said'. Prove '..Said' where nothing that the law and all that it calls make is longer than what came in: it says more and counts as full. Else prove '..UptoSaid'. A law counts once. -/
mutual
def uptoBulk {H : Type} : DataW H → Nat
  | .lit (.string bytes) => bytes.length + 1
  | .lit _ => 1
  | .nil => 1
  | .ptr d => uptoBulk d + 1
  | .slice elems spare => uptoBulkAll elems + uptoBulkAll spare + 1
  | .agg parts => uptoBulkAll parts + 1
  | .iface _ d => uptoBulk d + 1
  | .map entries => uptoBulkEntries entries + 1
  | .held _ => 1
def uptoBulkAll {H : Type} : List (DataW H) → Nat
  | [] => 0
  | d :: r => uptoBulk d + uptoBulkAll r
def uptoBulkEntries {H : Type} : List (Lit × DataW H) → Nat
  | [] => 0
  | x :: r => uptoBulkEntry x + uptoBulkEntries r
def uptoBulkEntry {H : Type} : Lit × DataW H → Nat
  | (.string bytes, d) => bytes.length + uptoBulk d + 1
  | (_, d) => uptoBulk d + 1
 end
def uptoSmall : (H : Type) → List (DataW H) → Bool := fun _ ds => decide (uptoBulkAll ds ≤ 1048576)
def OpenSpec.upto (s : _root_.Go.ChangeSpec) : _root_.Go.OpenSpec := { _root_.Go.OpenSpec.ofChange s with cond := some uptoSmall }

/-- 'galliardlaw49.DrillOps', WHERE WHAT IT READS IS OF BULK AT MOST 1048576: true; the input reads as it did. -/
def drillOpsUptoRow : OpenClaim := { program := "ytmjonmahecdngaa", sum := "267ecf1db49a6ef56ecf9090cdb86621612b73ed178e763ec4a533a6b32d0285", func := "galliard/galliardlaw49.DrillOps", spec := "drillOps", unfollowed := true, recurses := true, apart := false, narrowed := true }
def DrillOpsUptoSaid : Prop := drillOpsUptoRow.holds Try.pinned (OpenSpec.upto drillOpsSpec)

/-- 'galliardlaw41.ActMany', WHERE WHAT IT READS IS OF BULK AT MOST 1048576: true; the input reads as it did. -/
def actManyUptoRow : OpenClaim := { program := "ytmjonmahecdngaa", sum := "267ecf1db49a6ef56ecf9090cdb86621612b73ed178e763ec4a533a6b32d0285", func := "galliard/galliardlaw41.ActMany", spec := "actMany", unfollowed := true, recurses := true, apart := false, narrowed := true }
def ActManyUptoSaid : Prop := actManyUptoRow.holds Try.pinned (OpenSpec.upto actManySpec)

/-- 'galliardlaw42.FallEvery', WHERE WHAT IT READS IS OF BULK AT MOST 1048576: true; the input reads as it did. -/
def fallEveryUptoRow : OpenClaim := { program := "ytmjonmahecdngaa", sum := "267ecf1db49a6ef56ecf9090cdb86621612b73ed178e763ec4a533a6b32d0285", func := "galliard/galliardlaw42.FallEvery", spec := "fallEvery", unfollowed := true, recurses := true, apart := false, narrowed := true }
def FallEveryUptoSaid : Prop := fallEveryUptoRow.holds Try.pinned (OpenSpec.upto fallEverySpec)

/-- 'galliardlaw42.FallCuts', WHERE WHAT IT READS IS OF BULK AT MOST 1048576: true; the input reads as it did. -/
def fallCutsUptoRow : OpenClaim := { program := "ytmjonmahecdngaa", sum := "267ecf1db49a6ef56ecf9090cdb86621612b73ed178e763ec4a533a6b32d0285", func := "galliard/galliardlaw42.FallCuts", spec := "fallCuts", unfollowed := true, recurses := true, apart := false, narrowed := true }
def FallCutsUptoSaid : Prop := fallCutsUptoRow.holds Try.pinned (OpenSpec.upto fallCutsSpec)

end Rows
end Go.Proofs.Ytmjonmahecdngaa

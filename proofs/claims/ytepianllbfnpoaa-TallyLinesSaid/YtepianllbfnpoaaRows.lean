/-
  No cell of these rows narrows 'for every input' (looked for: loops, veiled, ifaces, maps, wideKeys, modest, calm, conditions, laid).
  DERIVED. THE GIVEN ROWS OF THIS SEAT. 5 by the template 'for every input the law returns true; each argument reads behind the call as it read before'; 0 by the template 'total and deterministic' (their statements: YtepianllbfnpoaaTotals.lean).
  GIVEN WITH THE SEED: the statements are not yours to turn. If you find one false, say at which input.
  Laid BY PROGRAM, IN A SANDBOX (cutbox-rows.mjs): the forced cells as the released guide's own fill.sh prints them over the translation 5d10a57651655e03… (all of the seat's roots in one cut). By AI agents, Wed Nov 11 2026. No macro, syntax, notation, axiom, sorry.
-/
import Derived.Test.YtepianllbfnpoaaChecked
import GoSem.Claim
import GoSem.ClaimJoined
import GoSem.ClaimMapViews
import Derived.JoinedTies
import Derived.KernelRfl
namespace Go.Proofs.Ytepianllbfnpoaa
/- THE CELL 'sum', in the pinned program and in every row, IS THE sha256 OF THE DUMP (.gsa) THAT YtepianllbfnpoaaProg.lean LOADS. Nothing in Lean hashes anything: it is a label: what it is worth is what the hold of that sum in a sandbox is worth. -/
noncomputable def Try.pinned : Pinned := { name := "ytepianllbfnpoaa", sum := "5d10a57651655e032a5bf227877112d74abd36f0d56fb56c70a6f499b206c44d", checked := Try.checked }
namespace Rows
def none {H : Type} : Left H := { results := [], args := [] }

/-- 'galliardlaw50.TallyLines': WHATEVER THE INPUT: true; the input reads as it did. -/
def tallyLinesSpec : ChangeSpec := { name := "tallyLines", fn := fun _ => fun
  | [d1, d2, d3] => { results := [.lit (.bool true)], args := [d1, d2, d3] }
  | _ => none }
def tallyLinesRow : OpenClaim := { program := "ytepianllbfnpoaa", sum := "5d10a57651655e032a5bf227877112d74abd36f0d56fb56c70a6f499b206c44d", func := "galliard/galliardlaw50.TallyLines", spec := "tallyLines", inPlace := ["internal/abi.NoEscape"], unfollowed := true, recurses := true, apart := false }
def TallyLinesSaid : Prop := tallyLinesRow.holds Try.pinned (OpenSpec.ofChange tallyLinesSpec)

/-- ITS FALSE NEIGHBOUR: 'it returns false'. Refute it at one input. -/
def tallyLinesWrong : ChangeSpec := { name := "tallyLines", fn := fun _ => fun
  | [d1, d2, d3] => { results := [.lit (.bool false)], args := [d1, d2, d3] }
  | _ => none }
def TallyLinesWrongFalsely : Prop := tallyLinesRow.holds Try.pinned (OpenSpec.ofChange tallyLinesWrong)

/-- 'galliardlaw41.ActMany': WHATEVER THE INPUT: true; the input reads as it did. -/
def actManySpec : ChangeSpec := { name := "actMany", fn := fun _ => fun
  | [d1, d2] => { results := [.lit (.bool true)], args := [d1, d2] }
  | _ => none }
def actManyRow : OpenClaim := { program := "ytepianllbfnpoaa", sum := "5d10a57651655e032a5bf227877112d74abd36f0d56fb56c70a6f499b206c44d", func := "galliard/galliardlaw41.ActMany", spec := "actMany", unfollowed := true, recurses := true, apart := false }
def ActManySaid : Prop := actManyRow.holds Try.pinned (OpenSpec.ofChange actManySpec)

/-- ITS FALSE NEIGHBOUR: 'it returns false'. Refute it at one input. -/
def actManyWrong : ChangeSpec := { name := "actMany", fn := fun _ => fun
  | [d1, d2] => { results := [.lit (.bool false)], args := [d1, d2] }
  | _ => none }
def ActManyWrongFalsely : Prop := actManyRow.holds Try.pinned (OpenSpec.ofChange actManyWrong)

/-- 'galliardlaw42.FallEvery': WHATEVER THE INPUT: true; the input reads as it did. -/
def fallEverySpec : ChangeSpec := { name := "fallEvery", fn := fun _ => fun
  | [d] => { results := [.lit (.bool true)], args := [d] }
  | _ => none }
def fallEveryRow : OpenClaim := { program := "ytepianllbfnpoaa", sum := "5d10a57651655e032a5bf227877112d74abd36f0d56fb56c70a6f499b206c44d", func := "galliard/galliardlaw42.FallEvery", spec := "fallEvery", unfollowed := true, recurses := true, apart := false }
def FallEverySaid : Prop := fallEveryRow.holds Try.pinned (OpenSpec.ofChange fallEverySpec)

/-- ITS FALSE NEIGHBOUR: 'it returns false'. Refute it at one input. -/
def fallEveryWrong : ChangeSpec := { name := "fallEvery", fn := fun _ => fun
  | [d] => { results := [.lit (.bool false)], args := [d] }
  | _ => none }
def FallEveryWrongFalsely : Prop := fallEveryRow.holds Try.pinned (OpenSpec.ofChange fallEveryWrong)

/-- 'galliardlaw29.AsyncAny': WHATEVER THE INPUT: true; the input reads as it did. -/
def asyncAnySpec : ChangeSpec := { name := "asyncAny", fn := fun _ => fun
  | [d1, d2, d3] => { results := [.lit (.bool true)], args := [d1, d2, d3] }
  | _ => none }
def asyncAnyRow : OpenClaim := { program := "ytepianllbfnpoaa", sum := "5d10a57651655e032a5bf227877112d74abd36f0d56fb56c70a6f499b206c44d", func := "galliard/galliardlaw29.AsyncAny", spec := "asyncAny", unfollowed := true, recurses := true, apart := false }
def AsyncAnySaid : Prop := asyncAnyRow.holds Try.pinned (OpenSpec.ofChange asyncAnySpec)

/-- ITS FALSE NEIGHBOUR: 'it returns false'. Refute it at one input. -/
def asyncAnyWrong : ChangeSpec := { name := "asyncAny", fn := fun _ => fun
  | [d1, d2, d3] => { results := [.lit (.bool false)], args := [d1, d2, d3] }
  | _ => none }
def AsyncAnyWrongFalsely : Prop := asyncAnyRow.holds Try.pinned (OpenSpec.ofChange asyncAnyWrong)

/-- 'galliardlaw29.AsyncSteps': WHATEVER THE INPUT: true; the input reads as it did. -/
def asyncStepsSpec : ChangeSpec := { name := "asyncSteps", fn := fun _ => fun
  | [d1, d2, d3] => { results := [.lit (.bool true)], args := [d1, d2, d3] }
  | _ => none }
def asyncStepsRow : OpenClaim := { program := "ytepianllbfnpoaa", sum := "5d10a57651655e032a5bf227877112d74abd36f0d56fb56c70a6f499b206c44d", func := "galliard/galliardlaw29.AsyncSteps", spec := "asyncSteps", unfollowed := true, recurses := true, apart := false }
def AsyncStepsSaid : Prop := asyncStepsRow.holds Try.pinned (OpenSpec.ofChange asyncStepsSpec)

/-- ITS FALSE NEIGHBOUR: 'it returns false'. Refute it at one input. -/
def asyncStepsWrong : ChangeSpec := { name := "asyncSteps", fn := fun _ => fun
  | [d1, d2, d3] => { results := [.lit (.bool false)], args := [d1, d2, d3] }
  | _ => none }
def AsyncStepsWrongFalsely : Prop := asyncStepsRow.holds Try.pinned (OpenSpec.ofChange asyncStepsWrong)

/- THE SECOND FORM. 'bulk': how many values and letters a reading holds, each counted each time it is reached (what is shared counts as often as it is met; a slice's spare places count too). A statement '..UptoSaid' is the law's where the arguments, and the package variables that the reading takes, are together of bulk at most 1048576: NARROWER than '..Said'. Prove '..Said' where nothing that the law and all that it calls make is longer than what came in: it says more and counts as full. Else prove '..UptoSaid'. A law counts once. -/
mutual
def uptoBulk {H : Type} : DataW H → Nat
  | .lit (.string bytes) => bytes.length + 1
  | .lit _ => 1
  | .nil => 1
  | .ptr d => uptoBulk d + 1
  | .slice elems spare => uptoBulkAll elems + uptoBulkAll spare + 1
  | .agg parts => uptoBulkAll parts + 1
  | .iface _ d => uptoBulk d + 1
  | .map entries => uptoBulkEntries entries + 1
  | .held _ => 1
def uptoBulkAll {H : Type} : List (DataW H) → Nat
  | [] => 0
  | d :: r => uptoBulk d + uptoBulkAll r
def uptoBulkEntries {H : Type} : List (Lit × DataW H) → Nat
  | [] => 0
  | x :: r => uptoBulkEntry x + uptoBulkEntries r
def uptoBulkEntry {H : Type} : Lit × DataW H → Nat
  | (.string bytes, d) => bytes.length + uptoBulk d + 1
  | (_, d) => uptoBulk d + 1
 end
def uptoSmall : (H : Type) → List (DataW H) → Bool := fun _ ds => decide (uptoBulkAll ds ≤ 1048576)
def OpenSpec.upto (s : _root_.Go.ChangeSpec) : _root_.Go.OpenSpec := { _root_.Go.OpenSpec.ofChange s with cond := some uptoSmall }

/-- 'galliardlaw50.TallyLines', WHERE WHAT IT READS IS OF BULK AT MOST 1048576: true; the input reads as it did. -/
def tallyLinesUptoRow : OpenClaim := { program := "ytepianllbfnpoaa", sum := "5d10a57651655e032a5bf227877112d74abd36f0d56fb56c70a6f499b206c44d", func := "galliard/galliardlaw50.TallyLines", spec := "tallyLines", inPlace := ["internal/abi.NoEscape"], unfollowed := true, recurses := true, apart := false, narrowed := true }
def TallyLinesUptoSaid : Prop := tallyLinesUptoRow.holds Try.pinned (OpenSpec.upto tallyLinesSpec)

/-- 'galliardlaw41.ActMany', WHERE WHAT IT READS IS OF BULK AT MOST 1048576: true; the input reads as it did. -/
def actManyUptoRow : OpenClaim := { program := "ytepianllbfnpoaa", sum := "5d10a57651655e032a5bf227877112d74abd36f0d56fb56c70a6f499b206c44d", func := "galliard/galliardlaw41.ActMany", spec := "actMany", unfollowed := true, recurses := true, apart := false, narrowed := true }
def ActManyUptoSaid : Prop := actManyUptoRow.holds Try.pinned (OpenSpec.upto actManySpec)

/-- 'galliardlaw42.FallEvery', WHERE WHAT IT READS IS OF BULK AT MOST 1048576: true; the input reads as it did. -/
def fallEveryUptoRow : OpenClaim := { program := "ytepianllbfnpoaa", sum := "5d10a57651655e032a5bf227877112d74abd36f0d56fb56c70a6f499b206c44d", func := "galliard/galliardlaw42.FallEvery", spec := "fallEvery", unfollowed := true, recurses := true, apart := false, narrowed := true }
def FallEveryUptoSaid : Prop := fallEveryUptoRow.holds Try.pinned (OpenSpec.upto fallEverySpec)

/-- 'galliardlaw29.AsyncAny', WHERE WHAT IT READS IS OF BULK AT MOST 1048576: true; the input reads as it did. -/
def asyncAnyUptoRow : OpenClaim := { program := "ytepianllbfnpoaa", sum := "5d10a57651655e032a5bf227877112d74abd36f0d56fb56c70a6f499b206c44d", func := "galliard/galliardlaw29.AsyncAny", spec := "asyncAny", unfollowed := true, recurses := true, apart := false, narrowed := true }
def AsyncAnyUptoSaid : Prop := asyncAnyUptoRow.holds Try.pinned (OpenSpec.upto asyncAnySpec)

/-- 'galliardlaw29.AsyncSteps', WHERE WHAT IT READS IS OF BULK AT MOST 1048576: true; the input reads as it did. -/
def asyncStepsUptoRow : OpenClaim := { program := "ytepianllbfnpoaa", sum := "5d10a57651655e032a5bf227877112d74abd36f0d56fb56c70a6f499b206c44d", func := "galliard/galliardlaw29.AsyncSteps", spec := "asyncSteps", unfollowed := true, recurses := true, apart := false, narrowed := true }
def AsyncStepsUptoSaid : Prop := asyncStepsUptoRow.holds Try.pinned (OpenSpec.upto asyncStepsSpec)

end Rows
end Go.Proofs.Ytepianllbfnpoaa

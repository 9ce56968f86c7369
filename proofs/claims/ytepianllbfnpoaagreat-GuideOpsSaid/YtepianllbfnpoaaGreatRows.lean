/-
  No cell of these rows narrows 'for every input' (looked for: loops, veiled, ifaces, maps, wideKeys, modest, calm, conditions, laid).
  DERIVED. THE GIVEN ROWS OF THIS SEAT. 7 by the template 'for every input the law returns true; each argument reads behind the call as it read before'; 0 by the template 'total and deterministic' (their statements: YtepianllbfnpoaaGreatTotals.lean).
  GIVEN WITH THE SEED: the statements are not yours to turn. If you find one false, say at which input.
  Laid BY PROGRAM, IN A SANDBOX (cutbox-rows.mjs): the forced cells as the released guide's own fill.sh prints them over the translation b60eebd2f930caf1… (all of the seat's roots in one cut). By AI agents, Wed Nov 11 2026. No macro, syntax, notation, axiom, sorry.
-/
import Derived.Test.YtepianllbfnpoaaGreatChecked
import GoSem.Claim
import GoSem.ClaimJoined
import GoSem.ClaimMapViews
import Derived.JoinedTies
import Derived.KernelRfl
namespace Go.Proofs.YtepianllbfnpoaaGreat
/- THE CELL 'sum', in the pinned program and in every row, IS THE sha256 OF THE DUMP (.gsa) THAT YtepianllbfnpoaaGreatProg.lean LOADS. Nothing in Lean hashes anything: it is a label: what it is worth is what the hold of that sum in a sandbox is worth. -/
noncomputable def Tryz.pinned : Pinned := { name := "ytepianllbfnpoaagreat", sum := "b60eebd2f930caf13378043d57d0ada8eb3eed12a9fa774b1848eda35a970be1", checked := Tryz.checked }
namespace Rows
def none {H : Type} : Left H := { results := [], args := [] }

/-- 'galliardlaw31.VerdictAny': WHATEVER THE INPUT: true; the input reads as it did. -/
def verdictAnySpec : ChangeSpec := { name := "verdictAny", fn := fun _ => fun
  | [d1, d2, d3] => { results := [.lit (.bool true)], args := [d1, d2, d3] }
  | _ => none }
def verdictAnyRow : OpenClaim := { program := "ytepianllbfnpoaagreat", sum := "b60eebd2f930caf13378043d57d0ada8eb3eed12a9fa774b1848eda35a970be1", func := "galliard/galliardlaw31.VerdictAny", spec := "verdictAny", unfollowed := true, recurses := true, plainKeys := false, apart := false }
def VerdictAnySaid : Prop := verdictAnyRow.holds Tryz.pinned (OpenSpec.ofChange verdictAnySpec)

/-- ITS FALSE NEIGHBOUR: 'it returns false'. Refute it at one input. -/
def verdictAnyWrong : ChangeSpec := { name := "verdictAny", fn := fun _ => fun
  | [d1, d2, d3] => { results := [.lit (.bool false)], args := [d1, d2, d3] }
  | _ => none }
def VerdictAnyWrongFalsely : Prop := verdictAnyRow.holds Tryz.pinned (OpenSpec.ofChange verdictAnyWrong)

/-- 'galliardlaw31.VerdictPath': WHATEVER THE INPUT: true; the input reads as it did. -/
def verdictPathSpec : ChangeSpec := { name := "verdictPath", fn := fun _ => fun
  | [d1, d2] => { results := [.lit (.bool true)], args := [d1, d2] }
  | _ => none }
def verdictPathRow : OpenClaim := { program := "ytepianllbfnpoaagreat", sum := "b60eebd2f930caf13378043d57d0ada8eb3eed12a9fa774b1848eda35a970be1", func := "galliard/galliardlaw31.VerdictPath", spec := "verdictPath", unfollowed := true, recurses := true, plainKeys := false, apart := false }
def VerdictPathSaid : Prop := verdictPathRow.holds Tryz.pinned (OpenSpec.ofChange verdictPathSpec)

/-- ITS FALSE NEIGHBOUR: 'it returns false'. Refute it at one input. -/
def verdictPathWrong : ChangeSpec := { name := "verdictPath", fn := fun _ => fun
  | [d1, d2] => { results := [.lit (.bool false)], args := [d1, d2] }
  | _ => none }
def VerdictPathWrongFalsely : Prop := verdictPathRow.holds Tryz.pinned (OpenSpec.ofChange verdictPathWrong)

/-- 'galliardlaw41.ActDoes': WHATEVER THE INPUT: true; the input reads as it did. -/
def actDoesSpec : ChangeSpec := { name := "actDoes", fn := fun _ => fun
  | [d1, d2, d3] => { results := [.lit (.bool true)], args := [d1, d2, d3] }
  | _ => none }
def actDoesRow : OpenClaim := { program := "ytepianllbfnpoaagreat", sum := "b60eebd2f930caf13378043d57d0ada8eb3eed12a9fa774b1848eda35a970be1", func := "galliard/galliardlaw41.ActDoes", spec := "actDoes", unfollowed := true, recurses := true, plainKeys := false, apart := false }
def ActDoesSaid : Prop := actDoesRow.holds Tryz.pinned (OpenSpec.ofChange actDoesSpec)

/-- ITS FALSE NEIGHBOUR: 'it returns false'. Refute it at one input. -/
def actDoesWrong : ChangeSpec := { name := "actDoes", fn := fun _ => fun
  | [d1, d2, d3] => { results := [.lit (.bool false)], args := [d1, d2, d3] }
  | _ => none }
def ActDoesWrongFalsely : Prop := actDoesRow.holds Tryz.pinned (OpenSpec.ofChange actDoesWrong)

/-- 'galliardlaw41.ActCuts': WHATEVER THE INPUT: true; the input reads as it did. -/
def actCutsSpec : ChangeSpec := { name := "actCuts", fn := fun _ => fun
  | [d1, d2, d3] => { results := [.lit (.bool true)], args := [d1, d2, d3] }
  | _ => none }
def actCutsRow : OpenClaim := { program := "ytepianllbfnpoaagreat", sum := "b60eebd2f930caf13378043d57d0ada8eb3eed12a9fa774b1848eda35a970be1", func := "galliard/galliardlaw41.ActCuts", spec := "actCuts", unfollowed := true, recurses := true, plainKeys := false, apart := false }
def ActCutsSaid : Prop := actCutsRow.holds Tryz.pinned (OpenSpec.ofChange actCutsSpec)

/-- ITS FALSE NEIGHBOUR: 'it returns false'. Refute it at one input. -/
def actCutsWrong : ChangeSpec := { name := "actCuts", fn := fun _ => fun
  | [d1, d2, d3] => { results := [.lit (.bool false)], args := [d1, d2, d3] }
  | _ => none }
def ActCutsWrongFalsely : Prop := actCutsRow.holds Tryz.pinned (OpenSpec.ofChange actCutsWrong)

/-- 'galliardlaw42.FallTorn': WHATEVER THE INPUT: true; the input reads as it did. -/
def fallTornSpec : ChangeSpec := { name := "fallTorn", fn := fun _ => fun
  | [d1, d2, d3] => { results := [.lit (.bool true)], args := [d1, d2, d3] }
  | _ => none }
def fallTornRow : OpenClaim := { program := "ytepianllbfnpoaagreat", sum := "b60eebd2f930caf13378043d57d0ada8eb3eed12a9fa774b1848eda35a970be1", func := "galliard/galliardlaw42.FallTorn", spec := "fallTorn", unfollowed := true, recurses := true, plainKeys := false, apart := false }
def FallTornSaid : Prop := fallTornRow.holds Tryz.pinned (OpenSpec.ofChange fallTornSpec)

/-- ITS FALSE NEIGHBOUR: 'it returns false'. Refute it at one input. -/
def fallTornWrong : ChangeSpec := { name := "fallTorn", fn := fun _ => fun
  | [d1, d2, d3] => { results := [.lit (.bool false)], args := [d1, d2, d3] }
  | _ => none }
def FallTornWrongFalsely : Prop := fallTornRow.holds Tryz.pinned (OpenSpec.ofChange fallTornWrong)

/-- 'galliardlaw44.ScriptAny': WHATEVER THE INPUT: true; the input reads as it did. -/
def scriptAnySpec : ChangeSpec := { name := "scriptAny", fn := fun _ => fun
  | [d1, d2, d3] => { results := [.lit (.bool true)], args := [d1, d2, d3] }
  | _ => none }
def scriptAnyRow : OpenClaim := { program := "ytepianllbfnpoaagreat", sum := "b60eebd2f930caf13378043d57d0ada8eb3eed12a9fa774b1848eda35a970be1", func := "galliard/galliardlaw44.ScriptAny", spec := "scriptAny", unfollowed := true, recurses := true, plainKeys := false, apart := false }
def ScriptAnySaid : Prop := scriptAnyRow.holds Tryz.pinned (OpenSpec.ofChange scriptAnySpec)

/-- ITS FALSE NEIGHBOUR: 'it returns false'. Refute it at one input. -/
def scriptAnyWrong : ChangeSpec := { name := "scriptAny", fn := fun _ => fun
  | [d1, d2, d3] => { results := [.lit (.bool false)], args := [d1, d2, d3] }
  | _ => none }
def ScriptAnyWrongFalsely : Prop := scriptAnyRow.holds Tryz.pinned (OpenSpec.ofChange scriptAnyWrong)

/-- 'galliardlaw45.GuideOps': WHATEVER THE INPUT: true; the input reads as it did. -/
def guideOpsSpec : ChangeSpec := { name := "guideOps", fn := fun _ => fun
  | [d1, d2, d3] => { results := [.lit (.bool true)], args := [d1, d2, d3] }
  | _ => none }
def guideOpsRow : OpenClaim := { program := "ytepianllbfnpoaagreat", sum := "b60eebd2f930caf13378043d57d0ada8eb3eed12a9fa774b1848eda35a970be1", func := "galliard/galliardlaw45.GuideOps", spec := "guideOps", unfollowed := true, recurses := true, plainKeys := false, apart := false }
def GuideOpsSaid : Prop := guideOpsRow.holds Tryz.pinned (OpenSpec.ofChange guideOpsSpec)

/-- ITS FALSE NEIGHBOUR: 'it returns false'. Refute it at one input. -/
def guideOpsWrong : ChangeSpec := { name := "guideOps", fn := fun _ => fun
  | [d1, d2, d3] => { results := [.lit (.bool false)], args := [d1, d2, d3] }
  | _ => none }
def GuideOpsWrongFalsely : Prop := guideOpsRow.holds Tryz.pinned (OpenSpec.ofChange guideOpsWrong)

/- THE SECOND FORM. 'bulk': how many values and letters a reading holds, each counted each time it is reached (what is shared counts as often as it is met; a slice's spare places count too). A statement '..UptoSaid' is the law's where the arguments, and the package variables that the reading takes, are together of bulk at most 1048576: NARROWER than '..Said'. Prove '..Said' where nothing that the law and all that it calls make is longer than what came in: it says more and counts as full. Else prove '..UptoSaid'. A law counts once. -/
mutual
def uptoBulk {H : Type} : DataW H → Nat
  | .lit (.string bytes) => bytes.length + 1
  | .lit _ => 1
  | .nil => 1
  | .ptr d => uptoBulk d + 1
  | .slice elems spare => uptoBulkAll elems + uptoBulkAll spare + 1
  | .agg parts => uptoBulkAll parts + 1
  | .iface _ d => uptoBulk d + 1
  | .map entries => uptoBulkEntries entries + 1
  | .held _ => 1
def uptoBulkAll {H : Type} : List (DataW H) → Nat
  | [] => 0
  | d :: r => uptoBulk d + uptoBulkAll r
def uptoBulkEntries {H : Type} : List (Lit × DataW H) → Nat
  | [] => 0
  | x :: r => uptoBulkEntry x + uptoBulkEntries r
def uptoBulkEntry {H : Type} : Lit × DataW H → Nat
  | (.string bytes, d) => bytes.length + uptoBulk d + 1
  | (_, d) => uptoBulk d + 1
 end
def uptoSmall : (H : Type) → List (DataW H) → Bool := fun _ ds => decide (uptoBulkAll ds ≤ 1048576)
def OpenSpec.upto (s : _root_.Go.ChangeSpec) : _root_.Go.OpenSpec := { _root_.Go.OpenSpec.ofChange s with cond := some uptoSmall }

/-- 'galliardlaw31.VerdictAny', WHERE WHAT IT READS IS OF BULK AT MOST 1048576: true; the input reads as it did. -/
def verdictAnyUptoRow : OpenClaim := { program := "ytepianllbfnpoaagreat", sum := "b60eebd2f930caf13378043d57d0ada8eb3eed12a9fa774b1848eda35a970be1", func := "galliard/galliardlaw31.VerdictAny", spec := "verdictAny", unfollowed := true, recurses := true, plainKeys := false, apart := false, narrowed := true }
def VerdictAnyUptoSaid : Prop := verdictAnyUptoRow.holds Tryz.pinned (OpenSpec.upto verdictAnySpec)

/-- 'galliardlaw31.VerdictPath', WHERE WHAT IT READS IS OF BULK AT MOST 1048576: true; the input reads as it did. -/
def verdictPathUptoRow : OpenClaim := { program := "ytepianllbfnpoaagreat", sum := "b60eebd2f930caf13378043d57d0ada8eb3eed12a9fa774b1848eda35a970be1", func := "galliard/galliardlaw31.VerdictPath", spec := "verdictPath", unfollowed := true, recurses := true, plainKeys := false, apart := false, narrowed := true }
def VerdictPathUptoSaid : Prop := verdictPathUptoRow.holds Tryz.pinned (OpenSpec.upto verdictPathSpec)

/-- 'galliardlaw41.ActDoes', WHERE WHAT IT READS IS OF BULK AT MOST 1048576: true; the input reads as it did. -/
def actDoesUptoRow : OpenClaim := { program := "ytepianllbfnpoaagreat", sum := "b60eebd2f930caf13378043d57d0ada8eb3eed12a9fa774b1848eda35a970be1", func := "galliard/galliardlaw41.ActDoes", spec := "actDoes", unfollowed := true, recurses := true, plainKeys := false, apart := false, narrowed := true }
def ActDoesUptoSaid : Prop := actDoesUptoRow.holds Tryz.pinned (OpenSpec.upto actDoesSpec)

/-- 'galliardlaw41.ActCuts', WHERE WHAT IT READS IS OF BULK AT MOST 1048576: true; the input reads as it did. -/
def actCutsUptoRow : OpenClaim := { program := "ytepianllbfnpoaagreat", sum := "b60eebd2f930caf13378043d57d0ada8eb3eed12a9fa774b1848eda35a970be1", func := "galliard/galliardlaw41.ActCuts", spec := "actCuts", unfollowed := true, recurses := true, plainKeys := false, apart := false, narrowed := true }
def ActCutsUptoSaid : Prop := actCutsUptoRow.holds Tryz.pinned (OpenSpec.upto actCutsSpec)

/-- 'galliardlaw42.FallTorn', WHERE WHAT IT READS IS OF BULK AT MOST 1048576: true; the input reads as it did. -/
def fallTornUptoRow : OpenClaim := { program := "ytepianllbfnpoaagreat", sum := "b60eebd2f930caf13378043d57d0ada8eb3eed12a9fa774b1848eda35a970be1", func := "galliard/galliardlaw42.FallTorn", spec := "fallTorn", unfollowed := true, recurses := true, plainKeys := false, apart := false, narrowed := true }
def FallTornUptoSaid : Prop := fallTornUptoRow.holds Tryz.pinned (OpenSpec.upto fallTornSpec)

/-- 'galliardlaw44.ScriptAny', WHERE WHAT IT READS IS OF BULK AT MOST 1048576: true; the input reads as it did. -/
def scriptAnyUptoRow : OpenClaim := { program := "ytepianllbfnpoaagreat", sum := "b60eebd2f930caf13378043d57d0ada8eb3eed12a9fa774b1848eda35a970be1", func := "galliard/galliardlaw44.ScriptAny", spec := "scriptAny", unfollowed := true, recurses := true, plainKeys := false, apart := false, narrowed := true }
def ScriptAnyUptoSaid : Prop := scriptAnyUptoRow.holds Tryz.pinned (OpenSpec.upto scriptAnySpec)

/-- 'galliardlaw45.GuideOps', WHERE WHAT IT READS IS OF BULK AT MOST 1048576: true; the input reads as it did. -/
def guideOpsUptoRow : OpenClaim := { program := "ytepianllbfnpoaagreat", sum := "b60eebd2f930caf13378043d57d0ada8eb3eed12a9fa774b1848eda35a970be1", func := "galliard/galliardlaw45.GuideOps", spec := "guideOps", unfollowed := true, recurses := true, plainKeys := false, apart := false, narrowed := true }
def GuideOpsUptoSaid : Prop := guideOpsUptoRow.holds Tryz.pinned (OpenSpec.upto guideOpsSpec)

end Rows
end Go.Proofs.YtepianllbfnpoaaGreat

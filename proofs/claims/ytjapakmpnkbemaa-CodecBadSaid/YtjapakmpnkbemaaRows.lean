/-
  No cell of these rows narrows 'for every input' (looked for: loops, veiled, ifaces, maps, wideKeys, modest, calm, conditions, laid).
  DERIVED. THE GIVEN ROWS OF THIS SEAT. 4 by the template 'for every input the law returns true; each argument reads behind the call as it read before'; 0 by the template 'total and deterministic' (their statements: YtjapakmpnkbemaaTotals.lean).
  GIVEN WITH THE SEED: the statements are not yours to turn. If you find one false, say at which input.
  Laid BY PROGRAM, IN A SANDBOX (cutbox-rows.mjs): the forced cells as the released guide's own fill.sh prints them over the translation a8b3649333646d03… (all of the seat's roots in one cut). By AI agents, Wed Nov 11 2026. No macro, syntax, notation, axiom, sorry.
-/
import Derived.Test.YtjapakmpnkbemaaChecked
import GoSem.Claim
import GoSem.ClaimJoined
import GoSem.ClaimMapViews
import Derived.JoinedTies
import Derived.KernelRfl
namespace Go.Proofs.Ytjapakmpnkbemaa
/- THE CELL 'sum', in the pinned program and in every row, IS THE sha256 OF THE DUMP (.gsa) THAT YtjapakmpnkbemaaProg.lean LOADS. Nothing in Lean hashes anything: it is a label: what it is worth is what the hold of that sum in a sandbox is worth. -/
noncomputable def Try.pinned : Pinned := { name := "ytjapakmpnkbemaa", sum := "a8b3649333646d0316572d4b124001a232989beeafa411f5b4c346bc451e38cd", checked := Try.checked }
namespace Rows
def none {H : Type} : Left H := { results := [], args := [] }

/-- 'galliardlaw25.CodecNumbers': WHATEVER THE INPUT: true; the input reads as it did. -/
def codecNumbersSpec : ChangeSpec := { name := "codecNumbers", fn := fun _ => fun
  | [d1, d2] => { results := [.lit (.bool true)], args := [d1, d2] }
  | _ => none }
def codecNumbersRow : OpenClaim := { program := "ytjapakmpnkbemaa", sum := "a8b3649333646d0316572d4b124001a232989beeafa411f5b4c346bc451e38cd", func := "galliard/galliardlaw25.CodecNumbers", spec := "codecNumbers", recurses := true, apart := false }
def CodecNumbersSaid : Prop := codecNumbersRow.holds Try.pinned (OpenSpec.ofChange codecNumbersSpec)

/-- ITS FALSE NEIGHBOUR: 'it returns false'. Refute it at one input. -/
def codecNumbersWrong : ChangeSpec := { name := "codecNumbers", fn := fun _ => fun
  | [d1, d2] => { results := [.lit (.bool false)], args := [d1, d2] }
  | _ => none }
def CodecNumbersWrongFalsely : Prop := codecNumbersRow.holds Try.pinned (OpenSpec.ofChange codecNumbersWrong)

/-- 'galliardlaw15.MarkPlays': WHATEVER THE INPUT: true; the input reads as it did. -/
def markPlaysSpec : ChangeSpec := { name := "markPlays", fn := fun _ => fun
  | [d] => { results := [.lit (.bool true)], args := [d] }
  | _ => none }
def markPlaysRow : OpenClaim := { program := "ytjapakmpnkbemaa", sum := "a8b3649333646d0316572d4b124001a232989beeafa411f5b4c346bc451e38cd", func := "galliard/galliardlaw15.MarkPlays", spec := "markPlays", apart := false }
def MarkPlaysSaid : Prop := markPlaysRow.holds Try.pinned (OpenSpec.ofChange markPlaysSpec)

/-- ITS FALSE NEIGHBOUR: 'it returns false'. Refute it at one input. -/
def markPlaysWrong : ChangeSpec := { name := "markPlays", fn := fun _ => fun
  | [d] => { results := [.lit (.bool false)], args := [d] }
  | _ => none }
def MarkPlaysWrongFalsely : Prop := markPlaysRow.holds Try.pinned (OpenSpec.ofChange markPlaysWrong)

/-- 'galliardlaw25.CodecBad': WHATEVER THE INPUT: true; the input reads as it did. -/
def codecBadSpec : ChangeSpec := { name := "codecBad", fn := fun _ => fun
  | [d1, d2] => { results := [.lit (.bool true)], args := [d1, d2] }
  | _ => none }
def codecBadRow : OpenClaim := { program := "ytjapakmpnkbemaa", sum := "a8b3649333646d0316572d4b124001a232989beeafa411f5b4c346bc451e38cd", func := "galliard/galliardlaw25.CodecBad", spec := "codecBad", unfollowed := true, recurses := true, apart := false }
def CodecBadSaid : Prop := codecBadRow.holds Try.pinned (OpenSpec.ofChange codecBadSpec)

/-- ITS FALSE NEIGHBOUR: 'it returns false'. Refute it at one input. -/
def codecBadWrong : ChangeSpec := { name := "codecBad", fn := fun _ => fun
  | [d1, d2] => { results := [.lit (.bool false)], args := [d1, d2] }
  | _ => none }
def CodecBadWrongFalsely : Prop := codecBadRow.holds Try.pinned (OpenSpec.ofChange codecBadWrong)

/-- 'galliardlaw50.TallyLines': WHATEVER THE INPUT: true; the input reads as it did. -/
def tallyLinesSpec : ChangeSpec := { name := "tallyLines", fn := fun _ => fun
  | [d1, d2, d3] => { results := [.lit (.bool true)], args := [d1, d2, d3] }
  | _ => none }
def tallyLinesRow : OpenClaim := { program := "ytjapakmpnkbemaa", sum := "a8b3649333646d0316572d4b124001a232989beeafa411f5b4c346bc451e38cd", func := "galliard/galliardlaw50.TallyLines", spec := "tallyLines", inPlace := ["internal/abi.NoEscape"], unfollowed := true, recurses := true, apart := false }
def TallyLinesSaid : Prop := tallyLinesRow.holds Try.pinned (OpenSpec.ofChange tallyLinesSpec)

/-- ITS FALSE NEIGHBOUR: 'it returns false'. Refute it at one input. -/
def tallyLinesWrong : ChangeSpec := { name := "tallyLines", fn := fun _ => fun
  | [d1, d2, d3] => { results := [.lit (.bool false)], args := [d1, d2, d3] }
  | _ => none }
def TallyLinesWrongFalsely : Prop := tallyLinesRow.holds Try.pinned (OpenSpec.ofChange tallyLinesWrong)

/- THE SECOND FORM. 'bulk': how many values and letters a reading holds, each counted each time it is reached (what is shared counts as often as it is met; a slice's spare places count too). A statement '..UptoSaid' is the law's where the arguments, and the package variables that the reading takes, are together of bulk at most 1048576: NARROWER than '..Said'. Prove '..Said' where nothing that the law and all that it calls make is longer than what came in: it says more and counts as full. Else prove '..UptoSaid'. A law counts once. -/
mutual
def uptoBulk {H : Type} : DataW H → Nat
  | .lit (.string bytes) => bytes.length + 1
  | .lit _ => 1
  | .nil => 1
  | .ptr d => uptoBulk d + 1
  | .slice elems spare => uptoBulkAll elems + uptoBulkAll spare + 1
  | .agg parts => uptoBulkAll parts + 1
  | .iface _ d => uptoBulk d + 1
  | .map entries => uptoBulkEntries entries + 1
  | .held _ => 1
def uptoBulkAll {H : Type} : List (DataW H) → Nat
  | [] => 0
  | d :: r => uptoBulk d + uptoBulkAll r
def uptoBulkEntries {H : Type} : List (Lit × DataW H) → Nat
  | [] => 0
  | x :: r => uptoBulkEntry x + uptoBulkEntries r
def uptoBulkEntry {H : Type} : Lit × DataW H → Nat
  | (.string bytes, d) => bytes.length + uptoBulk d + 1
  | (_, d) => uptoBulk d + 1
 end
def uptoSmall : (H : Type) → List (DataW H) → Bool := fun _ ds => decide (uptoBulkAll ds ≤ 1048576)
def OpenSpec.upto (s : _root_.Go.ChangeSpec) : _root_.Go.OpenSpec := { _root_.Go.OpenSpec.ofChange s with cond := some uptoSmall }

/-- 'galliardlaw25.CodecNumbers', WHERE WHAT IT READS IS OF BULK AT MOST 1048576: true; the input reads as it did. -/
def codecNumbersUptoRow : OpenClaim := { program := "ytjapakmpnkbemaa", sum := "a8b3649333646d0316572d4b124001a232989beeafa411f5b4c346bc451e38cd", func := "galliard/galliardlaw25.CodecNumbers", spec := "codecNumbers", recurses := true, apart := false, narrowed := true }
def CodecNumbersUptoSaid : Prop := codecNumbersUptoRow.holds Try.pinned (OpenSpec.upto codecNumbersSpec)

/-- 'galliardlaw15.MarkPlays', WHERE WHAT IT READS IS OF BULK AT MOST 1048576: true; the input reads as it did. -/
def markPlaysUptoRow : OpenClaim := { program := "ytjapakmpnkbemaa", sum := "a8b3649333646d0316572d4b124001a232989beeafa411f5b4c346bc451e38cd", func := "galliard/galliardlaw15.MarkPlays", spec := "markPlays", apart := false, narrowed := true }
def MarkPlaysUptoSaid : Prop := markPlaysUptoRow.holds Try.pinned (OpenSpec.upto markPlaysSpec)

/-- 'galliardlaw25.CodecBad', WHERE WHAT IT READS IS OF BULK AT MOST 1048576: true; the input reads as it did. -/
def codecBadUptoRow : OpenClaim := { program := "ytjapakmpnkbemaa", sum := "a8b3649333646d0316572d4b124001a232989beeafa411f5b4c346bc451e38cd", func := "galliard/galliardlaw25.CodecBad", spec := "codecBad", unfollowed := true, recurses := true, apart := false, narrowed := true }
def CodecBadUptoSaid : Prop := codecBadUptoRow.holds Try.pinned (OpenSpec.upto codecBadSpec)

/-- 'galliardlaw50.TallyLines', WHERE WHAT IT READS IS OF BULK AT MOST 1048576: true; the input reads as it did. -/
def tallyLinesUptoRow : OpenClaim := { program := "ytjapakmpnkbemaa", sum := "a8b3649333646d0316572d4b124001a232989beeafa411f5b4c346bc451e38cd", func := "galliard/galliardlaw50.TallyLines", spec := "tallyLines", inPlace := ["internal/abi.NoEscape"], unfollowed := true, recurses := true, apart := false, narrowed := true }
def TallyLinesUptoSaid : Prop := tallyLinesUptoRow.holds Try.pinned (OpenSpec.upto tallyLinesSpec)

end Rows
end Go.Proofs.Ytjapakmpnkbemaa

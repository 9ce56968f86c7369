/-
  NARROWER THAN 'FOR EVERY INPUT', by the rows' own cells (each row's printed sentence says how): ScanPieces: laid · ScanBad: laid · ScanAny: laid · TreeBad: laid · TreeAny: loops, laid · TreeMost: laid · TreeBack: loops, laid.
  DERIVED. THE GIVEN ROWS OF THIS SEAT. 7 by the template 'for every input the law returns true; each argument reads behind the call as it read before'; 0 by the template 'total and deterministic' (their statements: YtfkdjdmbgednkaaDoorTotals.lean).
  GIVEN WITH THE SEED: the statements are not yours to turn. If you find one false, say at which input.
  Laid BY PROGRAM, IN A SANDBOX (cutbox-rows.mjs): the forced cells as the released guide's own fill.sh prints them over the translation a43e57d65fefd859… (all of the seat's roots in one cut). By AI agents, Wed Nov 11 2026. No macro, syntax, notation, axiom, sorry.
-/
import Derived.Test.YtfkdjdmbgednkaaDoorChecked
import GoSem.Claim
import GoSem.ClaimJoined
import GoSem.ClaimMapViews
import Derived.JoinedTies
import Derived.KernelRfl
namespace Go.Proofs.YtfkdjdmbgednkaaDoor
/- THE CELL 'sum', in the pinned program and in every row, IS THE sha256 OF THE DUMP (.gsa) THAT YtfkdjdmbgednkaaDoorProg.lean LOADS. Nothing in Lean hashes anything: it is a label: what it is worth is what the hold of that sum in a sandbox is worth. -/
noncomputable def Tryd.pinned : Pinned := { name := "ytfkdjdmbgednkaadoor", sum := "a43e57d65fefd85900f3debf2efb2aeaaa1cfb7b7acf802a3218443db47b3efe", checked := Tryd.checked }
namespace Rows
def none {H : Type} : Left H := { results := [], args := [] }

/- WHAT THE LISTED PACKAGE-LEVEL VARIABLES READ AS WHEN THE CALL BEGINS. Each datum BY PROGRAM (the guide's laid-datum.mjs) off the statement by which the dump's own 'gosem.cut.vars' lays the variable. In a bare row this is a premise. The card (YtfkdjdmbgednkaaDoorCards.lean) ties it to the program's text. -/
def laid_galliard_entity_names {H : Type} : DataW H := .agg [.agg [.lit (.string [97, 109, 112]), .lit (.int .i64 38)], .agg [.lit (.string [108, 116]), .lit (.int .i64 60)], .agg [.lit (.string [103, 116]), .lit (.int .i64 62)], .agg [.lit (.string [113, 117, 111, 116]), .lit (.int .i64 34)], .agg [.lit (.string [97, 112, 111, 115]), .lit (.int .i64 39)]]

/-- 'galliardlaw04.ScanPieces': WHATEVER THE INPUT: true; the input reads as it did. -/
def scanPiecesSpec : ChangeSpec := { name := "scanPieces", fn := fun _ => fun
  | [d1, d2, d3] => { results := [.lit (.bool true)], args := [d1, d2, d3] }
  | _ => none }
def scanPiecesRow : OpenClaim := { program := "ytfkdjdmbgednkaadoor", sum := "a43e57d65fefd85900f3debf2efb2aeaaa1cfb7b7acf802a3218443db47b3efe", func := "galliard/galliardlaw04.ScanPieces", spec := "scanPieces", inPlace := ["internal/bytealg.IndexByteString", "internal/bytealg.IndexString", "internal/abi.NoEscape"], unfollowed := true, recurses := true, named := ["internal/bytealg.MaxLen", "galliard/entity.names"], apart := false, laid := [("galliard/entity.names", laid_galliard_entity_names)] }
def ScanPiecesSaid : Prop := scanPiecesRow.holds Tryd.pinned (OpenSpec.ofChange scanPiecesSpec)

/-- ITS FALSE NEIGHBOUR: 'it returns false'. Refute it at one input. -/
def scanPiecesWrong : ChangeSpec := { name := "scanPieces", fn := fun _ => fun
  | [d1, d2, d3] => { results := [.lit (.bool false)], args := [d1, d2, d3] }
  | _ => none }
def ScanPiecesWrongFalsely : Prop := scanPiecesRow.holds Tryd.pinned (OpenSpec.ofChange scanPiecesWrong)

/-- 'galliardlaw04.ScanBad': WHATEVER THE INPUT: true; the input reads as it did. -/
def scanBadSpec : ChangeSpec := { name := "scanBad", fn := fun _ => fun
  | [d1, d2] => { results := [.lit (.bool true)], args := [d1, d2] }
  | _ => none }
def scanBadRow : OpenClaim := { program := "ytfkdjdmbgednkaadoor", sum := "a43e57d65fefd85900f3debf2efb2aeaaa1cfb7b7acf802a3218443db47b3efe", func := "galliard/galliardlaw04.ScanBad", spec := "scanBad", inPlace := ["internal/bytealg.IndexByteString", "internal/bytealg.IndexString", "internal/abi.NoEscape"], unfollowed := true, recurses := true, named := ["internal/bytealg.MaxLen", "galliard/entity.names"], apart := false, laid := [("galliard/entity.names", laid_galliard_entity_names)] }
def ScanBadSaid : Prop := scanBadRow.holds Tryd.pinned (OpenSpec.ofChange scanBadSpec)

/-- ITS FALSE NEIGHBOUR: 'it returns false'. Refute it at one input. -/
def scanBadWrong : ChangeSpec := { name := "scanBad", fn := fun _ => fun
  | [d1, d2] => { results := [.lit (.bool false)], args := [d1, d2] }
  | _ => none }
def ScanBadWrongFalsely : Prop := scanBadRow.holds Tryd.pinned (OpenSpec.ofChange scanBadWrong)

/-- 'galliardlaw04.ScanAny': WHATEVER THE INPUT: true; the input reads as it did. -/
def scanAnySpec : ChangeSpec := { name := "scanAny", fn := fun _ => fun
  | [d] => { results := [.lit (.bool true)], args := [d] }
  | _ => none }
def scanAnyRow : OpenClaim := { program := "ytfkdjdmbgednkaadoor", sum := "a43e57d65fefd85900f3debf2efb2aeaaa1cfb7b7acf802a3218443db47b3efe", func := "galliard/galliardlaw04.ScanAny", spec := "scanAny", inPlace := ["internal/bytealg.IndexByteString", "internal/bytealg.IndexString", "internal/abi.NoEscape"], unfollowed := true, recurses := true, named := ["internal/bytealg.MaxLen", "galliard/entity.names"], apart := false, laid := [("galliard/entity.names", laid_galliard_entity_names)] }
def ScanAnySaid : Prop := scanAnyRow.holds Tryd.pinned (OpenSpec.ofChange scanAnySpec)

/-- ITS FALSE NEIGHBOUR: 'it returns false'. Refute it at one input. -/
def scanAnyWrong : ChangeSpec := { name := "scanAny", fn := fun _ => fun
  | [d] => { results := [.lit (.bool false)], args := [d] }
  | _ => none }
def ScanAnyWrongFalsely : Prop := scanAnyRow.holds Tryd.pinned (OpenSpec.ofChange scanAnyWrong)

/-- 'galliardlaw06.TreeBad': WHATEVER THE INPUT: true; the input reads as it did. -/
def treeBadSpec : ChangeSpec := { name := "treeBad", fn := fun _ => fun
  | [d] => { results := [.lit (.bool true)], args := [d] }
  | _ => none }
def treeBadRow : OpenClaim := { program := "ytfkdjdmbgednkaadoor", sum := "a43e57d65fefd85900f3debf2efb2aeaaa1cfb7b7acf802a3218443db47b3efe", func := "galliard/galliardlaw06.TreeBad", spec := "treeBad", inPlace := ["internal/bytealg.IndexByteString", "internal/bytealg.IndexString", "internal/abi.NoEscape"], unfollowed := true, recurses := true, named := ["internal/bytealg.MaxLen", "galliard/entity.names"], apart := false, laid := [("galliard/entity.names", laid_galliard_entity_names)] }
def TreeBadSaid : Prop := treeBadRow.holds Tryd.pinned (OpenSpec.ofChange treeBadSpec)

/-- ITS FALSE NEIGHBOUR: 'it returns false'. Refute it at one input. -/
def treeBadWrong : ChangeSpec := { name := "treeBad", fn := fun _ => fun
  | [d] => { results := [.lit (.bool false)], args := [d] }
  | _ => none }
def TreeBadWrongFalsely : Prop := treeBadRow.holds Tryd.pinned (OpenSpec.ofChange treeBadWrong)

/-- 'galliardlaw06.TreeAny': WHATEVER THE INPUT: true; the input reads as it did. -/
def treeAnySpec : ChangeSpec := { name := "treeAny", fn := fun _ => fun
  | [d1, d2, d3] => { results := [.lit (.bool true)], args := [d1, d2, d3] }
  | _ => none }
def treeAnyRow : OpenClaim := { program := "ytfkdjdmbgednkaadoor", sum := "a43e57d65fefd85900f3debf2efb2aeaaa1cfb7b7acf802a3218443db47b3efe", func := "galliard/galliardlaw06.TreeAny", spec := "treeAny", inPlace := ["internal/bytealg.IndexByteString", "internal/bytealg.IndexString", "internal/abi.NoEscape"], unfollowed := true, recurses := true, named := ["internal/bytealg.MaxLen", "galliard/entity.names"], loops := true, apart := false, laid := [("galliard/entity.names", laid_galliard_entity_names)] }
def TreeAnySaid : Prop := treeAnyRow.holds Tryd.pinned (OpenSpec.ofChange treeAnySpec)

/-- ITS FALSE NEIGHBOUR: 'it returns false'. Refute it at one input. -/
def treeAnyWrong : ChangeSpec := { name := "treeAny", fn := fun _ => fun
  | [d1, d2, d3] => { results := [.lit (.bool false)], args := [d1, d2, d3] }
  | _ => none }
def TreeAnyWrongFalsely : Prop := treeAnyRow.holds Tryd.pinned (OpenSpec.ofChange treeAnyWrong)

/-- 'galliardlaw06.TreeMost': WHATEVER THE INPUT: true; the input reads as it did. -/
def treeMostSpec : ChangeSpec := { name := "treeMost", fn := fun _ => fun
  | [d] => { results := [.lit (.bool true)], args := [d] }
  | _ => none }
def treeMostRow : OpenClaim := { program := "ytfkdjdmbgednkaadoor", sum := "a43e57d65fefd85900f3debf2efb2aeaaa1cfb7b7acf802a3218443db47b3efe", func := "galliard/galliardlaw06.TreeMost", spec := "treeMost", inPlace := ["internal/bytealg.IndexByteString", "internal/bytealg.IndexString", "internal/abi.NoEscape"], unfollowed := true, recurses := true, named := ["internal/bytealg.MaxLen", "galliard/entity.names"], apart := false, laid := [("galliard/entity.names", laid_galliard_entity_names)] }
def TreeMostSaid : Prop := treeMostRow.holds Tryd.pinned (OpenSpec.ofChange treeMostSpec)

/-- ITS FALSE NEIGHBOUR: 'it returns false'. Refute it at one input. -/
def treeMostWrong : ChangeSpec := { name := "treeMost", fn := fun _ => fun
  | [d] => { results := [.lit (.bool false)], args := [d] }
  | _ => none }
def TreeMostWrongFalsely : Prop := treeMostRow.holds Tryd.pinned (OpenSpec.ofChange treeMostWrong)

/-- 'galliardlaw06.TreeBack': WHATEVER THE INPUT: true; the input reads as it did. -/
def treeBackSpec : ChangeSpec := { name := "treeBack", fn := fun _ => fun
  | [d1, d2, d3] => { results := [.lit (.bool true)], args := [d1, d2, d3] }
  | _ => none }
def treeBackRow : OpenClaim := { program := "ytfkdjdmbgednkaadoor", sum := "a43e57d65fefd85900f3debf2efb2aeaaa1cfb7b7acf802a3218443db47b3efe", func := "galliard/galliardlaw06.TreeBack", spec := "treeBack", inPlace := ["internal/bytealg.IndexByteString", "internal/bytealg.IndexString", "internal/abi.NoEscape"], unfollowed := true, recurses := true, named := ["internal/bytealg.MaxLen", "galliard/entity.names"], loops := true, apart := false, laid := [("galliard/entity.names", laid_galliard_entity_names)] }
def TreeBackSaid : Prop := treeBackRow.holds Tryd.pinned (OpenSpec.ofChange treeBackSpec)

/-- ITS FALSE NEIGHBOUR: 'it returns false'. Refute it at one input. -/
def treeBackWrong : ChangeSpec := { name := "treeBack", fn := fun _ => fun
  | [d1, d2, d3] => { results := [.lit (.bool false)], args := [d1, d2, d3] }
  | _ => none }
def TreeBackWrongFalsely : Prop := treeBackRow.holds Tryd.pinned (OpenSpec.ofChange treeBackWrong)

/- THE SECOND FORM. 'bulk': how many values and letters a reading holds, each counted each time it is reached (what is shared counts as often as it is met; a slice's spare places count too). A statement '..UptoSaid' is the law's where the arguments, and the package variables that the reading takes, are together of bulk at most 1048576: NARROWER than '..Said'. Prove '..Said' where nothing that the law and all that it calls make is longer than what came in: it says more and counts as full. Else prove '..UptoSaid'. A law counts once. -/
mutual
def uptoBulk {H : Type} : DataW H → Nat
  | .lit (.string bytes) => bytes.length + 1
  | .lit _ => 1
  | .nil => 1
  | .ptr d => uptoBulk d + 1
  | .slice elems spare => uptoBulkAll elems + uptoBulkAll spare + 1
  | .agg parts => uptoBulkAll parts + 1
  | .iface _ d => uptoBulk d + 1
  | .map entries => uptoBulkEntries entries + 1
  | .held _ => 1
def uptoBulkAll {H : Type} : List (DataW H) → Nat
  | [] => 0
  | d :: r => uptoBulk d + uptoBulkAll r
def uptoBulkEntries {H : Type} : List (Lit × DataW H) → Nat
  | [] => 0
  | x :: r => uptoBulkEntry x + uptoBulkEntries r
def uptoBulkEntry {H : Type} : Lit × DataW H → Nat
  | (.string bytes, d) => bytes.length + uptoBulk d + 1
  | (_, d) => uptoBulk d + 1
 end
def uptoSmall : (H : Type) → List (DataW H) → Bool := fun _ ds => decide (uptoBulkAll ds ≤ 1048576)
def OpenSpec.upto (s : _root_.Go.ChangeSpec) : _root_.Go.OpenSpec := { _root_.Go.OpenSpec.ofChange s with cond := some uptoSmall }

/-- 'galliardlaw04.ScanPieces', WHERE WHAT IT READS IS OF BULK AT MOST 1048576: true; the input reads as it did. -/
def scanPiecesUptoRow : OpenClaim := { program := "ytfkdjdmbgednkaadoor", sum := "a43e57d65fefd85900f3debf2efb2aeaaa1cfb7b7acf802a3218443db47b3efe", func := "galliard/galliardlaw04.ScanPieces", spec := "scanPieces", inPlace := ["internal/bytealg.IndexByteString", "internal/bytealg.IndexString", "internal/abi.NoEscape"], unfollowed := true, recurses := true, named := ["internal/bytealg.MaxLen", "galliard/entity.names"], apart := false, laid := [("galliard/entity.names", laid_galliard_entity_names)], narrowed := true }
def ScanPiecesUptoSaid : Prop := scanPiecesUptoRow.holds Tryd.pinned (OpenSpec.upto scanPiecesSpec)

/-- 'galliardlaw04.ScanBad', WHERE WHAT IT READS IS OF BULK AT MOST 1048576: true; the input reads as it did. -/
def scanBadUptoRow : OpenClaim := { program := "ytfkdjdmbgednkaadoor", sum := "a43e57d65fefd85900f3debf2efb2aeaaa1cfb7b7acf802a3218443db47b3efe", func := "galliard/galliardlaw04.ScanBad", spec := "scanBad", inPlace := ["internal/bytealg.IndexByteString", "internal/bytealg.IndexString", "internal/abi.NoEscape"], unfollowed := true, recurses := true, named := ["internal/bytealg.MaxLen", "galliard/entity.names"], apart := false, laid := [("galliard/entity.names", laid_galliard_entity_names)], narrowed := true }
def ScanBadUptoSaid : Prop := scanBadUptoRow.holds Tryd.pinned (OpenSpec.upto scanBadSpec)

/-- 'galliardlaw04.ScanAny', WHERE WHAT IT READS IS OF BULK AT MOST 1048576: true; the input reads as it did. -/
def scanAnyUptoRow : OpenClaim := { program := "ytfkdjdmbgednkaadoor", sum := "a43e57d65fefd85900f3debf2efb2aeaaa1cfb7b7acf802a3218443db47b3efe", func := "galliard/galliardlaw04.ScanAny", spec := "scanAny", inPlace := ["internal/bytealg.IndexByteString", "internal/bytealg.IndexString", "internal/abi.NoEscape"], unfollowed := true, recurses := true, named := ["internal/bytealg.MaxLen", "galliard/entity.names"], apart := false, laid := [("galliard/entity.names", laid_galliard_entity_names)], narrowed := true }
def ScanAnyUptoSaid : Prop := scanAnyUptoRow.holds Tryd.pinned (OpenSpec.upto scanAnySpec)

/-- 'galliardlaw06.TreeBad', WHERE WHAT IT READS IS OF BULK AT MOST 1048576: true; the input reads as it did. -/
def treeBadUptoRow : OpenClaim := { program := "ytfkdjdmbgednkaadoor", sum := "a43e57d65fefd85900f3debf2efb2aeaaa1cfb7b7acf802a3218443db47b3efe", func := "galliard/galliardlaw06.TreeBad", spec := "treeBad", inPlace := ["internal/bytealg.IndexByteString", "internal/bytealg.IndexString", "internal/abi.NoEscape"], unfollowed := true, recurses := true, named := ["internal/bytealg.MaxLen", "galliard/entity.names"], apart := false, laid := [("galliard/entity.names", laid_galliard_entity_names)], narrowed := true }
def TreeBadUptoSaid : Prop := treeBadUptoRow.holds Tryd.pinned (OpenSpec.upto treeBadSpec)

/-- 'galliardlaw06.TreeAny', WHERE WHAT IT READS IS OF BULK AT MOST 1048576: true; the input reads as it did. -/
def treeAnyUptoRow : OpenClaim := { program := "ytfkdjdmbgednkaadoor", sum := "a43e57d65fefd85900f3debf2efb2aeaaa1cfb7b7acf802a3218443db47b3efe", func := "galliard/galliardlaw06.TreeAny", spec := "treeAny", inPlace := ["internal/bytealg.IndexByteString", "internal/bytealg.IndexString", "internal/abi.NoEscape"], unfollowed := true, recurses := true, named := ["internal/bytealg.MaxLen", "galliard/entity.names"], loops := true, apart := false, laid := [("galliard/entity.names", laid_galliard_entity_names)], narrowed := true }
def TreeAnyUptoSaid : Prop := treeAnyUptoRow.holds Tryd.pinned (OpenSpec.upto treeAnySpec)

/-- 'galliardlaw06.TreeMost', WHERE WHAT IT READS IS OF BULK AT MOST 1048576: true; the input reads as it did. -/
def treeMostUptoRow : OpenClaim := { program := "ytfkdjdmbgednkaadoor", sum := "a43e57d65fefd85900f3debf2efb2aeaaa1cfb7b7acf802a3218443db47b3efe", func := "galliard/galliardlaw06.TreeMost", spec := "treeMost", inPlace := ["internal/bytealg.IndexByteString", "internal/bytealg.IndexString", "internal/abi.NoEscape"], unfollowed := true, recurses := true, named := ["internal/bytealg.MaxLen", "galliard/entity.names"], apart := false, laid := [("galliard/entity.names", laid_galliard_entity_names)], narrowed := true }
def TreeMostUptoSaid : Prop := treeMostUptoRow.holds Tryd.pinned (OpenSpec.upto treeMostSpec)

/-- 'galliardlaw06.TreeBack', WHERE WHAT IT READS IS OF BULK AT MOST 1048576: true; the input reads as it did. -/
def treeBackUptoRow : OpenClaim := { program := "ytfkdjdmbgednkaadoor", sum := "a43e57d65fefd85900f3debf2efb2aeaaa1cfb7b7acf802a3218443db47b3efe", func := "galliard/galliardlaw06.TreeBack", spec := "treeBack", inPlace := ["internal/bytealg.IndexByteString", "internal/bytealg.IndexString", "internal/abi.NoEscape"], unfollowed := true, recurses := true, named := ["internal/bytealg.MaxLen", "galliard/entity.names"], loops := true, apart := false, laid := [("galliard/entity.names", laid_galliard_entity_names)], narrowed := true }
def TreeBackUptoSaid : Prop := treeBackUptoRow.holds Tryd.pinned (OpenSpec.upto treeBackSpec)

end Rows
end Go.Proofs.YtfkdjdmbgednkaaDoor

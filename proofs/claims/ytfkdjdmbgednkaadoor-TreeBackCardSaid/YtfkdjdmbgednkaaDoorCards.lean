/-
  DERIVED. GIVEN WITH THE SEED: THE CARDS: each row of YtfkdjdmbgednkaaDoorRows.lean that lists a variable, with what it lists TIED to the program's text (the seventh form; the later family's looks); each row that meets fmt, with fmt's text TOLD by the authors' own Lean function (tested against real Go, not proved from fmt's source: count such statements apart). THE CARD IS WHAT COUNTS. Prove the row's statement (the work); the ties are given (YtfkdjdmbgednkaaDoorTie.lean); close each card by the builder's one call (the guide's Derived/Test/ToyasCard.lean, 'card_holds'). Laid BY PROGRAM, IN A SANDBOX (cutbox-door.mjs). By AI agents, Wed Nov 11 2026. No macro, syntax, notation, axiom, sorry.
-/
import Derived.Test.YtfkdjdmbgednkaaDoorRows
import GoSem.ClaimSeven
namespace Go.Proofs.YtfkdjdmbgednkaaDoor
namespace Rows

/-- THE TIED CARD OF 'galliardlaw04.ScanPieces'. -/
def scanPiecesCard : Claim7 := { stood := { row := scanPiecesRow, standIns := [], harness := (true, "70225ab19d96609d309255d240d361a89b9143b347fc5e14dc9f63adb890d4d6"), looks := true }, kinds := [], alts := [], laidByText := true, laidKinds := [.data], laidTests := true, laidLooks := .later }
def ScanPiecesCardSaid : Prop := Claim7.holds Tryd.pinned (.plain (OpenSpec.ofChange scanPiecesSpec)) scanPiecesCard

/-- THE TIED CARD OF 'galliardlaw04.ScanBad'. -/
def scanBadCard : Claim7 := { stood := { row := scanBadRow, standIns := [], harness := (true, "70225ab19d96609d309255d240d361a89b9143b347fc5e14dc9f63adb890d4d6"), looks := true }, kinds := [], alts := [], laidByText := true, laidKinds := [.data], laidTests := true, laidLooks := .later }
def ScanBadCardSaid : Prop := Claim7.holds Tryd.pinned (.plain (OpenSpec.ofChange scanBadSpec)) scanBadCard

/-- THE TIED CARD OF 'galliardlaw04.ScanAny'. -/
def scanAnyCard : Claim7 := { stood := { row := scanAnyRow, standIns := [], harness := (true, "70225ab19d96609d309255d240d361a89b9143b347fc5e14dc9f63adb890d4d6"), looks := true }, kinds := [], alts := [], laidByText := true, laidKinds := [.data], laidTests := true, laidLooks := .later }
def ScanAnyCardSaid : Prop := Claim7.holds Tryd.pinned (.plain (OpenSpec.ofChange scanAnySpec)) scanAnyCard

/-- THE TIED CARD OF 'galliardlaw06.TreeBad'. -/
def treeBadCard : Claim7 := { stood := { row := treeBadRow, standIns := [], harness := (true, "70225ab19d96609d309255d240d361a89b9143b347fc5e14dc9f63adb890d4d6"), looks := true }, kinds := [], alts := [], laidByText := true, laidKinds := [.data], laidTests := true, laidLooks := .later }
def TreeBadCardSaid : Prop := Claim7.holds Tryd.pinned (.plain (OpenSpec.ofChange treeBadSpec)) treeBadCard

/-- THE TIED CARD OF 'galliardlaw06.TreeAny'. -/
def treeAnyCard : Claim7 := { stood := { row := treeAnyRow, standIns := [], harness := (true, "70225ab19d96609d309255d240d361a89b9143b347fc5e14dc9f63adb890d4d6"), looks := true }, kinds := [], alts := [], laidByText := true, laidKinds := [.data], laidTests := true, laidLooks := .later }
def TreeAnyCardSaid : Prop := Claim7.holds Tryd.pinned (.plain (OpenSpec.ofChange treeAnySpec)) treeAnyCard

/-- THE TIED CARD OF 'galliardlaw06.TreeMost'. -/
def treeMostCard : Claim7 := { stood := { row := treeMostRow, standIns := [], harness := (true, "70225ab19d96609d309255d240d361a89b9143b347fc5e14dc9f63adb890d4d6"), looks := true }, kinds := [], alts := [], laidByText := true, laidKinds := [.data], laidTests := true, laidLooks := .later }
def TreeMostCardSaid : Prop := Claim7.holds Tryd.pinned (.plain (OpenSpec.ofChange treeMostSpec)) treeMostCard

/-- THE TIED CARD OF 'galliardlaw06.TreeBack'. -/
def treeBackCard : Claim7 := { stood := { row := treeBackRow, standIns := [], harness := (true, "70225ab19d96609d309255d240d361a89b9143b347fc5e14dc9f63adb890d4d6"), looks := true }, kinds := [], alts := [], laidByText := true, laidKinds := [.data], laidTests := true, laidLooks := .later }
def TreeBackCardSaid : Prop := Claim7.holds Tryd.pinned (.plain (OpenSpec.ofChange treeBackSpec)) treeBackCard

/-- THE SECOND FORM's CARD OF 'galliardlaw04.ScanPieces'. -/
def scanPiecesUptoCard : Claim7 := { stood := { row := scanPiecesUptoRow, standIns := [], harness := (true, "70225ab19d96609d309255d240d361a89b9143b347fc5e14dc9f63adb890d4d6"), looks := true }, kinds := [], alts := [], laidByText := true, laidKinds := [.data], laidTests := true, laidLooks := .later }
def ScanPiecesUptoCardSaid : Prop := Claim7.holds Tryd.pinned (.plain (OpenSpec.upto scanPiecesSpec)) scanPiecesUptoCard

/-- THE SECOND FORM's CARD OF 'galliardlaw04.ScanBad'. -/
def scanBadUptoCard : Claim7 := { stood := { row := scanBadUptoRow, standIns := [], harness := (true, "70225ab19d96609d309255d240d361a89b9143b347fc5e14dc9f63adb890d4d6"), looks := true }, kinds := [], alts := [], laidByText := true, laidKinds := [.data], laidTests := true, laidLooks := .later }
def ScanBadUptoCardSaid : Prop := Claim7.holds Tryd.pinned (.plain (OpenSpec.upto scanBadSpec)) scanBadUptoCard

/-- THE SECOND FORM's CARD OF 'galliardlaw04.ScanAny'. -/
def scanAnyUptoCard : Claim7 := { stood := { row := scanAnyUptoRow, standIns := [], harness := (true, "70225ab19d96609d309255d240d361a89b9143b347fc5e14dc9f63adb890d4d6"), looks := true }, kinds := [], alts := [], laidByText := true, laidKinds := [.data], laidTests := true, laidLooks := .later }
def ScanAnyUptoCardSaid : Prop := Claim7.holds Tryd.pinned (.plain (OpenSpec.upto scanAnySpec)) scanAnyUptoCard

/-- THE SECOND FORM's CARD OF 'galliardlaw06.TreeBad'. -/
def treeBadUptoCard : Claim7 := { stood := { row := treeBadUptoRow, standIns := [], harness := (true, "70225ab19d96609d309255d240d361a89b9143b347fc5e14dc9f63adb890d4d6"), looks := true }, kinds := [], alts := [], laidByText := true, laidKinds := [.data], laidTests := true, laidLooks := .later }
def TreeBadUptoCardSaid : Prop := Claim7.holds Tryd.pinned (.plain (OpenSpec.upto treeBadSpec)) treeBadUptoCard

/-- THE SECOND FORM's CARD OF 'galliardlaw06.TreeAny'. -/
def treeAnyUptoCard : Claim7 := { stood := { row := treeAnyUptoRow, standIns := [], harness := (true, "70225ab19d96609d309255d240d361a89b9143b347fc5e14dc9f63adb890d4d6"), looks := true }, kinds := [], alts := [], laidByText := true, laidKinds := [.data], laidTests := true, laidLooks := .later }
def TreeAnyUptoCardSaid : Prop := Claim7.holds Tryd.pinned (.plain (OpenSpec.upto treeAnySpec)) treeAnyUptoCard

/-- THE SECOND FORM's CARD OF 'galliardlaw06.TreeMost'. -/
def treeMostUptoCard : Claim7 := { stood := { row := treeMostUptoRow, standIns := [], harness := (true, "70225ab19d96609d309255d240d361a89b9143b347fc5e14dc9f63adb890d4d6"), looks := true }, kinds := [], alts := [], laidByText := true, laidKinds := [.data], laidTests := true, laidLooks := .later }
def TreeMostUptoCardSaid : Prop := Claim7.holds Tryd.pinned (.plain (OpenSpec.upto treeMostSpec)) treeMostUptoCard

/-- THE SECOND FORM's CARD OF 'galliardlaw06.TreeBack'. -/
def treeBackUptoCard : Claim7 := { stood := { row := treeBackUptoRow, standIns := [], harness := (true, "70225ab19d96609d309255d240d361a89b9143b347fc5e14dc9f63adb890d4d6"), looks := true }, kinds := [], alts := [], laidByText := true, laidKinds := [.data], laidTests := true, laidLooks := .later }
def TreeBackUptoCardSaid : Prop := Claim7.holds Tryd.pinned (.plain (OpenSpec.upto treeBackSpec)) treeBackUptoCard
end Rows
end Go.Proofs.YtfkdjdmbgednkaaDoor

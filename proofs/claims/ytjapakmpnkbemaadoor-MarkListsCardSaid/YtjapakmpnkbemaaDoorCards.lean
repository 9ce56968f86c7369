/-
  DERIVED. GIVEN WITH THE SEED: THE CARDS: each row of YtjapakmpnkbemaaDoorRows.lean that lists a variable, with what it lists TIED to the program's text (the seventh form; the later family's looks); each row that meets fmt, with fmt's text TOLD by the authors' own Lean function (tested against real Go, not proved from fmt's source: count such statements apart). THE CARD IS WHAT COUNTS. Prove the row's statement (the work); the ties are given (YtjapakmpnkbemaaDoorTie.lean); close each card by the builder's one call (the guide's Derived/Test/ToyasCard.lean, 'card_holds'). Laid BY PROGRAM, IN A SANDBOX (cutbox-door.mjs). By AI agents, Wed Nov 11 2026. No macro, syntax, notation, axiom, sorry.
-/
import Derived.Test.YtjapakmpnkbemaaDoorRows
import GoSem.ClaimSeven
namespace Go.Proofs.YtjapakmpnkbemaaDoor
namespace Rows

/-- THE TIED CARD OF 'galliardlaw15.MarkLists'. -/
def markListsCard : Claim7 := { stood := { row := markListsRow, standIns := [], harness := (true, "d0ea2996a4725a1d9200479fce109669a3890cabee00de7f2e7f4c7c032a4dff"), looks := false }, kinds := [], alts := [], laidByText := true, laidKinds := [.data], laidTests := true, laidLooks := .later }
def MarkListsCardSaid : Prop := Claim7.holds Tryd.pinned (.plain (OpenSpec.ofChange markListsSpec)) markListsCard

/-- THE SECOND FORM's CARD OF 'galliardlaw15.MarkLists'. -/
def markListsUptoCard : Claim7 := { stood := { row := markListsUptoRow, standIns := [], harness := (true, "d0ea2996a4725a1d9200479fce109669a3890cabee00de7f2e7f4c7c032a4dff"), looks := false }, kinds := [], alts := [], laidByText := true, laidKinds := [.data], laidTests := true, laidLooks := .later }
def MarkListsUptoCardSaid : Prop := Claim7.holds Tryd.pinned (.plain (OpenSpec.upto markListsSpec)) markListsUptoCard
end Rows
end Go.Proofs.YtjapakmpnkbemaaDoor

/-
  DERIVED. GIVEN WITH THE SEED: THE CARDS: each row of YtdpkhmfolmcejaaGreatDoorRows.lean that lists a variable, with what it lists TIED to the program's text (the seventh form; the later family's looks); each row that meets fmt, with fmt's text TOLD by the authors' own Lean function (tested against real Go, not proved from fmt's source: count such statements apart). THE CARD IS WHAT COUNTS. Prove the row's statement (the work); the ties are given (YtdpkhmfolmcejaaGreatDoorTie.lean); close each card by the builder's one call (the guide's Derived/Test/ToyasCard.lean, 'card_holds'). Laid BY PROGRAM, IN A SANDBOX (cutbox-door.mjs). By AI agents, Wed Nov 11 2026. No macro, syntax, notation, axiom, sorry.
-/
import Derived.Test.YtdpkhmfolmcejaaGreatDoorRows
import GoSem.ClaimSeven
namespace Go.Proofs.YtdpkhmfolmcejaaGreatDoor
namespace Rows

/-- THE TIED CARD OF 'galliardlaw07.WriteBack'. -/
def writeBackCard : Claim7 := { stood := { row := writeBackRow, standIns := [], harness := (true, "0fcdb620a9a669b1d6a8a411dfefb1d999b861613afac113bee0bbe691d5725a"), looks := true }, kinds := [], alts := [], laidByText := true, laidKinds := [.data], laidTests := true, laidLooks := .later }
def WriteBackCardSaid : Prop := Claim7.holds Tryz.pinned (.plain (OpenSpec.ofChange writeBackSpec)) writeBackCard

/-- THE TIED CARD OF 'galliardlaw07.WriteAny'. -/
def writeAnyCard : Claim7 := { stood := { row := writeAnyRow, standIns := [], harness := (true, "0fcdb620a9a669b1d6a8a411dfefb1d999b861613afac113bee0bbe691d5725a"), looks := true }, kinds := [], alts := [], laidByText := true, laidKinds := [.data], laidTests := true, laidLooks := .later }
def WriteAnyCardSaid : Prop := Claim7.holds Tryz.pinned (.plain (OpenSpec.ofChange writeAnySpec)) writeAnyCard

/-- THE SECOND FORM's CARD OF 'galliardlaw07.WriteBack'. -/
def writeBackUptoCard : Claim7 := { stood := { row := writeBackUptoRow, standIns := [], harness := (true, "0fcdb620a9a669b1d6a8a411dfefb1d999b861613afac113bee0bbe691d5725a"), looks := true }, kinds := [], alts := [], laidByText := true, laidKinds := [.data], laidTests := true, laidLooks := .later }
def WriteBackUptoCardSaid : Prop := Claim7.holds Tryz.pinned (.plain (OpenSpec.upto writeBackSpec)) writeBackUptoCard

/-- THE SECOND FORM's CARD OF 'galliardlaw07.WriteAny'. -/
def writeAnyUptoCard : Claim7 := { stood := { row := writeAnyUptoRow, standIns := [], harness := (true, "0fcdb620a9a669b1d6a8a411dfefb1d999b861613afac113bee0bbe691d5725a"), looks := true }, kinds := [], alts := [], laidByText := true, laidKinds := [.data], laidTests := true, laidLooks := .later }
def WriteAnyUptoCardSaid : Prop := Claim7.holds Tryz.pinned (.plain (OpenSpec.upto writeAnySpec)) writeAnyUptoCard
end Rows
end Go.Proofs.YtdpkhmfolmcejaaGreatDoor

/-
  NARROWER THAN 'FOR EVERY INPUT', by the rows' own cells (each row's printed sentence says how): WriteBack: loops, laid · WriteAny: loops, laid.
  DERIVED. THE GIVEN ROWS OF THIS SEAT. 2 by the template 'for every input the law returns true; each argument reads behind the call as it read before'; 0 by the template 'total and deterministic' (their statements: YtdpkhmfolmcejaaGreatDoorTotals.lean).
  GIVEN WITH THE SEED: the statements are not yours to turn. If you find one false, say at which input.
  Laid BY PROGRAM, IN A SANDBOX (cutbox-rows.mjs): the forced cells as the released guide's own fill.sh prints them over the translation 224d919d90158c7f… (all of the seat's roots in one cut). By AI agents, Wed Nov 11 2026. No macro, syntax, notation, axiom, sorry.
-/
import Derived.Test.YtdpkhmfolmcejaaGreatDoorChecked
import GoSem.Claim
import GoSem.ClaimJoined
import GoSem.ClaimMapViews
import Derived.JoinedTies
import Derived.KernelRfl
namespace Go.Proofs.YtdpkhmfolmcejaaGreatDoor
/- THE CELL 'sum', in the pinned program and in every row, IS THE sha256 OF THE DUMP (.gsa) THAT YtdpkhmfolmcejaaGreatDoorProg.lean LOADS. Nothing in Lean hashes anything: it is a label: what it is worth is what the hold of that sum in a sandbox is worth. -/
noncomputable def Tryz.pinned : Pinned := { name := "ytdpkhmfolmcejaagreatdoor", sum := "224d919d90158c7f9a16566a74b31131ce1ca66e32b5bd04b428c99188ca70e9", checked := Tryz.checked }
namespace Rows
def none {H : Type} : Left H := { results := [], args := [] }

/- WHAT THE LISTED PACKAGE-LEVEL VARIABLES READ AS WHEN THE CALL BEGINS. Each datum BY PROGRAM (the guide's laid-datum.mjs) off the statement by which the dump's own 'gosem.cut.vars' lays the variable. In a bare row this is a premise. The card (YtdpkhmfolmcejaaGreatDoorCards.lean) ties it to the program's text. -/
def laid_galliard_entity_names {H : Type} : DataW H := .agg [.agg [.lit (.string [97, 109, 112]), .lit (.int .i64 38)], .agg [.lit (.string [108, 116]), .lit (.int .i64 60)], .agg [.lit (.string [103, 116]), .lit (.int .i64 62)], .agg [.lit (.string [113, 117, 111, 116]), .lit (.int .i64 34)], .agg [.lit (.string [97, 112, 111, 115]), .lit (.int .i64 39)]]

/-- 'galliardlaw07.WriteBack': WHATEVER THE INPUT: true; the input reads as it did. -/
def writeBackSpec : ChangeSpec := { name := "writeBack", fn := fun _ => fun
  | [d1, d2] => { results := [.lit (.bool true)], args := [d1, d2] }
  | _ => none }
def writeBackRow : OpenClaim := { program := "ytdpkhmfolmcejaagreatdoor", sum := "224d919d90158c7f9a16566a74b31131ce1ca66e32b5bd04b428c99188ca70e9", func := "galliard/galliardlaw07.WriteBack", spec := "writeBack", inPlace := ["internal/abi.NoEscape", "internal/bytealg.MakeNoZero", "internal/bytealg.IndexByteString", "internal/bytealg.IndexString"], unfollowed := true, recurses := true, named := ["internal/bytealg.MaxLen", "galliard/entity.names"], loops := true, apart := false, laid := [("galliard/entity.names", laid_galliard_entity_names)] }
def WriteBackSaid : Prop := writeBackRow.holds Tryz.pinned (OpenSpec.ofChange writeBackSpec)

/-- ITS FALSE NEIGHBOUR: 'it returns false'. Refute it at one input. -/
def writeBackWrong : ChangeSpec := { name := "writeBack", fn := fun _ => fun
  | [d1, d2] => { results := [.lit (.bool false)], args := [d1, d2] }
  | _ => none }
def WriteBackWrongFalsely : Prop := writeBackRow.holds Tryz.pinned (OpenSpec.ofChange writeBackWrong)

/-- 'galliardlaw07.WriteAny': WHATEVER THE INPUT: true; the input reads as it did. -/
def writeAnySpec : ChangeSpec := { name := "writeAny", fn := fun _ => fun
  | [d1, d2, d3] => { results := [.lit (.bool true)], args := [d1, d2, d3] }
  | _ => none }
def writeAnyRow : OpenClaim := { program := "ytdpkhmfolmcejaagreatdoor", sum := "224d919d90158c7f9a16566a74b31131ce1ca66e32b5bd04b428c99188ca70e9", func := "galliard/galliardlaw07.WriteAny", spec := "writeAny", inPlace := ["internal/bytealg.IndexByteString", "internal/bytealg.IndexString", "internal/abi.NoEscape", "internal/bytealg.MakeNoZero"], unfollowed := true, recurses := true, named := ["internal/bytealg.MaxLen", "galliard/entity.names"], loops := true, apart := false, laid := [("galliard/entity.names", laid_galliard_entity_names)] }
def WriteAnySaid : Prop := writeAnyRow.holds Tryz.pinned (OpenSpec.ofChange writeAnySpec)

/-- ITS FALSE NEIGHBOUR: 'it returns false'. Refute it at one input. -/
def writeAnyWrong : ChangeSpec := { name := "writeAny", fn := fun _ => fun
  | [d1, d2, d3] => { results := [.lit (.bool false)], args := [d1, d2, d3] }
  | _ => none }
def WriteAnyWrongFalsely : Prop := writeAnyRow.holds Tryz.pinned (OpenSpec.ofChange writeAnyWrong)

/- THE SECOND FORM. 'bulk': how many values and letters a reading holds, each counted each time it is reached (what is shared counts as often as it is met; a slice's spare places count too). A statement '..UptoSaid' is the law's where the arguments, and the package variables that the reading takes, are together of bulk at most 1048576: NARROWER than '..Said'. Prove '..Said' where nothing that the law and all that it calls make is longer than what came in: it says more and counts as full. Else prove '..UptoSaid'. A law counts once. -/
mutual
def uptoBulk {H : Type} : DataW H → Nat
  | .lit (.string bytes) => bytes.length + 1
  | .lit _ => 1
  | .nil => 1
  | .ptr d => uptoBulk d + 1
  | .slice elems spare => uptoBulkAll elems + uptoBulkAll spare + 1
  | .agg parts => uptoBulkAll parts + 1
  | .iface _ d => uptoBulk d + 1
  | .map entries => uptoBulkEntries entries + 1
  | .held _ => 1
def uptoBulkAll {H : Type} : List (DataW H) → Nat
  | [] => 0
  | d :: r => uptoBulk d + uptoBulkAll r
def uptoBulkEntries {H : Type} : List (Lit × DataW H) → Nat
  | [] => 0
  | x :: r => uptoBulkEntry x + uptoBulkEntries r
def uptoBulkEntry {H : Type} : Lit × DataW H → Nat
  | (.string bytes, d) => bytes.length + uptoBulk d + 1
  | (_, d) => uptoBulk d + 1
 end
def uptoSmall : (H : Type) → List (DataW H) → Bool := fun _ ds => decide (uptoBulkAll ds ≤ 1048576)
def OpenSpec.upto (s : _root_.Go.ChangeSpec) : _root_.Go.OpenSpec := { _root_.Go.OpenSpec.ofChange s with cond := some uptoSmall }

/-- 'galliardlaw07.WriteBack', WHERE WHAT IT READS IS OF BULK AT MOST 1048576: true; the input reads as it did. -/
def writeBackUptoRow : OpenClaim := { program := "ytdpkhmfolmcejaagreatdoor", sum := "224d919d90158c7f9a16566a74b31131ce1ca66e32b5bd04b428c99188ca70e9", func := "galliard/galliardlaw07.WriteBack", spec := "writeBack", inPlace := ["internal/abi.NoEscape", "internal/bytealg.MakeNoZero", "internal/bytealg.IndexByteString", "internal/bytealg.IndexString"], unfollowed := true, recurses := true, named := ["internal/bytealg.MaxLen", "galliard/entity.names"], loops := true, apart := false, laid := [("galliard/entity.names", laid_galliard_entity_names)], narrowed := true }
def WriteBackUptoSaid : Prop := writeBackUptoRow.holds Tryz.pinned (OpenSpec.upto writeBackSpec)

/-- 'galliardlaw07.WriteAny', WHERE WHAT IT READS IS OF BULK AT MOST 1048576: true; the input reads as it did. -/
def writeAnyUptoRow : OpenClaim := { program := "ytdpkhmfolmcejaagreatdoor", sum := "224d919d90158c7f9a16566a74b31131ce1ca66e32b5bd04b428c99188ca70e9", func := "galliard/galliardlaw07.WriteAny", spec := "writeAny", inPlace := ["internal/bytealg.IndexByteString", "internal/bytealg.IndexString", "internal/abi.NoEscape", "internal/bytealg.MakeNoZero"], unfollowed := true, recurses := true, named := ["internal/bytealg.MaxLen", "galliard/entity.names"], loops := true, apart := false, laid := [("galliard/entity.names", laid_galliard_entity_names)], narrowed := true }
def WriteAnyUptoSaid : Prop := writeAnyUptoRow.holds Tryz.pinned (OpenSpec.upto writeAnySpec)

end Rows
end Go.Proofs.YtdpkhmfolmcejaaGreatDoor

/-
  DERIVED. GIVEN WITH THE SEED: THE CARDS: each row of YteehpeajjbkjnaaGreatDoorRows.lean that lists a variable, with what it lists TIED to the program's text (the seventh form; the later family's looks); each row that meets fmt, with fmt's text TOLD by the authors' own Lean function (tested against real Go, not proved from fmt's source: count such statements apart). THE CARD IS WHAT COUNTS. Prove the row's statement (the work); the ties are given (YteehpeajjbkjnaaGreatDoorTie.lean); close each card by the builder's one call (the guide's Derived/Test/ToyasCard.lean, 'card_holds'). Laid BY PROGRAM, IN A SANDBOX (cutbox-door.mjs). By AI agents, Wed Nov 11 2026. No macro, syntax, notation, axiom, sorry.
-/
import Derived.Test.YteehpeajjbkjnaaGreatDoorRows
import GoSem.ClaimSeven
namespace Go.Proofs.YteehpeajjbkjnaaGreatDoor
namespace Rows

/-- THE TIED CARD OF 'lispproverlaw29.ForwardTrue'. -/
def forwardTrueCard : Claim7 := { stood := { row := forwardTrueRow, standIns := [], harness := (true, "1172aa7986709a29e68a3c4b1fe57063addca7aca3f7588cf4c4655975e51210"), looks := true }, kinds := [], alts := [], laidByText := true, laidKinds := [.data, .data, .data, .data, .pinned, .data, .listed, .sentinel, .sentinel, .pinned, .pinned, .pinned, .pinned, .pinned], laidTests := true, laidLooks := .later }
def ForwardTrueCardSaid : Prop := Claim7.holds Tryz.pinned (.plain (OpenSpec.ofChange forwardTrueSpec)) forwardTrueCard

/-- THE SECOND FORM's CARD OF 'lispproverlaw29.ForwardTrue'. -/
def forwardTrueUptoCard : Claim7 := { stood := { row := forwardTrueUptoRow, standIns := [], harness := (true, "1172aa7986709a29e68a3c4b1fe57063addca7aca3f7588cf4c4655975e51210"), looks := true }, kinds := [], alts := [], laidByText := true, laidKinds := [.data, .data, .data, .data, .pinned, .data, .listed, .sentinel, .sentinel, .pinned, .pinned, .pinned, .pinned, .pinned], laidTests := true, laidLooks := .later }
def ForwardTrueUptoCardSaid : Prop := Claim7.holds Tryz.pinned (.plain (OpenSpec.upto forwardTrueSpec)) forwardTrueUptoCard
end Rows
end Go.Proofs.YteehpeajjbkjnaaGreatDoor

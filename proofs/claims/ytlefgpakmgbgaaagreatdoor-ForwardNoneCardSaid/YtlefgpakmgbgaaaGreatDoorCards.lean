/-
  DERIVED. GIVEN WITH THE SEED: THE CARDS: each row of YtlefgpakmgbgaaaGreatDoorRows.lean that lists a variable, with what it lists TIED to the program's text (the seventh form; the later family's looks); each row that meets fmt, with fmt's text TOLD by the authors' own Lean function (tested against real Go, not proved from fmt's source: count such statements apart). THE CARD IS WHAT COUNTS. Prove the row's statement (the work); the ties are given (YtlefgpakmgbgaaaGreatDoorTie.lean); close each card by the builder's one call (the guide's Derived/Test/ToyasCard.lean, 'card_holds'). Laid BY PROGRAM, IN A SANDBOX (cutbox-door.mjs). By AI agents, Wed Nov 11 2026. No macro, syntax, notation, axiom, sorry.
-/
import Derived.Test.YtlefgpakmgbgaaaGreatDoorRows
import GoSem.ClaimSeven
namespace Go.Proofs.YtlefgpakmgbgaaaGreatDoor
namespace Rows

/-- THE TIED CARD OF 'lispproverlaw29.ForwardNone'. -/
def forwardNoneCard : Claim7 := { stood := { row := forwardNoneRow, standIns := [], harness := (true, "a633ccda09acb7f6b50be55ecec549064c2983bff773bdecb22f1d9157850094"), looks := true }, kinds := [], alts := [], laidByText := true, laidKinds := [.data, .data, .data, .data, .pinned, .data, .listed, .sentinel, .sentinel, .pinned, .pinned, .pinned, .pinned, .pinned], laidTests := true, laidLooks := .later }
def ForwardNoneCardSaid : Prop := Claim7.holds Tryz.pinned (.plain (OpenSpec.ofChange forwardNoneSpec)) forwardNoneCard

/-- THE SECOND FORM's CARD OF 'lispproverlaw29.ForwardNone'. -/
def forwardNoneUptoCard : Claim7 := { stood := { row := forwardNoneUptoRow, standIns := [], harness := (true, "a633ccda09acb7f6b50be55ecec549064c2983bff773bdecb22f1d9157850094"), looks := true }, kinds := [], alts := [], laidByText := true, laidKinds := [.data, .data, .data, .data, .pinned, .data, .listed, .sentinel, .sentinel, .pinned, .pinned, .pinned, .pinned, .pinned], laidTests := true, laidLooks := .later }
def ForwardNoneUptoCardSaid : Prop := Claim7.holds Tryz.pinned (.plain (OpenSpec.upto forwardNoneSpec)) forwardNoneUptoCard
end Rows
end Go.Proofs.YtlefgpakmgbgaaaGreatDoor

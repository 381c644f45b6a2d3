/-
  DERIVED. GIVEN WITH THE SEED: THE CARDS: each row of YthiipifjdfmblaaGreatDoorRows.lean that lists a variable, with what it lists TIED to the program's text (the seventh form; the later family's looks); each row that meets fmt, with fmt's text TOLD by the authors' own Lean function (tested against real Go, not proved from fmt's source: count such statements apart). THE CARD IS WHAT COUNTS. Prove the row's statement (the work); the ties are given (YthiipifjdfmblaaGreatDoorTie.lean); close each card by the builder's one call (the guide's Derived/Test/ToyasCard.lean, 'card_holds'). Laid BY PROGRAM, IN A SANDBOX (cutbox-door.mjs). By AI agents, Wed Nov 11 2026. No macro, syntax, notation, axiom, sorry.
-/
import Derived.Test.YthiipifjdfmblaaGreatDoorRows
import GoSem.ClaimSeven
namespace Go.Proofs.YthiipifjdfmblaaGreatDoor
namespace Rows

/-- THE TIED CARD OF 'lispproverlaw30.LinearWeights'. -/
def linearWeightsCard : Claim7 := { stood := { row := linearWeightsRow, standIns := [], harness := (true, "53cbac40deac8c80692f45bacc7af0298eee91a7225c037aa510f72bbd61cb4d"), looks := true }, kinds := [], alts := [], laidByText := true, laidKinds := [.data, .data, .data, .sentinel, .sentinel], laidTests := true, laidLooks := .later }
def LinearWeightsCardSaid : Prop := Claim7.holds Tryz.pinned (.plain (OpenSpec.ofChange linearWeightsSpec)) linearWeightsCard

/-- THE TIED CARD OF 'lispproverlaw30.LinearChains'. -/
def linearChainsCard : Claim7 := { stood := { row := linearChainsRow, standIns := [], harness := (true, "53cbac40deac8c80692f45bacc7af0298eee91a7225c037aa510f72bbd61cb4d"), looks := true }, kinds := [], alts := [], laidByText := true, laidKinds := [.data, .data, .data, .sentinel, .sentinel], laidTests := true, laidLooks := .later }
def LinearChainsCardSaid : Prop := Claim7.holds Tryz.pinned (.plain (OpenSpec.ofChange linearChainsSpec)) linearChainsCard

/-- THE TIED CARD OF 'lispproverlaw30.LinearProducts'. -/
def linearProductsCard : Claim7 := { stood := { row := linearProductsRow, standIns := [], harness := (true, "53cbac40deac8c80692f45bacc7af0298eee91a7225c037aa510f72bbd61cb4d"), looks := true }, kinds := [], alts := [], laidByText := true, laidKinds := [.data, .data, .data, .sentinel, .sentinel], laidTests := true, laidLooks := .later }
def LinearProductsCardSaid : Prop := Claim7.holds Tryz.pinned (.plain (OpenSpec.ofChange linearProductsSpec)) linearProductsCard

/-- THE TIED CARD OF 'lispproverlaw30.LinearPositive'. -/
def linearPositiveCard : Claim7 := { stood := { row := linearPositiveRow, standIns := [], harness := (true, "53cbac40deac8c80692f45bacc7af0298eee91a7225c037aa510f72bbd61cb4d"), looks := true }, kinds := [], alts := [], laidByText := true, laidKinds := [.data, .data, .data, .sentinel, .sentinel], laidTests := true, laidLooks := .later }
def LinearPositiveCardSaid : Prop := Claim7.holds Tryz.pinned (.plain (OpenSpec.ofChange linearPositiveSpec)) linearPositiveCard

/-- THE SECOND FORM's CARD OF 'lispproverlaw30.LinearWeights'. -/
def linearWeightsUptoCard : Claim7 := { stood := { row := linearWeightsUptoRow, standIns := [], harness := (true, "53cbac40deac8c80692f45bacc7af0298eee91a7225c037aa510f72bbd61cb4d"), looks := true }, kinds := [], alts := [], laidByText := true, laidKinds := [.data, .data, .data, .sentinel, .sentinel], laidTests := true, laidLooks := .later }
def LinearWeightsUptoCardSaid : Prop := Claim7.holds Tryz.pinned (.plain (OpenSpec.upto linearWeightsSpec)) linearWeightsUptoCard

/-- THE SECOND FORM's CARD OF 'lispproverlaw30.LinearChains'. -/
def linearChainsUptoCard : Claim7 := { stood := { row := linearChainsUptoRow, standIns := [], harness := (true, "53cbac40deac8c80692f45bacc7af0298eee91a7225c037aa510f72bbd61cb4d"), looks := true }, kinds := [], alts := [], laidByText := true, laidKinds := [.data, .data, .data, .sentinel, .sentinel], laidTests := true, laidLooks := .later }
def LinearChainsUptoCardSaid : Prop := Claim7.holds Tryz.pinned (.plain (OpenSpec.upto linearChainsSpec)) linearChainsUptoCard

/-- THE SECOND FORM's CARD OF 'lispproverlaw30.LinearProducts'. -/
def linearProductsUptoCard : Claim7 := { stood := { row := linearProductsUptoRow, standIns := [], harness := (true, "53cbac40deac8c80692f45bacc7af0298eee91a7225c037aa510f72bbd61cb4d"), looks := true }, kinds := [], alts := [], laidByText := true, laidKinds := [.data, .data, .data, .sentinel, .sentinel], laidTests := true, laidLooks := .later }
def LinearProductsUptoCardSaid : Prop := Claim7.holds Tryz.pinned (.plain (OpenSpec.upto linearProductsSpec)) linearProductsUptoCard

/-- THE SECOND FORM's CARD OF 'lispproverlaw30.LinearPositive'. -/
def linearPositiveUptoCard : Claim7 := { stood := { row := linearPositiveUptoRow, standIns := [], harness := (true, "53cbac40deac8c80692f45bacc7af0298eee91a7225c037aa510f72bbd61cb4d"), looks := true }, kinds := [], alts := [], laidByText := true, laidKinds := [.data, .data, .data, .sentinel, .sentinel], laidTests := true, laidLooks := .later }
def LinearPositiveUptoCardSaid : Prop := Claim7.holds Tryz.pinned (.plain (OpenSpec.upto linearPositiveSpec)) linearPositiveUptoCard
end Rows
end Go.Proofs.YthiipifjdfmblaaGreatDoor

/- The closed facts of the row, and a memory that meets its conditions. -/
import Derived.Test.YtlefgpakmgbgaaaGreatDoorSb
import Derived.Test.YtlefgpakmgbgaaaGreatDoorRows
import Derived.ProofKit
import Derived.Lay
import Derived.PinnedBridge
import Derived.Lib.LaidPrint
import Derived.Lib.LaidU8T
import Derived.MakeChecks
import Derived.OpenShut
import Derived.Stop.Joined
set_option linter.unusedVariables false
set_option linter.unusedSimpArgs false
set_option linter.unusedSectionVars false
namespace Go.Proofs.YtlefgpakmgbgaaaGreatDoor
open Go Go.ChangeShapes Go.WideShapes Go.ChangeAt Go.WideMaps Go.WideElems Go.RowKit Go.Lib Go.Shelf
set_option maxRecDepth 100000
def wArgs : Array Value := #[.slice none 0 0]
noncomputable def WL (os : Os) : World := (World.laidAll Tryz.prog os Rows.forwardNoneRow.laid).forCall (fun _ _ => 0) ⟨#[], wArgs, []⟩
theorem wit3 (os : Os) : Input.okWideB Tryz.prog (WL os) 3 ⟨#[], wArgs, []⟩ = true := by kernel_rfl
theorem wit4 {H : Type} {enc : TypeId × Value → H} (os : Os) : Rows.forwardNoneSpec.preB enc Tryz.prog Tryz.f3 [] false (WL os).memory wArgs 8 = true := by kernel_rfl
theorem wit5 {H : Type} {enc : TypeId × Value → H} (os : Os) : Rows.forwardNoneSpec.sizedB enc Tryz.prog Tryz.f3 false (WL os).memory wArgs 8 = true := by kernel_rfl
theorem plainH : (Rows.forwardNoneRow.laid.all fun x => x.2.handleName?.isNone) = true := by kernel_rfl
theorem wit6 (os : Os) : laidMetH Tryz.prog Rows.forwardNoneRow.laid (WL os).memory := by
  rw [MakeChecks.laidMetH_plain _ _ _ plainH]
  exact laidMet_laidAll _ (by kernel_rfl) (by kernel_rfl)
end Go.Proofs.YtlefgpakmgbgaaaGreatDoor

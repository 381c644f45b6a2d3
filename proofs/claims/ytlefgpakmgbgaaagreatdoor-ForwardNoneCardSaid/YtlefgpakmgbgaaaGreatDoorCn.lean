/- Parts of the proof. -/
import Derived.Test.YtlefgpakmgbgaaaGreatDoorCl
set_option linter.unusedVariables false
set_option linter.unusedSimpArgs false
set_option linter.unusedSectionVars false
set_option maxRecDepth 1000000
namespace Go.Hf
open Go Go.Proofs Go.Proofs.YtlefgpakmgbgaaaGreatDoor
theorem rowV : (Rows.forwardNoneRow.named == Tryz.prog.varsNamed 3) = true := by
  unfold Program.varsNamed
  rw [cl3]
  kernel_rfl
end Go.Hf

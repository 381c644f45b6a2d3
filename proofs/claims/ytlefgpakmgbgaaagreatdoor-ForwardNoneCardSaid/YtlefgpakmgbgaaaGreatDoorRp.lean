/- The world begins with the prelude. -/
import Derived.Test.YtlefgpakmgbgaaaGreatDoorRd
set_option linter.unusedVariables false
set_option linter.unusedSimpArgs false
set_option linter.unusedSectionVars false
set_option maxRecDepth 1000000
namespace Go.Hf
open Go.Proofs
theorem run18 : norm (tab TB 1000 18 [W0] 0 .nil) = .ok (.b true) 0 .nil [] := by kernel_rfl
end Go.Hf

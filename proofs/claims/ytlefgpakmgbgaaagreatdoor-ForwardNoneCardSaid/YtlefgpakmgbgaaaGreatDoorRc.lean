/- Nothing follows in the world of the law, whatever is assumed. -/
import Derived.Test.YtlefgpakmgbgaaaGreatDoorRd
set_option linter.unusedVariables false
set_option linter.unusedSimpArgs false
set_option linter.unusedSectionVars false
set_option maxRecDepth 1000000
namespace Go.Hf
open Go.Proofs
theorem run8 : norm (tab TB 1000 8 [W0, .nl, .tok 1, .tok 2] 0 .nil) = .ok .nl 0 .nil [] := by kernel_rfl
end Go.Hf

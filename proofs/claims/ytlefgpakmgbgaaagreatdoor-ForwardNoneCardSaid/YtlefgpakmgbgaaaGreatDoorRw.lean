/- The world that the law starts with. -/
import Derived.Test.YtlefgpakmgbgaaaGreatDoorVa
import Derived.Test.YtlefgpakmgbgaaaGreatDoorRd
set_option linter.unusedVariables false
set_option linter.unusedSimpArgs false
set_option linter.unusedSectionVars false
set_option maxRecDepth 1000000
namespace Go.Hf
open Go.Proofs
theorem run5 : norm (tab TB 1000 5 [.i .u32 18446744073709551616] 0 .nil) = .ok W0 0 .nil [] := by kernel_rfl
end Go.Hf

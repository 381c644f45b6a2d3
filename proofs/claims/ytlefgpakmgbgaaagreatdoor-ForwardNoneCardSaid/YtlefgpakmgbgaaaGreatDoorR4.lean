/- The sanity check of the law is true. -/
import Derived.Test.YtlefgpakmgbgaaaGreatDoorVa
import Derived.Test.YtlefgpakmgbgaaaGreatDoorRd
set_option linter.unusedVariables false
set_option linter.unusedSimpArgs false
set_option linter.unusedSectionVars false
set_option maxRecDepth 1000000
namespace Go.Hf
open Go.Proofs
theorem run59 : norm (tab TB 1000 5 [.i .u32 18446744073709552128] 0 .nil) = .ok W9 0 .nil [] := by kernel_rfl
noncomputable def TC : DT := ovr 5 (gAns .u32 18446744073709552128 W9 fun _ _ _ _ => .no) TB
theorem TC_ok [Tok] : AllOk G9 Tryz.prog TC :=
  ⟨TB_ok, gAns_ok (by have h := run_RC TB_ok run59; simpa only [List.map_cons, List.map_nil, dec] using h) no_ok, TB_ok⟩
theorem run4 : norm (tab TC 1000 4 [] 0 .nil) = .ok (.b true) 0 .nil [] := by kernel_rfl
end Go.Hf

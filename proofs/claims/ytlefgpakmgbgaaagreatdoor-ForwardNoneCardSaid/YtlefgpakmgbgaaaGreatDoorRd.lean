/- The definitions of the prelude. -/
import Derived.Test.YtlefgpakmgbgaaaGreatDoorVa
import Derived.Test.YtlefgpakmgbgaaaGreatDoorTa
set_option linter.unusedVariables false
set_option linter.unusedSimpArgs false
set_option linter.unusedSectionVars false
section
set_option maxRecDepth 1000000
namespace Go.Hf
open Go.Proofs
theorem run123 : norm (tab T9 1000 123 [] 0 .nil) = .ok D0 0 .nil [] := by kernel_rfl
end Go.Hf
end
section
set_option maxRecDepth 1000000
namespace Go.Hf
open Go.Proofs
theorem run43 : norm (tab T9 1000 43 [] 0 .nil) = .ok D1 0 .nil [] := by kernel_rfl
end Go.Hf
end
section
set_option maxRecDepth 100000
namespace Go.Hf
open Go.Proofs Go.RowKit
noncomputable def ovr (f : Nat) (g : Bd) (T : DT) : DT := .node (f - 1) T (.node f (.leaf f g) T)
noncomputable def TB : DT := ovr 123 (gConst D0) (ovr 43 (gConst D1) T9)
theorem TB_ok [Tok] : AllOk G9 Tryz.prog TB := by
  have h : AllOk G9 Tryz.prog (ovr 43 (gConst D1) T9) := ⟨T9_ok, gConst_ok (run_RC T9_ok run43), T9_ok⟩
  exact ⟨h, gConst_ok (run_RC T9_ok run123), h⟩
end Go.Hf
end

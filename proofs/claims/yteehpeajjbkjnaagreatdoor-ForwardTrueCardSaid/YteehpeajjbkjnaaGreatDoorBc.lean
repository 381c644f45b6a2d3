import Derived.Test.YteehpeajjbkjnaaGreatDoorAw
set_option maxRecDepth 1000000
set_option linter.all false
namespace Go.Hf
section
variable[Tok]
theorem avv:iu (bR bX 300 45 [] 0 .nil) No=true:=by kernel_rfl
end
end Go.Hf

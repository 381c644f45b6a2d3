import Derived.Test.YteehpeajjbkjnaaGreatDoorAw
set_option maxRecDepth 1000000
set_option linter.all false
namespace Go.Hf
section
variable[Tok]
theorem avu:iu (bR (wJ (r7 A3) (r7 oE) zv FW) 300 4 [] 0 .nil) (.U true)=true:=by kernel_rfl
end
end Go.Hf

import Derived.Test.YthiipifjdfmblaaGreatDoorAp
set_option linter.all false
set_option maxRecDepth 1000000
namespace Go.Hf
section
variable[Tok]
theorem aAM:dy (bB bD 300 7 [] 0 .nil) (.a9 true)=true:=by kernel_rfl
end
end Go.Hf

import Derived.Test.YthiipifjdfmblaaGreatDoorBe
set_option linter.all false
set_option maxRecDepth 1000000
namespace Go.Hf
section
variable[Tok]
theorem asR:wA (Dw.take 14)=true:=by kernel_rfl
end
end Go.Hf

import Derived.Test.YthiipifjdfmblaaGreatDoorBe
set_option linter.all false
set_option maxRecDepth 1000000
namespace Go.Hf
section
variable[Tok]
theorem awe:wA ((Dw.drop 14).take 5)=true:=by kernel_rfl
end
end Go.Hf

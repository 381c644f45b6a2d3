import Derived.Test.YthiipifjdfmblaaGreatDoorBe
set_option linter.all false
set_option maxRecDepth 1000000
namespace Go.Hf
section
variable[Tok]
theorem ahO:wA (((Dw.drop 14).drop 5).take 4)=true:=by kernel_rfl
end
end Go.Hf

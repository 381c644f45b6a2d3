import Derived.Test.YthiipifjdfmblaaGreatDoorBf
set_option linter.all false
set_option maxRecDepth 1000000
namespace Go.Hf
section
variable[Tok]
theorem ansb:wA ((Dw.drop 18).take 1)=true:=by kernel_rfl
end
end Go.Hf

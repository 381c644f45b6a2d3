import Derived.Test.YthiipifjdfmblaaGreatDoorBf
set_option linter.all false
set_option maxRecDepth 1000000
namespace Go.Hf
section
variable[Tok]
theorem azu:dy (bB bD 300 69 [] 0 .nil) LQ=true:=by kernel_rfl
end
end Go.Hf

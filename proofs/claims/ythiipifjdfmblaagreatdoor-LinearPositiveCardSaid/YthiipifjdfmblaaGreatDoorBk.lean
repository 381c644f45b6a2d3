import Derived.Test.YthiipifjdfmblaaGreatDoorBf
set_option linter.all false
set_option maxRecDepth 1000000
namespace Go.Hf
section
variable[Tok]
theorem anT:wA ((Dw.drop 0).take 7)=true:=by kernel_rfl
theorem al7:wA ((Dw.drop 7).take 7)=true:=by kernel_rfl
theorem amD:wA ((Dw.drop 14).take 3)=true:=by kernel_rfl
theorem ans:wA ((Dw.drop 17).take 1)=true:=by kernel_rfl
end
end Go.Hf

import Derived.Test.YthiipifjdfmblaaGreatDoorBf
set_option linter.all false
set_option maxRecDepth 1000000
namespace Go.Hf
section
variable[Tok]
theorem anP:wA ((Dw.drop 19).take 2)=true:=by kernel_rfl
theorem alI:wA ((Dw.drop 21).take 2)=true:=by kernel_rfl
theorem alW:wA ((Dw.drop 23).take 2)=true:=by kernel_rfl
theorem an4:wA ((Dw.drop 25).take 2)=true:=by kernel_rfl
theorem akZ:wA (Dw.drop 27)=true:=by kernel_rfl
end
end Go.Hf

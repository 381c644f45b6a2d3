import Derived.Test.YteehpeajjbkjnaaGreatDoorAw
set_option maxRecDepth 1000000
set_option linter.all false
namespace Go.Hf
section
variable[Tok]
theorem auv:oi ((oE.drop 0).take 7)=true:=by kernel_rfl
theorem auw:oi ((oE.drop 7).take 7)=true:=by kernel_rfl
theorem aux:oi ((oE.drop 14).take 3)=true:=by kernel_rfl
theorem auy:oi ((oE.drop 17).take 1)=true:=by kernel_rfl
end
end Go.Hf

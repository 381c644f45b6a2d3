import Derived.Test.YthiipifjdfmblaaGreatDoorAq
set_option maxRecDepth 100000
set_option linter.all false
namespace Go.Hf
open Go.RowKit
section
variable[Tok]
theorem azo(n:Nat):(w2.all λx=>dy (bB bD (n+20) 179 [bA x] 0 .nil) (.a0 [.F (decide (x<0)),fU x.natAbs]))=true:=by kernel_rfl
theorem aym(n:Nat):((List.range 701).all λm=>dy (bB bD (n+20) 180 [.F false,qi m] 0 .nil) (bA (a8 false m))&&dy (bB bD (n+20) 180 [.F true,qi m] 0 .nil) (bA (a8 true m)))=true:=by kernel_rfl
theorem UM(n:Nat):dy (bB bD (n+20) 180 [.F false,.aE] 0 .nil) (bA 0)=true/\dy (bB bD (n+20) 180 [.F true,.aE] 0 .nil) (bA 0)=true:=by exact⟨by kernel_rfl,by kernel_rfl⟩
theorem aru(n:Nat):((List.range 81).all λa=>(List.range 19).all λc=>dy (bB bD (n+20) 223 [fU a,fU c] 0 .nil) (qi (a*c)))=true:=by kernel_rfl
theorem aum(n:Nat):((List.range 701).all λa=>dy (bB bD (n+20) 223 [fU a,fU 1] 0 .nil) (qi (a*1)))=true:=by kernel_rfl
end
end Go.Hf

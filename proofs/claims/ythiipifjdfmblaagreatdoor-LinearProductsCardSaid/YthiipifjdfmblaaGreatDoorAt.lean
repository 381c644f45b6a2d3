import Derived.Test.YthiipifjdfmblaaGreatDoorAq
set_option maxRecDepth 100000
set_option linter.all false
namespace Go.Hf
open Go.RowKit
section
variable[Tok]
theorem az1(n:Nat):(((gC.drop 0).take 26).all λa=>gC.all λc=>dy (bB bD (n+20) 278 [fU a,fU c] 0 .nil) (fU (a+c)))=true:=by kernel_rfl
theorem ass(n:Nat):(((gC.drop 26).take 26).all λa=>gC.all λc=>dy (bB bD (n+20) 278 [fU a,fU c] 0 .nil) (fU (a+c)))=true:=by kernel_rfl
theorem ava(n:Nat):(((gC.drop 52).take 26).all λa=>gC.all λc=>dy (bB bD (n+20) 278 [fU a,fU c] 0 .nil) (fU (a+c)))=true:=by kernel_rfl
theorem apV(n:Nat):(((gC.drop 78).take 26).all λa=>gC.all λc=>dy (bB bD (n+20) 278 [fU a,fU c] 0 .nil) (fU (a+c)))=true:=by kernel_rfl
theorem aj4(n:Nat):(((gC.drop 104).take 26).all λa=>gC.all λc=>dy (bB bD (n+20) 278 [fU a,fU c] 0 .nil) (fU (a+c)))=true:=by kernel_rfl
end
end Go.Hf

import Derived.Test.YthiipifjdfmblaaGreatDoorAq
set_option maxRecDepth 100000
set_option linter.all false
namespace Go.Hf
open Go.RowKit
section
variable[Tok]
theorem apF(n:Nat):(((gC.drop 0).take 26).all λa=>gC.all λc=>dy (bB bD (n+20) 276 [fU a,fU c] 0 .nil) (ao (e4 a c)))=true:=by kernel_rfl
theorem ayd(n:Nat):(((gC.drop 26).take 26).all λa=>gC.all λc=>dy (bB bD (n+20) 276 [fU a,fU c] 0 .nil) (ao (e4 a c)))=true:=by kernel_rfl
theorem at4(n:Nat):(((gC.drop 52).take 26).all λa=>gC.all λc=>dy (bB bD (n+20) 276 [fU a,fU c] 0 .nil) (ao (e4 a c)))=true:=by kernel_rfl
theorem agq(n:Nat):(((gC.drop 78).take 26).all λa=>gC.all λc=>dy (bB bD (n+20) 276 [fU a,fU c] 0 .nil) (ao (e4 a c)))=true:=by kernel_rfl
theorem asx(n:Nat):(((gC.drop 104).take 26).all λa=>gC.all λc=>dy (bB bD (n+20) 276 [fU a,fU c] 0 .nil) (ao (e4 a c)))=true:=by kernel_rfl
theorem axt(n:Nat):(((gC.drop 0).take 26).all λa=>gC.all λc=>bif Nat.ble c a then dy (bB bD (n+20) 277 [fU a,fU c] 0 .nil) (rc a c) else true)=true:=by kernel_rfl
theorem af5(n:Nat):(((gC.drop 26).take 26).all λa=>gC.all λc=>bif Nat.ble c a then dy (bB bD (n+20) 277 [fU a,fU c] 0 .nil) (rc a c) else true)=true:=by kernel_rfl
theorem aDG(n:Nat):(((gC.drop 52).take 26).all λa=>gC.all λc=>bif Nat.ble c a then dy (bB bD (n+20) 277 [fU a,fU c] 0 .nil) (rc a c) else true)=true:=by kernel_rfl
theorem aBw(n:Nat):(((gC.drop 78).take 26).all λa=>gC.all λc=>bif Nat.ble c a then dy (bB bD (n+20) 277 [fU a,fU c] 0 .nil) (rc a c) else true)=true:=by kernel_rfl
theorem at6(n:Nat):(((gC.drop 104).take 26).all λa=>gC.all λc=>bif Nat.ble c a then dy (bB bD (n+20) 277 [fU a,fU c] 0 .nil) (rc a c) else true)=true:=by kernel_rfl
end
end Go.Hf

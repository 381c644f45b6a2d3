import Derived.Test.YthiipifjdfmblaaGreatDoorAq
set_option maxRecDepth 100000
set_option linter.all false
namespace Go.Hf
open Go.RowKit
def zH:List Int:=(List.range 1041).map λ(i:Nat)=>((i:Int)-520)
section
variable[Tok]
theorem aoX(n:Nat):(zH.all λx=>dy (bB bD (n+20) 212 [.agg (b5 x 1)] 0 .nil) (.F true))=true:=by kernel_rfl
theorem avQ(n:Nat):(u0.all λx=>dy (bB bD (n+20) 212 [.agg (b5 x.1 x.2)] 0 .nil) (.F true))=true:=by kernel_rfl
theorem avd(n:Nat):(zH.all λx=>dy (bB bD (n+20) 39 [.agg (b5 x 1)] 0 .nil) (.F true))=true:=by kernel_rfl
theorem aB8(n:Nat):(u0.all λx=>dy (bB bD (n+20) 39 [.agg (b5 x.1 x.2)] 0 .nil) (.F true))=true:=by kernel_rfl
theorem at3(n:Nat):(zH.all λx=>dy (bB bD (n+20) 207 [.agg (b5 x 1),.agg (b5 1 1)] 0 .nil) (.F (decide (x=1))))=true:=by kernel_rfl
theorem afc(n:Nat):(u0.all λx=>dy (bB bD (n+20) 207 [.agg (b5 x.1 x.2),.agg (b5 1 1)] 0 .nil) (.F false))=true:=by kernel_rfl
theorem aBZ(n:Nat):(zH.all λx=>dy (bB bD (n+20) 65 [.agg (b5 x 1),.agg (b5 1 1)] 0 .nil) (.F (decide (x=1))))=true:=by kernel_rfl
theorem anN(n:Nat):(u0.all λx=>dy (bB bD (n+20) 65 [.agg (b5 x.1 x.2),.agg (b5 1 1)] 0 .nil) (.F false))=true:=by kernel_rfl
end
end Go.Hf

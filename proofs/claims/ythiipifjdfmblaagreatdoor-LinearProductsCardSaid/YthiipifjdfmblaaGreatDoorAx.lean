import Derived.Test.YthiipifjdfmblaaGreatDoorAq
set_option maxRecDepth 100000
set_option linter.all false
namespace Go.Hf
open Go.RowKit
section
variable[Tok]
def Wn:List Int:=(List.range 1041).map λ(i:Nat)=>((i:Int)-520)
theorem aho(n:Nat):(Wn.all λx=>dy (bB bD (n+20) 170 [bA x,bA 1] 0 .nil) (.a0 [bA x,bA 1]))=true:=by kernel_rfl
end
end Go.Hf

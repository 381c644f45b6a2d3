import Derived.Test.YthiipifjdfmblaaGreatDoorAq
set_option maxRecDepth 100000
set_option linter.all false
namespace Go.Hf
open Go.RowKit
section
variable[Tok]
theorem af1(n:Nat):(Jo.all λx=>dy (bB bD (n+20) 170 [bA x.1,bA x.2] 0 .nil) (.a0 [bA (l0 x.1 x.2),bA (lM x.1 x.2)]))=true:=by kernel_rfl
end
end Go.Hf

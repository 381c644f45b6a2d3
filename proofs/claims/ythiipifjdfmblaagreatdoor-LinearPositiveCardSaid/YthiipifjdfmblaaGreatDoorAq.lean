import Derived.Test.YthiipifjdfmblaaGreatDoorAp
set_option maxRecDepth 100000
set_option linter.all false
namespace Go.Hf
open Go.RowKit
section
variable[Tok]
theorem akD(n:Nat):(w2.all λx=>dy (bB bD (n+20) 316 [bA x] 0 .nil) (.a9 true))=true:=by kernel_rfl
theorem alt(n:Nat):(w2.all λx=>dy (bB bD (n+20) 317 [bA x,mQ,GC] 0 .nil) (.a0 [ao x,.bu .nilIface]))=true:=by kernel_rfl
end
end Go.Hf

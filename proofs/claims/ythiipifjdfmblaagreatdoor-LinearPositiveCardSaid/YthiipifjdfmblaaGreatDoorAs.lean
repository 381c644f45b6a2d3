import Derived.Test.YthiipifjdfmblaaGreatDoorAo
set_option maxRecDepth 100000
set_option linter.all false
namespace Go.Hf
open Go.RowKit
section
variable[Tok]
theorem aCy(n:Nat):((List.range 9).all λi=>(List.range 9).all λj=>dy (bB bD (n+40) 183 [.agg (ec i),.agg (ec j)] 0 .nil) (ao (e4 i j)))=true:=by kernel_rfl
end
end Go.Hf

import Derived.Test.YthiipifjdfmblaaGreatDoorAq
set_option maxRecDepth 100000
set_option linter.all false
namespace Go.Hf
open Go.RowKit
section
variable[Tok]
theorem aCy(n:Nat):((List.range 9).all λi=>(List.range 9).all λj=>dy (bB bD (n+40) 183 [.agg (ec i),.agg (ec j)] 0 .nil) (ao (e4 i j)))=true:=by kernel_rfl
theorem asp(n:Nat):((List.range 9).all λi=>(List.range 9).all λj=>dy (bB bD (n+40) 188 [.agg (ec i),.agg (ec j)] 0 .nil) (ao (e4 i j)))=true:=by kernel_rfl
theorem aBV(n:Nat):((List.range 9).all λi=>dy (bB bD (n+40) 199 [.agg (ec i)] 0 .nil) (.F true))=true:=by kernel_rfl
theorem aAS(n:Nat):((List.range 10).all λi=>(List.range 10).all λj=>dy (bB bD (n+40) 124 [atR i,atR j] 0 .nil) (atR (fW i j)))=true:=by kernel_rfl
end
end Go.Hf

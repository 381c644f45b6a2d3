import Derived.Test.YthiipifjdfmblaaGreatDoorAr
set_option maxRecDepth 100000
set_option linter.all false
namespace Go.Hf
open Go.RowKit
def zH:List Int:=(List.range 1041).map λ(i:Nat)=>((i:Int)-520)
section
variable[Tok]
noncomputable def ag1(n:Nat)(p q:Int):Bool:=dy (bB bD (n+20) 212 [.agg (b5 p q)] 0 .nil) (.a9 true)
theorem aoX(n:Nat):(zH.all λx=>ag1 n x 1)=true:=by kernel_rfl
theorem ahk(n:Nat):((u0.drop 0).take 70).all (λx=>ag1 n x.1 x.2)=true:=by kernel_rfl
theorem ah5(n:Nat):((u0.drop 70).take 70).all (λx=>ag1 n x.1 x.2)=true:=by kernel_rfl
theorem ag7(n:Nat):(u0.drop 140).all (λx=>ag1 n x.1 x.2)=true:=by kernel_rfl
theorem avQ(n:Nat):(u0.all λx=>ag1 n x.1 x.2)=true:=CX (i:=0) (ahk n) (CX (ah5 n) (ag7 n))
theorem at3(n:Nat):(zH.all λx=>dy (bB bD (n+20) 207 [.agg (b5 x 1),.agg (b5 1 1)] 0 .nil) (.a9 (decide (x=1))))=true:=by kernel_rfl
theorem afc(n:Nat):(u0.all λx=>dy (bB bD (n+20) 207 [.agg (b5 x.1 x.2),.agg (b5 1 1)] 0 .nil) (.a9 false))=true:=by kernel_rfl
end
end Go.Hf

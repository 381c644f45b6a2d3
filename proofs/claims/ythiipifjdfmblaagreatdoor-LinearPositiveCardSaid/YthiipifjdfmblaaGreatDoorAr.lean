import Derived.Test.YthiipifjdfmblaaGreatDoorAp
set_option maxRecDepth 100000
set_option linter.all false
namespace Go.Hf
open Go.RowKit
theorem CX{α:Type}{p:α->Bool}{l:List α}{i k:Nat}(h:((l.drop i).take k).all p=true)(g:(l.drop (i+k)).all p=true):(l.drop i).all p=true:=by have e:=List.all_append (xs:=(l.drop i).take k) (ys:=(l.drop i).drop k) (f:=p);rw[Bx,List.drop_drop] at e;exact e.trans (by rw[Hi];exact⟨h,g⟩)
section
variable[Tok]
noncomputable def K4(n:Nat)(x:Int×Int):Bool:=dy (bB bD (n+20) 265 [bA x.1,bA x.2] 0 .nil) (.a0 [bA (l0 x.1 x.2),bA (lM x.1 x.2)])
theorem VI(n:Nat):((Jo.drop 0).take 90).all (K4 n)=true:=by kernel_rfl
theorem afZ(n:Nat):((Jo.drop 90).take 90).all (K4 n)=true:=by kernel_rfl
theorem afC(n:Nat):(Jo.drop 180).all (K4 n)=true:=by kernel_rfl
theorem ahf(n:Nat):Jo.all (K4 n)=true:=CX (i:=0) (VI n) (CX (afZ n) (afC n))
end
end Go.Hf

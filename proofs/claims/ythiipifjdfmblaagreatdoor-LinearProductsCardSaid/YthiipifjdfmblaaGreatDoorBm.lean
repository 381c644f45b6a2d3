import Derived.Test.YthiipifjdfmblaaGreatDoorBa
import Derived.Test.YthiipifjdfmblaaGreatDoorBe
set_option linter.all false
set_option maxRecDepth 1000000
namespace Go.Hf
section
variable[Tok]
noncomputable def Wp(x:an):Bool:=r7 x gq js js false gq gq gq (λ_ _=>true) gq
noncomputable def adP(n:Nat)(a:aw):Bool:= @aw.rec (λ_=>Bool) false (λw ub _ _=>cS (Nat.beq ub 0) (cS (Wp w) ((iu++i1++lS).all λh=>dy (bB bD (n+60) 153 [w,.agg [.s h.1 h.2.1,.s h.2.2.1 h.2.2.2.1]] 0 .nil) (.a0 [ao h.2.2.2.2,.F true])))) a
theorem akF(n:Nat):adP n (bB EQ 300 8 [.V .u32 18446744073709551616] 0 .nil)=true:=by kernel_rfl
end
end Go.Hf

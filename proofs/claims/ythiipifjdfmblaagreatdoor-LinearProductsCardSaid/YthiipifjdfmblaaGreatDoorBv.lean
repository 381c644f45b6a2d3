/- For every input the law LinearProducts returns true, and leaves its argument as it was: the statement LinearProductsCardSaid. Its conditions are those of the given card: the listed package variables hold what the program's text lays. -/
import Derived.Test.YthiipifjdfmblaaGreatDoorBu
import Derived.Test.YthiipifjdfmblaaGreatDoorCards
set_option linter.all false
namespace Go.Proofs.YthiipifjdfmblaaGreatDoor
open Go Go.Hf Go.ChangeShapes Go.WideShapes Go.ChangeAt Go.WideMaps Go.WideElems Go.RowKit
set_option maxRecDepth 100000
theorem plain(f:FuncId)(fn:Func)(b:Tryz.pinned.checked.prog.funcNamed Tryz.f5.name=some f)(c:Tryz.pinned.checked.prog.funcs[f]? =some fn):
 true=Tryz.pinned.checked.prog.looks []/\∀(j:Nat) t,fn.params[j]? =some t->Tryz.pinned.checked.prog.wantsStandIn t=false:=by
 obtain rfl:f=5:=pl ((show Tryz.prog.funcNamed Tryz.f5.name=some 5 by kernel_rfl).symm.trans b)|>.symm;obtain rfl:fn=Tryz.f5:=(pl (Tryz.func5.symm.trans c)).symm;refine⟨by kernel_rfl,λj t a=>?_⟩;rw[Tryz.params5] at a;have d:t∈[22]:=by simpa using Array.mem_of_getElem? a
 have e:([22].all λu=> !Tryz.prog.wantsStandIn u)=true:=by kernel_rfl
 exact(show Tryz.prog.wantsStandIn t=false by simpa using jl.1 e t d)
theorem aDN:Rows.linearProductsRow.wfByText (OpenSpec.ofChange Rows.linearProductsSpec)=true:=by kernel_rfl
theorem alo:Tryz.prog.mainIs=some (true, "53cbac40deac8c80692f45bacc7af0298eee91a7225c037aa510f72bbd61cb4d".toList):=by kernel_rfl
theorem ahr:false=Rows.linearProductsRow.goesBy Tryz.prog:=by kernel_rfl
theorem card:Rows.LinearProductsCardSaid:=
 Claim7.holds_tied_plain_at .later [] _ _ _ _ aAA (λ_ h=>by cases h) aDN (λ_ h=>by cases h) linearProducts_row_tie rfl ⟨rfl,rfl⟩ alo rfl plain ahr
end Go.Proofs.YthiipifjdfmblaaGreatDoor

/- For every input the law LinearPositive returns true, and leaves its arguments as they were: the statement LinearPositiveCardSaid. Its conditions are those of the given card: the listed package variables hold what the program's text lays. -/
import Derived.Test.YthiipifjdfmblaaGreatDoorBq
set_option linter.all false
namespace Go.Proofs.YthiipifjdfmblaaGreatDoor
open Go Go.Hf Go.ChangeShapes Go.WideShapes Go.ChangeAt Go.WideMaps Go.WideElems Go.RowKit
set_option maxRecDepth 100000
theorem plain(f:FuncId)(fn:Func)(b:Tryz.pinned.checked.prog.funcNamed Tryz.f6.name=some f)(c:Tryz.pinned.checked.prog.funcs[f]? =some fn):
 true=Tryz.pinned.checked.prog.looks []/\∀(j:Nat) t,fn.params[j]? =some t->Tryz.pinned.checked.prog.wantsStandIn t=false:=by
 obtain rfl:f=6:=jZ ((show Tryz.prog.funcNamed Tryz.f6.name=some 6 by kernel_rfl).symm.trans b)|>.symm;obtain rfl:fn=Tryz.f6:=(jZ (Tryz.func6.symm.trans c)).symm;refine⟨by kernel_rfl,λj t a=>?_⟩;rw[Tryz.params6] at a;have d:t∈[22,22]:=by simpa using Array.mem_of_getElem? a
 have e:([22,22].all λu=> !Tryz.prog.wantsStandIn u)=true:=by kernel_rfl
 exact(show Tryz.prog.wantsStandIn t=false by simpa using M2.1 e t d)
theorem aDN:Rows.linearPositiveRow.wfByText (OpenSpec.ofChange Rows.linearPositiveSpec)=true:=by kernel_rfl
theorem alo:Tryz.prog.mainIs=some (true, "53cbac40deac8c80692f45bacc7af0298eee91a7225c037aa510f72bbd61cb4d".toList):=by kernel_rfl
theorem ahr:false=Rows.linearPositiveRow.goesBy Tryz.prog:=by kernel_rfl
theorem card:Rows.LinearPositiveCardSaid:=
 Claim7.holds_tied_plain_at .later [] _ _ _ _ aAA (λ_ h=>by cases h) aDN (λ_ h=>by cases h) linearPositive_row_tie rfl ⟨rfl,rfl⟩ alo rfl plain ahr
end Go.Proofs.YthiipifjdfmblaaGreatDoor

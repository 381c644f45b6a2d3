import Derived.Test.YthiipifjdfmblaaGreatDoorAa
import Derived.Test.YthiipifjdfmblaaGreatDoorTie
import Derived.ProofKit
import Derived.LaidMore
import Derived.OpenShut
import Derived.Stop.Joined
set_option linter.all false
namespace Go.Proofs.YthiipifjdfmblaaGreatDoor
open Go Go.Hf Go.ChangeShapes Go.WideShapes Go.ChangeAt Go.WideMaps Go.WideElems Go.RowKit
set_option maxRecDepth 100000
variable{H:Type}
def BJ:Array Value:= #[.slice none 0 0]
noncomputable def AU(os:Os):World:=(World.doorLaid Tryz.prog 65 os).forCall (λ_ _=>0) ⟨#[],BJ,[]⟩
theorem aoY(os:Os):(AU os).variablesRefB Tryz.prog=true:=by kernel_rfl
theorem an8(os:Os):((AU os).heap.toList.drop Tryz.prog.globals.size).take ((begin Tryz.prog (λ_ _=>0) default).world.heap.size-Tryz.prog.globals.size)=(begin Tryz.prog (λ_ _=>0) default).world.heap.toList.drop Tryz.prog.globals.size:=by kernel_rfl
theorem ajn(os:Os):Input.okWideB Tryz.prog (AU os) 5 ⟨#[],BJ,[]⟩=true:=by kernel_rfl
theorem aCK{enc:TypeId×Value->H}(os:Os):Rows.linearProductsSpec.preB enc Tryz.prog Tryz.f5 [] false (AU os).memory BJ 8=true:=by kernel_rfl
theorem ah8{enc:TypeId×Value->H}(os:Os):Rows.linearProductsSpec.sizedB enc Tryz.prog Tryz.f5 false (AU os).memory BJ 8=true:=by kernel_rfl
theorem ak1(os:Os):laidMetH Tryz.prog Rows.linearProductsRow.laid (AU os).memory:=
 laidMetH_of_parts3 (fuel:=8) (laidMet_of_run' 8 (by kernel_rfl) (by kernel_rfl)) (by kernel_rfl) (by kernel_rfl)
end Go.Proofs.YthiipifjdfmblaaGreatDoor
namespace Go.Proofs.YthiipifjdfmblaaGreatDoor
open Go Go.Hf
set_option maxRecDepth 100000
theorem aqX:(Rows.linearProductsRow.inPlace==Tryz.prog.inPlace 5)=true:=by kernel_rfl
theorem avE:(Rows.linearProductsRow.unfollowed==Tryz.prog.unfollowed 5)=true:=by kernel_rfl
theorem aq8:(Rows.linearProductsRow.recurses==Tryz.prog.recurses 5)=true:=by kernel_rfl
theorem anu:(Rows.linearProductsRow.named==Tryz.prog.varsNamed 5)=true:=by kernel_rfl
theorem ave:laidOutB Tryz.prog=true:=by kernel_rfl
theorem auJ:Tryz.prog.stopsHeard=true:=by kernel_rfl
theorem aCN:joinedFacts Tryz.prog 5 Tryz.f5 Rows.linearProductsSpec Rows.linearProductsRow=true:=by
 unfold joinedFacts;simp only[cg]
 repeat' apply And.intro
 all_goals first
  |with_reducible exact aqX
  |with_reducible exact avE
  |with_reducible exact aq8
  |with_reducible exact anu
  |with_reducible exact ave
  |with_reducible exact auJ
  |kernel_rfl
end Go.Proofs.YthiipifjdfmblaaGreatDoor

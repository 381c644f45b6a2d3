import Derived.Test.YthiipifjdfmblaaGreatDoorAa
import Derived.Test.YthiipifjdfmblaaGreatDoorTie
import Derived.ProofKit
import Derived.LaidMore
import Derived.OpenShut
set_option linter.all false
namespace Go.Proofs.YthiipifjdfmblaaGreatDoor
open Go Go.Hf Go.ChangeShapes Go.WideShapes Go.ChangeAt Go.WideMaps Go.WideElems Go.RowKit
set_option maxRecDepth 100000
variable{H:Type}
def BJ:Array Value:= #[.slice none 0 0,.slice none 0 0]
noncomputable def AU(os:Os):World:=(World.doorLaid Tryz.prog 65 os).forCall (λ_ _=>0) ⟨#[],BJ,[]⟩
theorem aoY(os:Os):(AU os).variablesRefB Tryz.prog=true:=by kernel_rfl
theorem an8(os:Os):((AU os).heap.toList.drop Tryz.prog.globals.size).take ((begin Tryz.prog (λ_ _=>0) default).world.heap.size-Tryz.prog.globals.size)=(begin Tryz.prog (λ_ _=>0) default).world.heap.toList.drop Tryz.prog.globals.size:=by kernel_rfl
theorem ajn(os:Os):Input.okWideB Tryz.prog (AU os) 6 ⟨#[],BJ,[]⟩=true:=by kernel_rfl
theorem aCK{enc:TypeId×Value->H}(os:Os):Rows.linearPositiveSpec.preB enc Tryz.prog Tryz.f6 [] false (AU os).memory BJ 8=true:=by kernel_rfl
theorem ah8{enc:TypeId×Value->H}(os:Os):Rows.linearPositiveSpec.sizedB enc Tryz.prog Tryz.f6 false (AU os).memory BJ 8=true:=by kernel_rfl
theorem ak1(os:Os):laidMetH Tryz.prog Rows.linearPositiveRow.laid (AU os).memory:=
 laidMetH_of_parts3 (fuel:=8) (laidMet_of_run' 8 (by kernel_rfl) (by kernel_rfl)) (by kernel_rfl) (by kernel_rfl)
end Go.Proofs.YthiipifjdfmblaaGreatDoor
namespace Go.Proofs.YthiipifjdfmblaaGreatDoor
open Go Go.Hf
set_option maxRecDepth 100000
theorem aqX:(Rows.linearPositiveRow.inPlace==Tryz.prog.inPlace 6)=true:=by kernel_rfl
theorem avE:(Rows.linearPositiveRow.unfollowed==Tryz.prog.unfollowed 6)=true:=by kernel_rfl
theorem aq8:(Rows.linearPositiveRow.recurses==Tryz.prog.recurses 6)=true:=by kernel_rfl
theorem anu:(Rows.linearPositiveRow.named==Tryz.prog.varsNamed 6)=true:=by kernel_rfl
theorem ave:laidOutB Tryz.prog=true:=by kernel_rfl
theorem auJ:Tryz.prog.stopsHeard=true:=by kernel_rfl
theorem aCN:joinedFacts Tryz.prog 6 Tryz.f6 Rows.linearPositiveSpec Rows.linearPositiveRow=true:=by
 unfold joinedFacts;simp only[Hi]
 repeat' apply And.intro
 all_goals first
  |with_reducible exact aqX
  |with_reducible exact avE
  |with_reducible exact aq8
  |with_reducible exact anu
  |with_reducible exact ave
  |with_reducible exact auJ
  |kernel_rfl
end Go.Proofs.YthiipifjdfmblaaGreatDoor

import Derived.Test.YteehpeajjbkjnaaGreatDoorBi
import Derived.Test.YteehpeajjbkjnaaGreatDoorRows
import Derived.ProofKit
import Derived.Lay
import Derived.PinnedBridge
import Derived.Lib.LaidPrint
import Derived.Lib.LaidU8T
import Derived.MakeChecks
import Derived.OpenShut
import Derived.Stop.Joined
set_option linter.all false
noncomputable section
namespace Go.Proofs.YteehpeajjbkjnaaGreatDoor
open Go Go.ChangeShapes Go.WideShapes Go.ChangeAt Go.WideMaps Go.WideElems Go.RowKit Go.Lib Go.Shelf
set_option maxRecDepth 100000
variable{H:Type}
def H6:Array Value:= #[.int .u32 0,.slice none 0 0,.slice none 0 0]
def y2(os:Os):World:=(World.laidAll Tryz.prog os Rows.forwardTrueRow.laid).forCall (λ_ _=>0) ⟨#[],H6,[]⟩
theorem axA(os:Os):Input.okWideB Tryz.prog (y2 os) 3 ⟨#[],H6,[]⟩=true:=by kernel_rfl
theorem axB{enc:TypeId×Value->H}(os:Os):Rows.forwardTrueSpec.preB enc Tryz.prog Tryz.f3 [] false (y2 os).memory H6 8=true:=by kernel_rfl
theorem axC{enc:TypeId×Value->H}(os:Os):Rows.forwardTrueSpec.sizedB enc Tryz.prog Tryz.f3 false (y2 os).memory H6 8=true:=by kernel_rfl
theorem acY:(Rows.forwardTrueRow.laid.all λx=>x.2.handleName?.isNone)=true:=by kernel_rfl
theorem axD(os:Os):laidMetH Tryz.prog Rows.forwardTrueRow.laid (y2 os).memory:=by rw[MakeChecks.laidMetH_plain _ _ _ acY];exact laidMet_laidAll _ (by kernel_rfl) (by kernel_rfl)
end Go.Proofs.YteehpeajjbkjnaaGreatDoor

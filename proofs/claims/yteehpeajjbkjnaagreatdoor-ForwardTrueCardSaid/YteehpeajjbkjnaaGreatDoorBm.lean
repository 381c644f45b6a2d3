import Derived.Test.YteehpeajjbkjnaaGreatDoorBk
set_option maxRecDepth 1000000
set_option linter.all false
namespace Go.Hf
open Go Go.Proofs Go.Proofs.YteehpeajjbkjnaaGreatDoor
theorem avo:(Rows.forwardTrueRow.named==Tryz.prog.varsNamed 3)=true:=by unfold Program.varsNamed;rw[Gf];kernel_rfl
end Go.Hf

import Derived.Test.YteehpeajjbkjnaaGreatDoorBp
set_option linter.all false
namespace Go.Proofs.YteehpeajjbkjnaaGreatDoor
open Go
set_option maxRecDepth 100000
theorem axy(os:Os):(y2 os).variablesZipB Tryz.prog=true:=by kernel_rfl
theorem axz(os:Os):((y2 os).heap.toList.drop Tryz.prog.globals.size).take ((begin Tryz.prog (λ_ _=>0) default).world.heap.size-Tryz.prog.globals.size)=(begin Tryz.prog (λ_ _=>0) default).world.heap.toList.drop Tryz.prog.globals.size:=by kernel_rfl
theorem avR(os:Os):(y2 os).Shaped Tryz.prog:=World.shaped_of_ZipB (axy os) (axz os)
theorem axx(os:Os):(World.laidAll Tryz.prog os Rows.forwardTrueRow.laid).os=os:=World.laidAll_os _ _ _
end Go.Proofs.YteehpeajjbkjnaaGreatDoor

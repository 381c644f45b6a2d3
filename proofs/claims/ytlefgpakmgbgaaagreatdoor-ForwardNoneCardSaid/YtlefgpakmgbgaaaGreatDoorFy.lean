/- The memory that meets the row's conditions has the program's form. -/
import Derived.Test.YtlefgpakmgbgaaaGreatDoorFx
set_option linter.unusedVariables false
set_option linter.unusedSimpArgs false
set_option linter.unusedSectionVars false
namespace Go.Proofs.YtlefgpakmgbgaaaGreatDoor
open Go
set_option maxRecDepth 100000
theorem wit1 (os : Os) : (WL os).variablesZipB Tryz.prog = true := by kernel_rfl
theorem wit2 (os : Os) : ((WL os).heap.toList.drop Tryz.prog.globals.size).take ((begin Tryz.prog (fun _ _ => 0) default).world.heap.size - Tryz.prog.globals.size) = (begin Tryz.prog (fun _ _ => 0) default).world.heap.toList.drop Tryz.prog.globals.size := by kernel_rfl
theorem shaped (os : Os) : (WL os).Shaped Tryz.prog := World.shaped_of_ZipB (wit1 os) (wit2 os)
theorem wit0 (os : Os) : (World.laidAll Tryz.prog os Rows.forwardNoneRow.laid).os = os := World.laidAll_os _ _ _
end Go.Proofs.YtlefgpakmgbgaaaGreatDoor

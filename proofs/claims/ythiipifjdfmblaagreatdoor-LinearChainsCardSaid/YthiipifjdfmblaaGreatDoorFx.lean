/- Part of the proof that for every input the law LinearChains returns true: the closed facts on the memory that the program's start-up lays. -/
import Derived.Test.YthiipifjdfmblaaGreatDoorTie
import Derived.ProofKit
import Derived.LaidMore
import Derived.OpenShut
import Derived.Stop.Joined
set_option linter.unusedVariables false
set_option linter.unusedSimpArgs false
namespace Go.Proofs.YthiipifjdfmblaaGreatDoor
open Go Go.ChangeShapes Go.WideShapes Go.ChangeAt Go.WideMaps Go.WideElems Go.RowKit

set_option maxRecDepth 100000

/-- Arguments that the condition admits. -/
def wArgs : Array Value := #[.int .u8 0, .slice none 0 0, .int .i8 0]
/-- The memory behind the start-up. -/
noncomputable def W0 (os : Os) : World := (World.doorLaid Tryz.prog 65 os).forCall (fun _ _ => 0) ⟨#[], wArgs, []⟩

theorem wit1 (os : Os) : (W0 os).variablesRefB Tryz.prog = true := by kernel_rfl
theorem wit2 (os : Os) : ((W0 os).heap.toList.drop Tryz.prog.globals.size).take ((begin Tryz.prog (fun _ _ => 0) default).world.heap.size - Tryz.prog.globals.size) = (begin Tryz.prog (fun _ _ => 0) default).world.heap.toList.drop Tryz.prog.globals.size := by kernel_rfl
theorem wit3 (os : Os) : Input.okWideB Tryz.prog (W0 os) 4 ⟨#[], wArgs, []⟩ = true := by kernel_rfl
theorem wit4 {H : Type} {enc : TypeId × Value → H} (os : Os) : Rows.linearChainsSpec.preB enc Tryz.prog Tryz.f4 [] false (W0 os).memory wArgs 8 = true := by kernel_rfl
theorem wit5 {H : Type} {enc : TypeId × Value → H} (os : Os) : Rows.linearChainsSpec.sizedB enc Tryz.prog Tryz.f4 false (W0 os).memory wArgs 8 = true := by kernel_rfl

/-- The start-up code lays the listed variables. -/
theorem wit6 (os : Os) : laidMetH Tryz.prog Rows.linearChainsRow.laid (W0 os).memory :=
  laidMetH_of_parts3 (fuel := 8) (laidMet_of_run' 8 (by kernel_rfl) (by kernel_rfl)) (by kernel_rfl) (by kernel_rfl)
end Go.Proofs.YthiipifjdfmblaaGreatDoor
/- Part of the proof that for every input the law LinearChains returns true: the closed facts of the row, each by itself. -/
namespace Go.Proofs.YthiipifjdfmblaaGreatDoor
open Go

set_option maxRecDepth 100000
theorem row1 : (Rows.linearChainsRow.inPlace == Tryz.prog.inPlace 4) = true := by kernel_rfl
theorem row2 : (Rows.linearChainsRow.unfollowed == Tryz.prog.unfollowed 4) = true := by kernel_rfl
theorem row3 : (Rows.linearChainsRow.recurses == Tryz.prog.recurses 4) = true := by kernel_rfl
theorem row4 : (Rows.linearChainsRow.named == Tryz.prog.varsNamed 4) = true := by kernel_rfl
theorem row5 : laidOutB Tryz.prog = true := by kernel_rfl
theorem row6 : Tryz.prog.stopsHeard = true := by kernel_rfl
theorem rowFacts : joinedFacts Tryz.prog 4 Tryz.f4 Rows.linearChainsSpec Rows.linearChainsRow = true := by
  unfold joinedFacts
  simp only [Bool.and_eq_true]
  repeat' apply And.intro
  all_goals first
    | with_reducible exact row1
    | with_reducible exact row2
    | with_reducible exact row3
    | with_reducible exact row4
    | with_reducible exact row5
    | with_reducible exact row6
    | kernel_rfl
end Go.Proofs.YthiipifjdfmblaaGreatDoor

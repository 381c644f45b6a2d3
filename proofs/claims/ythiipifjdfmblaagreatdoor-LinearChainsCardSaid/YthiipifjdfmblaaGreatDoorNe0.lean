/- The reference's integers: sums, by runs, part 0. -/
import Derived.Test.YthiipifjdfmblaaGreatDoorNc
set_option linter.unusedVariables false
set_option linter.unusedSimpArgs false
namespace Go.Proofs.YthiipifjdfmblaaGreatDoor
open Go Go.Pf Go.RowKit
set_option maxRecDepth 100000
theorem addrow0 : (List.range 39).all (fun j => addP (-20) ((j : Int) - 19)) = true := by kernel_rfl
theorem addrow1 : (List.range 39).all (fun j => addP (-19) ((j : Int) - 19)) = true := by kernel_rfl
theorem addrow2 : (List.range 39).all (fun j => addP (-18) ((j : Int) - 19)) = true := by kernel_rfl
theorem addrow3 : (List.range 39).all (fun j => addP (-17) ((j : Int) - 19)) = true := by kernel_rfl
theorem addrow4 : (List.range 39).all (fun j => addP (-16) ((j : Int) - 19)) = true := by kernel_rfl
theorem addrow5 : (List.range 39).all (fun j => addP (-15) ((j : Int) - 19)) = true := by kernel_rfl
theorem addrow6 : (List.range 39).all (fun j => addP (-14) ((j : Int) - 19)) = true := by kernel_rfl
theorem addrow7 : (List.range 39).all (fun j => addP (-13) ((j : Int) - 19)) = true := by kernel_rfl
theorem addrow8 : (List.range 39).all (fun j => addP (-12) ((j : Int) - 19)) = true := by kernel_rfl
theorem addrow9 : (List.range 39).all (fun j => addP (-11) ((j : Int) - 19)) = true := by kernel_rfl
theorem addrow10 : (List.range 39).all (fun j => addP (-10) ((j : Int) - 19)) = true := by kernel_rfl
end Go.Proofs.YthiipifjdfmblaaGreatDoor

/- The reference's integers: sums, by runs, part 1. -/
import Derived.Test.YthiipifjdfmblaaGreatDoorNc
set_option linter.unusedVariables false
set_option linter.unusedSimpArgs false
namespace Go.Proofs.YthiipifjdfmblaaGreatDoor
open Go Go.Pf Go.RowKit
set_option maxRecDepth 100000
theorem addrow11 : (List.range 39).all (fun j => addP (-9) ((j : Int) - 19)) = true := by kernel_rfl
theorem addrow12 : (List.range 39).all (fun j => addP (-8) ((j : Int) - 19)) = true := by kernel_rfl
theorem addrow13 : (List.range 39).all (fun j => addP (-7) ((j : Int) - 19)) = true := by kernel_rfl
theorem addrow14 : (List.range 39).all (fun j => addP (-6) ((j : Int) - 19)) = true := by kernel_rfl
theorem addrow15 : (List.range 39).all (fun j => addP (-5) ((j : Int) - 19)) = true := by kernel_rfl
theorem addrow16 : (List.range 39).all (fun j => addP (-4) ((j : Int) - 19)) = true := by kernel_rfl
theorem addrow17 : (List.range 39).all (fun j => addP (-3) ((j : Int) - 19)) = true := by kernel_rfl
theorem addrow18 : (List.range 39).all (fun j => addP (-2) ((j : Int) - 19)) = true := by kernel_rfl
theorem addrow19 : (List.range 39).all (fun j => addP (-1) ((j : Int) - 19)) = true := by kernel_rfl
theorem addrow20 : (List.range 39).all (fun j => addP 0 ((j : Int) - 19)) = true := by kernel_rfl
end Go.Proofs.YthiipifjdfmblaaGreatDoor

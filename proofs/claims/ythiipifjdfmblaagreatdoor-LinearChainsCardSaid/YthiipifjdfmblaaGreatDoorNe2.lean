/- The reference's integers: sums, by runs, part 2. -/
import Derived.Test.YthiipifjdfmblaaGreatDoorNc
set_option linter.unusedVariables false
set_option linter.unusedSimpArgs false
namespace Go.Proofs.YthiipifjdfmblaaGreatDoor
open Go Go.Pf Go.RowKit
set_option maxRecDepth 100000
theorem addrow21 : (List.range 39).all (fun j => addP 1 ((j : Int) - 19)) = true := by kernel_rfl
theorem addrow22 : (List.range 39).all (fun j => addP 2 ((j : Int) - 19)) = true := by kernel_rfl
theorem addrow23 : (List.range 39).all (fun j => addP 3 ((j : Int) - 19)) = true := by kernel_rfl
theorem addrow24 : (List.range 39).all (fun j => addP 4 ((j : Int) - 19)) = true := by kernel_rfl
theorem addrow25 : (List.range 39).all (fun j => addP 5 ((j : Int) - 19)) = true := by kernel_rfl
theorem addrow26 : (List.range 39).all (fun j => addP 6 ((j : Int) - 19)) = true := by kernel_rfl
theorem addrow27 : (List.range 39).all (fun j => addP 7 ((j : Int) - 19)) = true := by kernel_rfl
theorem addrow28 : (List.range 39).all (fun j => addP 8 ((j : Int) - 19)) = true := by kernel_rfl
theorem addrow29 : (List.range 39).all (fun j => addP 9 ((j : Int) - 19)) = true := by kernel_rfl
theorem addrow30 : (List.range 39).all (fun j => addP 10 ((j : Int) - 19)) = true := by kernel_rfl
end Go.Proofs.YthiipifjdfmblaaGreatDoor

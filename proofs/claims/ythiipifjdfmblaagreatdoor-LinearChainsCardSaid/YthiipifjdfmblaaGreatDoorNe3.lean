/- The reference's integers: sums, by runs, part 3. -/
import Derived.Test.YthiipifjdfmblaaGreatDoorNc
set_option linter.unusedVariables false
set_option linter.unusedSimpArgs false
namespace Go.Proofs.YthiipifjdfmblaaGreatDoor
open Go Go.Pf Go.RowKit
set_option maxRecDepth 100000
theorem addrow31 : (List.range 39).all (fun j => addP 11 ((j : Int) - 19)) = true := by kernel_rfl
theorem addrow32 : (List.range 39).all (fun j => addP 12 ((j : Int) - 19)) = true := by kernel_rfl
theorem addrow33 : (List.range 39).all (fun j => addP 13 ((j : Int) - 19)) = true := by kernel_rfl
theorem addrow34 : (List.range 39).all (fun j => addP 14 ((j : Int) - 19)) = true := by kernel_rfl
theorem addrow35 : (List.range 39).all (fun j => addP 15 ((j : Int) - 19)) = true := by kernel_rfl
theorem addrow36 : (List.range 39).all (fun j => addP 16 ((j : Int) - 19)) = true := by kernel_rfl
theorem addrow37 : (List.range 39).all (fun j => addP 17 ((j : Int) - 19)) = true := by kernel_rfl
theorem addrow38 : (List.range 39).all (fun j => addP 18 ((j : Int) - 19)) = true := by kernel_rfl
theorem addrow39 : (List.range 39).all (fun j => addP 19 ((j : Int) - 19)) = true := by kernel_rfl
theorem addrow40 : (List.range 39).all (fun j => addP 20 ((j : Int) - 19)) = true := by kernel_rfl
end Go.Proofs.YthiipifjdfmblaaGreatDoor

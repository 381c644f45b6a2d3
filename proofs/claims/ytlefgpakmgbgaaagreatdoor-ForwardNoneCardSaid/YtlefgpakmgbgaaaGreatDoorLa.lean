/- Parts of the proof. -/
import Derived.Test.YtlefgpakmgbgaaaGreatDoorSb
import Derived.Test.YtlefgpakmgbgaaaGreatDoorRows
import Derived.Stop.Joined
set_option linter.unusedVariables false
set_option linter.unusedSimpArgs false
set_option linter.unusedSectionVars false
set_option maxRecDepth 100000
namespace Go.Hf
open Go Go.Proofs Go.Proofs.YtlefgpakmgbgaaaGreatDoor
theorem lo0 : ((List.range' 0 50).all (rowFine Tryz.prog)) = true := by kernel_rfl
theorem lo50 : ((List.range' 50 50).all (rowFine Tryz.prog)) = true := by kernel_rfl
theorem lo100 : ((List.range' 100 50).all (rowFine Tryz.prog)) = true := by kernel_rfl
theorem lo150 : ((List.range' 150 50).all (rowFine Tryz.prog)) = true := by kernel_rfl
theorem lo200 : ((List.range' 200 50).all (rowFine Tryz.prog)) = true := by kernel_rfl
theorem lo250 : ((List.range' 250 50).all (rowFine Tryz.prog)) = true := by kernel_rfl
theorem lo300 : ((List.range' 300 50).all (rowFine Tryz.prog)) = true := by kernel_rfl
theorem lo350 : ((List.range' 350 50).all (rowFine Tryz.prog)) = true := by kernel_rfl
theorem lo400 : ((List.range' 400 50).all (rowFine Tryz.prog)) = true := by kernel_rfl
theorem lo450 : ((List.range' 450 50).all (rowFine Tryz.prog)) = true := by kernel_rfl
theorem lo500 : ((List.range' 500 50).all (rowFine Tryz.prog)) = true := by kernel_rfl
theorem lo550 : ((List.range' 550 50).all (rowFine Tryz.prog)) = true := by kernel_rfl
theorem lo600 : ((List.range' 600 43).all (rowFine Tryz.prog)) = true := by kernel_rfl
theorem rsplit (a m n : Nat) (p : Nat → Bool) (h1 : (List.range' a m).all p = true) (h2 : (List.range' (a + m) n).all p = true) : (List.range' a (m + n)).all p = true := by
  rw [← List.range'_append_1, List.all_append, h1, h2]; rfl
theorem loT : Tryz.prog.types.size = 643 := by kernel_rfl
theorem loA : (List.range Tryz.prog.types.size).all (rowFine Tryz.prog) = true := by
  rw [loT, List.range_eq_range']
  exact rsplit 0 50 593 _ lo0 (rsplit 50 50 543 _ lo50 (rsplit 100 50 493 _ lo100 (rsplit 150 50 443 _ lo150 (rsplit 200 50 393 _ lo200 (rsplit 250 50 343 _ lo250 (rsplit 300 50 293 _ lo300 (rsplit 350 50 243 _ lo350 (rsplit 400 50 193 _ lo400 (rsplit 450 50 143 _ lo450 (rsplit 500 50 93 _ lo500 (rsplit 550 50 43 _ lo550 (lo600))))))))))))
theorem loB : Tryz.prog.globals.all (fun g => decide (g.type < Tryz.prog.types.size)) = true := by kernel_rfl
theorem loC : Tryz.prog.funcs.all (fun f => f.params.all fun t => decide (t < Tryz.prog.types.size)) = true := by kernel_rfl
theorem rowL : laidOutB Tryz.prog = true := by
  unfold laidOutB
  rw [loA, loB, loC]; rfl
end Go.Hf

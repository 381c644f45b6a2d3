/- Parts of the proof. -/
import Derived.Test.YtlefgpakmgbgaaaGreatDoorCl
set_option linter.unusedVariables false
set_option linter.unusedSimpArgs false
set_option linter.unusedSectionVars false
set_option maxRecDepth 1000000
namespace Go.Hf
open Go Go.Proofs Go.Proofs.YtlefgpakmgbgaaaGreatDoor
theorem rowU : (Rows.forwardNoneRow.unfollowed == Tryz.prog.unfollowed 3) = true := by
  have h : Tryz.prog.unfollowed 3 = true := by
    unfold Program.unfollowed
    rw [cl3, List.any_eq_true]
    exact ⟨30, by decide, by kernel_rfl⟩
  rw [h]; rfl
theorem rowR : (Rows.forwardNoneRow.recurses == Tryz.prog.recurses 3) = true := by
  have h : Tryz.prog.unfollowed 3 = true := by
    unfold Program.unfollowed
    rw [cl3, List.any_eq_true]
    exact ⟨30, by decide, by kernel_rfl⟩
  unfold Program.recurses
  rw [h]; rfl
theorem rowI : (Rows.forwardNoneRow.inPlace == Tryz.prog.inPlace 3) = true := by
  unfold Program.inPlace
  rw [cl3]
  kernel_rfl
end Go.Hf

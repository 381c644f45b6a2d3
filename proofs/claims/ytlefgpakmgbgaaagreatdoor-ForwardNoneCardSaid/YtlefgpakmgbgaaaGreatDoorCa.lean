/- For every input the law ForwardNone returns true, and leaves its argument as it was: the statement ForwardNoneCardSaid. Its conditions are those of the given card: the listed package variables hold what the program's text lays. -/
import Derived.Test.YtlefgpakmgbgaaaGreatDoorGi
import Derived.Test.YtlefgpakmgbgaaaGreatDoorFy
import Derived.Test.YtlefgpakmgbgaaaGreatDoorGf
import Derived.Test.YtlefgpakmgbgaaaGreatDoorGt
import Derived.Test.YtlefgpakmgbgaaaGreatDoorGo
import Derived.Test.YtlefgpakmgbgaaaGreatDoorCards
set_option linter.unusedVariables false
set_option linter.unusedSimpArgs false
set_option linter.unusedSectionVars false
section
namespace Go.Proofs.YtlefgpakmgbgaaaGreatDoor
open Go Go.ChangeShapes Go.WideShapes Go.ChangeAt Go.WideMaps Go.WideElems Go.RowKit
set_option maxRecDepth 100000
theorem lifted (os : Os) (started : os.Started) (H : Type) (enc : TypeId × Value → H) :
    ReturnsInHanded {} Tryz.checked os 3 .any (fun w args => (Rows.forwardNoneSpec.pre enc Tryz.prog Tryz.f3 [] false w args ∧ laidMetH Tryz.prog Rows.forwardNoneRow.laid w) ∧ sizedMet enc Tryz.prog Tryz.f3 (OpenSpec.ofChange Rows.forwardNoneSpec) false w args)
      (Rows.forwardNoneSpec.post enc Tryz.prog Tryz.f3 false true false false) := by
  refine returnsInHanded_of_change_and (C := Tryz.checked) (X := fun w _ => laidMetH Tryz.prog Rows.forwardNoneRow.laid w) (fun _ _ _ hh h => h.of_heap hh) own started (by as_aux_lemma => kernel_rfl) Tryz.func3
    (ChangeSpec.witness_shaped (enc := enc) (C := Tryz.checked) (os := os) (X := fun w _ => laidMetH Tryz.prog Rows.forwardNoneRow.laid w) false (World.laidAll Tryz.prog os Rows.forwardNoneRow.laid) wArgs 8 (wit0 os)
      (shaped os) (wit3 os) (wit4 os) (wit5 os) (wit6 os)) ?_
  intro W base args ds gs before hval hW _ _ hL _
  exact contract H enc W base args ds gs before hval hW hL
theorem said : Rows.ForwardNoneSaid :=
  OpenClaim.holds_of_wide 3 Tryz.f3 rfl rfl rfl rfl rfl rfl rfl ⟨rfl, rfl, rfl, rfl, rfl⟩ rfl rfl rfl rfl rfl (by as_aux_lemma => kernel_rfl) Tryz.func3 rowFacts
    (of_decide_eq_true (by as_aux_lemma => kernel_rfl)) (by unfold Func.isWrapper; first | (rw [if_pos (by decide +kernel)]; kernel_rfl) | (rw [if_neg (by decide +kernel)]; exact ⟨rfl, rfl⟩))
    (fun os started H enc _ => lifted os started H enc)
end Go.Proofs.YtlefgpakmgbgaaaGreatDoor
end
section
namespace Go.Proofs.YtlefgpakmgbgaaaGreatDoor
open Go Go.ChangeShapes Go.WideShapes Go.ChangeAt Go.WideMaps Go.WideElems Go.RowKit
set_option maxRecDepth 100000
theorem wf0 : Rows.forwardNoneRow.wfByText (OpenSpec.ofChange Rows.forwardNoneSpec) = true := by kernel_rfl
theorem main0 : Tryz.prog.mainIs = some (true, "a633ccda09acb7f6b50be55ecec549064c2983bff773bdecb22f1d9157850094".toList) := by kernel_rfl
theorem card : Rows.ForwardNoneCardSaid :=
  Claim7.holds_tied_plain_at .later [] _ _ _ _ said (fun _ h => by cases h) wf0 (fun _ h => by cases h) forwardNone_row_tie rfl ⟨rfl, rfl⟩ main0 rfl plain0 goes0
end Go.Proofs.YtlefgpakmgbgaaaGreatDoor
#print axioms Go.Proofs.YtlefgpakmgbgaaaGreatDoor.card
end

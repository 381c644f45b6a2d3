/- The facts of the row, together. -/
import Derived.Test.YtlefgpakmgbgaaaGreatDoorCm
import Derived.Test.YtlefgpakmgbgaaaGreatDoorCn
import Derived.Test.YtlefgpakmgbgaaaGreatDoorLa
import Derived.ProofKit
import Derived.Stop.Joined
set_option linter.unusedVariables false
set_option linter.unusedSimpArgs false
set_option linter.unusedSectionVars false
namespace Go.Proofs.YtlefgpakmgbgaaaGreatDoor
open Go Go.Hf
set_option maxRecDepth 100000
theorem ro_wf : Rows.forwardNoneRow.wf (OpenSpec.ofChange Rows.forwardNoneSpec) = true := by kernel_rfl
theorem ro_maps : mapsRowed Tryz.prog = true := by kernel_rfl
theorem ro_rd : Tryz.f3.params.all (Tryz.prog.readableRec ·) = true := by kernel_rfl
theorem ro_nt : namedTie Tryz.prog Rows.forwardNoneRow.named Rows.forwardNoneSpec.vars = true := by kernel_rfl
theorem ro_st : (Tryz.prog.stops == []) = true := by kernel_rfl
theorem ro_sk : (Tryz.prog.stopKnobs == []) = true := by kernel_rfl
theorem ro_m1 : (Rows.forwardNoneRow.maps == (Tryz.f3.params.toList ++ Rows.forwardNoneSpec.plain.varTypes Tryz.prog).any (Tryz.prog.mapsRec ·)) = true := by kernel_rfl
theorem ro_if : (Rows.forwardNoneRow.ifaces == (Tryz.f3.params.toList ++ Rows.forwardNoneSpec.plain.varTypes Tryz.prog).any (Tryz.prog.ifacesRec ·)) = true := by kernel_rfl
theorem ro_mo : (Rows.forwardNoneRow.mapsOut == Tryz.prog.mapsAmong Tryz.f3.resultTypes.toList) = true := by kernel_rfl
theorem ro_lo : (Rows.forwardNoneRow.loops == (Tryz.f3.params.toList ++ Rows.forwardNoneSpec.plain.varTypes Tryz.prog).any (Tryz.prog.loopsFrom ·)) = true := by kernel_rfl
theorem ro_wk : (Rows.forwardNoneRow.wideKeys == (Tryz.f3.params.toList ++ Rows.forwardNoneSpec.plain.varTypes Tryz.prog ++ Tryz.f3.resultTypes.toList).any (Tryz.prog.wideKeysFrom ·)) = true := by kernel_rfl
theorem ro_rt : Tryz.f3.resultTypes.all (fun t => Tryz.prog.readableRec t && decide (t < Tryz.prog.types.size)) = true := by kernel_rfl
theorem ro_io : (Rows.forwardNoneRow.ifacesOut == Tryz.f3.resultTypes.toList.any (Tryz.prog.ifacesRec ·)) = true := by kernel_rfl
theorem ro_lf : (Rows.forwardNoneRow.loopsOut == Tryz.f3.resultTypes.toList.any (Tryz.prog.loopsFrom ·)) = true := by kernel_rfl
theorem ro_pk : (Rows.forwardNoneRow.plainKeys == Tryz.prog.plainKeys) = true := by kernel_rfl
theorem ro_sh : Tryz.prog.stopsHeard = true := by kernel_rfl
theorem ro_me : Tryz.prog.mayEnter = true := by kernel_rfl
theorem ro_li : (Rows.forwardNoneRow.lifted == Tryz.prog.liftsFinal) = true := by kernel_rfl
theorem ro_mk : (Tryz.prog.make == some Rows.forwardNoneRow.make) = true := by kernel_rfl
theorem ro_ki : (Rows.forwardNoneRow.kinds == (if Rows.forwardNoneRow.domain.isEmpty then [] else Tryz.f3.params.toList.map fun t => match Tryz.prog.underlying t with | some (.int k) => some k | _ => none)) = true := by kernel_rfl
theorem ro_pi : (Rows.forwardNoneRow.pinned == Rows.forwardNoneRow.pinnedBy) = true := by kernel_rfl
theorem ro_ve : (Rows.forwardNoneRow.veiled == (Tryz.f3.params.toList ++ Rows.forwardNoneSpec.plain.varTypes Tryz.prog ++ Tryz.f3.resultTypes.toList).any (Tryz.prog.veiledRec ·)) = true := by kernel_rfl
theorem ro_vf : Rows.forwardNoneRow.veiledFits Tryz.prog Tryz.f3.params.toList (Tryz.f3.params.toList ++ Rows.forwardNoneSpec.plain.varTypes Tryz.prog ++ Tryz.f3.resultTypes.toList) = true := by kernel_rfl
theorem rowFacts : joinedFacts Tryz.prog 3 Tryz.f3 Rows.forwardNoneSpec Rows.forwardNoneRow = true := by
  unfold joinedFacts
  simp only [Bool.and_eq_true]
  repeat' apply And.intro
  all_goals first
    | with_reducible exact ro_wf
    | with_reducible exact ro_maps
    | with_reducible exact ro_rd
    | with_reducible exact ro_nt
    | with_reducible exact ro_st
    | with_reducible exact ro_sk
    | with_reducible exact ro_m1
    | with_reducible exact ro_if
    | with_reducible exact ro_mo
    | with_reducible exact ro_lo
    | with_reducible exact ro_wk
    | with_reducible exact ro_rt
    | with_reducible exact ro_io
    | with_reducible exact ro_lf
    | with_reducible exact ro_pk
    | with_reducible exact ro_sh
    | with_reducible exact ro_me
    | with_reducible exact ro_li
    | with_reducible exact ro_mk
    | with_reducible exact ro_ki
    | with_reducible exact ro_pi
    | with_reducible exact ro_ve
    | with_reducible exact ro_vf
    | with_reducible exact rowL
    | with_reducible exact rowI
    | with_reducible exact rowU
    | with_reducible exact rowR
    | with_reducible exact rowV
    | rfl
end Go.Proofs.YtlefgpakmgbgaaaGreatDoor

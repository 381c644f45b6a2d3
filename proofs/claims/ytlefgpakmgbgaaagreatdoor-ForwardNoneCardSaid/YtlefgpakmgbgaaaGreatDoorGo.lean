/- The law starts no goroutine. -/
import Derived.Test.YtlefgpakmgbgaaaGreatDoorCl
import Derived.Test.YtlefgpakmgbgaaaGreatDoorRows
import GoSem.ClaimGoes
import GoSem.ClaimSeven
import Derived.SevenTiedAt
set_option linter.unusedVariables false
set_option linter.unusedSimpArgs false
set_option linter.unusedSectionVars false
section
set_option maxRecDepth 100000
namespace Go.Proofs.YtlefgpakmgbgaaaGreatDoor
open Go Go.Hf
theorem goes1 : (CL.any fun g => (Tryz.prog.funcs[g]?).any Func.goes) = false := by kernel_rfl
theorem goes2 : Tryz.prog.funcs.any Func.goes = false := by kernel_rfl
theorem named3 : Tryz.prog.funcNamed Rows.forwardNoneRow.func = some 3 := by kernel_rfl
end Go.Proofs.YtlefgpakmgbgaaaGreatDoor
end
section
set_option maxRecDepth 100000
namespace Go.Proofs.YtlefgpakmgbgaaaGreatDoor
open Go Go.Hf
theorem looks0 : true = Tryz.prog.looks [] := by kernel_rfl
theorem goes3 : Tryz.prog.goes 3 = false := by
  unfold Program.goes
  rw [cl3, goes1, goes2, Bool.and_false, Bool.or_false]
theorem goes_gen (P : Program) (c : OpenClaim) (f : Nat) (h1 : P.funcNamed c.func = some f) (h2 : c.start = .entering) (h3 : P.goes f = false) : false = c.goesBy P := by
  unfold OpenClaim.goesBy Program.goesAt Program.goesFrom
  rw [h1, h2]
  simp [h3]
theorem goes0 : false = Rows.forwardNoneRow.goesBy Tryz.prog := goes_gen _ _ 3 named3 rfl goes3
theorem plain0 (f : FuncId) (fn : Func) (hf : Tryz.prog.funcNamed Rows.forwardNoneRow.func = some f) (hfn : Tryz.prog.funcs[f]? = some fn) :
    true = Tryz.prog.looks [] ∧ ∀ (j : Nat) t, fn.params[j]? = some t → Tryz.prog.wantsStandIn t = false := by
  obtain rfl : f = 3 := Option.some.inj (named3.symm.trans hf) |>.symm
  obtain rfl : fn = Tryz.f3 := (Option.some.inj (Tryz.func3.symm.trans hfn)).symm
  refine ⟨looks0, fun j t ht => ?_⟩
  rw [Tryz.params3] at ht
  have hm : t ∈ [22] := by simpa using Array.mem_of_getElem? ht
  have hall : ([22].all fun u => !Tryz.prog.wantsStandIn u) = true := by as_aux_lemma => kernel_rfl
  exact (show Tryz.prog.wantsStandIn t = false by simpa using List.all_eq_true.1 hall t hm)
end Go.Proofs.YtlefgpakmgbgaaaGreatDoor
end

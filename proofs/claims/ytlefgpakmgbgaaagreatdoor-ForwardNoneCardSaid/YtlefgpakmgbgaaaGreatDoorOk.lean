/- Helpers for the checks of the functions. -/
import Derived.Test.YtlefgpakmgbgaaaGreatDoorFh
import Derived.Test.YtlefgpakmgbgaaaGreatDoorProg
set_option linter.unusedVariables false
set_option linter.unusedSimpArgs false
set_option linter.unusedSectionVars false
namespace Go.Hf
open Go.Proofs Go.RowKit
theorem mix : Tryz.prog.follows .mixedOrders = true := by kernel_rfl
theorem okk [Tok] {gl : Gl} (d : FnD) {g : Bd} (hf : Tryz.prog.funcs[d.f]? = some d.fn) (hg : g = d.den Tryz.prog) (hb : d.fn.body.isSome = true := by kernel_rfl)
    (hn : (d.fn.name == "runtime.NumGoroutine") = false := by kernel_rfl) (hp : Nat.ble d.np d.fn.ntmps = true := by kernel_rfl) (hr : rvsOf Tryz.prog d.fn.results.toList = some d.rvs := by kernel_rfl) : BodyOk gl Tryz.prog d.f g :=
  body_ok d mix hf hb hn hp hr hg
end Go.Hf

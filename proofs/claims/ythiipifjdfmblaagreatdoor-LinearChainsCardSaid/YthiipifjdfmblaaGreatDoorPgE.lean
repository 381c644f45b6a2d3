/- Pure frames, second part E: tables of compiled functions; contracts from runs. -/
import Derived.Test.YthiipifjdfmblaaGreatDoorPgD
set_option linter.unusedVariables false
set_option linter.unusedSimpArgs false
namespace Go.Pf
open Go.RowKit

def fnOf (P : Program) (H : Hints) (fn : Func) (d : Nat) (own : Bool) (m : Mode) : Option FnR :=
  match fn.body with
  | some b => match rvsOf P fn.results.toList with
    | some rvs => if fn.name == "runtime.NumGoroutine" then none else some ⟨comp P H fn.ntmps b, fn.ntmps, d, rvs, own, m, []⟩
    | none => none
  | none => none

theorem FnOk.of {P : Program} {H : Hints} {fn : Func} {f d : Nat} {own : Bool} {m : Mode} {r : FnR} (hf : P.funcs[f]? = some fn) (h : fnOf P H fn d own m = some r) : FnOk P f r := by
  unfold fnOf at h
  split at h
  · rename_i b hb
    split at h
    · rename_i rvs hr
      split at h
      · cases h
      · rename_i hn
        cases h
        exact ⟨H, fn, b, hf, hb, by simpa using hn, rfl, hr, rfl⟩
    · cases h
  · cases h

/-- Operations without names of objects. -/
def q (d : Nat) (r : ROp) : POper := ⟨some d, none, r, [], []⟩
def qn (r : ROp) : POper := ⟨none, none, r, [], []⟩
def qg (d t : Nat) (b : Bool) (r : ROp) : POper := ⟨some d, some (t, b), r, [], []⟩

/-- Some operations are answered. -/
def FnR.ask (r : FnR) (l : List Nat) : FnR := { r with asks := l }
theorem FnOk.ask {P : Program} {f : Nat} {r : FnR} (h : FnOk P f r) (l : List Nat) : FnOk P f (r.ask l) := h

/-- A table of compiled functions. -/
def ft : List (Nat × FnR) → Nat → Option FnR
  | [], _ => none
  | (g, r) :: l, f => bif Nat.beq g f then some r else ft l f

def TabOk (P : Program) : List (Nat × FnR) → Prop
  | [] => True
  | (f, r) :: l => FnOk P f r ∧ TabOk P l

theorem ft_ok {P : Program} : ∀ {l : List (Nat × FnR)}, TabOk P l → ∀ f r, ft l f = some r → FnOk P f r
  | [], _, f, r, h => by cases h
  | (g, q) :: l, hl, f, r, h => by
    simp only [ft] at h
    cases hb : Nat.beq g f with
    | true =>
      rw [hb] at h
      simp only [cond_true, Option.some.injEq] at h
      have e : g = f := Nat.eq_of_beq_eq_true hb
      subst e; subst h
      exact hl.1
    | false =>
      rw [hb] at h
      simp only [cond_false] at h
      exact ft_ok hl.2 f r h

def notIn (l : List (Nat × FnR)) (f : Nat) : Bool := (ft l f).isNone

/-- The function f's body, run: the calls of functions outside the table are answered off the list. -/
noncomputable def go (l : List (Nat × FnR)) (r : FnR) (m : Mode) (args : List PV) (ans : List (PV × List (List PV))) : Option ((PV × List (List PV)) × List Ob) :=
  match runBodyS (runS (notIn l) (ft l) 100000 60) 100000 r m args ⟨ans, []⟩ with
  | some (x, σ) => some (x, σ.obs)
  | none => none

theorem RC_go {gl : Gl} {P : Program} {l : List (Nat × FnR)} {f : Nat} {r : FnR} {m : Mode} {args : List PV} {res : PV} {out : List (List PV)} {ans : List (PV × List (List PV))} {obs : List Ob} (hmix : P.follows .mixedOrders = true) (hl : TabOk P l) (hr : FnOk P f r)
    (h : go l r m args ans = some ((res, out), obs)) (hA : AllOk gl P obs) : RC gl P f m args res out := by
  unfold go at h
  split at h
  · rename_i x σ hx
    cases h
    exact (runBodyS_ok hmix (runS_ok hmix (ft_ok hl) 60) hr hx).2 hA
  · cases h

/-- The run ends so, and all that was answered is good. -/
def goP (gl : Gl) (P : Program) (l : List (Nat × FnR)) (r : FnR) (m : Mode) (args : List PV) (ans : List (PV × List (List PV))) (x : PV × List (List PV)) : Prop :=
  match go l r m args ans with
  | some (y, obs) => AllOk gl P obs ∧ y = x
  | none => False

theorem RC_goP {gl : Gl} {P : Program} {l : List (Nat × FnR)} {f : Nat} {r : FnR} {m : Mode} {args : List PV} {res : PV} {out : List (List PV)} {ans : List (PV × List (List PV))} (hmix : P.follows .mixedOrders = true) (hl : TabOk P l) (hr : FnOk P f r)
    (h : goP gl P l r m args ans (res, out)) : RC gl P f m args res out := by
  unfold goP at h
  split at h
  · rename_i y obs hg
    obtain ⟨hA, rfl⟩ := h
    exact RC_go hmix hl hr hg hA
  · exact h.elim

def ansOf (l : List PV) : List (PV × List (List PV)) := l.map fun v => (v, [])

/-- The same, in short. -/
theorem RC_run {gl : Gl} {P : Program} {l : List (Nat × FnR)} {f : Nat} {r : FnR} {args : List PV} {res : PV} {A : Prop} (hmix : P.follows .mixedOrders = true) (hl : TabOk P l) (hr : FnOk P f r) (ans : List PV) (hA : A)
    (h : (A ∧ (res, ([] : List (List PV))) = (res, [])) = goP gl P l r .imm args (ansOf ans) (res, [])) : RC gl P f .imm args res [] :=
  RC_goP hmix hl hr (Eq.mp h ⟨hA, rfl⟩)
attribute [irreducible] goP
end Go.Pf

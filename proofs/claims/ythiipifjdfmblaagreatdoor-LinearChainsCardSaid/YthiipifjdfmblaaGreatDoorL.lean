/- The rows of the elimination. Made by a program: each contract comes of a run of the function's body. -/
import Derived.Test.YthiipifjdfmblaaGreatDoorPb
set_option linter.unusedVariables false
set_option linter.unusedSimpArgs false
namespace Go.Proofs.YthiipifjdfmblaaGreatDoor
open Go Go.Pf Go.RowKit
set_option maxRecDepth 100000

/-- The rows of the elimination: the polynomial, whether it is strict, the weights, and which are of inequalities. -/
def rowQ (p : PV) (s : Bool) (w : List Int) : List PV := [p, Bo s, .lst 7 (w.map nO), .lst 1 (w.map fun x => [Bo (x != 0)])]
def rowP (c : Int) (l : List (UInt8 × Int)) (s : Bool) (w : List Int) : List PV := rowQ (.lst 8 (pE c l)) s w
def pC (c : Int) (l : List (UInt8 × Int)) : List (List PV) := (nO c ++ [nils]) :: pV l

theorem rcEq {f : Nat} {args : List PV} {e e' : Int} {l : List (UInt8 × Int)} (h : R f args (.tup [.lst 8 (pE e l), I 0])) (he : e = e') : R f args (.tup [.lst 8 (pE e' l), I 0]) := he ▸ h

theorem co_pn (c : Int) (hc : -40 ≤ c ∧ c ≤ 40) (h : c ≠ 0) : R 117 [.lst 8 (pE c [])] (.tup [N c, Bo true]) := by
  rw [pE_nz h]; exact co_n c hc h
theorem co_pz (c : Int) (h : c = 0) : R 117 [.lst 8 (pE c [])] (.tup [N 0, Bo true]) := by
  subst h; exact co_e

end Go.Proofs.YthiipifjdfmblaaGreatDoor

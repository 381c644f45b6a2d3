/- The contracts on numbers, in short words. -/
import Derived.Test.YthiipifjdfmblaaGreatDoorNf
set_option linter.unusedVariables false
set_option linter.unusedSimpArgs false
namespace Go.Proofs.YthiipifjdfmblaaGreatDoor
open Go Go.Pf Go.RowKit

/-- The contract of a function that writes nothing in place. -/
abbrev R (f : Nat) (args : List PV) (res : PV) : Prop := RC G Tryz.prog f .imm args res []
theorem run {l : List (Nat × FnR)} {f : Nat} {r : FnR} {args : List PV} {res : PV} {A : Prop} (hl : TabOk Tryz.prog l) (hr : FnOk Tryz.prog f r) (ans : List PV) (hA : A)
    (h : (A ∧ (res, ([] : List (List PV))) = (res, [])) = goP G Tryz.prog l r .imm args (ansOf ans) (res, [])) : R f args res := RC_run mix hl hr ans hA h
theorem yo {a b : Prop} (h : a) (k : b) : a ∧ b := ⟨h, k⟩
theorem zo : True := trivial
theorem w37 (n : Int) (h : -40 ≤ n ∧ n ≤ 40) : R 37 [I n] (N n) := rc37 n h
theorem w60 (n : Int) (h : -40 ≤ n ∧ n ≤ 40) : R 60 [I n] (N n) := rc60 n h
theorem w215 (a b c : Int) (h : (-40 ≤ a ∧ a ≤ 40) ∧ (-40 ≤ b ∧ b ≤ 40) ∧ a + b = c) : R 215 [N a, N b] (N c) := rc215 a b c h.1 h.2.1 h.2.2
theorem w177 (a b c : Int) (h : (-20 ≤ a ∧ a ≤ 20) ∧ (-19 ≤ b ∧ b ≤ 19) ∧ a + b = c) : R 177 [N a, N b] (N c) := rc177 a b c h.1 h.2.1 h.2.2
theorem w160 (a b c : Int) (h : (-40 ≤ a ∧ a ≤ 40) ∧ (-40 ≤ b ∧ b ≤ 40) ∧ -40 ≤ c ∧ c ≤ 40) (hc : a * b = c) : R 160 [N a, N b] (N c) := rc160 a b c h.1 h.2.1 hc h.2.2
theorem w109p (n : Int) (h : -40 ≤ n ∧ n ≤ 40) : R 109 [N n, N 1] (N n) := rc109_1 n h
theorem w109m (n c : Int) (h : (-40 ≤ n ∧ n ≤ 40) ∧ -n = c) : R 109 [N n, N (-1)] (N c) := rc109_m n c h.1 h.2
theorem ltn (n : Int) (h : -40 ≤ n ∧ n < 0) : R 159 [N n, N 0] (Bo true) := lt_n n ⟨h.1, by omega⟩ h.2
theorem ltp (n : Int) (h : 0 < n ∧ n ≤ 40) : R 159 [N n, N 0] (Bo false) := lt_p n ⟨by omega, h.2⟩ h.1
theorem gtn (n : Int) (h : -40 ≤ n ∧ n < 0) : R 159 [N 0, N n] (Bo false) := gt_n n ⟨h.1, by omega⟩ h.2
theorem gtp (n : Int) (h : 0 < n ∧ n ≤ 40) : R 159 [N 0, N n] (Bo true) := gt_p n ⟨by omega, h.2⟩ h.1
theorem nau (n : Int) (h : (-40 ≤ n ∧ n ≤ 40) ∧ n ≠ 0) : R 213 [N n] (Bo false) := naught_f n h.1 h.2
theorem isz (n : Int) (h : (-40 ≤ n ∧ n ≤ 40) ∧ n ≠ 0) : R 158 [N n] (Bo false) := isZero_f n h.1 h.2
theorem nne (n : Int) (h : (-40 ≤ n ∧ n ≤ 40) ∧ n ≠ 0) : R 41 [N n] (Bo false) := none_f n h.1 h.2
theorem vd (n : Int) (h : -40 ≤ n ∧ n ≤ 40) : R 212 [N n] (Bo true) := valid_t n h
theorem rvd (n : Int) (h : -40 ≤ n ∧ n ≤ 40) : R 39 [N n] (Bo true) := rvalid_t n h
theorem ngn (n : Int) (h : -40 ≤ n ∧ n < 0) : R 42 [N n] (Bo true) := neg_n n ⟨h.1, by omega⟩ h.2
theorem ngp (n : Int) (h : 0 < n ∧ n ≤ 40) : R 42 [N n] (Bo false) := neg_p n ⟨by omega, h.2⟩ h.1
/-- A list of facts, and what each answers. -/
def K (A : Prop) (_ : List PV) : Prop := A
theorem z : K True [] := trivial
theorem y {f : Nat} {g : List PV} {r : PV} {A : Prop} {l : List PV} (h : R f g r) (k : K A l) : K (R f g r ∧ A) (l ++ [r]) := ⟨h, k⟩
theorem y2 {f0 f1 : Nat} {g0 g1 : List PV} {r0 r1 : PV} {A : Prop} {l : List PV} (h0 : R f0 g0 r0) (h1 : R f1 g1 r1) (k : K A l) : K (R f0 g0 r0 ∧ R f1 g1 r1 ∧ A) (l ++ [r1, r0]) := ⟨h0, h1, k⟩
theorem y4 {f0 f1 f2 f3 : Nat} {g0 g1 g2 g3 : List PV} {r0 r1 r2 r3 : PV} {A : Prop} {l : List PV} (h0 : R f0 g0 r0) (h1 : R f1 g1 r1) (h2 : R f2 g2 r2) (h3 : R f3 g3 r3) (k : K A l) : K (R f0 g0 r0 ∧ R f1 g1 r1 ∧ R f2 g2 r2 ∧ R f3 g3 r3 ∧ A) (l ++ [r3, r2, r1, r0]) := ⟨h0, h1, h2, h3, k⟩
theorem y8 {f0 f1 f2 f3 f4 f5 f6 f7 : Nat} {g0 g1 g2 g3 g4 g5 g6 g7 : List PV} {r0 r1 r2 r3 r4 r5 r6 r7 : PV} {A : Prop} {l : List PV} (h0 : R f0 g0 r0) (h1 : R f1 g1 r1) (h2 : R f2 g2 r2) (h3 : R f3 g3 r3) (h4 : R f4 g4 r4) (h5 : R f5 g5 r5) (h6 : R f6 g6 r6) (h7 : R f7 g7 r7) (k : K A l) : K (R f0 g0 r0 ∧ R f1 g1 r1 ∧ R f2 g2 r2 ∧ R f3 g3 r3 ∧ R f4 g4 r4 ∧ R f5 g5 r5 ∧ R f6 g6 r6 ∧ R f7 g7 r7 ∧ A) (l ++ [r7, r6, r5, r4, r3, r2, r1, r0]) := ⟨h0, h1, h2, h3, h4, h5, h6, h7, k⟩
theorem ru {l : List (Nat × FnR)} {f : Nat} {r : FnR} {args : List PV} {res : PV} {A : Prop} {ans : List PV} (hl : TabOk Tryz.prog l) (hr : FnOk Tryz.prog f r) (hA : K A ans)
    (h : (A ∧ (res, ([] : List (List PV))) = (res, [])) = goP G Tryz.prog l r .imm args (ansOf ans) (res, [])) : R f args res := RC_run mix hl hr ans hA h
theorem x1 : R 212 [N (-1)] (Bo true) := vd (-1) (by omega)
theorem x2 : R 212 [N 1] (Bo true) := vd 1 (by omega)
theorem x3 : R 213 [N (-1)] (Bo false) := nau (-1) (by omega)
theorem x4 : R 213 [N 1] (Bo false) := nau 1 (by omega)
theorem x5 : R 160 [N (-1), N 1] (N (-1)) := w160 (-1) 1 (-1) (by omega) (by omega)
theorem x6 : R 160 [N 1, N 1] (N 1) := w160 1 1 1 (by omega) (by omega)
theorem x7 : R 215 [N (-1), N 1] (N 0) := w215 (-1) 1 0 (by omega)
theorem x8 : R 215 [N 1, N (-1)] (N 0) := w215 1 (-1) 0 (by omega)
theorem x9 : R 37 [I 0] (N 0) := w37 0 (by omega)
theorem x10 : R 160 [N 1, N (-1)] (N (-1)) := w160 1 (-1) (-1) (by omega) (by omega)
theorem x11 : R 37 [I (-1)] (N (-1)) := w37 (-1) (by omega)
theorem x12 : R 37 [I 1] (N 1) := w37 1 (by omega)
theorem x13 : R 41 [N 1] (Bo false) := nne 1 (by omega)
theorem x14 : R 39 [N 1] (Bo true) := rvd 1 (by omega)
theorem x15 : R 41 [N (-1)] (Bo false) := nne (-1) (by omega)
theorem x16 : R 39 [N (-1)] (Bo true) := rvd (-1) (by omega)
theorem x17 : R 109 [N 1, N 1] (N 1) := w109p 1 (by omega)
theorem x18 : R 109 [N (-1), N 1] (N (-1)) := w109p (-1) (by omega)
theorem x19 : R 177 [N 1, N (-1)] (N 0) := w177 1 (-1) 0 (by omega)
theorem x20 : R 177 [N (-1), N 1] (N 0) := w177 (-1) 1 0 (by omega)
theorem x21 : R 60 [I 0] (N 0) := w60 0 (by omega)
theorem x22 : R 109 [N 1, N (-1)] (N (-1)) := w109m 1 (-1) (by omega)
theorem x23 : R 60 [I (-1)] (N (-1)) := w60 (-1) (by omega)
theorem x24 : R 60 [I 1] (N 1) := w60 1 (by omega)
theorem x25 : R 215 [N 1, N 0] (N 1) := w215 1 0 1 (by omega)
theorem x26 : R 160 [N 1, N 0] (N 0) := w160 1 0 0 (by omega) (by omega)
theorem x27 : R 215 [N 0, N 1] (N 1) := w215 0 1 1 (by omega)
theorem x28 : R 158 [N 1] (Bo false) := isz 1 (by omega)
theorem x29 : R 212 [N 0] (Bo true) := vd 0 (by omega)
theorem x30 : R 215 [N 0, N 0] (N 0) := w215 0 0 0 (by omega)
theorem x31 : R 159 [N 0, N 1] (Bo true) := gtp 1 (by omega)
theorem x32 : R 159 [N (-1), N 0] (Bo true) := ltn (-1) (by omega)
theorem x33 : R 159 [N 0, N (-1)] (Bo false) := gtn (-1) (by omega)
theorem x34 : R 159 [N 1, N 0] (Bo false) := ltp 1 (by omega)
theorem x35 : R 42 [N 1] (Bo false) := ngp 1 (by omega)
end Go.Proofs.YthiipifjdfmblaaGreatDoor

/- The reference's numbers as objects. -/
import Derived.Test.YthiipifjdfmblaaGreatDoorNd
import Derived.Test.YthiipifjdfmblaaGreatDoorNe0
import Derived.Test.YthiipifjdfmblaaGreatDoorNe1
import Derived.Test.YthiipifjdfmblaaGreatDoorNe2
import Derived.Test.YthiipifjdfmblaaGreatDoorNe3
set_option linter.unusedVariables false
set_option linter.unusedSimpArgs false
namespace Go.Proofs.YthiipifjdfmblaaGreatDoor
open Go Go.Pf Go.RowKit
set_option maxRecDepth 100000

theorem rc224 (a b c : Int) (ha : -20 ≤ a ∧ a ≤ 20) (hb : -19 ≤ b ∧ b ≤ 19) (hc : a + b = c) : RC G Tryz.prog 224 .imm [D a, D b] (D c) [] := by
  have key : addP a b = true := by
    have hr : ∀ (a' : Int), (List.range 39).all (fun j => addP a' ((j : Int) - 19)) = true → a = a' → addP a b = true := by
      intro a' h e
      subst e
      rw [List.all_eq_true] at h
      have := h (b + 19).toNat (by simp; omega)
      rwa [show (((b + 19).toNat : Nat) : Int) - 19 = b by omega] at this
    have hq : ∃ k : Nat, k < 41 ∧ a = (k : Int) - 20 := ⟨(a + 20).toNat, by omega, by omega⟩
    obtain ⟨k, hk, e⟩ := hq
    match k, hk with
    | 0, _ => exact hr (-20) addrow0 (by omega)
    | 1, _ => exact hr (-19) addrow1 (by omega)
    | 2, _ => exact hr (-18) addrow2 (by omega)
    | 3, _ => exact hr (-17) addrow3 (by omega)
    | 4, _ => exact hr (-16) addrow4 (by omega)
    | 5, _ => exact hr (-15) addrow5 (by omega)
    | 6, _ => exact hr (-14) addrow6 (by omega)
    | 7, _ => exact hr (-13) addrow7 (by omega)
    | 8, _ => exact hr (-12) addrow8 (by omega)
    | 9, _ => exact hr (-11) addrow9 (by omega)
    | 10, _ => exact hr (-10) addrow10 (by omega)
    | 11, _ => exact hr (-9) addrow11 (by omega)
    | 12, _ => exact hr (-8) addrow12 (by omega)
    | 13, _ => exact hr (-7) addrow13 (by omega)
    | 14, _ => exact hr (-6) addrow14 (by omega)
    | 15, _ => exact hr (-5) addrow15 (by omega)
    | 16, _ => exact hr (-4) addrow16 (by omega)
    | 17, _ => exact hr (-3) addrow17 (by omega)
    | 18, _ => exact hr (-2) addrow18 (by omega)
    | 19, _ => exact hr (-1) addrow19 (by omega)
    | 20, _ => exact hr 0 addrow20 (by omega)
    | 21, _ => exact hr 1 addrow21 (by omega)
    | 22, _ => exact hr 2 addrow22 (by omega)
    | 23, _ => exact hr 3 addrow23 (by omega)
    | 24, _ => exact hr 4 addrow24 (by omega)
    | 25, _ => exact hr 5 addrow25 (by omega)
    | 26, _ => exact hr 6 addrow26 (by omega)
    | 27, _ => exact hr 7 addrow27 (by omega)
    | 28, _ => exact hr 8 addrow28 (by omega)
    | 29, _ => exact hr 9 addrow29 (by omega)
    | 30, _ => exact hr 10 addrow30 (by omega)
    | 31, _ => exact hr 11 addrow31 (by omega)
    | 32, _ => exact hr 12 addrow32 (by omega)
    | 33, _ => exact hr 13 addrow33 (by omega)
    | 34, _ => exact hr 14 addrow34 (by omega)
    | 35, _ => exact hr 15 addrow35 (by omega)
    | 36, _ => exact hr 16 addrow36 (by omega)
    | 37, _ => exact hr 17 addrow37 (by omega)
    | 38, _ => exact hr 18 addrow38 (by omega)
    | 39, _ => exact hr 19 addrow39 (by omega)
    | 40, _ => exact hr 20 addrow40 (by omega)
    | k + 41, hk => exact absurd hk (by omega)
  have e := RC_go (gl := G) mix (l := addI) ⟨ok179, ok229, ok278, ok277, ok276, ok230, ok180, trivial⟩ ok224 (isStrR_ok key) trivial
  rwa [hc] at e

theorem rc60 (n : Int) (h : Sm n) : RC G Tryz.prog 60 .imm [I n] (N n) [] :=
  RC_goP mix (l := [(125, c125), (114, c114)]) ⟨ok125, ok114, trivial⟩ (r := c60) ok60 (ans := [A (D n), A (.tup [D n, D 1])])
    (Eq.mp (by kernel_rfl) (And.intro (And.intro (rc170 n h) (And.intro (rc157 n (by unfold Sm at *; omega)) trivial)) (Eq.refl ((N n : PV), ([] : List (List PV))))))
theorem rc177 (a b c : Int) (ha : -20 ≤ a ∧ a ≤ 20) (hb : -19 ≤ b ∧ b ≤ 19) (hc : a + b = c) : RC G Tryz.prog 177 .imm [N a, N b] (N c) [] :=
  RC_goP mix (l := [(113, c113), (114, c114)]) ⟨ok113, ok114, trivial⟩ (r := c177) ok177 (ans := [A (D a), A (D b), A (D c), A (D 1), A (.tup [D c, D 1])])
    (Eq.mp (by kernel_rfl) (And.intro (And.intro (rc170 c (by unfold Sm; omega)) (And.intro (rc174_1 1 sm1) (And.intro (rc224 a b c ha hb hc) (And.intro (rc174_1 b (by unfold Sm; omega)) (And.intro (rc174_1 a (by unfold Sm; omega)) trivial))))) (Eq.refl ((N c : PV), ([] : List (List PV))))))
theorem rc109_1 (n : Int) (h : Sm n) : RC G Tryz.prog 109 .imm [N n, N 1] (N n) [] :=
  RC_goP mix (l := [(113, c113), (114, c114)]) ⟨ok113, ok114, trivial⟩ (r := c109) ok109 (ans := [A (D n), A (D 1), A (.tup [D n, D 1])])
    (Eq.mp (by kernel_rfl) (And.intro (And.intro (rc170 n h) (And.intro (rc174_1 1 sm1) (And.intro (rc174_1 n h) trivial))) (Eq.refl ((N n : PV), ([] : List (List PV))))))
theorem rc109_m (n c : Int) (h : Sm n) (hc : -n = c) : RC G Tryz.prog 109 .imm [N n, N (-1)] (N c) [] :=
  RC_goP mix (l := [(113, c113), (114, c114)]) ⟨ok113, ok114, trivial⟩ (r := c109) ok109 (ans := [A (D c), A (D 1), A (.tup [D c, D 1])])
    (Eq.mp (by kernel_rfl) (And.intro (And.intro (rc170 c (by unfold Sm at *; omega)) (And.intro (rc174_1 1 sm1) (And.intro (rc174_m n c h hc) trivial))) (Eq.refl ((N c : PV), ([] : List (List PV))))))
theorem le100 {n : Int} (h : Sm n) : binV .leq (I (dg n)) (I 100) = some (Bo true) := by
  have := dg_le h
  simp only [binV, I, sbin, if_true, Option.map_some, Bo]
  rw [show decide (dg n ≤ 100) = true by simp; omega]
theorem rformed_t (n : Int) (h : Sm n) : RC G Tryz.prog 107 .imm [N n] (Bo true) [] :=
  RC_goP mix (l := []) trivial (r := (c107.ask [38, 44, 49, 54])) (ok107.ask [38, 44, 49, 54]) (ans := [A (.tup [D n, D 1]), A (Bo true), A (Bo true), A (I (dg n)), A (Bo true), A (I (dg 1)), A (Bo true)])
    (Eq.mp (by kernel_rfl) (And.intro (And.intro (le100 sm1) (And.intro (rc171 1 sm1) (And.intro (le100 h) (And.intro (rc171 n h) (And.intro (eql_self ⟨(Lib.itoa 1).toArray⟩) (And.intro (eql_self ⟨(Lib.itoa n).toArray⟩) (And.intro (rc170 n h) trivial))))))) (Eq.refl ((Bo true : PV), ([] : List (List PV))))))
theorem rvalid_t (n : Int) (h : Sm n) : RC G Tryz.prog 39 .imm [N n] (Bo true) [] :=
  RC_goP mix (l := [(106, c106), (169, c169)]) ⟨ok106, ok169, trivial⟩ (r := c39) ok39 (ans := [A (Bo true)])
    (Eq.mp (by kernel_rfl) (And.intro (And.intro (rformed_t n h) trivial) (Eq.refl ((Bo true : PV), ([] : List (List PV))))))
theorem none_f (n : Int) (hn : Sm n) (h : n ≠ 0) : RC G Tryz.prog 41 .imm [N n] (Bo false) [] :=
  RC_goP mix (l := []) trivial (r := (c41.ask [9])) (ok41.ask [9]) (ans := [A (Bo false)])
    (Eq.mp (by kernel_rfl) (And.intro (And.intro (eql_zero hn h) trivial) (Eq.refl ((Bo false : PV), ([] : List (List PV))))))
theorem none_t : RC G Tryz.prog 41 .imm [N 0] (Bo true) [] :=
  RC_goP mix (l := []) trivial (r := c41) ok41 (ans := [])
    (Eq.mp (by kernel_rfl) (And.intro trivial (Eq.refl ((Bo true : PV), ([] : List (List PV))))))
def isBoolR (b : Bool) : Option ((PV × List (List PV)) × List Ob) → Bool
  | some ((.sc (.bool c), []), []) => b == c
  | _ => false
theorem isBoolR_ok {b : Bool} {x : Option ((PV × List (List PV)) × List Ob)} (h : isBoolR b x = true) : x = some ((Bo b, []), []) := by
  unfold isBoolR at h
  split at h
  · have := eq_of_beq h; subst this; rfl
  · cases h
def negP (n : Int) : Bool := decide (n < 0)
theorem neg_all (n : Int) (h : Sm n) : RC G Tryz.prog 42 .imm [N n] (Bo (negP n)) [] := by
  have h' := small_all (p := fun n => isBoolR (negP n) (go [] c42 .imm [N n] [])) (by kernel_rfl) h
  exact RC_go mix (l := []) trivial ok42 (isBoolR_ok h') trivial
theorem neg_n (n : Int) (h : Sm n) (hn : n < 0) : RC G Tryz.prog 42 .imm [N n] (Bo true) [] := by
  have := neg_all n h
  rwa [show negP n = true by simpa [negP] using hn] at this
theorem neg_p (n : Int) (h : Sm n) (hn : 0 < n) : RC G Tryz.prog 42 .imm [N n] (Bo false) [] := by
  have := neg_all n h
  rwa [show negP n = false by simp [negP]; omega] at this
theorem neg_z : RC G Tryz.prog 42 .imm [N 0] (Bo false) [] := neg_all 0 sm0
end Go.Proofs.YthiipifjdfmblaaGreatDoor

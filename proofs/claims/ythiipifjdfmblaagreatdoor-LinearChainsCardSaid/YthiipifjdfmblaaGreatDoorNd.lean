/- The reference's integers: lowest terms, products and digits, by runs. -/
import Derived.Test.YthiipifjdfmblaaGreatDoorNc
set_option linter.unusedVariables false
set_option linter.unusedSimpArgs false
namespace Go.Proofs.YthiipifjdfmblaaGreatDoor
open Go Go.Pf Go.RowKit
set_option maxRecDepth 100000
theorem red0 : (List.range 9).all (fun i => redP ((i : Int) - 40 + 0)) = true := by kernel_rfl
theorem red1 : (List.range 9).all (fun i => redP ((i : Int) - 40 + 9)) = true := by kernel_rfl
theorem red2 : (List.range 9).all (fun i => redP ((i : Int) - 40 + 18)) = true := by kernel_rfl
theorem red3 : (List.range 9).all (fun i => redP ((i : Int) - 40 + 27)) = true := by kernel_rfl
theorem red4 : (List.range 9).all (fun i => redP ((i : Int) - 40 + 36)) = true := by kernel_rfl
theorem red5 : (List.range 9).all (fun i => redP ((i : Int) - 40 + 45)) = true := by kernel_rfl
theorem red6 : (List.range 9).all (fun i => redP ((i : Int) - 40 + 54)) = true := by kernel_rfl
theorem red7 : (List.range 9).all (fun i => redP ((i : Int) - 40 + 63)) = true := by kernel_rfl
theorem red8 : (List.range 9).all (fun i => redP ((i : Int) - 40 + 72)) = true := by kernel_rfl

theorem rc170 (n : Int) (h : Sm n) : RC G Tryz.prog 170 .imm [D n, D 1] (.tup [D n, D 1]) [] := by
  have key : redP n = true := by
    have hr : ∀ (k : Nat) (b : Int), (List.range 9).all (fun i => redP ((i : Int) - 40 + b)) = true → b = 9 * k → 9 * (k : Int) ≤ n + 40 → n + 40 < 9 * (k : Int) + 9 → redP n = true := by
      intro k b hb hbk h1 h2
      rw [List.all_eq_true] at hb
      have := hb (n + 40 - 9 * k).toNat (by simp; omega)
      rwa [show (((n + 40 - 9 * (k : Int)).toNat : Nat) : Int) - 40 + b = n by omega] at this
    unfold Sm at h
    have hq : ∃ k : Nat, k < 9 ∧ 9 * (k : Int) ≤ n + 40 ∧ n + 40 < 9 * (k : Int) + 9 := ⟨((n + 40) / 9).toNat, by omega, by omega, by omega⟩
    obtain ⟨k, hk, h1, h2⟩ := hq
    match k, hk with
    | 0, _ => exact hr 0 0 red0 (by omega) h1 h2
    | 1, _ => exact hr 1 9 red1 (by omega) h1 h2
    | 2, _ => exact hr 2 18 red2 (by omega) h1 h2
    | 3, _ => exact hr 3 27 red3 (by omega) h1 h2
    | 4, _ => exact hr 4 36 red4 (by omega) h1 h2
    | 5, _ => exact hr 5 45 red5 (by omega) h1 h2
    | 6, _ => exact hr 6 54 red6 (by omega) h1 h2
    | 7, _ => exact hr 7 63 red7 (by omega) h1 h2
    | 8, _ => exact hr 8 72 red8 (by omega) h1 h2
  exact RC_go mix (l := redI) ⟨ok179, ok229, ok219, ok220, ok276, ok277, ok230, ok180, trivial⟩ ok170 (isPairR_ok key) trivial

theorem rc174_1 (n : Int) (h : Sm n) : RC G Tryz.prog 174 .imm [D n, D 1] (D n) [] := by
  have := small_all (p := fun n => mulP n 1) (by kernel_rfl) h
  have e := RC_go (gl := G) mix (l := mulI) ⟨ok179, ok229, ok223, ok230, ok180, trivial⟩ ok174 (isStrR_ok this) trivial
  rwa [Int.mul_one] at e
theorem rc174_m (n c : Int) (h : Sm n) (hc : -n = c) : RC G Tryz.prog 174 .imm [D n, D (-1)] (D c) [] := by
  have := small_all (p := fun n => mulP n (-1)) (by kernel_rfl) h
  have e := RC_go (gl := G) mix (l := mulI) ⟨ok179, ok229, ok223, ok230, ok180, trivial⟩ ok174 (isStrR_ok this) trivial
  rwa [show n * -1 = c by omega] at e
theorem rc171 (n : Int) (h : Sm n) : RC G Tryz.prog 171 .imm [D n] (I (dg n)) [] :=
  RC_go mix (l := [(179, c179), (229, c229)]) ⟨ok179, ok229, trivial⟩ ok171 (isIntR_ok (small_all (p := fun n => isIntR (dg n) (go [(179, c179), (229, c229)] c171 .imm [D n] [])) (by kernel_rfl) h)) trivial
end Go.Proofs.YthiipifjdfmblaaGreatDoor

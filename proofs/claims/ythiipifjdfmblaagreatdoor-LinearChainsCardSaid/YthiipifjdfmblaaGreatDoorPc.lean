/- The coefficients of the polynomials of the chains. Made by a program: each contract comes of a run of the function's body. -/
import Derived.Test.YthiipifjdfmblaaGreatDoorP
set_option linter.unusedVariables false
set_option linter.unusedSimpArgs false
namespace Go.Proofs.YthiipifjdfmblaaGreatDoor
open Go Go.Pf Go.RowKit
set_option maxRecDepth 100000
theorem cf_r0_0_z : R 162 [.lst 8 [(nO (-1) ++ [.lst 11 [(vC 97)]]), (nO 1 ++ [.lst 11 [(vC 98)]])], .lst 11 [(vC 97)]] (N (-1)) := ru tk8 ok162 z (by kernel_rfl)
theorem cf_r0_0_n (c : Int) (hc : -40 ≤ c ∧ c ≤ 40) (h : c ≠ 0) : R 162 [.lst 8 [(nO (c) ++ [nils]), (nO (-1) ++ [.lst 11 [(vC 97)]]), (nO 1 ++ [.lst 11 [(vC 98)]])], .lst 11 [(vC 97)]] (N (-1)) := ru tk8 ok162 z (by kernel_rfl)
theorem cf_r0_0 (c : Int) (hc : -40 ≤ c ∧ c ≤ 40) : R 162 [.lst 8 (pE c [(97, (-1)), (98, 1)]), .lst 11 [(vC 97)]] (N (-1)) := by
  by_cases h : c = 0
  · subst h; exact cf_r0_0_z
  · rw [pE_nz h]; exact cf_r0_0_n c hc h
theorem cf_r0_1_z : R 162 [.lst 8 [(nO (-1) ++ [.lst 11 [(vC 97)]]), (nO 1 ++ [.lst 11 [(vC 98)]])], .lst 11 [(vC 98)]] (N 1) := ru tk8 ok162 z (by kernel_rfl)
theorem cf_r0_1_n (c : Int) (hc : -40 ≤ c ∧ c ≤ 40) (h : c ≠ 0) : R 162 [.lst 8 [(nO (c) ++ [nils]), (nO (-1) ++ [.lst 11 [(vC 97)]]), (nO 1 ++ [.lst 11 [(vC 98)]])], .lst 11 [(vC 98)]] (N 1) := ru tk8 ok162 z (by kernel_rfl)
theorem cf_r0_1 (c : Int) (hc : -40 ≤ c ∧ c ≤ 40) : R 162 [.lst 8 (pE c [(97, (-1)), (98, 1)]), .lst 11 [(vC 98)]] (N 1) := by
  by_cases h : c = 0
  · subst h; exact cf_r0_1_z
  · rw [pE_nz h]; exact cf_r0_1_n c hc h
theorem cf_r0_2_z : R 162 [.lst 8 [(nO (-1) ++ [.lst 11 [(vC 97)]]), (nO 1 ++ [.lst 11 [(vC 98)]])], .lst 11 [(vC 99)]] (N 0) := ru tk9 ok162 (y zero36 z) (by kernel_rfl)
theorem cf_r0_2_n (c : Int) (hc : -40 ≤ c ∧ c ≤ 40) (h : c ≠ 0) : R 162 [.lst 8 [(nO (c) ++ [nils]), (nO (-1) ++ [.lst 11 [(vC 97)]]), (nO 1 ++ [.lst 11 [(vC 98)]])], .lst 11 [(vC 99)]] (N 0) := ru tk9 ok162 (y zero36 z) (by kernel_rfl)
theorem cf_r0_2 (c : Int) (hc : -40 ≤ c ∧ c ≤ 40) : R 162 [.lst 8 (pE c [(97, (-1)), (98, 1)]), .lst 11 [(vC 99)]] (N 0) := by
  by_cases h : c = 0
  · subst h; exact cf_r0_2_z
  · rw [pE_nz h]; exact cf_r0_2_n c hc h
theorem cf_r0_3_z : R 162 [.lst 8 [(nO (-1) ++ [.lst 11 [(vC 97)]]), (nO 1 ++ [.lst 11 [(vC 98)]])], .lst 11 [(vC 100)]] (N 0) := ru tk9 ok162 (y zero36 z) (by kernel_rfl)
theorem cf_r0_3_n (c : Int) (hc : -40 ≤ c ∧ c ≤ 40) (h : c ≠ 0) : R 162 [.lst 8 [(nO (c) ++ [nils]), (nO (-1) ++ [.lst 11 [(vC 97)]]), (nO 1 ++ [.lst 11 [(vC 98)]])], .lst 11 [(vC 100)]] (N 0) := ru tk9 ok162 (y zero36 z) (by kernel_rfl)
theorem cf_r0_3 (c : Int) (hc : -40 ≤ c ∧ c ≤ 40) : R 162 [.lst 8 (pE c [(97, (-1)), (98, 1)]), .lst 11 [(vC 100)]] (N 0) := by
  by_cases h : c = 0
  · subst h; exact cf_r0_3_z
  · rw [pE_nz h]; exact cf_r0_3_n c hc h
theorem cf_r0_4_z : R 162 [.lst 8 [(nO (-1) ++ [.lst 11 [(vC 97)]]), (nO 1 ++ [.lst 11 [(vC 98)]])], .lst 11 [(vC 101)]] (N 0) := ru tk9 ok162 (y zero36 z) (by kernel_rfl)
theorem cf_r0_4_n (c : Int) (hc : -40 ≤ c ∧ c ≤ 40) (h : c ≠ 0) : R 162 [.lst 8 [(nO (c) ++ [nils]), (nO (-1) ++ [.lst 11 [(vC 97)]]), (nO 1 ++ [.lst 11 [(vC 98)]])], .lst 11 [(vC 101)]] (N 0) := ru tk9 ok162 (y zero36 z) (by kernel_rfl)
theorem cf_r0_4 (c : Int) (hc : -40 ≤ c ∧ c ≤ 40) : R 162 [.lst 8 (pE c [(97, (-1)), (98, 1)]), .lst 11 [(vC 101)]] (N 0) := by
  by_cases h : c = 0
  · subst h; exact cf_r0_4_z
  · rw [pE_nz h]; exact cf_r0_4_n c hc h
theorem cf_r1_0_z : R 162 [.lst 8 [(nO (-1) ++ [.lst 11 [(vC 98)]]), (nO 1 ++ [.lst 11 [(vC 99)]])], .lst 11 [(vC 97)]] (N 0) := ru tk9 ok162 (y zero36 z) (by kernel_rfl)
theorem cf_r1_0_n (c : Int) (hc : -40 ≤ c ∧ c ≤ 40) (h : c ≠ 0) : R 162 [.lst 8 [(nO (c) ++ [nils]), (nO (-1) ++ [.lst 11 [(vC 98)]]), (nO 1 ++ [.lst 11 [(vC 99)]])], .lst 11 [(vC 97)]] (N 0) := ru tk9 ok162 (y zero36 z) (by kernel_rfl)
theorem cf_r1_0 (c : Int) (hc : -40 ≤ c ∧ c ≤ 40) : R 162 [.lst 8 (pE c [(98, (-1)), (99, 1)]), .lst 11 [(vC 97)]] (N 0) := by
  by_cases h : c = 0
  · subst h; exact cf_r1_0_z
  · rw [pE_nz h]; exact cf_r1_0_n c hc h
theorem cf_r1_1_z : R 162 [.lst 8 [(nO (-1) ++ [.lst 11 [(vC 98)]]), (nO 1 ++ [.lst 11 [(vC 99)]])], .lst 11 [(vC 98)]] (N (-1)) := ru tk8 ok162 z (by kernel_rfl)
theorem cf_r1_1_n (c : Int) (hc : -40 ≤ c ∧ c ≤ 40) (h : c ≠ 0) : R 162 [.lst 8 [(nO (c) ++ [nils]), (nO (-1) ++ [.lst 11 [(vC 98)]]), (nO 1 ++ [.lst 11 [(vC 99)]])], .lst 11 [(vC 98)]] (N (-1)) := ru tk8 ok162 z (by kernel_rfl)
theorem cf_r1_1 (c : Int) (hc : -40 ≤ c ∧ c ≤ 40) : R 162 [.lst 8 (pE c [(98, (-1)), (99, 1)]), .lst 11 [(vC 98)]] (N (-1)) := by
  by_cases h : c = 0
  · subst h; exact cf_r1_1_z
  · rw [pE_nz h]; exact cf_r1_1_n c hc h
theorem cf_r1_2_z : R 162 [.lst 8 [(nO (-1) ++ [.lst 11 [(vC 98)]]), (nO 1 ++ [.lst 11 [(vC 99)]])], .lst 11 [(vC 99)]] (N 1) := ru tk8 ok162 z (by kernel_rfl)
theorem cf_r1_2_n (c : Int) (hc : -40 ≤ c ∧ c ≤ 40) (h : c ≠ 0) : R 162 [.lst 8 [(nO (c) ++ [nils]), (nO (-1) ++ [.lst 11 [(vC 98)]]), (nO 1 ++ [.lst 11 [(vC 99)]])], .lst 11 [(vC 99)]] (N 1) := ru tk8 ok162 z (by kernel_rfl)
theorem cf_r1_2 (c : Int) (hc : -40 ≤ c ∧ c ≤ 40) : R 162 [.lst 8 (pE c [(98, (-1)), (99, 1)]), .lst 11 [(vC 99)]] (N 1) := by
  by_cases h : c = 0
  · subst h; exact cf_r1_2_z
  · rw [pE_nz h]; exact cf_r1_2_n c hc h
theorem cf_r1_3_z : R 162 [.lst 8 [(nO (-1) ++ [.lst 11 [(vC 98)]]), (nO 1 ++ [.lst 11 [(vC 99)]])], .lst 11 [(vC 100)]] (N 0) := ru tk9 ok162 (y zero36 z) (by kernel_rfl)
theorem cf_r1_3_n (c : Int) (hc : -40 ≤ c ∧ c ≤ 40) (h : c ≠ 0) : R 162 [.lst 8 [(nO (c) ++ [nils]), (nO (-1) ++ [.lst 11 [(vC 98)]]), (nO 1 ++ [.lst 11 [(vC 99)]])], .lst 11 [(vC 100)]] (N 0) := ru tk9 ok162 (y zero36 z) (by kernel_rfl)
theorem cf_r1_3 (c : Int) (hc : -40 ≤ c ∧ c ≤ 40) : R 162 [.lst 8 (pE c [(98, (-1)), (99, 1)]), .lst 11 [(vC 100)]] (N 0) := by
  by_cases h : c = 0
  · subst h; exact cf_r1_3_z
  · rw [pE_nz h]; exact cf_r1_3_n c hc h
theorem cf_r1_4_z : R 162 [.lst 8 [(nO (-1) ++ [.lst 11 [(vC 98)]]), (nO 1 ++ [.lst 11 [(vC 99)]])], .lst 11 [(vC 101)]] (N 0) := ru tk9 ok162 (y zero36 z) (by kernel_rfl)
theorem cf_r1_4_n (c : Int) (hc : -40 ≤ c ∧ c ≤ 40) (h : c ≠ 0) : R 162 [.lst 8 [(nO (c) ++ [nils]), (nO (-1) ++ [.lst 11 [(vC 98)]]), (nO 1 ++ [.lst 11 [(vC 99)]])], .lst 11 [(vC 101)]] (N 0) := ru tk9 ok162 (y zero36 z) (by kernel_rfl)
theorem cf_r1_4 (c : Int) (hc : -40 ≤ c ∧ c ≤ 40) : R 162 [.lst 8 (pE c [(98, (-1)), (99, 1)]), .lst 11 [(vC 101)]] (N 0) := by
  by_cases h : c = 0
  · subst h; exact cf_r1_4_z
  · rw [pE_nz h]; exact cf_r1_4_n c hc h
theorem cf_r2_0_z : R 162 [.lst 8 [(nO (-1) ++ [.lst 11 [(vC 99)]]), (nO 1 ++ [.lst 11 [(vC 100)]])], .lst 11 [(vC 97)]] (N 0) := ru tk9 ok162 (y zero36 z) (by kernel_rfl)
theorem cf_r2_0_n (c : Int) (hc : -40 ≤ c ∧ c ≤ 40) (h : c ≠ 0) : R 162 [.lst 8 [(nO (c) ++ [nils]), (nO (-1) ++ [.lst 11 [(vC 99)]]), (nO 1 ++ [.lst 11 [(vC 100)]])], .lst 11 [(vC 97)]] (N 0) := ru tk9 ok162 (y zero36 z) (by kernel_rfl)
theorem cf_r2_0 (c : Int) (hc : -40 ≤ c ∧ c ≤ 40) : R 162 [.lst 8 (pE c [(99, (-1)), (100, 1)]), .lst 11 [(vC 97)]] (N 0) := by
  by_cases h : c = 0
  · subst h; exact cf_r2_0_z
  · rw [pE_nz h]; exact cf_r2_0_n c hc h
theorem cf_r2_1_z : R 162 [.lst 8 [(nO (-1) ++ [.lst 11 [(vC 99)]]), (nO 1 ++ [.lst 11 [(vC 100)]])], .lst 11 [(vC 98)]] (N 0) := ru tk9 ok162 (y zero36 z) (by kernel_rfl)
theorem cf_r2_1_n (c : Int) (hc : -40 ≤ c ∧ c ≤ 40) (h : c ≠ 0) : R 162 [.lst 8 [(nO (c) ++ [nils]), (nO (-1) ++ [.lst 11 [(vC 99)]]), (nO 1 ++ [.lst 11 [(vC 100)]])], .lst 11 [(vC 98)]] (N 0) := ru tk9 ok162 (y zero36 z) (by kernel_rfl)
theorem cf_r2_1 (c : Int) (hc : -40 ≤ c ∧ c ≤ 40) : R 162 [.lst 8 (pE c [(99, (-1)), (100, 1)]), .lst 11 [(vC 98)]] (N 0) := by
  by_cases h : c = 0
  · subst h; exact cf_r2_1_z
  · rw [pE_nz h]; exact cf_r2_1_n c hc h
theorem cf_r2_2_z : R 162 [.lst 8 [(nO (-1) ++ [.lst 11 [(vC 99)]]), (nO 1 ++ [.lst 11 [(vC 100)]])], .lst 11 [(vC 99)]] (N (-1)) := ru tk8 ok162 z (by kernel_rfl)
theorem cf_r2_2_n (c : Int) (hc : -40 ≤ c ∧ c ≤ 40) (h : c ≠ 0) : R 162 [.lst 8 [(nO (c) ++ [nils]), (nO (-1) ++ [.lst 11 [(vC 99)]]), (nO 1 ++ [.lst 11 [(vC 100)]])], .lst 11 [(vC 99)]] (N (-1)) := ru tk8 ok162 z (by kernel_rfl)
theorem cf_r2_2 (c : Int) (hc : -40 ≤ c ∧ c ≤ 40) : R 162 [.lst 8 (pE c [(99, (-1)), (100, 1)]), .lst 11 [(vC 99)]] (N (-1)) := by
  by_cases h : c = 0
  · subst h; exact cf_r2_2_z
  · rw [pE_nz h]; exact cf_r2_2_n c hc h
theorem cf_r2_3_z : R 162 [.lst 8 [(nO (-1) ++ [.lst 11 [(vC 99)]]), (nO 1 ++ [.lst 11 [(vC 100)]])], .lst 11 [(vC 100)]] (N 1) := ru tk8 ok162 z (by kernel_rfl)
theorem cf_r2_3_n (c : Int) (hc : -40 ≤ c ∧ c ≤ 40) (h : c ≠ 0) : R 162 [.lst 8 [(nO (c) ++ [nils]), (nO (-1) ++ [.lst 11 [(vC 99)]]), (nO 1 ++ [.lst 11 [(vC 100)]])], .lst 11 [(vC 100)]] (N 1) := ru tk8 ok162 z (by kernel_rfl)
theorem cf_r2_3 (c : Int) (hc : -40 ≤ c ∧ c ≤ 40) : R 162 [.lst 8 (pE c [(99, (-1)), (100, 1)]), .lst 11 [(vC 100)]] (N 1) := by
  by_cases h : c = 0
  · subst h; exact cf_r2_3_z
  · rw [pE_nz h]; exact cf_r2_3_n c hc h
theorem cf_r2_4_z : R 162 [.lst 8 [(nO (-1) ++ [.lst 11 [(vC 99)]]), (nO 1 ++ [.lst 11 [(vC 100)]])], .lst 11 [(vC 101)]] (N 0) := ru tk9 ok162 (y zero36 z) (by kernel_rfl)
theorem cf_r2_4_n (c : Int) (hc : -40 ≤ c ∧ c ≤ 40) (h : c ≠ 0) : R 162 [.lst 8 [(nO (c) ++ [nils]), (nO (-1) ++ [.lst 11 [(vC 99)]]), (nO 1 ++ [.lst 11 [(vC 100)]])], .lst 11 [(vC 101)]] (N 0) := ru tk9 ok162 (y zero36 z) (by kernel_rfl)
theorem cf_r2_4 (c : Int) (hc : -40 ≤ c ∧ c ≤ 40) : R 162 [.lst 8 (pE c [(99, (-1)), (100, 1)]), .lst 11 [(vC 101)]] (N 0) := by
  by_cases h : c = 0
  · subst h; exact cf_r2_4_z
  · rw [pE_nz h]; exact cf_r2_4_n c hc h
theorem cf_r3_0_z : R 162 [.lst 8 [(nO (-1) ++ [.lst 11 [(vC 100)]]), (nO 1 ++ [.lst 11 [(vC 101)]])], .lst 11 [(vC 97)]] (N 0) := ru tk9 ok162 (y zero36 z) (by kernel_rfl)
theorem cf_r3_0_n (c : Int) (hc : -40 ≤ c ∧ c ≤ 40) (h : c ≠ 0) : R 162 [.lst 8 [(nO (c) ++ [nils]), (nO (-1) ++ [.lst 11 [(vC 100)]]), (nO 1 ++ [.lst 11 [(vC 101)]])], .lst 11 [(vC 97)]] (N 0) := ru tk9 ok162 (y zero36 z) (by kernel_rfl)
theorem cf_r3_0 (c : Int) (hc : -40 ≤ c ∧ c ≤ 40) : R 162 [.lst 8 (pE c [(100, (-1)), (101, 1)]), .lst 11 [(vC 97)]] (N 0) := by
  by_cases h : c = 0
  · subst h; exact cf_r3_0_z
  · rw [pE_nz h]; exact cf_r3_0_n c hc h
theorem cf_r3_1_z : R 162 [.lst 8 [(nO (-1) ++ [.lst 11 [(vC 100)]]), (nO 1 ++ [.lst 11 [(vC 101)]])], .lst 11 [(vC 98)]] (N 0) := ru tk9 ok162 (y zero36 z) (by kernel_rfl)
theorem cf_r3_1_n (c : Int) (hc : -40 ≤ c ∧ c ≤ 40) (h : c ≠ 0) : R 162 [.lst 8 [(nO (c) ++ [nils]), (nO (-1) ++ [.lst 11 [(vC 100)]]), (nO 1 ++ [.lst 11 [(vC 101)]])], .lst 11 [(vC 98)]] (N 0) := ru tk9 ok162 (y zero36 z) (by kernel_rfl)
theorem cf_r3_1 (c : Int) (hc : -40 ≤ c ∧ c ≤ 40) : R 162 [.lst 8 (pE c [(100, (-1)), (101, 1)]), .lst 11 [(vC 98)]] (N 0) := by
  by_cases h : c = 0
  · subst h; exact cf_r3_1_z
  · rw [pE_nz h]; exact cf_r3_1_n c hc h
theorem cf_r3_2_z : R 162 [.lst 8 [(nO (-1) ++ [.lst 11 [(vC 100)]]), (nO 1 ++ [.lst 11 [(vC 101)]])], .lst 11 [(vC 99)]] (N 0) := ru tk9 ok162 (y zero36 z) (by kernel_rfl)
theorem cf_r3_2_n (c : Int) (hc : -40 ≤ c ∧ c ≤ 40) (h : c ≠ 0) : R 162 [.lst 8 [(nO (c) ++ [nils]), (nO (-1) ++ [.lst 11 [(vC 100)]]), (nO 1 ++ [.lst 11 [(vC 101)]])], .lst 11 [(vC 99)]] (N 0) := ru tk9 ok162 (y zero36 z) (by kernel_rfl)
theorem cf_r3_2 (c : Int) (hc : -40 ≤ c ∧ c ≤ 40) : R 162 [.lst 8 (pE c [(100, (-1)), (101, 1)]), .lst 11 [(vC 99)]] (N 0) := by
  by_cases h : c = 0
  · subst h; exact cf_r3_2_z
  · rw [pE_nz h]; exact cf_r3_2_n c hc h
theorem cf_r3_3_z : R 162 [.lst 8 [(nO (-1) ++ [.lst 11 [(vC 100)]]), (nO 1 ++ [.lst 11 [(vC 101)]])], .lst 11 [(vC 100)]] (N (-1)) := ru tk8 ok162 z (by kernel_rfl)
theorem cf_r3_3_n (c : Int) (hc : -40 ≤ c ∧ c ≤ 40) (h : c ≠ 0) : R 162 [.lst 8 [(nO (c) ++ [nils]), (nO (-1) ++ [.lst 11 [(vC 100)]]), (nO 1 ++ [.lst 11 [(vC 101)]])], .lst 11 [(vC 100)]] (N (-1)) := ru tk8 ok162 z (by kernel_rfl)
theorem cf_r3_3 (c : Int) (hc : -40 ≤ c ∧ c ≤ 40) : R 162 [.lst 8 (pE c [(100, (-1)), (101, 1)]), .lst 11 [(vC 100)]] (N (-1)) := by
  by_cases h : c = 0
  · subst h; exact cf_r3_3_z
  · rw [pE_nz h]; exact cf_r3_3_n c hc h
theorem cf_r3_4_z : R 162 [.lst 8 [(nO (-1) ++ [.lst 11 [(vC 100)]]), (nO 1 ++ [.lst 11 [(vC 101)]])], .lst 11 [(vC 101)]] (N 1) := ru tk8 ok162 z (by kernel_rfl)
theorem cf_r3_4_n (c : Int) (hc : -40 ≤ c ∧ c ≤ 40) (h : c ≠ 0) : R 162 [.lst 8 [(nO (c) ++ [nils]), (nO (-1) ++ [.lst 11 [(vC 100)]]), (nO 1 ++ [.lst 11 [(vC 101)]])], .lst 11 [(vC 101)]] (N 1) := ru tk8 ok162 z (by kernel_rfl)
theorem cf_r3_4 (c : Int) (hc : -40 ≤ c ∧ c ≤ 40) : R 162 [.lst 8 (pE c [(100, (-1)), (101, 1)]), .lst 11 [(vC 101)]] (N 1) := by
  by_cases h : c = 0
  · subst h; exact cf_r3_4_z
  · rw [pE_nz h]; exact cf_r3_4_n c hc h
theorem cf_u01_0_z : R 162 [.lst 8 [(nO 1 ++ [.lst 11 [(vC 97)]]), (nO (-1) ++ [.lst 11 [(vC 98)]])], .lst 11 [(vC 97)]] (N 1) := ru tk8 ok162 z (by kernel_rfl)
theorem cf_u01_0_n (c : Int) (hc : -40 ≤ c ∧ c ≤ 40) (h : c ≠ 0) : R 162 [.lst 8 [(nO (c) ++ [nils]), (nO 1 ++ [.lst 11 [(vC 97)]]), (nO (-1) ++ [.lst 11 [(vC 98)]])], .lst 11 [(vC 97)]] (N 1) := ru tk8 ok162 z (by kernel_rfl)
theorem cf_u01_0 (c : Int) (hc : -40 ≤ c ∧ c ≤ 40) : R 162 [.lst 8 (pE c [(97, 1), (98, (-1))]), .lst 11 [(vC 97)]] (N 1) := by
  by_cases h : c = 0
  · subst h; exact cf_u01_0_z
  · rw [pE_nz h]; exact cf_u01_0_n c hc h
theorem cf_u01_1_z : R 162 [.lst 8 [(nO 1 ++ [.lst 11 [(vC 97)]]), (nO (-1) ++ [.lst 11 [(vC 98)]])], .lst 11 [(vC 98)]] (N (-1)) := ru tk8 ok162 z (by kernel_rfl)
theorem cf_u01_1_n (c : Int) (hc : -40 ≤ c ∧ c ≤ 40) (h : c ≠ 0) : R 162 [.lst 8 [(nO (c) ++ [nils]), (nO 1 ++ [.lst 11 [(vC 97)]]), (nO (-1) ++ [.lst 11 [(vC 98)]])], .lst 11 [(vC 98)]] (N (-1)) := ru tk8 ok162 z (by kernel_rfl)
theorem cf_u01_1 (c : Int) (hc : -40 ≤ c ∧ c ≤ 40) : R 162 [.lst 8 (pE c [(97, 1), (98, (-1))]), .lst 11 [(vC 98)]] (N (-1)) := by
  by_cases h : c = 0
  · subst h; exact cf_u01_1_z
  · rw [pE_nz h]; exact cf_u01_1_n c hc h
theorem cf_u01_2_z : R 162 [.lst 8 [(nO 1 ++ [.lst 11 [(vC 97)]]), (nO (-1) ++ [.lst 11 [(vC 98)]])], .lst 11 [(vC 99)]] (N 0) := ru tk9 ok162 (y zero36 z) (by kernel_rfl)
theorem cf_u01_2_n (c : Int) (hc : -40 ≤ c ∧ c ≤ 40) (h : c ≠ 0) : R 162 [.lst 8 [(nO (c) ++ [nils]), (nO 1 ++ [.lst 11 [(vC 97)]]), (nO (-1) ++ [.lst 11 [(vC 98)]])], .lst 11 [(vC 99)]] (N 0) := ru tk9 ok162 (y zero36 z) (by kernel_rfl)
theorem cf_u01_2 (c : Int) (hc : -40 ≤ c ∧ c ≤ 40) : R 162 [.lst 8 (pE c [(97, 1), (98, (-1))]), .lst 11 [(vC 99)]] (N 0) := by
  by_cases h : c = 0
  · subst h; exact cf_u01_2_z
  · rw [pE_nz h]; exact cf_u01_2_n c hc h
theorem cf_u01_3_z : R 162 [.lst 8 [(nO 1 ++ [.lst 11 [(vC 97)]]), (nO (-1) ++ [.lst 11 [(vC 98)]])], .lst 11 [(vC 100)]] (N 0) := ru tk9 ok162 (y zero36 z) (by kernel_rfl)
theorem cf_u01_3_n (c : Int) (hc : -40 ≤ c ∧ c ≤ 40) (h : c ≠ 0) : R 162 [.lst 8 [(nO (c) ++ [nils]), (nO 1 ++ [.lst 11 [(vC 97)]]), (nO (-1) ++ [.lst 11 [(vC 98)]])], .lst 11 [(vC 100)]] (N 0) := ru tk9 ok162 (y zero36 z) (by kernel_rfl)
theorem cf_u01_3 (c : Int) (hc : -40 ≤ c ∧ c ≤ 40) : R 162 [.lst 8 (pE c [(97, 1), (98, (-1))]), .lst 11 [(vC 100)]] (N 0) := by
  by_cases h : c = 0
  · subst h; exact cf_u01_3_z
  · rw [pE_nz h]; exact cf_u01_3_n c hc h
theorem cf_u01_4_z : R 162 [.lst 8 [(nO 1 ++ [.lst 11 [(vC 97)]]), (nO (-1) ++ [.lst 11 [(vC 98)]])], .lst 11 [(vC 101)]] (N 0) := ru tk9 ok162 (y zero36 z) (by kernel_rfl)
theorem cf_u01_4_n (c : Int) (hc : -40 ≤ c ∧ c ≤ 40) (h : c ≠ 0) : R 162 [.lst 8 [(nO (c) ++ [nils]), (nO 1 ++ [.lst 11 [(vC 97)]]), (nO (-1) ++ [.lst 11 [(vC 98)]])], .lst 11 [(vC 101)]] (N 0) := ru tk9 ok162 (y zero36 z) (by kernel_rfl)
theorem cf_u01_4 (c : Int) (hc : -40 ≤ c ∧ c ≤ 40) : R 162 [.lst 8 (pE c [(97, 1), (98, (-1))]), .lst 11 [(vC 101)]] (N 0) := by
  by_cases h : c = 0
  · subst h; exact cf_u01_4_z
  · rw [pE_nz h]; exact cf_u01_4_n c hc h
theorem cf_u02_0_z : R 162 [.lst 8 [(nO 1 ++ [.lst 11 [(vC 97)]]), (nO (-1) ++ [.lst 11 [(vC 99)]])], .lst 11 [(vC 97)]] (N 1) := ru tk8 ok162 z (by kernel_rfl)
theorem cf_u02_0_n (c : Int) (hc : -40 ≤ c ∧ c ≤ 40) (h : c ≠ 0) : R 162 [.lst 8 [(nO (c) ++ [nils]), (nO 1 ++ [.lst 11 [(vC 97)]]), (nO (-1) ++ [.lst 11 [(vC 99)]])], .lst 11 [(vC 97)]] (N 1) := ru tk8 ok162 z (by kernel_rfl)
theorem cf_u02_0 (c : Int) (hc : -40 ≤ c ∧ c ≤ 40) : R 162 [.lst 8 (pE c [(97, 1), (99, (-1))]), .lst 11 [(vC 97)]] (N 1) := by
  by_cases h : c = 0
  · subst h; exact cf_u02_0_z
  · rw [pE_nz h]; exact cf_u02_0_n c hc h
theorem cf_u02_1_z : R 162 [.lst 8 [(nO 1 ++ [.lst 11 [(vC 97)]]), (nO (-1) ++ [.lst 11 [(vC 99)]])], .lst 11 [(vC 98)]] (N 0) := ru tk9 ok162 (y zero36 z) (by kernel_rfl)
theorem cf_u02_1_n (c : Int) (hc : -40 ≤ c ∧ c ≤ 40) (h : c ≠ 0) : R 162 [.lst 8 [(nO (c) ++ [nils]), (nO 1 ++ [.lst 11 [(vC 97)]]), (nO (-1) ++ [.lst 11 [(vC 99)]])], .lst 11 [(vC 98)]] (N 0) := ru tk9 ok162 (y zero36 z) (by kernel_rfl)
theorem cf_u02_1 (c : Int) (hc : -40 ≤ c ∧ c ≤ 40) : R 162 [.lst 8 (pE c [(97, 1), (99, (-1))]), .lst 11 [(vC 98)]] (N 0) := by
  by_cases h : c = 0
  · subst h; exact cf_u02_1_z
  · rw [pE_nz h]; exact cf_u02_1_n c hc h
theorem cf_u02_2_z : R 162 [.lst 8 [(nO 1 ++ [.lst 11 [(vC 97)]]), (nO (-1) ++ [.lst 11 [(vC 99)]])], .lst 11 [(vC 99)]] (N (-1)) := ru tk8 ok162 z (by kernel_rfl)
theorem cf_u02_2_n (c : Int) (hc : -40 ≤ c ∧ c ≤ 40) (h : c ≠ 0) : R 162 [.lst 8 [(nO (c) ++ [nils]), (nO 1 ++ [.lst 11 [(vC 97)]]), (nO (-1) ++ [.lst 11 [(vC 99)]])], .lst 11 [(vC 99)]] (N (-1)) := ru tk8 ok162 z (by kernel_rfl)
theorem cf_u02_2 (c : Int) (hc : -40 ≤ c ∧ c ≤ 40) : R 162 [.lst 8 (pE c [(97, 1), (99, (-1))]), .lst 11 [(vC 99)]] (N (-1)) := by
  by_cases h : c = 0
  · subst h; exact cf_u02_2_z
  · rw [pE_nz h]; exact cf_u02_2_n c hc h
theorem cf_u02_3_z : R 162 [.lst 8 [(nO 1 ++ [.lst 11 [(vC 97)]]), (nO (-1) ++ [.lst 11 [(vC 99)]])], .lst 11 [(vC 100)]] (N 0) := ru tk9 ok162 (y zero36 z) (by kernel_rfl)
theorem cf_u02_3_n (c : Int) (hc : -40 ≤ c ∧ c ≤ 40) (h : c ≠ 0) : R 162 [.lst 8 [(nO (c) ++ [nils]), (nO 1 ++ [.lst 11 [(vC 97)]]), (nO (-1) ++ [.lst 11 [(vC 99)]])], .lst 11 [(vC 100)]] (N 0) := ru tk9 ok162 (y zero36 z) (by kernel_rfl)
theorem cf_u02_3 (c : Int) (hc : -40 ≤ c ∧ c ≤ 40) : R 162 [.lst 8 (pE c [(97, 1), (99, (-1))]), .lst 11 [(vC 100)]] (N 0) := by
  by_cases h : c = 0
  · subst h; exact cf_u02_3_z
  · rw [pE_nz h]; exact cf_u02_3_n c hc h
theorem cf_u02_4_z : R 162 [.lst 8 [(nO 1 ++ [.lst 11 [(vC 97)]]), (nO (-1) ++ [.lst 11 [(vC 99)]])], .lst 11 [(vC 101)]] (N 0) := ru tk9 ok162 (y zero36 z) (by kernel_rfl)
theorem cf_u02_4_n (c : Int) (hc : -40 ≤ c ∧ c ≤ 40) (h : c ≠ 0) : R 162 [.lst 8 [(nO (c) ++ [nils]), (nO 1 ++ [.lst 11 [(vC 97)]]), (nO (-1) ++ [.lst 11 [(vC 99)]])], .lst 11 [(vC 101)]] (N 0) := ru tk9 ok162 (y zero36 z) (by kernel_rfl)
theorem cf_u02_4 (c : Int) (hc : -40 ≤ c ∧ c ≤ 40) : R 162 [.lst 8 (pE c [(97, 1), (99, (-1))]), .lst 11 [(vC 101)]] (N 0) := by
  by_cases h : c = 0
  · subst h; exact cf_u02_4_z
  · rw [pE_nz h]; exact cf_u02_4_n c hc h
theorem cf_u12_0_z : R 162 [.lst 8 [(nO 1 ++ [.lst 11 [(vC 98)]]), (nO (-1) ++ [.lst 11 [(vC 99)]])], .lst 11 [(vC 97)]] (N 0) := ru tk9 ok162 (y zero36 z) (by kernel_rfl)
theorem cf_u12_0_n (c : Int) (hc : -40 ≤ c ∧ c ≤ 40) (h : c ≠ 0) : R 162 [.lst 8 [(nO (c) ++ [nils]), (nO 1 ++ [.lst 11 [(vC 98)]]), (nO (-1) ++ [.lst 11 [(vC 99)]])], .lst 11 [(vC 97)]] (N 0) := ru tk9 ok162 (y zero36 z) (by kernel_rfl)
theorem cf_u12_0 (c : Int) (hc : -40 ≤ c ∧ c ≤ 40) : R 162 [.lst 8 (pE c [(98, 1), (99, (-1))]), .lst 11 [(vC 97)]] (N 0) := by
  by_cases h : c = 0
  · subst h; exact cf_u12_0_z
  · rw [pE_nz h]; exact cf_u12_0_n c hc h
theorem cf_u12_1_z : R 162 [.lst 8 [(nO 1 ++ [.lst 11 [(vC 98)]]), (nO (-1) ++ [.lst 11 [(vC 99)]])], .lst 11 [(vC 98)]] (N 1) := ru tk8 ok162 z (by kernel_rfl)
theorem cf_u12_1_n (c : Int) (hc : -40 ≤ c ∧ c ≤ 40) (h : c ≠ 0) : R 162 [.lst 8 [(nO (c) ++ [nils]), (nO 1 ++ [.lst 11 [(vC 98)]]), (nO (-1) ++ [.lst 11 [(vC 99)]])], .lst 11 [(vC 98)]] (N 1) := ru tk8 ok162 z (by kernel_rfl)
theorem cf_u12_1 (c : Int) (hc : -40 ≤ c ∧ c ≤ 40) : R 162 [.lst 8 (pE c [(98, 1), (99, (-1))]), .lst 11 [(vC 98)]] (N 1) := by
  by_cases h : c = 0
  · subst h; exact cf_u12_1_z
  · rw [pE_nz h]; exact cf_u12_1_n c hc h
theorem cf_u12_2_z : R 162 [.lst 8 [(nO 1 ++ [.lst 11 [(vC 98)]]), (nO (-1) ++ [.lst 11 [(vC 99)]])], .lst 11 [(vC 99)]] (N (-1)) := ru tk8 ok162 z (by kernel_rfl)
theorem cf_u12_2_n (c : Int) (hc : -40 ≤ c ∧ c ≤ 40) (h : c ≠ 0) : R 162 [.lst 8 [(nO (c) ++ [nils]), (nO 1 ++ [.lst 11 [(vC 98)]]), (nO (-1) ++ [.lst 11 [(vC 99)]])], .lst 11 [(vC 99)]] (N (-1)) := ru tk8 ok162 z (by kernel_rfl)
theorem cf_u12_2 (c : Int) (hc : -40 ≤ c ∧ c ≤ 40) : R 162 [.lst 8 (pE c [(98, 1), (99, (-1))]), .lst 11 [(vC 99)]] (N (-1)) := by
  by_cases h : c = 0
  · subst h; exact cf_u12_2_z
  · rw [pE_nz h]; exact cf_u12_2_n c hc h
theorem cf_u12_3_z : R 162 [.lst 8 [(nO 1 ++ [.lst 11 [(vC 98)]]), (nO (-1) ++ [.lst 11 [(vC 99)]])], .lst 11 [(vC 100)]] (N 0) := ru tk9 ok162 (y zero36 z) (by kernel_rfl)
theorem cf_u12_3_n (c : Int) (hc : -40 ≤ c ∧ c ≤ 40) (h : c ≠ 0) : R 162 [.lst 8 [(nO (c) ++ [nils]), (nO 1 ++ [.lst 11 [(vC 98)]]), (nO (-1) ++ [.lst 11 [(vC 99)]])], .lst 11 [(vC 100)]] (N 0) := ru tk9 ok162 (y zero36 z) (by kernel_rfl)
theorem cf_u12_3 (c : Int) (hc : -40 ≤ c ∧ c ≤ 40) : R 162 [.lst 8 (pE c [(98, 1), (99, (-1))]), .lst 11 [(vC 100)]] (N 0) := by
  by_cases h : c = 0
  · subst h; exact cf_u12_3_z
  · rw [pE_nz h]; exact cf_u12_3_n c hc h
theorem cf_u12_4_z : R 162 [.lst 8 [(nO 1 ++ [.lst 11 [(vC 98)]]), (nO (-1) ++ [.lst 11 [(vC 99)]])], .lst 11 [(vC 101)]] (N 0) := ru tk9 ok162 (y zero36 z) (by kernel_rfl)
theorem cf_u12_4_n (c : Int) (hc : -40 ≤ c ∧ c ≤ 40) (h : c ≠ 0) : R 162 [.lst 8 [(nO (c) ++ [nils]), (nO 1 ++ [.lst 11 [(vC 98)]]), (nO (-1) ++ [.lst 11 [(vC 99)]])], .lst 11 [(vC 101)]] (N 0) := ru tk9 ok162 (y zero36 z) (by kernel_rfl)
theorem cf_u12_4 (c : Int) (hc : -40 ≤ c ∧ c ≤ 40) : R 162 [.lst 8 (pE c [(98, 1), (99, (-1))]), .lst 11 [(vC 101)]] (N 0) := by
  by_cases h : c = 0
  · subst h; exact cf_u12_4_z
  · rw [pE_nz h]; exact cf_u12_4_n c hc h
theorem cf_u03_0_z : R 162 [.lst 8 [(nO 1 ++ [.lst 11 [(vC 97)]]), (nO (-1) ++ [.lst 11 [(vC 100)]])], .lst 11 [(vC 97)]] (N 1) := ru tk8 ok162 z (by kernel_rfl)
theorem cf_u03_0_n (c : Int) (hc : -40 ≤ c ∧ c ≤ 40) (h : c ≠ 0) : R 162 [.lst 8 [(nO (c) ++ [nils]), (nO 1 ++ [.lst 11 [(vC 97)]]), (nO (-1) ++ [.lst 11 [(vC 100)]])], .lst 11 [(vC 97)]] (N 1) := ru tk8 ok162 z (by kernel_rfl)
theorem cf_u03_0 (c : Int) (hc : -40 ≤ c ∧ c ≤ 40) : R 162 [.lst 8 (pE c [(97, 1), (100, (-1))]), .lst 11 [(vC 97)]] (N 1) := by
  by_cases h : c = 0
  · subst h; exact cf_u03_0_z
  · rw [pE_nz h]; exact cf_u03_0_n c hc h
theorem cf_u03_1_z : R 162 [.lst 8 [(nO 1 ++ [.lst 11 [(vC 97)]]), (nO (-1) ++ [.lst 11 [(vC 100)]])], .lst 11 [(vC 98)]] (N 0) := ru tk9 ok162 (y zero36 z) (by kernel_rfl)
theorem cf_u03_1_n (c : Int) (hc : -40 ≤ c ∧ c ≤ 40) (h : c ≠ 0) : R 162 [.lst 8 [(nO (c) ++ [nils]), (nO 1 ++ [.lst 11 [(vC 97)]]), (nO (-1) ++ [.lst 11 [(vC 100)]])], .lst 11 [(vC 98)]] (N 0) := ru tk9 ok162 (y zero36 z) (by kernel_rfl)
theorem cf_u03_1 (c : Int) (hc : -40 ≤ c ∧ c ≤ 40) : R 162 [.lst 8 (pE c [(97, 1), (100, (-1))]), .lst 11 [(vC 98)]] (N 0) := by
  by_cases h : c = 0
  · subst h; exact cf_u03_1_z
  · rw [pE_nz h]; exact cf_u03_1_n c hc h
theorem cf_u03_2_z : R 162 [.lst 8 [(nO 1 ++ [.lst 11 [(vC 97)]]), (nO (-1) ++ [.lst 11 [(vC 100)]])], .lst 11 [(vC 99)]] (N 0) := ru tk9 ok162 (y zero36 z) (by kernel_rfl)
theorem cf_u03_2_n (c : Int) (hc : -40 ≤ c ∧ c ≤ 40) (h : c ≠ 0) : R 162 [.lst 8 [(nO (c) ++ [nils]), (nO 1 ++ [.lst 11 [(vC 97)]]), (nO (-1) ++ [.lst 11 [(vC 100)]])], .lst 11 [(vC 99)]] (N 0) := ru tk9 ok162 (y zero36 z) (by kernel_rfl)
theorem cf_u03_2 (c : Int) (hc : -40 ≤ c ∧ c ≤ 40) : R 162 [.lst 8 (pE c [(97, 1), (100, (-1))]), .lst 11 [(vC 99)]] (N 0) := by
  by_cases h : c = 0
  · subst h; exact cf_u03_2_z
  · rw [pE_nz h]; exact cf_u03_2_n c hc h
theorem cf_u03_3_z : R 162 [.lst 8 [(nO 1 ++ [.lst 11 [(vC 97)]]), (nO (-1) ++ [.lst 11 [(vC 100)]])], .lst 11 [(vC 100)]] (N (-1)) := ru tk8 ok162 z (by kernel_rfl)
theorem cf_u03_3_n (c : Int) (hc : -40 ≤ c ∧ c ≤ 40) (h : c ≠ 0) : R 162 [.lst 8 [(nO (c) ++ [nils]), (nO 1 ++ [.lst 11 [(vC 97)]]), (nO (-1) ++ [.lst 11 [(vC 100)]])], .lst 11 [(vC 100)]] (N (-1)) := ru tk8 ok162 z (by kernel_rfl)
theorem cf_u03_3 (c : Int) (hc : -40 ≤ c ∧ c ≤ 40) : R 162 [.lst 8 (pE c [(97, 1), (100, (-1))]), .lst 11 [(vC 100)]] (N (-1)) := by
  by_cases h : c = 0
  · subst h; exact cf_u03_3_z
  · rw [pE_nz h]; exact cf_u03_3_n c hc h
theorem cf_u03_4_z : R 162 [.lst 8 [(nO 1 ++ [.lst 11 [(vC 97)]]), (nO (-1) ++ [.lst 11 [(vC 100)]])], .lst 11 [(vC 101)]] (N 0) := ru tk9 ok162 (y zero36 z) (by kernel_rfl)
theorem cf_u03_4_n (c : Int) (hc : -40 ≤ c ∧ c ≤ 40) (h : c ≠ 0) : R 162 [.lst 8 [(nO (c) ++ [nils]), (nO 1 ++ [.lst 11 [(vC 97)]]), (nO (-1) ++ [.lst 11 [(vC 100)]])], .lst 11 [(vC 101)]] (N 0) := ru tk9 ok162 (y zero36 z) (by kernel_rfl)
theorem cf_u03_4 (c : Int) (hc : -40 ≤ c ∧ c ≤ 40) : R 162 [.lst 8 (pE c [(97, 1), (100, (-1))]), .lst 11 [(vC 101)]] (N 0) := by
  by_cases h : c = 0
  · subst h; exact cf_u03_4_z
  · rw [pE_nz h]; exact cf_u03_4_n c hc h
theorem cf_u13_0_z : R 162 [.lst 8 [(nO 1 ++ [.lst 11 [(vC 98)]]), (nO (-1) ++ [.lst 11 [(vC 100)]])], .lst 11 [(vC 97)]] (N 0) := ru tk9 ok162 (y zero36 z) (by kernel_rfl)
theorem cf_u13_0_n (c : Int) (hc : -40 ≤ c ∧ c ≤ 40) (h : c ≠ 0) : R 162 [.lst 8 [(nO (c) ++ [nils]), (nO 1 ++ [.lst 11 [(vC 98)]]), (nO (-1) ++ [.lst 11 [(vC 100)]])], .lst 11 [(vC 97)]] (N 0) := ru tk9 ok162 (y zero36 z) (by kernel_rfl)
theorem cf_u13_0 (c : Int) (hc : -40 ≤ c ∧ c ≤ 40) : R 162 [.lst 8 (pE c [(98, 1), (100, (-1))]), .lst 11 [(vC 97)]] (N 0) := by
  by_cases h : c = 0
  · subst h; exact cf_u13_0_z
  · rw [pE_nz h]; exact cf_u13_0_n c hc h
theorem cf_u13_1_z : R 162 [.lst 8 [(nO 1 ++ [.lst 11 [(vC 98)]]), (nO (-1) ++ [.lst 11 [(vC 100)]])], .lst 11 [(vC 98)]] (N 1) := ru tk8 ok162 z (by kernel_rfl)
theorem cf_u13_1_n (c : Int) (hc : -40 ≤ c ∧ c ≤ 40) (h : c ≠ 0) : R 162 [.lst 8 [(nO (c) ++ [nils]), (nO 1 ++ [.lst 11 [(vC 98)]]), (nO (-1) ++ [.lst 11 [(vC 100)]])], .lst 11 [(vC 98)]] (N 1) := ru tk8 ok162 z (by kernel_rfl)
theorem cf_u13_1 (c : Int) (hc : -40 ≤ c ∧ c ≤ 40) : R 162 [.lst 8 (pE c [(98, 1), (100, (-1))]), .lst 11 [(vC 98)]] (N 1) := by
  by_cases h : c = 0
  · subst h; exact cf_u13_1_z
  · rw [pE_nz h]; exact cf_u13_1_n c hc h
theorem cf_u13_2_z : R 162 [.lst 8 [(nO 1 ++ [.lst 11 [(vC 98)]]), (nO (-1) ++ [.lst 11 [(vC 100)]])], .lst 11 [(vC 99)]] (N 0) := ru tk9 ok162 (y zero36 z) (by kernel_rfl)
theorem cf_u13_2_n (c : Int) (hc : -40 ≤ c ∧ c ≤ 40) (h : c ≠ 0) : R 162 [.lst 8 [(nO (c) ++ [nils]), (nO 1 ++ [.lst 11 [(vC 98)]]), (nO (-1) ++ [.lst 11 [(vC 100)]])], .lst 11 [(vC 99)]] (N 0) := ru tk9 ok162 (y zero36 z) (by kernel_rfl)
theorem cf_u13_2 (c : Int) (hc : -40 ≤ c ∧ c ≤ 40) : R 162 [.lst 8 (pE c [(98, 1), (100, (-1))]), .lst 11 [(vC 99)]] (N 0) := by
  by_cases h : c = 0
  · subst h; exact cf_u13_2_z
  · rw [pE_nz h]; exact cf_u13_2_n c hc h
theorem cf_u13_3_z : R 162 [.lst 8 [(nO 1 ++ [.lst 11 [(vC 98)]]), (nO (-1) ++ [.lst 11 [(vC 100)]])], .lst 11 [(vC 100)]] (N (-1)) := ru tk8 ok162 z (by kernel_rfl)
theorem cf_u13_3_n (c : Int) (hc : -40 ≤ c ∧ c ≤ 40) (h : c ≠ 0) : R 162 [.lst 8 [(nO (c) ++ [nils]), (nO 1 ++ [.lst 11 [(vC 98)]]), (nO (-1) ++ [.lst 11 [(vC 100)]])], .lst 11 [(vC 100)]] (N (-1)) := ru tk8 ok162 z (by kernel_rfl)
theorem cf_u13_3 (c : Int) (hc : -40 ≤ c ∧ c ≤ 40) : R 162 [.lst 8 (pE c [(98, 1), (100, (-1))]), .lst 11 [(vC 100)]] (N (-1)) := by
  by_cases h : c = 0
  · subst h; exact cf_u13_3_z
  · rw [pE_nz h]; exact cf_u13_3_n c hc h
theorem cf_u13_4_z : R 162 [.lst 8 [(nO 1 ++ [.lst 11 [(vC 98)]]), (nO (-1) ++ [.lst 11 [(vC 100)]])], .lst 11 [(vC 101)]] (N 0) := ru tk9 ok162 (y zero36 z) (by kernel_rfl)
theorem cf_u13_4_n (c : Int) (hc : -40 ≤ c ∧ c ≤ 40) (h : c ≠ 0) : R 162 [.lst 8 [(nO (c) ++ [nils]), (nO 1 ++ [.lst 11 [(vC 98)]]), (nO (-1) ++ [.lst 11 [(vC 100)]])], .lst 11 [(vC 101)]] (N 0) := ru tk9 ok162 (y zero36 z) (by kernel_rfl)
theorem cf_u13_4 (c : Int) (hc : -40 ≤ c ∧ c ≤ 40) : R 162 [.lst 8 (pE c [(98, 1), (100, (-1))]), .lst 11 [(vC 101)]] (N 0) := by
  by_cases h : c = 0
  · subst h; exact cf_u13_4_z
  · rw [pE_nz h]; exact cf_u13_4_n c hc h
theorem cf_u23_0_z : R 162 [.lst 8 [(nO 1 ++ [.lst 11 [(vC 99)]]), (nO (-1) ++ [.lst 11 [(vC 100)]])], .lst 11 [(vC 97)]] (N 0) := ru tk9 ok162 (y zero36 z) (by kernel_rfl)
theorem cf_u23_0_n (c : Int) (hc : -40 ≤ c ∧ c ≤ 40) (h : c ≠ 0) : R 162 [.lst 8 [(nO (c) ++ [nils]), (nO 1 ++ [.lst 11 [(vC 99)]]), (nO (-1) ++ [.lst 11 [(vC 100)]])], .lst 11 [(vC 97)]] (N 0) := ru tk9 ok162 (y zero36 z) (by kernel_rfl)
theorem cf_u23_0 (c : Int) (hc : -40 ≤ c ∧ c ≤ 40) : R 162 [.lst 8 (pE c [(99, 1), (100, (-1))]), .lst 11 [(vC 97)]] (N 0) := by
  by_cases h : c = 0
  · subst h; exact cf_u23_0_z
  · rw [pE_nz h]; exact cf_u23_0_n c hc h
theorem cf_u23_1_z : R 162 [.lst 8 [(nO 1 ++ [.lst 11 [(vC 99)]]), (nO (-1) ++ [.lst 11 [(vC 100)]])], .lst 11 [(vC 98)]] (N 0) := ru tk9 ok162 (y zero36 z) (by kernel_rfl)
theorem cf_u23_1_n (c : Int) (hc : -40 ≤ c ∧ c ≤ 40) (h : c ≠ 0) : R 162 [.lst 8 [(nO (c) ++ [nils]), (nO 1 ++ [.lst 11 [(vC 99)]]), (nO (-1) ++ [.lst 11 [(vC 100)]])], .lst 11 [(vC 98)]] (N 0) := ru tk9 ok162 (y zero36 z) (by kernel_rfl)
theorem cf_u23_1 (c : Int) (hc : -40 ≤ c ∧ c ≤ 40) : R 162 [.lst 8 (pE c [(99, 1), (100, (-1))]), .lst 11 [(vC 98)]] (N 0) := by
  by_cases h : c = 0
  · subst h; exact cf_u23_1_z
  · rw [pE_nz h]; exact cf_u23_1_n c hc h
theorem cf_u23_2_z : R 162 [.lst 8 [(nO 1 ++ [.lst 11 [(vC 99)]]), (nO (-1) ++ [.lst 11 [(vC 100)]])], .lst 11 [(vC 99)]] (N 1) := ru tk8 ok162 z (by kernel_rfl)
theorem cf_u23_2_n (c : Int) (hc : -40 ≤ c ∧ c ≤ 40) (h : c ≠ 0) : R 162 [.lst 8 [(nO (c) ++ [nils]), (nO 1 ++ [.lst 11 [(vC 99)]]), (nO (-1) ++ [.lst 11 [(vC 100)]])], .lst 11 [(vC 99)]] (N 1) := ru tk8 ok162 z (by kernel_rfl)
theorem cf_u23_2 (c : Int) (hc : -40 ≤ c ∧ c ≤ 40) : R 162 [.lst 8 (pE c [(99, 1), (100, (-1))]), .lst 11 [(vC 99)]] (N 1) := by
  by_cases h : c = 0
  · subst h; exact cf_u23_2_z
  · rw [pE_nz h]; exact cf_u23_2_n c hc h
theorem cf_u23_3_z : R 162 [.lst 8 [(nO 1 ++ [.lst 11 [(vC 99)]]), (nO (-1) ++ [.lst 11 [(vC 100)]])], .lst 11 [(vC 100)]] (N (-1)) := ru tk8 ok162 z (by kernel_rfl)
theorem cf_u23_3_n (c : Int) (hc : -40 ≤ c ∧ c ≤ 40) (h : c ≠ 0) : R 162 [.lst 8 [(nO (c) ++ [nils]), (nO 1 ++ [.lst 11 [(vC 99)]]), (nO (-1) ++ [.lst 11 [(vC 100)]])], .lst 11 [(vC 100)]] (N (-1)) := ru tk8 ok162 z (by kernel_rfl)
theorem cf_u23_3 (c : Int) (hc : -40 ≤ c ∧ c ≤ 40) : R 162 [.lst 8 (pE c [(99, 1), (100, (-1))]), .lst 11 [(vC 100)]] (N (-1)) := by
  by_cases h : c = 0
  · subst h; exact cf_u23_3_z
  · rw [pE_nz h]; exact cf_u23_3_n c hc h
theorem cf_u23_4_z : R 162 [.lst 8 [(nO 1 ++ [.lst 11 [(vC 99)]]), (nO (-1) ++ [.lst 11 [(vC 100)]])], .lst 11 [(vC 101)]] (N 0) := ru tk9 ok162 (y zero36 z) (by kernel_rfl)
theorem cf_u23_4_n (c : Int) (hc : -40 ≤ c ∧ c ≤ 40) (h : c ≠ 0) : R 162 [.lst 8 [(nO (c) ++ [nils]), (nO 1 ++ [.lst 11 [(vC 99)]]), (nO (-1) ++ [.lst 11 [(vC 100)]])], .lst 11 [(vC 101)]] (N 0) := ru tk9 ok162 (y zero36 z) (by kernel_rfl)
theorem cf_u23_4 (c : Int) (hc : -40 ≤ c ∧ c ≤ 40) : R 162 [.lst 8 (pE c [(99, 1), (100, (-1))]), .lst 11 [(vC 101)]] (N 0) := by
  by_cases h : c = 0
  · subst h; exact cf_u23_4_z
  · rw [pE_nz h]; exact cf_u23_4_n c hc h
theorem cf_u04_0_z : R 162 [.lst 8 [(nO 1 ++ [.lst 11 [(vC 97)]]), (nO (-1) ++ [.lst 11 [(vC 101)]])], .lst 11 [(vC 97)]] (N 1) := ru tk8 ok162 z (by kernel_rfl)
theorem cf_u04_0_n (c : Int) (hc : -40 ≤ c ∧ c ≤ 40) (h : c ≠ 0) : R 162 [.lst 8 [(nO (c) ++ [nils]), (nO 1 ++ [.lst 11 [(vC 97)]]), (nO (-1) ++ [.lst 11 [(vC 101)]])], .lst 11 [(vC 97)]] (N 1) := ru tk8 ok162 z (by kernel_rfl)
theorem cf_u04_0 (c : Int) (hc : -40 ≤ c ∧ c ≤ 40) : R 162 [.lst 8 (pE c [(97, 1), (101, (-1))]), .lst 11 [(vC 97)]] (N 1) := by
  by_cases h : c = 0
  · subst h; exact cf_u04_0_z
  · rw [pE_nz h]; exact cf_u04_0_n c hc h
theorem cf_u04_1_z : R 162 [.lst 8 [(nO 1 ++ [.lst 11 [(vC 97)]]), (nO (-1) ++ [.lst 11 [(vC 101)]])], .lst 11 [(vC 98)]] (N 0) := ru tk9 ok162 (y zero36 z) (by kernel_rfl)
theorem cf_u04_1_n (c : Int) (hc : -40 ≤ c ∧ c ≤ 40) (h : c ≠ 0) : R 162 [.lst 8 [(nO (c) ++ [nils]), (nO 1 ++ [.lst 11 [(vC 97)]]), (nO (-1) ++ [.lst 11 [(vC 101)]])], .lst 11 [(vC 98)]] (N 0) := ru tk9 ok162 (y zero36 z) (by kernel_rfl)
theorem cf_u04_1 (c : Int) (hc : -40 ≤ c ∧ c ≤ 40) : R 162 [.lst 8 (pE c [(97, 1), (101, (-1))]), .lst 11 [(vC 98)]] (N 0) := by
  by_cases h : c = 0
  · subst h; exact cf_u04_1_z
  · rw [pE_nz h]; exact cf_u04_1_n c hc h
theorem cf_u04_2_z : R 162 [.lst 8 [(nO 1 ++ [.lst 11 [(vC 97)]]), (nO (-1) ++ [.lst 11 [(vC 101)]])], .lst 11 [(vC 99)]] (N 0) := ru tk9 ok162 (y zero36 z) (by kernel_rfl)
theorem cf_u04_2_n (c : Int) (hc : -40 ≤ c ∧ c ≤ 40) (h : c ≠ 0) : R 162 [.lst 8 [(nO (c) ++ [nils]), (nO 1 ++ [.lst 11 [(vC 97)]]), (nO (-1) ++ [.lst 11 [(vC 101)]])], .lst 11 [(vC 99)]] (N 0) := ru tk9 ok162 (y zero36 z) (by kernel_rfl)
theorem cf_u04_2 (c : Int) (hc : -40 ≤ c ∧ c ≤ 40) : R 162 [.lst 8 (pE c [(97, 1), (101, (-1))]), .lst 11 [(vC 99)]] (N 0) := by
  by_cases h : c = 0
  · subst h; exact cf_u04_2_z
  · rw [pE_nz h]; exact cf_u04_2_n c hc h
theorem cf_u04_3_z : R 162 [.lst 8 [(nO 1 ++ [.lst 11 [(vC 97)]]), (nO (-1) ++ [.lst 11 [(vC 101)]])], .lst 11 [(vC 100)]] (N 0) := ru tk9 ok162 (y zero36 z) (by kernel_rfl)
theorem cf_u04_3_n (c : Int) (hc : -40 ≤ c ∧ c ≤ 40) (h : c ≠ 0) : R 162 [.lst 8 [(nO (c) ++ [nils]), (nO 1 ++ [.lst 11 [(vC 97)]]), (nO (-1) ++ [.lst 11 [(vC 101)]])], .lst 11 [(vC 100)]] (N 0) := ru tk9 ok162 (y zero36 z) (by kernel_rfl)
theorem cf_u04_3 (c : Int) (hc : -40 ≤ c ∧ c ≤ 40) : R 162 [.lst 8 (pE c [(97, 1), (101, (-1))]), .lst 11 [(vC 100)]] (N 0) := by
  by_cases h : c = 0
  · subst h; exact cf_u04_3_z
  · rw [pE_nz h]; exact cf_u04_3_n c hc h
theorem cf_u04_4_z : R 162 [.lst 8 [(nO 1 ++ [.lst 11 [(vC 97)]]), (nO (-1) ++ [.lst 11 [(vC 101)]])], .lst 11 [(vC 101)]] (N (-1)) := ru tk8 ok162 z (by kernel_rfl)
theorem cf_u04_4_n (c : Int) (hc : -40 ≤ c ∧ c ≤ 40) (h : c ≠ 0) : R 162 [.lst 8 [(nO (c) ++ [nils]), (nO 1 ++ [.lst 11 [(vC 97)]]), (nO (-1) ++ [.lst 11 [(vC 101)]])], .lst 11 [(vC 101)]] (N (-1)) := ru tk8 ok162 z (by kernel_rfl)
theorem cf_u04_4 (c : Int) (hc : -40 ≤ c ∧ c ≤ 40) : R 162 [.lst 8 (pE c [(97, 1), (101, (-1))]), .lst 11 [(vC 101)]] (N (-1)) := by
  by_cases h : c = 0
  · subst h; exact cf_u04_4_z
  · rw [pE_nz h]; exact cf_u04_4_n c hc h
theorem cf_u14_0_z : R 162 [.lst 8 [(nO 1 ++ [.lst 11 [(vC 98)]]), (nO (-1) ++ [.lst 11 [(vC 101)]])], .lst 11 [(vC 97)]] (N 0) := ru tk9 ok162 (y zero36 z) (by kernel_rfl)
theorem cf_u14_0_n (c : Int) (hc : -40 ≤ c ∧ c ≤ 40) (h : c ≠ 0) : R 162 [.lst 8 [(nO (c) ++ [nils]), (nO 1 ++ [.lst 11 [(vC 98)]]), (nO (-1) ++ [.lst 11 [(vC 101)]])], .lst 11 [(vC 97)]] (N 0) := ru tk9 ok162 (y zero36 z) (by kernel_rfl)
theorem cf_u14_0 (c : Int) (hc : -40 ≤ c ∧ c ≤ 40) : R 162 [.lst 8 (pE c [(98, 1), (101, (-1))]), .lst 11 [(vC 97)]] (N 0) := by
  by_cases h : c = 0
  · subst h; exact cf_u14_0_z
  · rw [pE_nz h]; exact cf_u14_0_n c hc h
theorem cf_u14_1_z : R 162 [.lst 8 [(nO 1 ++ [.lst 11 [(vC 98)]]), (nO (-1) ++ [.lst 11 [(vC 101)]])], .lst 11 [(vC 98)]] (N 1) := ru tk8 ok162 z (by kernel_rfl)
theorem cf_u14_1_n (c : Int) (hc : -40 ≤ c ∧ c ≤ 40) (h : c ≠ 0) : R 162 [.lst 8 [(nO (c) ++ [nils]), (nO 1 ++ [.lst 11 [(vC 98)]]), (nO (-1) ++ [.lst 11 [(vC 101)]])], .lst 11 [(vC 98)]] (N 1) := ru tk8 ok162 z (by kernel_rfl)
theorem cf_u14_1 (c : Int) (hc : -40 ≤ c ∧ c ≤ 40) : R 162 [.lst 8 (pE c [(98, 1), (101, (-1))]), .lst 11 [(vC 98)]] (N 1) := by
  by_cases h : c = 0
  · subst h; exact cf_u14_1_z
  · rw [pE_nz h]; exact cf_u14_1_n c hc h
theorem cf_u14_2_z : R 162 [.lst 8 [(nO 1 ++ [.lst 11 [(vC 98)]]), (nO (-1) ++ [.lst 11 [(vC 101)]])], .lst 11 [(vC 99)]] (N 0) := ru tk9 ok162 (y zero36 z) (by kernel_rfl)
theorem cf_u14_2_n (c : Int) (hc : -40 ≤ c ∧ c ≤ 40) (h : c ≠ 0) : R 162 [.lst 8 [(nO (c) ++ [nils]), (nO 1 ++ [.lst 11 [(vC 98)]]), (nO (-1) ++ [.lst 11 [(vC 101)]])], .lst 11 [(vC 99)]] (N 0) := ru tk9 ok162 (y zero36 z) (by kernel_rfl)
theorem cf_u14_2 (c : Int) (hc : -40 ≤ c ∧ c ≤ 40) : R 162 [.lst 8 (pE c [(98, 1), (101, (-1))]), .lst 11 [(vC 99)]] (N 0) := by
  by_cases h : c = 0
  · subst h; exact cf_u14_2_z
  · rw [pE_nz h]; exact cf_u14_2_n c hc h
theorem cf_u14_3_z : R 162 [.lst 8 [(nO 1 ++ [.lst 11 [(vC 98)]]), (nO (-1) ++ [.lst 11 [(vC 101)]])], .lst 11 [(vC 100)]] (N 0) := ru tk9 ok162 (y zero36 z) (by kernel_rfl)
theorem cf_u14_3_n (c : Int) (hc : -40 ≤ c ∧ c ≤ 40) (h : c ≠ 0) : R 162 [.lst 8 [(nO (c) ++ [nils]), (nO 1 ++ [.lst 11 [(vC 98)]]), (nO (-1) ++ [.lst 11 [(vC 101)]])], .lst 11 [(vC 100)]] (N 0) := ru tk9 ok162 (y zero36 z) (by kernel_rfl)
theorem cf_u14_3 (c : Int) (hc : -40 ≤ c ∧ c ≤ 40) : R 162 [.lst 8 (pE c [(98, 1), (101, (-1))]), .lst 11 [(vC 100)]] (N 0) := by
  by_cases h : c = 0
  · subst h; exact cf_u14_3_z
  · rw [pE_nz h]; exact cf_u14_3_n c hc h
theorem cf_u14_4_z : R 162 [.lst 8 [(nO 1 ++ [.lst 11 [(vC 98)]]), (nO (-1) ++ [.lst 11 [(vC 101)]])], .lst 11 [(vC 101)]] (N (-1)) := ru tk8 ok162 z (by kernel_rfl)
theorem cf_u14_4_n (c : Int) (hc : -40 ≤ c ∧ c ≤ 40) (h : c ≠ 0) : R 162 [.lst 8 [(nO (c) ++ [nils]), (nO 1 ++ [.lst 11 [(vC 98)]]), (nO (-1) ++ [.lst 11 [(vC 101)]])], .lst 11 [(vC 101)]] (N (-1)) := ru tk8 ok162 z (by kernel_rfl)
theorem cf_u14_4 (c : Int) (hc : -40 ≤ c ∧ c ≤ 40) : R 162 [.lst 8 (pE c [(98, 1), (101, (-1))]), .lst 11 [(vC 101)]] (N (-1)) := by
  by_cases h : c = 0
  · subst h; exact cf_u14_4_z
  · rw [pE_nz h]; exact cf_u14_4_n c hc h
theorem cf_u24_0_z : R 162 [.lst 8 [(nO 1 ++ [.lst 11 [(vC 99)]]), (nO (-1) ++ [.lst 11 [(vC 101)]])], .lst 11 [(vC 97)]] (N 0) := ru tk9 ok162 (y zero36 z) (by kernel_rfl)
theorem cf_u24_0_n (c : Int) (hc : -40 ≤ c ∧ c ≤ 40) (h : c ≠ 0) : R 162 [.lst 8 [(nO (c) ++ [nils]), (nO 1 ++ [.lst 11 [(vC 99)]]), (nO (-1) ++ [.lst 11 [(vC 101)]])], .lst 11 [(vC 97)]] (N 0) := ru tk9 ok162 (y zero36 z) (by kernel_rfl)
theorem cf_u24_0 (c : Int) (hc : -40 ≤ c ∧ c ≤ 40) : R 162 [.lst 8 (pE c [(99, 1), (101, (-1))]), .lst 11 [(vC 97)]] (N 0) := by
  by_cases h : c = 0
  · subst h; exact cf_u24_0_z
  · rw [pE_nz h]; exact cf_u24_0_n c hc h
theorem cf_u24_1_z : R 162 [.lst 8 [(nO 1 ++ [.lst 11 [(vC 99)]]), (nO (-1) ++ [.lst 11 [(vC 101)]])], .lst 11 [(vC 98)]] (N 0) := ru tk9 ok162 (y zero36 z) (by kernel_rfl)
theorem cf_u24_1_n (c : Int) (hc : -40 ≤ c ∧ c ≤ 40) (h : c ≠ 0) : R 162 [.lst 8 [(nO (c) ++ [nils]), (nO 1 ++ [.lst 11 [(vC 99)]]), (nO (-1) ++ [.lst 11 [(vC 101)]])], .lst 11 [(vC 98)]] (N 0) := ru tk9 ok162 (y zero36 z) (by kernel_rfl)
theorem cf_u24_1 (c : Int) (hc : -40 ≤ c ∧ c ≤ 40) : R 162 [.lst 8 (pE c [(99, 1), (101, (-1))]), .lst 11 [(vC 98)]] (N 0) := by
  by_cases h : c = 0
  · subst h; exact cf_u24_1_z
  · rw [pE_nz h]; exact cf_u24_1_n c hc h
theorem cf_u24_2_z : R 162 [.lst 8 [(nO 1 ++ [.lst 11 [(vC 99)]]), (nO (-1) ++ [.lst 11 [(vC 101)]])], .lst 11 [(vC 99)]] (N 1) := ru tk8 ok162 z (by kernel_rfl)
theorem cf_u24_2_n (c : Int) (hc : -40 ≤ c ∧ c ≤ 40) (h : c ≠ 0) : R 162 [.lst 8 [(nO (c) ++ [nils]), (nO 1 ++ [.lst 11 [(vC 99)]]), (nO (-1) ++ [.lst 11 [(vC 101)]])], .lst 11 [(vC 99)]] (N 1) := ru tk8 ok162 z (by kernel_rfl)
theorem cf_u24_2 (c : Int) (hc : -40 ≤ c ∧ c ≤ 40) : R 162 [.lst 8 (pE c [(99, 1), (101, (-1))]), .lst 11 [(vC 99)]] (N 1) := by
  by_cases h : c = 0
  · subst h; exact cf_u24_2_z
  · rw [pE_nz h]; exact cf_u24_2_n c hc h
theorem cf_u24_3_z : R 162 [.lst 8 [(nO 1 ++ [.lst 11 [(vC 99)]]), (nO (-1) ++ [.lst 11 [(vC 101)]])], .lst 11 [(vC 100)]] (N 0) := ru tk9 ok162 (y zero36 z) (by kernel_rfl)
theorem cf_u24_3_n (c : Int) (hc : -40 ≤ c ∧ c ≤ 40) (h : c ≠ 0) : R 162 [.lst 8 [(nO (c) ++ [nils]), (nO 1 ++ [.lst 11 [(vC 99)]]), (nO (-1) ++ [.lst 11 [(vC 101)]])], .lst 11 [(vC 100)]] (N 0) := ru tk9 ok162 (y zero36 z) (by kernel_rfl)
theorem cf_u24_3 (c : Int) (hc : -40 ≤ c ∧ c ≤ 40) : R 162 [.lst 8 (pE c [(99, 1), (101, (-1))]), .lst 11 [(vC 100)]] (N 0) := by
  by_cases h : c = 0
  · subst h; exact cf_u24_3_z
  · rw [pE_nz h]; exact cf_u24_3_n c hc h
theorem cf_u24_4_z : R 162 [.lst 8 [(nO 1 ++ [.lst 11 [(vC 99)]]), (nO (-1) ++ [.lst 11 [(vC 101)]])], .lst 11 [(vC 101)]] (N (-1)) := ru tk8 ok162 z (by kernel_rfl)
theorem cf_u24_4_n (c : Int) (hc : -40 ≤ c ∧ c ≤ 40) (h : c ≠ 0) : R 162 [.lst 8 [(nO (c) ++ [nils]), (nO 1 ++ [.lst 11 [(vC 99)]]), (nO (-1) ++ [.lst 11 [(vC 101)]])], .lst 11 [(vC 101)]] (N (-1)) := ru tk8 ok162 z (by kernel_rfl)
theorem cf_u24_4 (c : Int) (hc : -40 ≤ c ∧ c ≤ 40) : R 162 [.lst 8 (pE c [(99, 1), (101, (-1))]), .lst 11 [(vC 101)]] (N (-1)) := by
  by_cases h : c = 0
  · subst h; exact cf_u24_4_z
  · rw [pE_nz h]; exact cf_u24_4_n c hc h
theorem cf_u34_0_z : R 162 [.lst 8 [(nO 1 ++ [.lst 11 [(vC 100)]]), (nO (-1) ++ [.lst 11 [(vC 101)]])], .lst 11 [(vC 97)]] (N 0) := ru tk9 ok162 (y zero36 z) (by kernel_rfl)
theorem cf_u34_0_n (c : Int) (hc : -40 ≤ c ∧ c ≤ 40) (h : c ≠ 0) : R 162 [.lst 8 [(nO (c) ++ [nils]), (nO 1 ++ [.lst 11 [(vC 100)]]), (nO (-1) ++ [.lst 11 [(vC 101)]])], .lst 11 [(vC 97)]] (N 0) := ru tk9 ok162 (y zero36 z) (by kernel_rfl)
theorem cf_u34_0 (c : Int) (hc : -40 ≤ c ∧ c ≤ 40) : R 162 [.lst 8 (pE c [(100, 1), (101, (-1))]), .lst 11 [(vC 97)]] (N 0) := by
  by_cases h : c = 0
  · subst h; exact cf_u34_0_z
  · rw [pE_nz h]; exact cf_u34_0_n c hc h
theorem cf_u34_1_z : R 162 [.lst 8 [(nO 1 ++ [.lst 11 [(vC 100)]]), (nO (-1) ++ [.lst 11 [(vC 101)]])], .lst 11 [(vC 98)]] (N 0) := ru tk9 ok162 (y zero36 z) (by kernel_rfl)
theorem cf_u34_1_n (c : Int) (hc : -40 ≤ c ∧ c ≤ 40) (h : c ≠ 0) : R 162 [.lst 8 [(nO (c) ++ [nils]), (nO 1 ++ [.lst 11 [(vC 100)]]), (nO (-1) ++ [.lst 11 [(vC 101)]])], .lst 11 [(vC 98)]] (N 0) := ru tk9 ok162 (y zero36 z) (by kernel_rfl)
theorem cf_u34_1 (c : Int) (hc : -40 ≤ c ∧ c ≤ 40) : R 162 [.lst 8 (pE c [(100, 1), (101, (-1))]), .lst 11 [(vC 98)]] (N 0) := by
  by_cases h : c = 0
  · subst h; exact cf_u34_1_z
  · rw [pE_nz h]; exact cf_u34_1_n c hc h
theorem cf_u34_2_z : R 162 [.lst 8 [(nO 1 ++ [.lst 11 [(vC 100)]]), (nO (-1) ++ [.lst 11 [(vC 101)]])], .lst 11 [(vC 99)]] (N 0) := ru tk9 ok162 (y zero36 z) (by kernel_rfl)
theorem cf_u34_2_n (c : Int) (hc : -40 ≤ c ∧ c ≤ 40) (h : c ≠ 0) : R 162 [.lst 8 [(nO (c) ++ [nils]), (nO 1 ++ [.lst 11 [(vC 100)]]), (nO (-1) ++ [.lst 11 [(vC 101)]])], .lst 11 [(vC 99)]] (N 0) := ru tk9 ok162 (y zero36 z) (by kernel_rfl)
theorem cf_u34_2 (c : Int) (hc : -40 ≤ c ∧ c ≤ 40) : R 162 [.lst 8 (pE c [(100, 1), (101, (-1))]), .lst 11 [(vC 99)]] (N 0) := by
  by_cases h : c = 0
  · subst h; exact cf_u34_2_z
  · rw [pE_nz h]; exact cf_u34_2_n c hc h
theorem cf_u34_3_z : R 162 [.lst 8 [(nO 1 ++ [.lst 11 [(vC 100)]]), (nO (-1) ++ [.lst 11 [(vC 101)]])], .lst 11 [(vC 100)]] (N 1) := ru tk8 ok162 z (by kernel_rfl)
theorem cf_u34_3_n (c : Int) (hc : -40 ≤ c ∧ c ≤ 40) (h : c ≠ 0) : R 162 [.lst 8 [(nO (c) ++ [nils]), (nO 1 ++ [.lst 11 [(vC 100)]]), (nO (-1) ++ [.lst 11 [(vC 101)]])], .lst 11 [(vC 100)]] (N 1) := ru tk8 ok162 z (by kernel_rfl)
theorem cf_u34_3 (c : Int) (hc : -40 ≤ c ∧ c ≤ 40) : R 162 [.lst 8 (pE c [(100, 1), (101, (-1))]), .lst 11 [(vC 100)]] (N 1) := by
  by_cases h : c = 0
  · subst h; exact cf_u34_3_z
  · rw [pE_nz h]; exact cf_u34_3_n c hc h
theorem cf_u34_4_z : R 162 [.lst 8 [(nO 1 ++ [.lst 11 [(vC 100)]]), (nO (-1) ++ [.lst 11 [(vC 101)]])], .lst 11 [(vC 101)]] (N (-1)) := ru tk8 ok162 z (by kernel_rfl)
theorem cf_u34_4_n (c : Int) (hc : -40 ≤ c ∧ c ≤ 40) (h : c ≠ 0) : R 162 [.lst 8 [(nO (c) ++ [nils]), (nO 1 ++ [.lst 11 [(vC 100)]]), (nO (-1) ++ [.lst 11 [(vC 101)]])], .lst 11 [(vC 101)]] (N (-1)) := ru tk8 ok162 z (by kernel_rfl)
theorem cf_u34_4 (c : Int) (hc : -40 ≤ c ∧ c ≤ 40) : R 162 [.lst 8 (pE c [(100, 1), (101, (-1))]), .lst 11 [(vC 101)]] (N (-1)) := by
  by_cases h : c = 0
  · subst h; exact cf_u34_4_z
  · rw [pE_nz h]; exact cf_u34_4_n c hc h

end Go.Proofs.YthiipifjdfmblaaGreatDoor

/- How the program reads the literals of the chains, and adds and reads their polynomials. Made by a program: each contract comes of a run of the function's body. -/
import Derived.Test.YthiipifjdfmblaaGreatDoorPa
set_option linter.unusedVariables false
set_option linter.unusedSimpArgs false
namespace Go.Proofs.YthiipifjdfmblaaGreatDoor
open Go Go.Pf Go.RowKit
set_option maxRecDepth 100000
theorem an_z : R 156 [nils, .lst 8 [(nO (-1) ++ [.lst 11 [(vC 97)]]), (nO 1 ++ [.lst 11 [(vC 98)]])]] (.tup [.lst 8 [(nO (-1) ++ [.lst 11 [(vC 97)]]), (nO 1 ++ [.lst 11 [(vC 98)]])], I 0]) := ru tk3 ok156 (y4 x2 x1 x4 x3 (y2 cmp_97_98 cmp_98_97 z)) (by kernel_rfl)
theorem an_n (c : Int) (hc : -40 ≤ c ∧ c ≤ 40) (h : c ≠ 0) : R 156 [nils, .lst 8 [(nO (c) ++ [nils]), (nO (-1) ++ [.lst 11 [(vC 97)]]), (nO 1 ++ [.lst 11 [(vC 98)]])]] (.tup [.lst 8 [(nO (c) ++ [nils]), (nO (-1) ++ [.lst 11 [(vC 97)]]), (nO 1 ++ [.lst 11 [(vC 98)]])], I 0]) := ru tk3 ok156 (y8 x2 x1 (vd (c) (by omega)) x4 x3 (nau (c) (by omega)) cmp_97_98 cmp_98_97 z) (by kernel_rfl)
theorem an (c : Int) (hc : -40 ≤ c ∧ c ≤ 40) : R 156 [nils, .lst 8 (pE c [(97, (-1)), (98, 1)])] (.tup [.lst 8 (pE c [(97, (-1)), (98, 1)]), I 0]) := by
  by_cases h : c = 0
  · subst h; exact an_z
  · rw [pE_nz h]; exact an_n c hc h
theorem am_1_zz : R 156 [.lst 8 [(nO (-1) ++ [.lst 11 [(vC 97)]]), (nO 1 ++ [.lst 11 [(vC 98)]])], .lst 8 [(nO (-1) ++ [.lst 11 [(vC 98)]]), (nO 1 ++ [.lst 11 [(vC 99)]])]] (.tup [.lst 8 [(nO (-1) ++ [.lst 11 [(vC 97)]]), (nO 1 ++ [.lst 11 [(vC 99)]])], I 0]) := ru tk3 ok156 (y8 x2 x1 x4 naught_t x3 cmp_98_99 x8 cmp_98_98 (y4 cmp_97_98 cmp_99_98 cmp_98_98 cmp_98_97 z)) (by kernel_rfl)
theorem am_1_nz (c : Int) (hc : -15 ≤ c ∧ c ≤ 15) (h1 : c ≠ 0) : R 156 [.lst 8 [(nO (c) ++ [nils]), (nO (-1) ++ [.lst 11 [(vC 97)]]), (nO 1 ++ [.lst 11 [(vC 98)]])], .lst 8 [(nO (-1) ++ [.lst 11 [(vC 98)]]), (nO 1 ++ [.lst 11 [(vC 99)]])]] (.tup [.lst 8 [(nO (c) ++ [nils]), (nO (-1) ++ [.lst 11 [(vC 97)]]), (nO 1 ++ [.lst 11 [(vC 99)]])], I 0]) := ru tk3 ok156 (y8 x2 x1 (vd (c) (by omega)) x4 naught_t x3 (nau (c) (by omega)) cmp_98_99 (y4 x8 cmp_98_98 cmp_97_98 cmp_99_98 (y2 cmp_98_98 cmp_98_97 z))) (by kernel_rfl)
theorem am_1_zn (k : Int) (hk : -5 ≤ k ∧ k ≤ 5) (h2 : k ≠ 0) : R 156 [.lst 8 [(nO (-1) ++ [.lst 11 [(vC 97)]]), (nO 1 ++ [.lst 11 [(vC 98)]])], .lst 8 [(nO (k) ++ [nils]), (nO (-1) ++ [.lst 11 [(vC 98)]]), (nO 1 ++ [.lst 11 [(vC 99)]])]] (.tup [.lst 8 [(nO (k) ++ [nils]), (nO (-1) ++ [.lst 11 [(vC 97)]]), (nO 1 ++ [.lst 11 [(vC 99)]])], I 0]) := ru tk3 ok156 (y8 x2 x1 (vd (k) (by omega)) x4 naught_t x3 (nau (k) (by omega)) cmp_98_99 (y4 x8 cmp_98_98 cmp_97_98 cmp_99_98 (y2 cmp_98_98 cmp_98_97 z))) (by kernel_rfl)
theorem am_1_nn (c : Int) (hc : -15 ≤ c ∧ c ≤ 15) (h1 : c ≠ 0) (k : Int) (hk : -5 ≤ k ∧ k ≤ 5) (h2 : k ≠ 0) (h3 : c + k ≠ 0) : R 156 [.lst 8 [(nO (c) ++ [nils]), (nO (-1) ++ [.lst 11 [(vC 97)]]), (nO 1 ++ [.lst 11 [(vC 98)]])], .lst 8 [(nO (k) ++ [nils]), (nO (-1) ++ [.lst 11 [(vC 98)]]), (nO 1 ++ [.lst 11 [(vC 99)]])]] (.tup [.lst 8 [(nO (c + k) ++ [nils]), (nO (-1) ++ [.lst 11 [(vC 97)]]), (nO 1 ++ [.lst 11 [(vC 99)]])], I 0]) := ru tk3 ok156 (y8 x2 x1 (vd (c + k) (by omega)) x4 naught_t x3 (nau (c + k) (by omega)) cmp_98_99 (y4 x8 cmp_98_98 cmp_97_98 (w215 (c) (k) (c + k) (by omega)) (y2 cmp_99_98 cmp_98_98 (y cmp_98_97 z)))) (by kernel_rfl)
theorem am_1_nm (c : Int) (hc : -5 ≤ c ∧ c ≤ 5) (h1 : c ≠ 0) : R 156 [.lst 8 [(nO (c) ++ [nils]), (nO (-1) ++ [.lst 11 [(vC 97)]]), (nO 1 ++ [.lst 11 [(vC 98)]])], .lst 8 [(nO (-c) ++ [nils]), (nO (-1) ++ [.lst 11 [(vC 98)]]), (nO 1 ++ [.lst 11 [(vC 99)]])]] (.tup [.lst 8 [(nO (-1) ++ [.lst 11 [(vC 97)]]), (nO 1 ++ [.lst 11 [(vC 99)]])], I 0]) := ru tk3 ok156 (y8 x2 x1 x4 naught_t x3 naught_t cmp_98_99 x8 (y4 cmp_98_98 cmp_97_98 (w215 (c) (-c) 0 (by omega)) cmp_99_98 (y2 cmp_98_98 cmp_98_97 z))) (by kernel_rfl)
theorem am_1 (c k : Int) (hc : -15 ≤ c ∧ c ≤ 15) (hk : -5 ≤ k ∧ k ≤ 5) : R 156 [.lst 8 (pE c [(97, (-1)), (98, 1)]), .lst 8 (pE k [(98, (-1)), (99, 1)])] (.tup [.lst 8 (pE (c + k) [(97, (-1)), (99, 1)]), I 0]) := by
  by_cases h1 : c = 0
  · subst h1
    by_cases h2 : k = 0
    · subst h2; exact am_1_zz
    · rw [Int.zero_add, pE_nz h2, pE_nz h2]; exact am_1_zn k hk h2
  · by_cases h2 : k = 0
    · subst h2; rw [Int.add_zero, pE_nz h1, pE_nz h1]; exact am_1_nz c hc h1
    · by_cases h3 : c + k = 0
      · have e : k = -c := by omega
        subst e
        rw [h3, pE_nz h1, pE_nz h2]; exact am_1_nm c (by omega) h1
      · rw [pE_nz h1, pE_nz h2, pE_nz h3]; exact am_1_nn c hc h1 k hk h2 h3
theorem am_2_zz : R 156 [.lst 8 [(nO (-1) ++ [.lst 11 [(vC 97)]]), (nO 1 ++ [.lst 11 [(vC 99)]])], .lst 8 [(nO (-1) ++ [.lst 11 [(vC 99)]]), (nO 1 ++ [.lst 11 [(vC 100)]])]] (.tup [.lst 8 [(nO (-1) ++ [.lst 11 [(vC 97)]]), (nO 1 ++ [.lst 11 [(vC 100)]])], I 0]) := ru tk3 ok156 (y8 x2 x1 x4 naught_t x3 cmp_99_100 x8 cmp_99_99 (y4 cmp_97_99 cmp_100_99 cmp_99_99 cmp_99_97 z)) (by kernel_rfl)
theorem am_2_nz (c : Int) (hc : -15 ≤ c ∧ c ≤ 15) (h1 : c ≠ 0) : R 156 [.lst 8 [(nO (c) ++ [nils]), (nO (-1) ++ [.lst 11 [(vC 97)]]), (nO 1 ++ [.lst 11 [(vC 99)]])], .lst 8 [(nO (-1) ++ [.lst 11 [(vC 99)]]), (nO 1 ++ [.lst 11 [(vC 100)]])]] (.tup [.lst 8 [(nO (c) ++ [nils]), (nO (-1) ++ [.lst 11 [(vC 97)]]), (nO 1 ++ [.lst 11 [(vC 100)]])], I 0]) := ru tk3 ok156 (y8 x2 x1 (vd (c) (by omega)) x4 naught_t x3 (nau (c) (by omega)) cmp_99_100 (y4 x8 cmp_99_99 cmp_97_99 cmp_100_99 (y2 cmp_99_99 cmp_99_97 z))) (by kernel_rfl)
theorem am_2_zn (k : Int) (hk : -5 ≤ k ∧ k ≤ 5) (h2 : k ≠ 0) : R 156 [.lst 8 [(nO (-1) ++ [.lst 11 [(vC 97)]]), (nO 1 ++ [.lst 11 [(vC 99)]])], .lst 8 [(nO (k) ++ [nils]), (nO (-1) ++ [.lst 11 [(vC 99)]]), (nO 1 ++ [.lst 11 [(vC 100)]])]] (.tup [.lst 8 [(nO (k) ++ [nils]), (nO (-1) ++ [.lst 11 [(vC 97)]]), (nO 1 ++ [.lst 11 [(vC 100)]])], I 0]) := ru tk3 ok156 (y8 x2 x1 (vd (k) (by omega)) x4 naught_t x3 (nau (k) (by omega)) cmp_99_100 (y4 x8 cmp_99_99 cmp_97_99 cmp_100_99 (y2 cmp_99_99 cmp_99_97 z))) (by kernel_rfl)
theorem am_2_nn (c : Int) (hc : -15 ≤ c ∧ c ≤ 15) (h1 : c ≠ 0) (k : Int) (hk : -5 ≤ k ∧ k ≤ 5) (h2 : k ≠ 0) (h3 : c + k ≠ 0) : R 156 [.lst 8 [(nO (c) ++ [nils]), (nO (-1) ++ [.lst 11 [(vC 97)]]), (nO 1 ++ [.lst 11 [(vC 99)]])], .lst 8 [(nO (k) ++ [nils]), (nO (-1) ++ [.lst 11 [(vC 99)]]), (nO 1 ++ [.lst 11 [(vC 100)]])]] (.tup [.lst 8 [(nO (c + k) ++ [nils]), (nO (-1) ++ [.lst 11 [(vC 97)]]), (nO 1 ++ [.lst 11 [(vC 100)]])], I 0]) := ru tk3 ok156 (y8 x2 x1 (vd (c + k) (by omega)) x4 naught_t x3 (nau (c + k) (by omega)) cmp_99_100 (y4 x8 cmp_99_99 cmp_97_99 (w215 (c) (k) (c + k) (by omega)) (y2 cmp_100_99 cmp_99_99 (y cmp_99_97 z)))) (by kernel_rfl)
theorem am_2_nm (c : Int) (hc : -5 ≤ c ∧ c ≤ 5) (h1 : c ≠ 0) : R 156 [.lst 8 [(nO (c) ++ [nils]), (nO (-1) ++ [.lst 11 [(vC 97)]]), (nO 1 ++ [.lst 11 [(vC 99)]])], .lst 8 [(nO (-c) ++ [nils]), (nO (-1) ++ [.lst 11 [(vC 99)]]), (nO 1 ++ [.lst 11 [(vC 100)]])]] (.tup [.lst 8 [(nO (-1) ++ [.lst 11 [(vC 97)]]), (nO 1 ++ [.lst 11 [(vC 100)]])], I 0]) := ru tk3 ok156 (y8 x2 x1 x4 naught_t x3 naught_t cmp_99_100 x8 (y4 cmp_99_99 cmp_97_99 (w215 (c) (-c) 0 (by omega)) cmp_100_99 (y2 cmp_99_99 cmp_99_97 z))) (by kernel_rfl)
theorem am_2 (c k : Int) (hc : -15 ≤ c ∧ c ≤ 15) (hk : -5 ≤ k ∧ k ≤ 5) : R 156 [.lst 8 (pE c [(97, (-1)), (99, 1)]), .lst 8 (pE k [(99, (-1)), (100, 1)])] (.tup [.lst 8 (pE (c + k) [(97, (-1)), (100, 1)]), I 0]) := by
  by_cases h1 : c = 0
  · subst h1
    by_cases h2 : k = 0
    · subst h2; exact am_2_zz
    · rw [Int.zero_add, pE_nz h2, pE_nz h2]; exact am_2_zn k hk h2
  · by_cases h2 : k = 0
    · subst h2; rw [Int.add_zero, pE_nz h1, pE_nz h1]; exact am_2_nz c hc h1
    · by_cases h3 : c + k = 0
      · have e : k = -c := by omega
        subst e
        rw [h3, pE_nz h1, pE_nz h2]; exact am_2_nm c (by omega) h1
      · rw [pE_nz h1, pE_nz h2, pE_nz h3]; exact am_2_nn c hc h1 k hk h2 h3
theorem am_3_zz : R 156 [.lst 8 [(nO (-1) ++ [.lst 11 [(vC 97)]]), (nO 1 ++ [.lst 11 [(vC 100)]])], .lst 8 [(nO (-1) ++ [.lst 11 [(vC 100)]]), (nO 1 ++ [.lst 11 [(vC 101)]])]] (.tup [.lst 8 [(nO (-1) ++ [.lst 11 [(vC 97)]]), (nO 1 ++ [.lst 11 [(vC 101)]])], I 0]) := ru tk3 ok156 (y8 x2 x1 x4 naught_t x3 cmp_100_101 x8 cmp_100_100 (y4 cmp_97_100 cmp_101_100 cmp_100_100 cmp_100_97 z)) (by kernel_rfl)
theorem am_3_nz (c : Int) (hc : -15 ≤ c ∧ c ≤ 15) (h1 : c ≠ 0) : R 156 [.lst 8 [(nO (c) ++ [nils]), (nO (-1) ++ [.lst 11 [(vC 97)]]), (nO 1 ++ [.lst 11 [(vC 100)]])], .lst 8 [(nO (-1) ++ [.lst 11 [(vC 100)]]), (nO 1 ++ [.lst 11 [(vC 101)]])]] (.tup [.lst 8 [(nO (c) ++ [nils]), (nO (-1) ++ [.lst 11 [(vC 97)]]), (nO 1 ++ [.lst 11 [(vC 101)]])], I 0]) := ru tk3 ok156 (y8 x2 x1 (vd (c) (by omega)) x4 naught_t x3 (nau (c) (by omega)) cmp_100_101 (y4 x8 cmp_100_100 cmp_97_100 cmp_101_100 (y2 cmp_100_100 cmp_100_97 z))) (by kernel_rfl)
theorem am_3_zn (k : Int) (hk : -5 ≤ k ∧ k ≤ 5) (h2 : k ≠ 0) : R 156 [.lst 8 [(nO (-1) ++ [.lst 11 [(vC 97)]]), (nO 1 ++ [.lst 11 [(vC 100)]])], .lst 8 [(nO (k) ++ [nils]), (nO (-1) ++ [.lst 11 [(vC 100)]]), (nO 1 ++ [.lst 11 [(vC 101)]])]] (.tup [.lst 8 [(nO (k) ++ [nils]), (nO (-1) ++ [.lst 11 [(vC 97)]]), (nO 1 ++ [.lst 11 [(vC 101)]])], I 0]) := ru tk3 ok156 (y8 x2 x1 (vd (k) (by omega)) x4 naught_t x3 (nau (k) (by omega)) cmp_100_101 (y4 x8 cmp_100_100 cmp_97_100 cmp_101_100 (y2 cmp_100_100 cmp_100_97 z))) (by kernel_rfl)
theorem am_3_nn (c : Int) (hc : -15 ≤ c ∧ c ≤ 15) (h1 : c ≠ 0) (k : Int) (hk : -5 ≤ k ∧ k ≤ 5) (h2 : k ≠ 0) (h3 : c + k ≠ 0) : R 156 [.lst 8 [(nO (c) ++ [nils]), (nO (-1) ++ [.lst 11 [(vC 97)]]), (nO 1 ++ [.lst 11 [(vC 100)]])], .lst 8 [(nO (k) ++ [nils]), (nO (-1) ++ [.lst 11 [(vC 100)]]), (nO 1 ++ [.lst 11 [(vC 101)]])]] (.tup [.lst 8 [(nO (c + k) ++ [nils]), (nO (-1) ++ [.lst 11 [(vC 97)]]), (nO 1 ++ [.lst 11 [(vC 101)]])], I 0]) := ru tk3 ok156 (y8 x2 x1 (vd (c + k) (by omega)) x4 naught_t x3 (nau (c + k) (by omega)) cmp_100_101 (y4 x8 cmp_100_100 cmp_97_100 (w215 (c) (k) (c + k) (by omega)) (y2 cmp_101_100 cmp_100_100 (y cmp_100_97 z)))) (by kernel_rfl)
theorem am_3_nm (c : Int) (hc : -5 ≤ c ∧ c ≤ 5) (h1 : c ≠ 0) : R 156 [.lst 8 [(nO (c) ++ [nils]), (nO (-1) ++ [.lst 11 [(vC 97)]]), (nO 1 ++ [.lst 11 [(vC 100)]])], .lst 8 [(nO (-c) ++ [nils]), (nO (-1) ++ [.lst 11 [(vC 100)]]), (nO 1 ++ [.lst 11 [(vC 101)]])]] (.tup [.lst 8 [(nO (-1) ++ [.lst 11 [(vC 97)]]), (nO 1 ++ [.lst 11 [(vC 101)]])], I 0]) := ru tk3 ok156 (y8 x2 x1 x4 naught_t x3 naught_t cmp_100_101 x8 (y4 cmp_100_100 cmp_97_100 (w215 (c) (-c) 0 (by omega)) cmp_101_100 (y2 cmp_100_100 cmp_100_97 z))) (by kernel_rfl)
theorem am_3 (c k : Int) (hc : -15 ≤ c ∧ c ≤ 15) (hk : -5 ≤ k ∧ k ≤ 5) : R 156 [.lst 8 (pE c [(97, (-1)), (100, 1)]), .lst 8 (pE k [(100, (-1)), (101, 1)])] (.tup [.lst 8 (pE (c + k) [(97, (-1)), (101, 1)]), I 0]) := by
  by_cases h1 : c = 0
  · subst h1
    by_cases h2 : k = 0
    · subst h2; exact am_3_zz
    · rw [Int.zero_add, pE_nz h2, pE_nz h2]; exact am_3_zn k hk h2
  · by_cases h2 : k = 0
    · subst h2; rw [Int.add_zero, pE_nz h1, pE_nz h1]; exact am_3_nz c hc h1
    · by_cases h3 : c + k = 0
      · have e : k = -c := by omega
        subst e
        rw [h3, pE_nz h1, pE_nz h2]; exact am_3_nm c (by omega) h1
      · rw [pE_nz h1, pE_nz h2, pE_nz h3]; exact am_3_nn c hc h1 k hk h2 h3
theorem al_1_zz : R 156 [.lst 8 [(nO (-1) ++ [.lst 11 [(vC 97)]]), (nO 1 ++ [.lst 11 [(vC 98)]])], .lst 8 [(nO 1 ++ [.lst 11 [(vC 97)]]), (nO (-1) ++ [.lst 11 [(vC 98)]])]] (.tup [.lst 8 [], I 0]) := ru tk3 ok156 (y8 naught_t naught_t x8 cmp_98_98 cmp_97_98 x7 cmp_97_97 cmp_98_98 (y2 cmp_97_97 cmp_97_98 (y cmp_98_97 z))) (by kernel_rfl)
theorem al_1_nz (c : Int) (hc : -20 ≤ c ∧ c ≤ 20) (h1 : c ≠ 0) : R 156 [.lst 8 [(nO (c) ++ [nils]), (nO (-1) ++ [.lst 11 [(vC 97)]]), (nO 1 ++ [.lst 11 [(vC 98)]])], .lst 8 [(nO 1 ++ [.lst 11 [(vC 97)]]), (nO (-1) ++ [.lst 11 [(vC 98)]])]] (.tup [.lst 8 [(nO (c) ++ [nils])], I 0]) := ru tk3 ok156 (y8 (vd (c) (by omega)) naught_t naught_t (nau (c) (by omega)) x8 cmp_98_98 cmp_97_98 x7 (y4 cmp_97_97 cmp_98_98 cmp_97_97 cmp_97_98 (y cmp_98_97 z))) (by kernel_rfl)
theorem al_1_zn (k : Int) (hk : -19 ≤ k ∧ k ≤ 19) (h2 : k ≠ 0) : R 156 [.lst 8 [(nO (-1) ++ [.lst 11 [(vC 97)]]), (nO 1 ++ [.lst 11 [(vC 98)]])], .lst 8 [(nO (k) ++ [nils]), (nO 1 ++ [.lst 11 [(vC 97)]]), (nO (-1) ++ [.lst 11 [(vC 98)]])]] (.tup [.lst 8 [(nO (k) ++ [nils])], I 0]) := ru tk3 ok156 (y8 (vd (k) (by omega)) naught_t naught_t (nau (k) (by omega)) x8 cmp_98_98 cmp_97_98 x7 (y4 cmp_97_97 cmp_98_98 cmp_97_97 cmp_97_98 (y cmp_98_97 z))) (by kernel_rfl)
theorem al_1_nn (c : Int) (hc : -20 ≤ c ∧ c ≤ 20) (h1 : c ≠ 0) (k : Int) (hk : -19 ≤ k ∧ k ≤ 19) (h2 : k ≠ 0) (h3 : c + k ≠ 0) : R 156 [.lst 8 [(nO (c) ++ [nils]), (nO (-1) ++ [.lst 11 [(vC 97)]]), (nO 1 ++ [.lst 11 [(vC 98)]])], .lst 8 [(nO (k) ++ [nils]), (nO 1 ++ [.lst 11 [(vC 97)]]), (nO (-1) ++ [.lst 11 [(vC 98)]])]] (.tup [.lst 8 [(nO (c + k) ++ [nils])], I 0]) := ru tk3 ok156 (y8 (vd (c + k) (by omega)) naught_t naught_t (nau (c + k) (by omega)) x8 cmp_98_98 cmp_97_98 x7 (y4 cmp_97_97 (w215 (c) (k) (c + k) (by omega)) cmp_98_98 cmp_97_97 (y2 cmp_97_98 cmp_98_97 z))) (by kernel_rfl)
theorem al_1_nm (c : Int) (hc : -19 ≤ c ∧ c ≤ 19) (h1 : c ≠ 0) : R 156 [.lst 8 [(nO (c) ++ [nils]), (nO (-1) ++ [.lst 11 [(vC 97)]]), (nO 1 ++ [.lst 11 [(vC 98)]])], .lst 8 [(nO (-c) ++ [nils]), (nO 1 ++ [.lst 11 [(vC 97)]]), (nO (-1) ++ [.lst 11 [(vC 98)]])]] (.tup [.lst 8 [], I 0]) := ru tk3 ok156 (y8 naught_t naught_t naught_t x8 cmp_98_98 cmp_97_98 x7 cmp_97_97 (y4 (w215 (c) (-c) 0 (by omega)) cmp_98_98 cmp_97_97 cmp_97_98 (y cmp_98_97 z))) (by kernel_rfl)
theorem al_1 (c k : Int) (hc : -20 ≤ c ∧ c ≤ 20) (hk : -19 ≤ k ∧ k ≤ 19) : R 156 [.lst 8 (pE c [(97, (-1)), (98, 1)]), .lst 8 (pE k [(97, 1), (98, (-1))])] (.tup [.lst 8 (pE (c + k) []), I 0]) := by
  by_cases h1 : c = 0
  · subst h1
    by_cases h2 : k = 0
    · subst h2; exact al_1_zz
    · rw [Int.zero_add, pE_nz h2, pE_nz h2]; exact al_1_zn k hk h2
  · by_cases h2 : k = 0
    · subst h2; rw [Int.add_zero, pE_nz h1, pE_nz h1]; exact al_1_nz c hc h1
    · by_cases h3 : c + k = 0
      · have e : k = -c := by omega
        subst e
        rw [h3, pE_nz h1, pE_nz h2]; exact al_1_nm c (by omega) h1
      · rw [pE_nz h1, pE_nz h2, pE_nz h3]; exact al_1_nn c hc h1 k hk h2 h3
theorem al_2_zz : R 156 [.lst 8 [(nO (-1) ++ [.lst 11 [(vC 97)]]), (nO 1 ++ [.lst 11 [(vC 99)]])], .lst 8 [(nO 1 ++ [.lst 11 [(vC 97)]]), (nO (-1) ++ [.lst 11 [(vC 99)]])]] (.tup [.lst 8 [], I 0]) := ru tk3 ok156 (y8 naught_t naught_t x8 cmp_99_99 cmp_97_99 x7 cmp_97_97 cmp_99_99 (y2 cmp_97_97 cmp_97_99 (y cmp_99_97 z))) (by kernel_rfl)
theorem al_2_nz (c : Int) (hc : -20 ≤ c ∧ c ≤ 20) (h1 : c ≠ 0) : R 156 [.lst 8 [(nO (c) ++ [nils]), (nO (-1) ++ [.lst 11 [(vC 97)]]), (nO 1 ++ [.lst 11 [(vC 99)]])], .lst 8 [(nO 1 ++ [.lst 11 [(vC 97)]]), (nO (-1) ++ [.lst 11 [(vC 99)]])]] (.tup [.lst 8 [(nO (c) ++ [nils])], I 0]) := ru tk3 ok156 (y8 (vd (c) (by omega)) naught_t naught_t (nau (c) (by omega)) x8 cmp_99_99 cmp_97_99 x7 (y4 cmp_97_97 cmp_99_99 cmp_97_97 cmp_97_99 (y cmp_99_97 z))) (by kernel_rfl)
theorem al_2_zn (k : Int) (hk : -19 ≤ k ∧ k ≤ 19) (h2 : k ≠ 0) : R 156 [.lst 8 [(nO (-1) ++ [.lst 11 [(vC 97)]]), (nO 1 ++ [.lst 11 [(vC 99)]])], .lst 8 [(nO (k) ++ [nils]), (nO 1 ++ [.lst 11 [(vC 97)]]), (nO (-1) ++ [.lst 11 [(vC 99)]])]] (.tup [.lst 8 [(nO (k) ++ [nils])], I 0]) := ru tk3 ok156 (y8 (vd (k) (by omega)) naught_t naught_t (nau (k) (by omega)) x8 cmp_99_99 cmp_97_99 x7 (y4 cmp_97_97 cmp_99_99 cmp_97_97 cmp_97_99 (y cmp_99_97 z))) (by kernel_rfl)
theorem al_2_nn (c : Int) (hc : -20 ≤ c ∧ c ≤ 20) (h1 : c ≠ 0) (k : Int) (hk : -19 ≤ k ∧ k ≤ 19) (h2 : k ≠ 0) (h3 : c + k ≠ 0) : R 156 [.lst 8 [(nO (c) ++ [nils]), (nO (-1) ++ [.lst 11 [(vC 97)]]), (nO 1 ++ [.lst 11 [(vC 99)]])], .lst 8 [(nO (k) ++ [nils]), (nO 1 ++ [.lst 11 [(vC 97)]]), (nO (-1) ++ [.lst 11 [(vC 99)]])]] (.tup [.lst 8 [(nO (c + k) ++ [nils])], I 0]) := ru tk3 ok156 (y8 (vd (c + k) (by omega)) naught_t naught_t (nau (c + k) (by omega)) x8 cmp_99_99 cmp_97_99 x7 (y4 cmp_97_97 (w215 (c) (k) (c + k) (by omega)) cmp_99_99 cmp_97_97 (y2 cmp_97_99 cmp_99_97 z))) (by kernel_rfl)
theorem al_2_nm (c : Int) (hc : -19 ≤ c ∧ c ≤ 19) (h1 : c ≠ 0) : R 156 [.lst 8 [(nO (c) ++ [nils]), (nO (-1) ++ [.lst 11 [(vC 97)]]), (nO 1 ++ [.lst 11 [(vC 99)]])], .lst 8 [(nO (-c) ++ [nils]), (nO 1 ++ [.lst 11 [(vC 97)]]), (nO (-1) ++ [.lst 11 [(vC 99)]])]] (.tup [.lst 8 [], I 0]) := ru tk3 ok156 (y8 naught_t naught_t naught_t x8 cmp_99_99 cmp_97_99 x7 cmp_97_97 (y4 (w215 (c) (-c) 0 (by omega)) cmp_99_99 cmp_97_97 cmp_97_99 (y cmp_99_97 z))) (by kernel_rfl)
theorem al_2 (c k : Int) (hc : -20 ≤ c ∧ c ≤ 20) (hk : -19 ≤ k ∧ k ≤ 19) : R 156 [.lst 8 (pE c [(97, (-1)), (99, 1)]), .lst 8 (pE k [(97, 1), (99, (-1))])] (.tup [.lst 8 (pE (c + k) []), I 0]) := by
  by_cases h1 : c = 0
  · subst h1
    by_cases h2 : k = 0
    · subst h2; exact al_2_zz
    · rw [Int.zero_add, pE_nz h2, pE_nz h2]; exact al_2_zn k hk h2
  · by_cases h2 : k = 0
    · subst h2; rw [Int.add_zero, pE_nz h1, pE_nz h1]; exact al_2_nz c hc h1
    · by_cases h3 : c + k = 0
      · have e : k = -c := by omega
        subst e
        rw [h3, pE_nz h1, pE_nz h2]; exact al_2_nm c (by omega) h1
      · rw [pE_nz h1, pE_nz h2, pE_nz h3]; exact al_2_nn c hc h1 k hk h2 h3
theorem al_3_zz : R 156 [.lst 8 [(nO (-1) ++ [.lst 11 [(vC 97)]]), (nO 1 ++ [.lst 11 [(vC 100)]])], .lst 8 [(nO 1 ++ [.lst 11 [(vC 97)]]), (nO (-1) ++ [.lst 11 [(vC 100)]])]] (.tup [.lst 8 [], I 0]) := ru tk3 ok156 (y8 naught_t naught_t x8 cmp_100_100 cmp_97_100 x7 cmp_97_97 cmp_100_100 (y2 cmp_97_97 cmp_97_100 (y cmp_100_97 z))) (by kernel_rfl)
theorem al_3_nz (c : Int) (hc : -20 ≤ c ∧ c ≤ 20) (h1 : c ≠ 0) : R 156 [.lst 8 [(nO (c) ++ [nils]), (nO (-1) ++ [.lst 11 [(vC 97)]]), (nO 1 ++ [.lst 11 [(vC 100)]])], .lst 8 [(nO 1 ++ [.lst 11 [(vC 97)]]), (nO (-1) ++ [.lst 11 [(vC 100)]])]] (.tup [.lst 8 [(nO (c) ++ [nils])], I 0]) := ru tk3 ok156 (y8 (vd (c) (by omega)) naught_t naught_t (nau (c) (by omega)) x8 cmp_100_100 cmp_97_100 x7 (y4 cmp_97_97 cmp_100_100 cmp_97_97 cmp_97_100 (y cmp_100_97 z))) (by kernel_rfl)
theorem al_3_zn (k : Int) (hk : -19 ≤ k ∧ k ≤ 19) (h2 : k ≠ 0) : R 156 [.lst 8 [(nO (-1) ++ [.lst 11 [(vC 97)]]), (nO 1 ++ [.lst 11 [(vC 100)]])], .lst 8 [(nO (k) ++ [nils]), (nO 1 ++ [.lst 11 [(vC 97)]]), (nO (-1) ++ [.lst 11 [(vC 100)]])]] (.tup [.lst 8 [(nO (k) ++ [nils])], I 0]) := ru tk3 ok156 (y8 (vd (k) (by omega)) naught_t naught_t (nau (k) (by omega)) x8 cmp_100_100 cmp_97_100 x7 (y4 cmp_97_97 cmp_100_100 cmp_97_97 cmp_97_100 (y cmp_100_97 z))) (by kernel_rfl)
theorem al_3_nn (c : Int) (hc : -20 ≤ c ∧ c ≤ 20) (h1 : c ≠ 0) (k : Int) (hk : -19 ≤ k ∧ k ≤ 19) (h2 : k ≠ 0) (h3 : c + k ≠ 0) : R 156 [.lst 8 [(nO (c) ++ [nils]), (nO (-1) ++ [.lst 11 [(vC 97)]]), (nO 1 ++ [.lst 11 [(vC 100)]])], .lst 8 [(nO (k) ++ [nils]), (nO 1 ++ [.lst 11 [(vC 97)]]), (nO (-1) ++ [.lst 11 [(vC 100)]])]] (.tup [.lst 8 [(nO (c + k) ++ [nils])], I 0]) := ru tk3 ok156 (y8 (vd (c + k) (by omega)) naught_t naught_t (nau (c + k) (by omega)) x8 cmp_100_100 cmp_97_100 x7 (y4 cmp_97_97 (w215 (c) (k) (c + k) (by omega)) cmp_100_100 cmp_97_97 (y2 cmp_97_100 cmp_100_97 z))) (by kernel_rfl)
theorem al_3_nm (c : Int) (hc : -19 ≤ c ∧ c ≤ 19) (h1 : c ≠ 0) : R 156 [.lst 8 [(nO (c) ++ [nils]), (nO (-1) ++ [.lst 11 [(vC 97)]]), (nO 1 ++ [.lst 11 [(vC 100)]])], .lst 8 [(nO (-c) ++ [nils]), (nO 1 ++ [.lst 11 [(vC 97)]]), (nO (-1) ++ [.lst 11 [(vC 100)]])]] (.tup [.lst 8 [], I 0]) := ru tk3 ok156 (y8 naught_t naught_t naught_t x8 cmp_100_100 cmp_97_100 x7 cmp_97_97 (y4 (w215 (c) (-c) 0 (by omega)) cmp_100_100 cmp_97_97 cmp_97_100 (y cmp_100_97 z))) (by kernel_rfl)
theorem al_3 (c k : Int) (hc : -20 ≤ c ∧ c ≤ 20) (hk : -19 ≤ k ∧ k ≤ 19) : R 156 [.lst 8 (pE c [(97, (-1)), (100, 1)]), .lst 8 (pE k [(97, 1), (100, (-1))])] (.tup [.lst 8 (pE (c + k) []), I 0]) := by
  by_cases h1 : c = 0
  · subst h1
    by_cases h2 : k = 0
    · subst h2; exact al_3_zz
    · rw [Int.zero_add, pE_nz h2, pE_nz h2]; exact al_3_zn k hk h2
  · by_cases h2 : k = 0
    · subst h2; rw [Int.add_zero, pE_nz h1, pE_nz h1]; exact al_3_nz c hc h1
    · by_cases h3 : c + k = 0
      · have e : k = -c := by omega
        subst e
        rw [h3, pE_nz h1, pE_nz h2]; exact al_3_nm c (by omega) h1
      · rw [pE_nz h1, pE_nz h2, pE_nz h3]; exact al_3_nn c hc h1 k hk h2 h3
theorem al_4_zz : R 156 [.lst 8 [(nO (-1) ++ [.lst 11 [(vC 97)]]), (nO 1 ++ [.lst 11 [(vC 101)]])], .lst 8 [(nO 1 ++ [.lst 11 [(vC 97)]]), (nO (-1) ++ [.lst 11 [(vC 101)]])]] (.tup [.lst 8 [], I 0]) := ru tk3 ok156 (y8 naught_t naught_t x8 cmp_101_101 cmp_97_101 x7 cmp_97_97 cmp_101_101 (y2 cmp_97_97 cmp_97_101 (y cmp_101_97 z))) (by kernel_rfl)
theorem al_4_nz (c : Int) (hc : -20 ≤ c ∧ c ≤ 20) (h1 : c ≠ 0) : R 156 [.lst 8 [(nO (c) ++ [nils]), (nO (-1) ++ [.lst 11 [(vC 97)]]), (nO 1 ++ [.lst 11 [(vC 101)]])], .lst 8 [(nO 1 ++ [.lst 11 [(vC 97)]]), (nO (-1) ++ [.lst 11 [(vC 101)]])]] (.tup [.lst 8 [(nO (c) ++ [nils])], I 0]) := ru tk3 ok156 (y8 (vd (c) (by omega)) naught_t naught_t (nau (c) (by omega)) x8 cmp_101_101 cmp_97_101 x7 (y4 cmp_97_97 cmp_101_101 cmp_97_97 cmp_97_101 (y cmp_101_97 z))) (by kernel_rfl)
theorem al_4_zn (k : Int) (hk : -19 ≤ k ∧ k ≤ 19) (h2 : k ≠ 0) : R 156 [.lst 8 [(nO (-1) ++ [.lst 11 [(vC 97)]]), (nO 1 ++ [.lst 11 [(vC 101)]])], .lst 8 [(nO (k) ++ [nils]), (nO 1 ++ [.lst 11 [(vC 97)]]), (nO (-1) ++ [.lst 11 [(vC 101)]])]] (.tup [.lst 8 [(nO (k) ++ [nils])], I 0]) := ru tk3 ok156 (y8 (vd (k) (by omega)) naught_t naught_t (nau (k) (by omega)) x8 cmp_101_101 cmp_97_101 x7 (y4 cmp_97_97 cmp_101_101 cmp_97_97 cmp_97_101 (y cmp_101_97 z))) (by kernel_rfl)
theorem al_4_nn (c : Int) (hc : -20 ≤ c ∧ c ≤ 20) (h1 : c ≠ 0) (k : Int) (hk : -19 ≤ k ∧ k ≤ 19) (h2 : k ≠ 0) (h3 : c + k ≠ 0) : R 156 [.lst 8 [(nO (c) ++ [nils]), (nO (-1) ++ [.lst 11 [(vC 97)]]), (nO 1 ++ [.lst 11 [(vC 101)]])], .lst 8 [(nO (k) ++ [nils]), (nO 1 ++ [.lst 11 [(vC 97)]]), (nO (-1) ++ [.lst 11 [(vC 101)]])]] (.tup [.lst 8 [(nO (c + k) ++ [nils])], I 0]) := ru tk3 ok156 (y8 (vd (c + k) (by omega)) naught_t naught_t (nau (c + k) (by omega)) x8 cmp_101_101 cmp_97_101 x7 (y4 cmp_97_97 (w215 (c) (k) (c + k) (by omega)) cmp_101_101 cmp_97_97 (y2 cmp_97_101 cmp_101_97 z))) (by kernel_rfl)
theorem al_4_nm (c : Int) (hc : -19 ≤ c ∧ c ≤ 19) (h1 : c ≠ 0) : R 156 [.lst 8 [(nO (c) ++ [nils]), (nO (-1) ++ [.lst 11 [(vC 97)]]), (nO 1 ++ [.lst 11 [(vC 101)]])], .lst 8 [(nO (-c) ++ [nils]), (nO 1 ++ [.lst 11 [(vC 97)]]), (nO (-1) ++ [.lst 11 [(vC 101)]])]] (.tup [.lst 8 [], I 0]) := ru tk3 ok156 (y8 naught_t naught_t naught_t x8 cmp_101_101 cmp_97_101 x7 cmp_97_97 (y4 (w215 (c) (-c) 0 (by omega)) cmp_101_101 cmp_97_97 cmp_97_101 (y cmp_101_97 z))) (by kernel_rfl)
theorem al_4 (c k : Int) (hc : -20 ≤ c ∧ c ≤ 20) (hk : -19 ≤ k ∧ k ≤ 19) : R 156 [.lst 8 (pE c [(97, (-1)), (101, 1)]), .lst 8 (pE k [(97, 1), (101, (-1))])] (.tup [.lst 8 (pE (c + k) []), I 0]) := by
  by_cases h1 : c = 0
  · subst h1
    by_cases h2 : k = 0
    · subst h2; exact al_4_zz
    · rw [Int.zero_add, pE_nz h2, pE_nz h2]; exact al_4_zn k hk h2
  · by_cases h2 : k = 0
    · subst h2; rw [Int.add_zero, pE_nz h1, pE_nz h1]; exact al_4_nz c hc h1
    · by_cases h3 : c + k = 0
      · have e : k = -c := by omega
        subst e
        rw [h3, pE_nz h1, pE_nz h2]; exact al_4_nm c (by omega) h1
      · rw [pE_nz h1, pE_nz h2, pE_nz h3]; exact al_4_nn c hc h1 k hk h2 h3
theorem co_r0_z : R 117 [.lst 8 [(nO (-1) ++ [.lst 11 [(vC 97)]]), (nO 1 ++ [.lst 11 [(vC 98)]])]] (.tup [.agg [I 0, S [], S [], S [], S [], S [], nils], Bo false]) := ru tk0 ok117 z (by kernel_rfl)
theorem co_r0_n (c : Int) (hc : -40 ≤ c ∧ c ≤ 40) (h : c ≠ 0) : R 117 [.lst 8 [(nO (c) ++ [nils]), (nO (-1) ++ [.lst 11 [(vC 97)]]), (nO 1 ++ [.lst 11 [(vC 98)]])]] (.tup [.agg [I 0, S [], S [], S [], S [], S [], nils], Bo false]) := ru tk0 ok117 z (by kernel_rfl)
theorem co_r0 (c : Int) (hc : -40 ≤ c ∧ c ≤ 40) : R 117 [.lst 8 (pE c [(97, (-1)), (98, 1)])] (.tup [.agg [I 0, S [], S [], S [], S [], S [], nils], Bo false]) := by
  by_cases h : c = 0
  · subst h; exact co_r0_z
  · rw [pE_nz h]; exact co_r0_n c hc h
theorem co_r1_z : R 117 [.lst 8 [(nO (-1) ++ [.lst 11 [(vC 98)]]), (nO 1 ++ [.lst 11 [(vC 99)]])]] (.tup [.agg [I 0, S [], S [], S [], S [], S [], nils], Bo false]) := ru tk0 ok117 z (by kernel_rfl)
theorem co_r1_n (c : Int) (hc : -40 ≤ c ∧ c ≤ 40) (h : c ≠ 0) : R 117 [.lst 8 [(nO (c) ++ [nils]), (nO (-1) ++ [.lst 11 [(vC 98)]]), (nO 1 ++ [.lst 11 [(vC 99)]])]] (.tup [.agg [I 0, S [], S [], S [], S [], S [], nils], Bo false]) := ru tk0 ok117 z (by kernel_rfl)
theorem co_r1 (c : Int) (hc : -40 ≤ c ∧ c ≤ 40) : R 117 [.lst 8 (pE c [(98, (-1)), (99, 1)])] (.tup [.agg [I 0, S [], S [], S [], S [], S [], nils], Bo false]) := by
  by_cases h : c = 0
  · subst h; exact co_r1_z
  · rw [pE_nz h]; exact co_r1_n c hc h
theorem co_r2_z : R 117 [.lst 8 [(nO (-1) ++ [.lst 11 [(vC 99)]]), (nO 1 ++ [.lst 11 [(vC 100)]])]] (.tup [.agg [I 0, S [], S [], S [], S [], S [], nils], Bo false]) := ru tk0 ok117 z (by kernel_rfl)
theorem co_r2_n (c : Int) (hc : -40 ≤ c ∧ c ≤ 40) (h : c ≠ 0) : R 117 [.lst 8 [(nO (c) ++ [nils]), (nO (-1) ++ [.lst 11 [(vC 99)]]), (nO 1 ++ [.lst 11 [(vC 100)]])]] (.tup [.agg [I 0, S [], S [], S [], S [], S [], nils], Bo false]) := ru tk0 ok117 z (by kernel_rfl)
theorem co_r2 (c : Int) (hc : -40 ≤ c ∧ c ≤ 40) : R 117 [.lst 8 (pE c [(99, (-1)), (100, 1)])] (.tup [.agg [I 0, S [], S [], S [], S [], S [], nils], Bo false]) := by
  by_cases h : c = 0
  · subst h; exact co_r2_z
  · rw [pE_nz h]; exact co_r2_n c hc h
theorem co_r3_z : R 117 [.lst 8 [(nO (-1) ++ [.lst 11 [(vC 100)]]), (nO 1 ++ [.lst 11 [(vC 101)]])]] (.tup [.agg [I 0, S [], S [], S [], S [], S [], nils], Bo false]) := ru tk0 ok117 z (by kernel_rfl)
theorem co_r3_n (c : Int) (hc : -40 ≤ c ∧ c ≤ 40) (h : c ≠ 0) : R 117 [.lst 8 [(nO (c) ++ [nils]), (nO (-1) ++ [.lst 11 [(vC 100)]]), (nO 1 ++ [.lst 11 [(vC 101)]])]] (.tup [.agg [I 0, S [], S [], S [], S [], S [], nils], Bo false]) := ru tk0 ok117 z (by kernel_rfl)
theorem co_r3 (c : Int) (hc : -40 ≤ c ∧ c ≤ 40) : R 117 [.lst 8 (pE c [(100, (-1)), (101, 1)])] (.tup [.agg [I 0, S [], S [], S [], S [], S [], nils], Bo false]) := by
  by_cases h : c = 0
  · subst h; exact co_r3_z
  · rw [pE_nz h]; exact co_r3_n c hc h
theorem co_u01_z : R 117 [.lst 8 [(nO 1 ++ [.lst 11 [(vC 97)]]), (nO (-1) ++ [.lst 11 [(vC 98)]])]] (.tup [.agg [I 0, S [], S [], S [], S [], S [], nils], Bo false]) := ru tk0 ok117 z (by kernel_rfl)
theorem co_u01_n (c : Int) (hc : -40 ≤ c ∧ c ≤ 40) (h : c ≠ 0) : R 117 [.lst 8 [(nO (c) ++ [nils]), (nO 1 ++ [.lst 11 [(vC 97)]]), (nO (-1) ++ [.lst 11 [(vC 98)]])]] (.tup [.agg [I 0, S [], S [], S [], S [], S [], nils], Bo false]) := ru tk0 ok117 z (by kernel_rfl)
theorem co_u01 (c : Int) (hc : -40 ≤ c ∧ c ≤ 40) : R 117 [.lst 8 (pE c [(97, 1), (98, (-1))])] (.tup [.agg [I 0, S [], S [], S [], S [], S [], nils], Bo false]) := by
  by_cases h : c = 0
  · subst h; exact co_u01_z
  · rw [pE_nz h]; exact co_u01_n c hc h
theorem co_u02_z : R 117 [.lst 8 [(nO 1 ++ [.lst 11 [(vC 97)]]), (nO (-1) ++ [.lst 11 [(vC 99)]])]] (.tup [.agg [I 0, S [], S [], S [], S [], S [], nils], Bo false]) := ru tk0 ok117 z (by kernel_rfl)
theorem co_u02_n (c : Int) (hc : -40 ≤ c ∧ c ≤ 40) (h : c ≠ 0) : R 117 [.lst 8 [(nO (c) ++ [nils]), (nO 1 ++ [.lst 11 [(vC 97)]]), (nO (-1) ++ [.lst 11 [(vC 99)]])]] (.tup [.agg [I 0, S [], S [], S [], S [], S [], nils], Bo false]) := ru tk0 ok117 z (by kernel_rfl)
theorem co_u02 (c : Int) (hc : -40 ≤ c ∧ c ≤ 40) : R 117 [.lst 8 (pE c [(97, 1), (99, (-1))])] (.tup [.agg [I 0, S [], S [], S [], S [], S [], nils], Bo false]) := by
  by_cases h : c = 0
  · subst h; exact co_u02_z
  · rw [pE_nz h]; exact co_u02_n c hc h
theorem co_u12_z : R 117 [.lst 8 [(nO 1 ++ [.lst 11 [(vC 98)]]), (nO (-1) ++ [.lst 11 [(vC 99)]])]] (.tup [.agg [I 0, S [], S [], S [], S [], S [], nils], Bo false]) := ru tk0 ok117 z (by kernel_rfl)
theorem co_u12_n (c : Int) (hc : -40 ≤ c ∧ c ≤ 40) (h : c ≠ 0) : R 117 [.lst 8 [(nO (c) ++ [nils]), (nO 1 ++ [.lst 11 [(vC 98)]]), (nO (-1) ++ [.lst 11 [(vC 99)]])]] (.tup [.agg [I 0, S [], S [], S [], S [], S [], nils], Bo false]) := ru tk0 ok117 z (by kernel_rfl)
theorem co_u12 (c : Int) (hc : -40 ≤ c ∧ c ≤ 40) : R 117 [.lst 8 (pE c [(98, 1), (99, (-1))])] (.tup [.agg [I 0, S [], S [], S [], S [], S [], nils], Bo false]) := by
  by_cases h : c = 0
  · subst h; exact co_u12_z
  · rw [pE_nz h]; exact co_u12_n c hc h
theorem co_u03_z : R 117 [.lst 8 [(nO 1 ++ [.lst 11 [(vC 97)]]), (nO (-1) ++ [.lst 11 [(vC 100)]])]] (.tup [.agg [I 0, S [], S [], S [], S [], S [], nils], Bo false]) := ru tk0 ok117 z (by kernel_rfl)
theorem co_u03_n (c : Int) (hc : -40 ≤ c ∧ c ≤ 40) (h : c ≠ 0) : R 117 [.lst 8 [(nO (c) ++ [nils]), (nO 1 ++ [.lst 11 [(vC 97)]]), (nO (-1) ++ [.lst 11 [(vC 100)]])]] (.tup [.agg [I 0, S [], S [], S [], S [], S [], nils], Bo false]) := ru tk0 ok117 z (by kernel_rfl)
theorem co_u03 (c : Int) (hc : -40 ≤ c ∧ c ≤ 40) : R 117 [.lst 8 (pE c [(97, 1), (100, (-1))])] (.tup [.agg [I 0, S [], S [], S [], S [], S [], nils], Bo false]) := by
  by_cases h : c = 0
  · subst h; exact co_u03_z
  · rw [pE_nz h]; exact co_u03_n c hc h
theorem co_u13_z : R 117 [.lst 8 [(nO 1 ++ [.lst 11 [(vC 98)]]), (nO (-1) ++ [.lst 11 [(vC 100)]])]] (.tup [.agg [I 0, S [], S [], S [], S [], S [], nils], Bo false]) := ru tk0 ok117 z (by kernel_rfl)
theorem co_u13_n (c : Int) (hc : -40 ≤ c ∧ c ≤ 40) (h : c ≠ 0) : R 117 [.lst 8 [(nO (c) ++ [nils]), (nO 1 ++ [.lst 11 [(vC 98)]]), (nO (-1) ++ [.lst 11 [(vC 100)]])]] (.tup [.agg [I 0, S [], S [], S [], S [], S [], nils], Bo false]) := ru tk0 ok117 z (by kernel_rfl)
theorem co_u13 (c : Int) (hc : -40 ≤ c ∧ c ≤ 40) : R 117 [.lst 8 (pE c [(98, 1), (100, (-1))])] (.tup [.agg [I 0, S [], S [], S [], S [], S [], nils], Bo false]) := by
  by_cases h : c = 0
  · subst h; exact co_u13_z
  · rw [pE_nz h]; exact co_u13_n c hc h
theorem co_u23_z : R 117 [.lst 8 [(nO 1 ++ [.lst 11 [(vC 99)]]), (nO (-1) ++ [.lst 11 [(vC 100)]])]] (.tup [.agg [I 0, S [], S [], S [], S [], S [], nils], Bo false]) := ru tk0 ok117 z (by kernel_rfl)
theorem co_u23_n (c : Int) (hc : -40 ≤ c ∧ c ≤ 40) (h : c ≠ 0) : R 117 [.lst 8 [(nO (c) ++ [nils]), (nO 1 ++ [.lst 11 [(vC 99)]]), (nO (-1) ++ [.lst 11 [(vC 100)]])]] (.tup [.agg [I 0, S [], S [], S [], S [], S [], nils], Bo false]) := ru tk0 ok117 z (by kernel_rfl)
theorem co_u23 (c : Int) (hc : -40 ≤ c ∧ c ≤ 40) : R 117 [.lst 8 (pE c [(99, 1), (100, (-1))])] (.tup [.agg [I 0, S [], S [], S [], S [], S [], nils], Bo false]) := by
  by_cases h : c = 0
  · subst h; exact co_u23_z
  · rw [pE_nz h]; exact co_u23_n c hc h
theorem co_u04_z : R 117 [.lst 8 [(nO 1 ++ [.lst 11 [(vC 97)]]), (nO (-1) ++ [.lst 11 [(vC 101)]])]] (.tup [.agg [I 0, S [], S [], S [], S [], S [], nils], Bo false]) := ru tk0 ok117 z (by kernel_rfl)
theorem co_u04_n (c : Int) (hc : -40 ≤ c ∧ c ≤ 40) (h : c ≠ 0) : R 117 [.lst 8 [(nO (c) ++ [nils]), (nO 1 ++ [.lst 11 [(vC 97)]]), (nO (-1) ++ [.lst 11 [(vC 101)]])]] (.tup [.agg [I 0, S [], S [], S [], S [], S [], nils], Bo false]) := ru tk0 ok117 z (by kernel_rfl)
theorem co_u04 (c : Int) (hc : -40 ≤ c ∧ c ≤ 40) : R 117 [.lst 8 (pE c [(97, 1), (101, (-1))])] (.tup [.agg [I 0, S [], S [], S [], S [], S [], nils], Bo false]) := by
  by_cases h : c = 0
  · subst h; exact co_u04_z
  · rw [pE_nz h]; exact co_u04_n c hc h
theorem co_u14_z : R 117 [.lst 8 [(nO 1 ++ [.lst 11 [(vC 98)]]), (nO (-1) ++ [.lst 11 [(vC 101)]])]] (.tup [.agg [I 0, S [], S [], S [], S [], S [], nils], Bo false]) := ru tk0 ok117 z (by kernel_rfl)
theorem co_u14_n (c : Int) (hc : -40 ≤ c ∧ c ≤ 40) (h : c ≠ 0) : R 117 [.lst 8 [(nO (c) ++ [nils]), (nO 1 ++ [.lst 11 [(vC 98)]]), (nO (-1) ++ [.lst 11 [(vC 101)]])]] (.tup [.agg [I 0, S [], S [], S [], S [], S [], nils], Bo false]) := ru tk0 ok117 z (by kernel_rfl)
theorem co_u14 (c : Int) (hc : -40 ≤ c ∧ c ≤ 40) : R 117 [.lst 8 (pE c [(98, 1), (101, (-1))])] (.tup [.agg [I 0, S [], S [], S [], S [], S [], nils], Bo false]) := by
  by_cases h : c = 0
  · subst h; exact co_u14_z
  · rw [pE_nz h]; exact co_u14_n c hc h
theorem co_u24_z : R 117 [.lst 8 [(nO 1 ++ [.lst 11 [(vC 99)]]), (nO (-1) ++ [.lst 11 [(vC 101)]])]] (.tup [.agg [I 0, S [], S [], S [], S [], S [], nils], Bo false]) := ru tk0 ok117 z (by kernel_rfl)
theorem co_u24_n (c : Int) (hc : -40 ≤ c ∧ c ≤ 40) (h : c ≠ 0) : R 117 [.lst 8 [(nO (c) ++ [nils]), (nO 1 ++ [.lst 11 [(vC 99)]]), (nO (-1) ++ [.lst 11 [(vC 101)]])]] (.tup [.agg [I 0, S [], S [], S [], S [], S [], nils], Bo false]) := ru tk0 ok117 z (by kernel_rfl)
theorem co_u24 (c : Int) (hc : -40 ≤ c ∧ c ≤ 40) : R 117 [.lst 8 (pE c [(99, 1), (101, (-1))])] (.tup [.agg [I 0, S [], S [], S [], S [], S [], nils], Bo false]) := by
  by_cases h : c = 0
  · subst h; exact co_u24_z
  · rw [pE_nz h]; exact co_u24_n c hc h
theorem co_u34_z : R 117 [.lst 8 [(nO 1 ++ [.lst 11 [(vC 100)]]), (nO (-1) ++ [.lst 11 [(vC 101)]])]] (.tup [.agg [I 0, S [], S [], S [], S [], S [], nils], Bo false]) := ru tk0 ok117 z (by kernel_rfl)
theorem co_u34_n (c : Int) (hc : -40 ≤ c ∧ c ≤ 40) (h : c ≠ 0) : R 117 [.lst 8 [(nO (c) ++ [nils]), (nO 1 ++ [.lst 11 [(vC 100)]]), (nO (-1) ++ [.lst 11 [(vC 101)]])]] (.tup [.agg [I 0, S [], S [], S [], S [], S [], nils], Bo false]) := ru tk0 ok117 z (by kernel_rfl)
theorem co_u34 (c : Int) (hc : -40 ≤ c ∧ c ≤ 40) : R 117 [.lst 8 (pE c [(100, 1), (101, (-1))])] (.tup [.agg [I 0, S [], S [], S [], S [], S [], nils], Bo false]) := by
  by_cases h : c = 0
  · subst h; exact co_u34_z
  · rw [pE_nz h]; exact co_u34_n c hc h
theorem co_n (c : Int) (hc : -40 ≤ c ∧ c ≤ 40) (h : c ≠ 0) : R 117 [.lst 8 [(nO (c) ++ [nils])]] (.tup [N (c), Bo true]) := ru tk0 ok117 z (by kernel_rfl)
theorem co_e : R 117 [.lst 8 []] (.tup [N 0, Bo true]) := ru tk0 ok117 (y x9 z) (by kernel_rfl)
theorem co_nil : R 117 [nils] (.tup [N 0, Bo true]) := ru tk0 ok117 (y x9 z) (by kernel_rfl)
theorem se_n (c : Int) (hc : -40 ≤ c ∧ c ≤ 40) (h : c ≠ 0) : R 155 [.lst 8 [(nO (c) ++ [nils])], N 1] (.tup [.lst 8 [(nO (c) ++ [nils])], I 0]) := ru tk4 ok155 (y2 (vd (c) (by omega)) (nau (c) (by omega)) (y (w160 (c) 1 (c) (by omega) (by omega)) z)) (by kernel_rfl)
theorem se_e : R 155 [.lst 8 [], N 1] (.tup [nils, I 0]) := ru tk5 ok155 z (by kernel_rfl)
theorem hs_0_z : R 35 [.agg (aT [110, 111, 116] [(aT [60] [(aT [98, 105, 110, 97, 114, 121, 45, 43] [(cT 0), (vC 97)]), (vC 98)])])] (.tup [.lst 8 [(nO (-1) ++ [.lst 11 [(vC 97)]]), (nO 1 ++ [.lst 11 [(vC 98)]])], I 1, I 0]) := ru tk6 ok35 (y8 x2 x1 x4 x3 cmp_97_98 cmp_97_98 x1 x3 (y4 x10 x11 x2 x4 (y2 x12 naught_t (y x12 z)))) (by kernel_rfl)
theorem hs_0_n (c : Int) (hc : -5 ≤ c ∧ c ≤ 5) (h : c ≠ 0) : R 35 [.agg (aT [110, 111, 116] [(aT [60] [(aT [98, 105, 110, 97, 114, 121, 45, 43] [(cT (c)), (vC 97)]), (vC 98)])])] (.tup [.lst 8 [(nO (-c) ++ [nils]), (nO (-1) ++ [.lst 11 [(vC 97)]]), (nO 1 ++ [.lst 11 [(vC 98)]])], I 1, I 0]) := ru tk7 ok35 (y8 x2 x1 (vd (-c) (by omega)) x4 x3 (nau (-c) (by omega)) cmp_97_98 cmp_97_98 (y8 x1 (vd (-c) (by omega)) x3 (nau (-c) (by omega)) x10 (w160 (c) (-1) (-c) (by omega) (by omega)) x11 x2 (y4 (vd (c) (by omega)) x4 (nau (c) (by omega)) x12 (y2 (vd (c) (by omega)) (nau (c) (by omega)) (y x12 z))))) (by kernel_rfl)
theorem hs_0 (c : Int) (hc : -5 ≤ c ∧ c ≤ 5) : R 35 [.agg (litS 97 98 c)] (.tup [.lst 8 (pE (-c) [(97, (-1)), (98, 1)]), I 1, I 0]) := by
  by_cases h : c = 0
  · subst h; exact hs_0_z
  · rw [pE_nz (c := (-c)) (by omega)]; exact hs_0_n c hc h
theorem hn_0_z : R 35 [.agg (aT [60] [(vC 98), (aT [98, 105, 110, 97, 114, 121, 45, 43] [(cT 0), (vC 97)])])] (.tup [.lst 8 [(nO (-1) ++ [.lst 11 [(vC 97)]]), (nO 1 ++ [.lst 11 [(vC 98)]])], I 2, I 0]) := ru tk6 ok35 (y8 x2 x1 x4 x3 cmp_97_98 cmp_97_98 x1 x3 (y4 x10 x11 x2 x4 (y2 x12 naught_t (y x12 z)))) (by kernel_rfl)
theorem hn_0_n (c : Int) (hc : -5 ≤ c ∧ c ≤ 5) (h : c ≠ 0) : R 35 [.agg (aT [60] [(vC 98), (aT [98, 105, 110, 97, 114, 121, 45, 43] [(cT (c)), (vC 97)])])] (.tup [.lst 8 [(nO (-c) ++ [nils]), (nO (-1) ++ [.lst 11 [(vC 97)]]), (nO 1 ++ [.lst 11 [(vC 98)]])], I 2, I 0]) := ru tk7 ok35 (y8 x2 x1 (vd (-c) (by omega)) x4 x3 (nau (-c) (by omega)) cmp_97_98 cmp_97_98 (y8 x1 (vd (-c) (by omega)) x3 (nau (-c) (by omega)) x10 (w160 (c) (-1) (-c) (by omega) (by omega)) x11 x2 (y4 (vd (c) (by omega)) x4 (nau (c) (by omega)) x12 (y2 (vd (c) (by omega)) (nau (c) (by omega)) (y x12 z))))) (by kernel_rfl)
theorem hn_0 (c : Int) (hc : -5 ≤ c ∧ c ≤ 5) : R 35 [.agg (litN 97 98 c)] (.tup [.lst 8 (pE (-c) [(97, (-1)), (98, 1)]), I 2, I 0]) := by
  by_cases h : c = 0
  · subst h; exact hn_0_z
  · rw [pE_nz (c := (-c)) (by omega)]; exact hn_0_n c hc h
theorem hs_1_z : R 35 [.agg (aT [110, 111, 116] [(aT [60] [(aT [98, 105, 110, 97, 114, 121, 45, 43] [(cT 0), (vC 98)]), (vC 99)])])] (.tup [.lst 8 [(nO (-1) ++ [.lst 11 [(vC 98)]]), (nO 1 ++ [.lst 11 [(vC 99)]])], I 1, I 0]) := ru tk6 ok35 (y8 x2 x1 x4 x3 cmp_98_99 cmp_98_99 x1 x3 (y4 x10 x11 x2 x4 (y2 x12 naught_t (y x12 z)))) (by kernel_rfl)
theorem hs_1_n (c : Int) (hc : -5 ≤ c ∧ c ≤ 5) (h : c ≠ 0) : R 35 [.agg (aT [110, 111, 116] [(aT [60] [(aT [98, 105, 110, 97, 114, 121, 45, 43] [(cT (c)), (vC 98)]), (vC 99)])])] (.tup [.lst 8 [(nO (-c) ++ [nils]), (nO (-1) ++ [.lst 11 [(vC 98)]]), (nO 1 ++ [.lst 11 [(vC 99)]])], I 1, I 0]) := ru tk7 ok35 (y8 x2 x1 (vd (-c) (by omega)) x4 x3 (nau (-c) (by omega)) cmp_98_99 cmp_98_99 (y8 x1 (vd (-c) (by omega)) x3 (nau (-c) (by omega)) x10 (w160 (c) (-1) (-c) (by omega) (by omega)) x11 x2 (y4 (vd (c) (by omega)) x4 (nau (c) (by omega)) x12 (y2 (vd (c) (by omega)) (nau (c) (by omega)) (y x12 z))))) (by kernel_rfl)
theorem hs_1 (c : Int) (hc : -5 ≤ c ∧ c ≤ 5) : R 35 [.agg (litS 98 99 c)] (.tup [.lst 8 (pE (-c) [(98, (-1)), (99, 1)]), I 1, I 0]) := by
  by_cases h : c = 0
  · subst h; exact hs_1_z
  · rw [pE_nz (c := (-c)) (by omega)]; exact hs_1_n c hc h
theorem hn_1_z : R 35 [.agg (aT [60] [(vC 99), (aT [98, 105, 110, 97, 114, 121, 45, 43] [(cT 0), (vC 98)])])] (.tup [.lst 8 [(nO (-1) ++ [.lst 11 [(vC 98)]]), (nO 1 ++ [.lst 11 [(vC 99)]])], I 2, I 0]) := ru tk6 ok35 (y8 x2 x1 x4 x3 cmp_98_99 cmp_98_99 x1 x3 (y4 x10 x11 x2 x4 (y2 x12 naught_t (y x12 z)))) (by kernel_rfl)
theorem hn_1_n (c : Int) (hc : -5 ≤ c ∧ c ≤ 5) (h : c ≠ 0) : R 35 [.agg (aT [60] [(vC 99), (aT [98, 105, 110, 97, 114, 121, 45, 43] [(cT (c)), (vC 98)])])] (.tup [.lst 8 [(nO (-c) ++ [nils]), (nO (-1) ++ [.lst 11 [(vC 98)]]), (nO 1 ++ [.lst 11 [(vC 99)]])], I 2, I 0]) := ru tk7 ok35 (y8 x2 x1 (vd (-c) (by omega)) x4 x3 (nau (-c) (by omega)) cmp_98_99 cmp_98_99 (y8 x1 (vd (-c) (by omega)) x3 (nau (-c) (by omega)) x10 (w160 (c) (-1) (-c) (by omega) (by omega)) x11 x2 (y4 (vd (c) (by omega)) x4 (nau (c) (by omega)) x12 (y2 (vd (c) (by omega)) (nau (c) (by omega)) (y x12 z))))) (by kernel_rfl)
theorem hn_1 (c : Int) (hc : -5 ≤ c ∧ c ≤ 5) : R 35 [.agg (litN 98 99 c)] (.tup [.lst 8 (pE (-c) [(98, (-1)), (99, 1)]), I 2, I 0]) := by
  by_cases h : c = 0
  · subst h; exact hn_1_z
  · rw [pE_nz (c := (-c)) (by omega)]; exact hn_1_n c hc h
theorem hs_2_z : R 35 [.agg (aT [110, 111, 116] [(aT [60] [(aT [98, 105, 110, 97, 114, 121, 45, 43] [(cT 0), (vC 99)]), (vC 100)])])] (.tup [.lst 8 [(nO (-1) ++ [.lst 11 [(vC 99)]]), (nO 1 ++ [.lst 11 [(vC 100)]])], I 1, I 0]) := ru tk6 ok35 (y8 x2 x1 x4 x3 cmp_99_100 cmp_99_100 x1 x3 (y4 x10 x11 x2 x4 (y2 x12 naught_t (y x12 z)))) (by kernel_rfl)
theorem hs_2_n (c : Int) (hc : -5 ≤ c ∧ c ≤ 5) (h : c ≠ 0) : R 35 [.agg (aT [110, 111, 116] [(aT [60] [(aT [98, 105, 110, 97, 114, 121, 45, 43] [(cT (c)), (vC 99)]), (vC 100)])])] (.tup [.lst 8 [(nO (-c) ++ [nils]), (nO (-1) ++ [.lst 11 [(vC 99)]]), (nO 1 ++ [.lst 11 [(vC 100)]])], I 1, I 0]) := ru tk7 ok35 (y8 x2 x1 (vd (-c) (by omega)) x4 x3 (nau (-c) (by omega)) cmp_99_100 cmp_99_100 (y8 x1 (vd (-c) (by omega)) x3 (nau (-c) (by omega)) x10 (w160 (c) (-1) (-c) (by omega) (by omega)) x11 x2 (y4 (vd (c) (by omega)) x4 (nau (c) (by omega)) x12 (y2 (vd (c) (by omega)) (nau (c) (by omega)) (y x12 z))))) (by kernel_rfl)
theorem hs_2 (c : Int) (hc : -5 ≤ c ∧ c ≤ 5) : R 35 [.agg (litS 99 100 c)] (.tup [.lst 8 (pE (-c) [(99, (-1)), (100, 1)]), I 1, I 0]) := by
  by_cases h : c = 0
  · subst h; exact hs_2_z
  · rw [pE_nz (c := (-c)) (by omega)]; exact hs_2_n c hc h
theorem hn_2_z : R 35 [.agg (aT [60] [(vC 100), (aT [98, 105, 110, 97, 114, 121, 45, 43] [(cT 0), (vC 99)])])] (.tup [.lst 8 [(nO (-1) ++ [.lst 11 [(vC 99)]]), (nO 1 ++ [.lst 11 [(vC 100)]])], I 2, I 0]) := ru tk6 ok35 (y8 x2 x1 x4 x3 cmp_99_100 cmp_99_100 x1 x3 (y4 x10 x11 x2 x4 (y2 x12 naught_t (y x12 z)))) (by kernel_rfl)
theorem hn_2_n (c : Int) (hc : -5 ≤ c ∧ c ≤ 5) (h : c ≠ 0) : R 35 [.agg (aT [60] [(vC 100), (aT [98, 105, 110, 97, 114, 121, 45, 43] [(cT (c)), (vC 99)])])] (.tup [.lst 8 [(nO (-c) ++ [nils]), (nO (-1) ++ [.lst 11 [(vC 99)]]), (nO 1 ++ [.lst 11 [(vC 100)]])], I 2, I 0]) := ru tk7 ok35 (y8 x2 x1 (vd (-c) (by omega)) x4 x3 (nau (-c) (by omega)) cmp_99_100 cmp_99_100 (y8 x1 (vd (-c) (by omega)) x3 (nau (-c) (by omega)) x10 (w160 (c) (-1) (-c) (by omega) (by omega)) x11 x2 (y4 (vd (c) (by omega)) x4 (nau (c) (by omega)) x12 (y2 (vd (c) (by omega)) (nau (c) (by omega)) (y x12 z))))) (by kernel_rfl)
theorem hn_2 (c : Int) (hc : -5 ≤ c ∧ c ≤ 5) : R 35 [.agg (litN 99 100 c)] (.tup [.lst 8 (pE (-c) [(99, (-1)), (100, 1)]), I 2, I 0]) := by
  by_cases h : c = 0
  · subst h; exact hn_2_z
  · rw [pE_nz (c := (-c)) (by omega)]; exact hn_2_n c hc h
theorem hs_3_z : R 35 [.agg (aT [110, 111, 116] [(aT [60] [(aT [98, 105, 110, 97, 114, 121, 45, 43] [(cT 0), (vC 100)]), (vC 101)])])] (.tup [.lst 8 [(nO (-1) ++ [.lst 11 [(vC 100)]]), (nO 1 ++ [.lst 11 [(vC 101)]])], I 1, I 0]) := ru tk6 ok35 (y8 x2 x1 x4 x3 cmp_100_101 cmp_100_101 x1 x3 (y4 x10 x11 x2 x4 (y2 x12 naught_t (y x12 z)))) (by kernel_rfl)
theorem hs_3_n (c : Int) (hc : -5 ≤ c ∧ c ≤ 5) (h : c ≠ 0) : R 35 [.agg (aT [110, 111, 116] [(aT [60] [(aT [98, 105, 110, 97, 114, 121, 45, 43] [(cT (c)), (vC 100)]), (vC 101)])])] (.tup [.lst 8 [(nO (-c) ++ [nils]), (nO (-1) ++ [.lst 11 [(vC 100)]]), (nO 1 ++ [.lst 11 [(vC 101)]])], I 1, I 0]) := ru tk7 ok35 (y8 x2 x1 (vd (-c) (by omega)) x4 x3 (nau (-c) (by omega)) cmp_100_101 cmp_100_101 (y8 x1 (vd (-c) (by omega)) x3 (nau (-c) (by omega)) x10 (w160 (c) (-1) (-c) (by omega) (by omega)) x11 x2 (y4 (vd (c) (by omega)) x4 (nau (c) (by omega)) x12 (y2 (vd (c) (by omega)) (nau (c) (by omega)) (y x12 z))))) (by kernel_rfl)
theorem hs_3 (c : Int) (hc : -5 ≤ c ∧ c ≤ 5) : R 35 [.agg (litS 100 101 c)] (.tup [.lst 8 (pE (-c) [(100, (-1)), (101, 1)]), I 1, I 0]) := by
  by_cases h : c = 0
  · subst h; exact hs_3_z
  · rw [pE_nz (c := (-c)) (by omega)]; exact hs_3_n c hc h
theorem hn_3_z : R 35 [.agg (aT [60] [(vC 101), (aT [98, 105, 110, 97, 114, 121, 45, 43] [(cT 0), (vC 100)])])] (.tup [.lst 8 [(nO (-1) ++ [.lst 11 [(vC 100)]]), (nO 1 ++ [.lst 11 [(vC 101)]])], I 2, I 0]) := ru tk6 ok35 (y8 x2 x1 x4 x3 cmp_100_101 cmp_100_101 x1 x3 (y4 x10 x11 x2 x4 (y2 x12 naught_t (y x12 z)))) (by kernel_rfl)
theorem hn_3_n (c : Int) (hc : -5 ≤ c ∧ c ≤ 5) (h : c ≠ 0) : R 35 [.agg (aT [60] [(vC 101), (aT [98, 105, 110, 97, 114, 121, 45, 43] [(cT (c)), (vC 100)])])] (.tup [.lst 8 [(nO (-c) ++ [nils]), (nO (-1) ++ [.lst 11 [(vC 100)]]), (nO 1 ++ [.lst 11 [(vC 101)]])], I 2, I 0]) := ru tk7 ok35 (y8 x2 x1 (vd (-c) (by omega)) x4 x3 (nau (-c) (by omega)) cmp_100_101 cmp_100_101 (y8 x1 (vd (-c) (by omega)) x3 (nau (-c) (by omega)) x10 (w160 (c) (-1) (-c) (by omega) (by omega)) x11 x2 (y4 (vd (c) (by omega)) x4 (nau (c) (by omega)) x12 (y2 (vd (c) (by omega)) (nau (c) (by omega)) (y x12 z))))) (by kernel_rfl)
theorem hn_3 (c : Int) (hc : -5 ≤ c ∧ c ≤ 5) : R 35 [.agg (litN 100 101 c)] (.tup [.lst 8 (pE (-c) [(100, (-1)), (101, 1)]), I 2, I 0]) := by
  by_cases h : c = 0
  · subst h; exact hn_3_z
  · rw [pE_nz (c := (-c)) (by omega)]; exact hn_3_n c hc h
theorem hl_1_z : R 35 [.agg (aT [60] [(aT [98, 105, 110, 97, 114, 121, 45, 43] [(cT 0), (vC 97)]), (vC 98)])] (.tup [.lst 8 [(nO 1 ++ [.lst 11 [(vC 97)]]), (nO (-1) ++ [.lst 11 [(vC 98)]])], I 2, I 0]) := ru tk6 ok35 (y8 x1 x2 x3 x4 cmp_97_98 cmp_98_97 x1 x3 (y4 x10 x11 x12 x2 (y2 x4 x12 (y naught_t z)))) (by kernel_rfl)
theorem hl_1_n (c : Int) (hc : -19 ≤ c ∧ c ≤ 19) (h : c ≠ 0) : R 35 [.agg (aT [60] [(aT [98, 105, 110, 97, 114, 121, 45, 43] [(cT (c)), (vC 97)]), (vC 98)])] (.tup [.lst 8 [(nO (c) ++ [nils]), (nO 1 ++ [.lst 11 [(vC 97)]]), (nO (-1) ++ [.lst 11 [(vC 98)]])], I 2, I 0]) := ru tk7 ok35 (y8 x1 x2 (vd (c) (by omega)) x3 x4 (nau (c) (by omega)) cmp_97_98 cmp_98_97 (y8 x1 x3 x10 x11 x12 x2 (vd (c) (by omega)) x4 (y4 (nau (c) (by omega)) x12 (vd (c) (by omega)) (nau (c) (by omega)) z))) (by kernel_rfl)
theorem hl_1 (c : Int) (hc : -19 ≤ c ∧ c ≤ 19) : R 35 [.agg (litL 98 c)] (.tup [.lst 8 (pE c [(97, 1), (98, (-1))]), I 2, I 0]) := by
  by_cases h : c = 0
  · subst h; exact hl_1_z
  · rw [pE_nz (c := c) (by omega)]; exact hl_1_n c hc h
theorem hl_2_z : R 35 [.agg (aT [60] [(aT [98, 105, 110, 97, 114, 121, 45, 43] [(cT 0), (vC 97)]), (vC 99)])] (.tup [.lst 8 [(nO 1 ++ [.lst 11 [(vC 97)]]), (nO (-1) ++ [.lst 11 [(vC 99)]])], I 2, I 0]) := ru tk6 ok35 (y8 x1 x2 x3 x4 cmp_97_99 cmp_99_97 x1 x3 (y4 x10 x11 x12 x2 (y2 x4 x12 (y naught_t z)))) (by kernel_rfl)
theorem hl_2_n (c : Int) (hc : -19 ≤ c ∧ c ≤ 19) (h : c ≠ 0) : R 35 [.agg (aT [60] [(aT [98, 105, 110, 97, 114, 121, 45, 43] [(cT (c)), (vC 97)]), (vC 99)])] (.tup [.lst 8 [(nO (c) ++ [nils]), (nO 1 ++ [.lst 11 [(vC 97)]]), (nO (-1) ++ [.lst 11 [(vC 99)]])], I 2, I 0]) := ru tk7 ok35 (y8 x1 x2 (vd (c) (by omega)) x3 x4 (nau (c) (by omega)) cmp_97_99 cmp_99_97 (y8 x1 x3 x10 x11 x12 x2 (vd (c) (by omega)) x4 (y4 (nau (c) (by omega)) x12 (vd (c) (by omega)) (nau (c) (by omega)) z))) (by kernel_rfl)
theorem hl_2 (c : Int) (hc : -19 ≤ c ∧ c ≤ 19) : R 35 [.agg (litL 99 c)] (.tup [.lst 8 (pE c [(97, 1), (99, (-1))]), I 2, I 0]) := by
  by_cases h : c = 0
  · subst h; exact hl_2_z
  · rw [pE_nz (c := c) (by omega)]; exact hl_2_n c hc h
theorem hl_3_z : R 35 [.agg (aT [60] [(aT [98, 105, 110, 97, 114, 121, 45, 43] [(cT 0), (vC 97)]), (vC 100)])] (.tup [.lst 8 [(nO 1 ++ [.lst 11 [(vC 97)]]), (nO (-1) ++ [.lst 11 [(vC 100)]])], I 2, I 0]) := ru tk6 ok35 (y8 x1 x2 x3 x4 cmp_97_100 cmp_100_97 x1 x3 (y4 x10 x11 x12 x2 (y2 x4 x12 (y naught_t z)))) (by kernel_rfl)
theorem hl_3_n (c : Int) (hc : -19 ≤ c ∧ c ≤ 19) (h : c ≠ 0) : R 35 [.agg (aT [60] [(aT [98, 105, 110, 97, 114, 121, 45, 43] [(cT (c)), (vC 97)]), (vC 100)])] (.tup [.lst 8 [(nO (c) ++ [nils]), (nO 1 ++ [.lst 11 [(vC 97)]]), (nO (-1) ++ [.lst 11 [(vC 100)]])], I 2, I 0]) := ru tk7 ok35 (y8 x1 x2 (vd (c) (by omega)) x3 x4 (nau (c) (by omega)) cmp_97_100 cmp_100_97 (y8 x1 x3 x10 x11 x12 x2 (vd (c) (by omega)) x4 (y4 (nau (c) (by omega)) x12 (vd (c) (by omega)) (nau (c) (by omega)) z))) (by kernel_rfl)
theorem hl_3 (c : Int) (hc : -19 ≤ c ∧ c ≤ 19) : R 35 [.agg (litL 100 c)] (.tup [.lst 8 (pE c [(97, 1), (100, (-1))]), I 2, I 0]) := by
  by_cases h : c = 0
  · subst h; exact hl_3_z
  · rw [pE_nz (c := c) (by omega)]; exact hl_3_n c hc h
theorem hl_4_z : R 35 [.agg (aT [60] [(aT [98, 105, 110, 97, 114, 121, 45, 43] [(cT 0), (vC 97)]), (vC 101)])] (.tup [.lst 8 [(nO 1 ++ [.lst 11 [(vC 97)]]), (nO (-1) ++ [.lst 11 [(vC 101)]])], I 2, I 0]) := ru tk6 ok35 (y8 x1 x2 x3 x4 cmp_97_101 cmp_101_97 x1 x3 (y4 x10 x11 x12 x2 (y2 x4 x12 (y naught_t z)))) (by kernel_rfl)
theorem hl_4_n (c : Int) (hc : -19 ≤ c ∧ c ≤ 19) (h : c ≠ 0) : R 35 [.agg (aT [60] [(aT [98, 105, 110, 97, 114, 121, 45, 43] [(cT (c)), (vC 97)]), (vC 101)])] (.tup [.lst 8 [(nO (c) ++ [nils]), (nO 1 ++ [.lst 11 [(vC 97)]]), (nO (-1) ++ [.lst 11 [(vC 101)]])], I 2, I 0]) := ru tk7 ok35 (y8 x1 x2 (vd (c) (by omega)) x3 x4 (nau (c) (by omega)) cmp_97_101 cmp_101_97 (y8 x1 x3 x10 x11 x12 x2 (vd (c) (by omega)) x4 (y4 (nau (c) (by omega)) x12 (vd (c) (by omega)) (nau (c) (by omega)) z))) (by kernel_rfl)
theorem hl_4 (c : Int) (hc : -19 ≤ c ∧ c ≤ 19) : R 35 [.agg (litL 101 c)] (.tup [.lst 8 (pE c [(97, 1), (101, (-1))]), I 2, I 0]) := by
  by_cases h : c = 0
  · subst h; exact hl_4_z
  · rw [pE_nz (c := c) (by omega)]; exact hl_4_n c hc h

end Go.Proofs.YthiipifjdfmblaaGreatDoor

/- How the program compares variables, and scales and adds the polynomials of the chains. Made by a program: each contract comes of a run of the function's body. -/
import Derived.Test.YthiipifjdfmblaaGreatDoorP
set_option linter.unusedVariables false
set_option linter.unusedSimpArgs false
namespace Go.Proofs.YthiipifjdfmblaaGreatDoor
open Go Go.Pf Go.RowKit
set_option maxRecDepth 100000
theorem cmp_97_97 : R 183 [.agg (vC 97), .agg (vC 97)] (I 0) := ru tk1 ok183 (y2 (rc334 [117, 115, 101, 114] [117, 115, 101, 114]) (rc334 [97] [97]) z) (by kernel_rfl)
theorem cmp_97_98 : R 183 [.agg (vC 97), .agg (vC 98)] (I (-1)) := ru tk1 ok183 (y (rc334 [97] [98]) z) (by kernel_rfl)
theorem cmp_97_99 : R 183 [.agg (vC 97), .agg (vC 99)] (I (-1)) := ru tk1 ok183 (y (rc334 [97] [99]) z) (by kernel_rfl)
theorem cmp_97_100 : R 183 [.agg (vC 97), .agg (vC 100)] (I (-1)) := ru tk1 ok183 (y (rc334 [97] [100]) z) (by kernel_rfl)
theorem cmp_97_101 : R 183 [.agg (vC 97), .agg (vC 101)] (I (-1)) := ru tk1 ok183 (y (rc334 [97] [101]) z) (by kernel_rfl)
theorem cmp_98_97 : R 183 [.agg (vC 98), .agg (vC 97)] (I 1) := ru tk1 ok183 (y (rc334 [98] [97]) z) (by kernel_rfl)
theorem cmp_98_98 : R 183 [.agg (vC 98), .agg (vC 98)] (I 0) := ru tk1 ok183 (y2 (rc334 [117, 115, 101, 114] [117, 115, 101, 114]) (rc334 [98] [98]) z) (by kernel_rfl)
theorem cmp_98_99 : R 183 [.agg (vC 98), .agg (vC 99)] (I (-1)) := ru tk1 ok183 (y (rc334 [98] [99]) z) (by kernel_rfl)
theorem cmp_98_100 : R 183 [.agg (vC 98), .agg (vC 100)] (I (-1)) := ru tk1 ok183 (y (rc334 [98] [100]) z) (by kernel_rfl)
theorem cmp_98_101 : R 183 [.agg (vC 98), .agg (vC 101)] (I (-1)) := ru tk1 ok183 (y (rc334 [98] [101]) z) (by kernel_rfl)
theorem cmp_99_97 : R 183 [.agg (vC 99), .agg (vC 97)] (I 1) := ru tk1 ok183 (y (rc334 [99] [97]) z) (by kernel_rfl)
theorem cmp_99_98 : R 183 [.agg (vC 99), .agg (vC 98)] (I 1) := ru tk1 ok183 (y (rc334 [99] [98]) z) (by kernel_rfl)
theorem cmp_99_99 : R 183 [.agg (vC 99), .agg (vC 99)] (I 0) := ru tk1 ok183 (y2 (rc334 [117, 115, 101, 114] [117, 115, 101, 114]) (rc334 [99] [99]) z) (by kernel_rfl)
theorem cmp_99_100 : R 183 [.agg (vC 99), .agg (vC 100)] (I (-1)) := ru tk1 ok183 (y (rc334 [99] [100]) z) (by kernel_rfl)
theorem cmp_99_101 : R 183 [.agg (vC 99), .agg (vC 101)] (I (-1)) := ru tk1 ok183 (y (rc334 [99] [101]) z) (by kernel_rfl)
theorem cmp_100_97 : R 183 [.agg (vC 100), .agg (vC 97)] (I 1) := ru tk1 ok183 (y (rc334 [100] [97]) z) (by kernel_rfl)
theorem cmp_100_98 : R 183 [.agg (vC 100), .agg (vC 98)] (I 1) := ru tk1 ok183 (y (rc334 [100] [98]) z) (by kernel_rfl)
theorem cmp_100_99 : R 183 [.agg (vC 100), .agg (vC 99)] (I 1) := ru tk1 ok183 (y (rc334 [100] [99]) z) (by kernel_rfl)
theorem cmp_100_100 : R 183 [.agg (vC 100), .agg (vC 100)] (I 0) := ru tk1 ok183 (y2 (rc334 [117, 115, 101, 114] [117, 115, 101, 114]) (rc334 [100] [100]) z) (by kernel_rfl)
theorem cmp_100_101 : R 183 [.agg (vC 100), .agg (vC 101)] (I (-1)) := ru tk1 ok183 (y (rc334 [100] [101]) z) (by kernel_rfl)
theorem cmp_101_97 : R 183 [.agg (vC 101), .agg (vC 97)] (I 1) := ru tk1 ok183 (y (rc334 [101] [97]) z) (by kernel_rfl)
theorem cmp_101_98 : R 183 [.agg (vC 101), .agg (vC 98)] (I 1) := ru tk1 ok183 (y (rc334 [101] [98]) z) (by kernel_rfl)
theorem cmp_101_99 : R 183 [.agg (vC 101), .agg (vC 99)] (I 1) := ru tk1 ok183 (y (rc334 [101] [99]) z) (by kernel_rfl)
theorem cmp_101_100 : R 183 [.agg (vC 101), .agg (vC 100)] (I 1) := ru tk1 ok183 (y (rc334 [101] [100]) z) (by kernel_rfl)
theorem cmp_101_101 : R 183 [.agg (vC 101), .agg (vC 101)] (I 0) := ru tk1 ok183 (y2 (rc334 [117, 115, 101, 114] [117, 115, 101, 114]) (rc334 [101] [101]) z) (by kernel_rfl)
theorem cmp_120_120 : R 183 [.agg (vC 120), .agg (vC 120)] (I 0) := ru tk1 ok183 (y2 (rc334 [117, 115, 101, 114] [117, 115, 101, 114]) (rc334 [120] [120]) z) (by kernel_rfl)
theorem cmp_120_121 : R 183 [.agg (vC 120), .agg (vC 121)] (I (-1)) := ru tk1 ok183 (y (rc334 [120] [121]) z) (by kernel_rfl)
theorem cmp_120_122 : R 183 [.agg (vC 120), .agg (vC 122)] (I (-1)) := ru tk1 ok183 (y (rc334 [120] [122]) z) (by kernel_rfl)
theorem cmp_121_120 : R 183 [.agg (vC 121), .agg (vC 120)] (I 1) := ru tk1 ok183 (y (rc334 [121] [120]) z) (by kernel_rfl)
theorem cmp_121_121 : R 183 [.agg (vC 121), .agg (vC 121)] (I 0) := ru tk1 ok183 (y2 (rc334 [117, 115, 101, 114] [117, 115, 101, 114]) (rc334 [121] [121]) z) (by kernel_rfl)
theorem cmp_121_122 : R 183 [.agg (vC 121), .agg (vC 122)] (I (-1)) := ru tk1 ok183 (y (rc334 [121] [122]) z) (by kernel_rfl)
theorem cmp_122_120 : R 183 [.agg (vC 122), .agg (vC 120)] (I 1) := ru tk1 ok183 (y (rc334 [122] [120]) z) (by kernel_rfl)
theorem cmp_122_121 : R 183 [.agg (vC 122), .agg (vC 121)] (I 1) := ru tk1 ok183 (y (rc334 [122] [121]) z) (by kernel_rfl)
theorem cmp_122_122 : R 183 [.agg (vC 122), .agg (vC 122)] (I 0) := ru tk1 ok183 (y2 (rc334 [117, 115, 101, 114] [117, 115, 101, 114]) (rc334 [122] [122]) z) (by kernel_rfl)
theorem sc_0_1_z : R 155 [.lst 8 [(nO 1 ++ [.lst 11 [(vC 97)]]), (nO (-1) ++ [.lst 11 [(vC 98)]])], N 1] (.tup [.lst 8 [(nO 1 ++ [.lst 11 [(vC 97)]]), (nO (-1) ++ [.lst 11 [(vC 98)]])], I 0]) := ru tk2 ok155 (y8 x1 x2 x3 x4 cmp_97_98 cmp_98_97 x5 x6 z) (by kernel_rfl)
theorem sc_0_1_n (c : Int) (hc : -40 ≤ c ∧ c ≤ 40) (h : c ≠ 0) : R 155 [.lst 8 [(nO (c) ++ [nils]), (nO 1 ++ [.lst 11 [(vC 97)]]), (nO (-1) ++ [.lst 11 [(vC 98)]])], N 1] (.tup [.lst 8 [(nO (c) ++ [nils]), (nO 1 ++ [.lst 11 [(vC 97)]]), (nO (-1) ++ [.lst 11 [(vC 98)]])], I 0]) := ru tk2 ok155 (y8 x1 x2 (vd (c) (by omega)) x3 x4 (nau (c) (by omega)) cmp_97_98 cmp_98_97 (y2 x5 x6 (y (w160 (c) 1 (c) (by omega) (by omega)) z))) (by kernel_rfl)
theorem sc_0_1 (c : Int) (hc : -40 ≤ c ∧ c ≤ 40) : R 155 [.lst 8 (pE c [(97, 1), (98, (-1))]), N 1] (.tup [.lst 8 (pE c [(97, 1), (98, (-1))]), I 0]) := by
  by_cases h : c = 0
  · subst h; exact sc_0_1_z
  · rw [pE_nz h]; exact sc_0_1_n c hc h
theorem ad_0_1_zz : R 156 [.lst 8 [(nO 1 ++ [.lst 11 [(vC 97)]]), (nO (-1) ++ [.lst 11 [(vC 98)]])], .lst 8 [(nO (-1) ++ [.lst 11 [(vC 97)]]), (nO 1 ++ [.lst 11 [(vC 98)]])]] (.tup [.lst 8 [], I 0]) := ru tk3 ok156 (y8 naught_t naught_t x7 cmp_98_98 cmp_97_98 x8 cmp_97_97 cmp_98_98 (y2 cmp_97_97 cmp_97_98 (y cmp_98_97 z))) (by kernel_rfl)
theorem ad_0_1_nz (c : Int) (hc : -34 ≤ c ∧ c ≤ 34) (h1 : c ≠ 0) : R 156 [.lst 8 [(nO (c) ++ [nils]), (nO 1 ++ [.lst 11 [(vC 97)]]), (nO (-1) ++ [.lst 11 [(vC 98)]])], .lst 8 [(nO (-1) ++ [.lst 11 [(vC 97)]]), (nO 1 ++ [.lst 11 [(vC 98)]])]] (.tup [.lst 8 [(nO (c) ++ [nils])], I 0]) := ru tk3 ok156 (y8 (vd (c) (by omega)) naught_t naught_t (nau (c) (by omega)) x7 cmp_98_98 cmp_97_98 x8 (y4 cmp_97_97 cmp_98_98 cmp_97_97 cmp_97_98 (y cmp_98_97 z))) (by kernel_rfl)
theorem ad_0_1_zn (k : Int) (hk : -5 ≤ k ∧ k ≤ 5) (h2 : k ≠ 0) : R 156 [.lst 8 [(nO 1 ++ [.lst 11 [(vC 97)]]), (nO (-1) ++ [.lst 11 [(vC 98)]])], .lst 8 [(nO (k) ++ [nils]), (nO (-1) ++ [.lst 11 [(vC 97)]]), (nO 1 ++ [.lst 11 [(vC 98)]])]] (.tup [.lst 8 [(nO (k) ++ [nils])], I 0]) := ru tk3 ok156 (y8 (vd (k) (by omega)) naught_t naught_t (nau (k) (by omega)) x7 cmp_98_98 cmp_97_98 x8 (y4 cmp_97_97 cmp_98_98 cmp_97_97 cmp_97_98 (y cmp_98_97 z))) (by kernel_rfl)
theorem ad_0_1_nn (c : Int) (hc : -34 ≤ c ∧ c ≤ 34) (h1 : c ≠ 0) (k : Int) (hk : -5 ≤ k ∧ k ≤ 5) (h2 : k ≠ 0) (h3 : c + k ≠ 0) : R 156 [.lst 8 [(nO (c) ++ [nils]), (nO 1 ++ [.lst 11 [(vC 97)]]), (nO (-1) ++ [.lst 11 [(vC 98)]])], .lst 8 [(nO (k) ++ [nils]), (nO (-1) ++ [.lst 11 [(vC 97)]]), (nO 1 ++ [.lst 11 [(vC 98)]])]] (.tup [.lst 8 [(nO (c + k) ++ [nils])], I 0]) := ru tk3 ok156 (y8 (vd (c + k) (by omega)) naught_t naught_t (nau (c + k) (by omega)) x7 cmp_98_98 cmp_97_98 x8 (y4 cmp_97_97 (w215 (c) (k) (c + k) (by omega)) cmp_98_98 cmp_97_97 (y2 cmp_97_98 cmp_98_97 z))) (by kernel_rfl)
theorem ad_0_1_nm (c : Int) (hc : -5 ≤ c ∧ c ≤ 5) (h1 : c ≠ 0) : R 156 [.lst 8 [(nO (c) ++ [nils]), (nO 1 ++ [.lst 11 [(vC 97)]]), (nO (-1) ++ [.lst 11 [(vC 98)]])], .lst 8 [(nO (-c) ++ [nils]), (nO (-1) ++ [.lst 11 [(vC 97)]]), (nO 1 ++ [.lst 11 [(vC 98)]])]] (.tup [.lst 8 [], I 0]) := ru tk3 ok156 (y8 naught_t naught_t naught_t x7 cmp_98_98 cmp_97_98 x8 cmp_97_97 (y4 (w215 (c) (-c) 0 (by omega)) cmp_98_98 cmp_97_97 cmp_97_98 (y cmp_98_97 z))) (by kernel_rfl)
theorem ad_0_1 (c k : Int) (hc : -34 ≤ c ∧ c ≤ 34) (hk : -5 ≤ k ∧ k ≤ 5) : R 156 [.lst 8 (pE c [(97, 1), (98, (-1))]), .lst 8 (pE k [(97, (-1)), (98, 1)])] (.tup [.lst 8 (pE (c + k) []), I 0]) := by
  by_cases h1 : c = 0
  · subst h1
    by_cases h2 : k = 0
    · subst h2; exact ad_0_1_zz
    · rw [Int.zero_add, pE_nz h2, pE_nz h2]; exact ad_0_1_zn k hk h2
  · by_cases h2 : k = 0
    · subst h2; rw [Int.add_zero, pE_nz h1, pE_nz h1]; exact ad_0_1_nz c hc h1
    · by_cases h3 : c + k = 0
      · have e : k = -c := by omega
        subst e
        rw [h3, pE_nz h1, pE_nz h2]; exact ad_0_1_nm c (by omega) h1
      · rw [pE_nz h1, pE_nz h2, pE_nz h3]; exact ad_0_1_nn c hc h1 k hk h2 h3
theorem sc_0_2_z : R 155 [.lst 8 [(nO 1 ++ [.lst 11 [(vC 97)]]), (nO (-1) ++ [.lst 11 [(vC 99)]])], N 1] (.tup [.lst 8 [(nO 1 ++ [.lst 11 [(vC 97)]]), (nO (-1) ++ [.lst 11 [(vC 99)]])], I 0]) := ru tk2 ok155 (y8 x1 x2 x3 x4 cmp_97_99 cmp_99_97 x5 x6 z) (by kernel_rfl)
theorem sc_0_2_n (c : Int) (hc : -40 ≤ c ∧ c ≤ 40) (h : c ≠ 0) : R 155 [.lst 8 [(nO (c) ++ [nils]), (nO 1 ++ [.lst 11 [(vC 97)]]), (nO (-1) ++ [.lst 11 [(vC 99)]])], N 1] (.tup [.lst 8 [(nO (c) ++ [nils]), (nO 1 ++ [.lst 11 [(vC 97)]]), (nO (-1) ++ [.lst 11 [(vC 99)]])], I 0]) := ru tk2 ok155 (y8 x1 x2 (vd (c) (by omega)) x3 x4 (nau (c) (by omega)) cmp_97_99 cmp_99_97 (y2 x5 x6 (y (w160 (c) 1 (c) (by omega) (by omega)) z))) (by kernel_rfl)
theorem sc_0_2 (c : Int) (hc : -40 ≤ c ∧ c ≤ 40) : R 155 [.lst 8 (pE c [(97, 1), (99, (-1))]), N 1] (.tup [.lst 8 (pE c [(97, 1), (99, (-1))]), I 0]) := by
  by_cases h : c = 0
  · subst h; exact sc_0_2_z
  · rw [pE_nz h]; exact sc_0_2_n c hc h
theorem ad_0_2_zz : R 156 [.lst 8 [(nO 1 ++ [.lst 11 [(vC 97)]]), (nO (-1) ++ [.lst 11 [(vC 99)]])], .lst 8 [(nO (-1) ++ [.lst 11 [(vC 97)]]), (nO 1 ++ [.lst 11 [(vC 98)]])]] (.tup [.lst 8 [(nO 1 ++ [.lst 11 [(vC 98)]]), (nO (-1) ++ [.lst 11 [(vC 99)]])], I 0]) := ru tk3 ok156 (y8 x1 x2 x3 x4 naught_t cmp_98_99 cmp_97_98 x8 (y4 cmp_97_97 cmp_98_97 cmp_98_99 cmp_97_97 (y2 cmp_97_99 cmp_99_97 z))) (by kernel_rfl)
theorem ad_0_2_nz (c : Int) (hc : -34 ≤ c ∧ c ≤ 34) (h1 : c ≠ 0) : R 156 [.lst 8 [(nO (c) ++ [nils]), (nO 1 ++ [.lst 11 [(vC 97)]]), (nO (-1) ++ [.lst 11 [(vC 99)]])], .lst 8 [(nO (-1) ++ [.lst 11 [(vC 97)]]), (nO 1 ++ [.lst 11 [(vC 98)]])]] (.tup [.lst 8 [(nO (c) ++ [nils]), (nO 1 ++ [.lst 11 [(vC 98)]]), (nO (-1) ++ [.lst 11 [(vC 99)]])], I 0]) := ru tk3 ok156 (y8 x1 x2 (vd (c) (by omega)) x3 x4 naught_t (nau (c) (by omega)) cmp_98_99 (y8 cmp_97_98 x8 cmp_97_97 cmp_98_97 cmp_98_99 cmp_97_97 cmp_97_99 cmp_99_97 z)) (by kernel_rfl)
theorem ad_0_2_zn (k : Int) (hk : -5 ≤ k ∧ k ≤ 5) (h2 : k ≠ 0) : R 156 [.lst 8 [(nO 1 ++ [.lst 11 [(vC 97)]]), (nO (-1) ++ [.lst 11 [(vC 99)]])], .lst 8 [(nO (k) ++ [nils]), (nO (-1) ++ [.lst 11 [(vC 97)]]), (nO 1 ++ [.lst 11 [(vC 98)]])]] (.tup [.lst 8 [(nO (k) ++ [nils]), (nO 1 ++ [.lst 11 [(vC 98)]]), (nO (-1) ++ [.lst 11 [(vC 99)]])], I 0]) := ru tk3 ok156 (y8 x1 x2 (vd (k) (by omega)) x3 x4 naught_t (nau (k) (by omega)) cmp_98_99 (y8 cmp_97_98 x8 cmp_97_97 cmp_98_97 cmp_98_99 cmp_97_97 cmp_97_99 cmp_99_97 z)) (by kernel_rfl)
theorem ad_0_2_nn (c : Int) (hc : -34 ≤ c ∧ c ≤ 34) (h1 : c ≠ 0) (k : Int) (hk : -5 ≤ k ∧ k ≤ 5) (h2 : k ≠ 0) (h3 : c + k ≠ 0) : R 156 [.lst 8 [(nO (c) ++ [nils]), (nO 1 ++ [.lst 11 [(vC 97)]]), (nO (-1) ++ [.lst 11 [(vC 99)]])], .lst 8 [(nO (k) ++ [nils]), (nO (-1) ++ [.lst 11 [(vC 97)]]), (nO 1 ++ [.lst 11 [(vC 98)]])]] (.tup [.lst 8 [(nO (c + k) ++ [nils]), (nO 1 ++ [.lst 11 [(vC 98)]]), (nO (-1) ++ [.lst 11 [(vC 99)]])], I 0]) := ru tk3 ok156 (y8 x1 x2 (vd (c + k) (by omega)) x3 x4 naught_t (nau (c + k) (by omega)) cmp_98_99 (y8 cmp_97_98 x8 cmp_97_97 (w215 (c) (k) (c + k) (by omega)) cmp_98_97 cmp_98_99 cmp_97_97 cmp_97_99 (y cmp_99_97 z))) (by kernel_rfl)
theorem ad_0_2_nm (c : Int) (hc : -5 ≤ c ∧ c ≤ 5) (h1 : c ≠ 0) : R 156 [.lst 8 [(nO (c) ++ [nils]), (nO 1 ++ [.lst 11 [(vC 97)]]), (nO (-1) ++ [.lst 11 [(vC 99)]])], .lst 8 [(nO (-c) ++ [nils]), (nO (-1) ++ [.lst 11 [(vC 97)]]), (nO 1 ++ [.lst 11 [(vC 98)]])]] (.tup [.lst 8 [(nO 1 ++ [.lst 11 [(vC 98)]]), (nO (-1) ++ [.lst 11 [(vC 99)]])], I 0]) := ru tk3 ok156 (y8 x1 x2 x3 x4 naught_t naught_t cmp_98_99 cmp_97_98 (y8 x8 cmp_97_97 (w215 (c) (-c) 0 (by omega)) cmp_98_97 cmp_98_99 cmp_97_97 cmp_97_99 cmp_99_97 z)) (by kernel_rfl)
theorem ad_0_2 (c k : Int) (hc : -34 ≤ c ∧ c ≤ 34) (hk : -5 ≤ k ∧ k ≤ 5) : R 156 [.lst 8 (pE c [(97, 1), (99, (-1))]), .lst 8 (pE k [(97, (-1)), (98, 1)])] (.tup [.lst 8 (pE (c + k) [(98, 1), (99, (-1))]), I 0]) := by
  by_cases h1 : c = 0
  · subst h1
    by_cases h2 : k = 0
    · subst h2; exact ad_0_2_zz
    · rw [Int.zero_add, pE_nz h2, pE_nz h2]; exact ad_0_2_zn k hk h2
  · by_cases h2 : k = 0
    · subst h2; rw [Int.add_zero, pE_nz h1, pE_nz h1]; exact ad_0_2_nz c hc h1
    · by_cases h3 : c + k = 0
      · have e : k = -c := by omega
        subst e
        rw [h3, pE_nz h1, pE_nz h2]; exact ad_0_2_nm c (by omega) h1
      · rw [pE_nz h1, pE_nz h2, pE_nz h3]; exact ad_0_2_nn c hc h1 k hk h2 h3
theorem sc_1_2_z : R 155 [.lst 8 [(nO 1 ++ [.lst 11 [(vC 98)]]), (nO (-1) ++ [.lst 11 [(vC 99)]])], N 1] (.tup [.lst 8 [(nO 1 ++ [.lst 11 [(vC 98)]]), (nO (-1) ++ [.lst 11 [(vC 99)]])], I 0]) := ru tk2 ok155 (y8 x1 x2 x3 x4 cmp_98_99 cmp_99_98 x5 x6 z) (by kernel_rfl)
theorem sc_1_2_n (c : Int) (hc : -40 ≤ c ∧ c ≤ 40) (h : c ≠ 0) : R 155 [.lst 8 [(nO (c) ++ [nils]), (nO 1 ++ [.lst 11 [(vC 98)]]), (nO (-1) ++ [.lst 11 [(vC 99)]])], N 1] (.tup [.lst 8 [(nO (c) ++ [nils]), (nO 1 ++ [.lst 11 [(vC 98)]]), (nO (-1) ++ [.lst 11 [(vC 99)]])], I 0]) := ru tk2 ok155 (y8 x1 x2 (vd (c) (by omega)) x3 x4 (nau (c) (by omega)) cmp_98_99 cmp_99_98 (y2 x5 x6 (y (w160 (c) 1 (c) (by omega) (by omega)) z))) (by kernel_rfl)
theorem sc_1_2 (c : Int) (hc : -40 ≤ c ∧ c ≤ 40) : R 155 [.lst 8 (pE c [(98, 1), (99, (-1))]), N 1] (.tup [.lst 8 (pE c [(98, 1), (99, (-1))]), I 0]) := by
  by_cases h : c = 0
  · subst h; exact sc_1_2_z
  · rw [pE_nz h]; exact sc_1_2_n c hc h
theorem ad_1_2_zz : R 156 [.lst 8 [(nO 1 ++ [.lst 11 [(vC 98)]]), (nO (-1) ++ [.lst 11 [(vC 99)]])], .lst 8 [(nO (-1) ++ [.lst 11 [(vC 98)]]), (nO 1 ++ [.lst 11 [(vC 99)]])]] (.tup [.lst 8 [], I 0]) := ru tk3 ok156 (y8 naught_t naught_t x7 cmp_99_99 cmp_98_99 x8 cmp_98_98 cmp_99_99 (y2 cmp_98_98 cmp_98_99 (y cmp_99_98 z))) (by kernel_rfl)
theorem ad_1_2_nz (c : Int) (hc : -34 ≤ c ∧ c ≤ 34) (h1 : c ≠ 0) : R 156 [.lst 8 [(nO (c) ++ [nils]), (nO 1 ++ [.lst 11 [(vC 98)]]), (nO (-1) ++ [.lst 11 [(vC 99)]])], .lst 8 [(nO (-1) ++ [.lst 11 [(vC 98)]]), (nO 1 ++ [.lst 11 [(vC 99)]])]] (.tup [.lst 8 [(nO (c) ++ [nils])], I 0]) := ru tk3 ok156 (y8 (vd (c) (by omega)) naught_t naught_t (nau (c) (by omega)) x7 cmp_99_99 cmp_98_99 x8 (y4 cmp_98_98 cmp_99_99 cmp_98_98 cmp_98_99 (y cmp_99_98 z))) (by kernel_rfl)
theorem ad_1_2_zn (k : Int) (hk : -5 ≤ k ∧ k ≤ 5) (h2 : k ≠ 0) : R 156 [.lst 8 [(nO 1 ++ [.lst 11 [(vC 98)]]), (nO (-1) ++ [.lst 11 [(vC 99)]])], .lst 8 [(nO (k) ++ [nils]), (nO (-1) ++ [.lst 11 [(vC 98)]]), (nO 1 ++ [.lst 11 [(vC 99)]])]] (.tup [.lst 8 [(nO (k) ++ [nils])], I 0]) := ru tk3 ok156 (y8 (vd (k) (by omega)) naught_t naught_t (nau (k) (by omega)) x7 cmp_99_99 cmp_98_99 x8 (y4 cmp_98_98 cmp_99_99 cmp_98_98 cmp_98_99 (y cmp_99_98 z))) (by kernel_rfl)
theorem ad_1_2_nn (c : Int) (hc : -34 ≤ c ∧ c ≤ 34) (h1 : c ≠ 0) (k : Int) (hk : -5 ≤ k ∧ k ≤ 5) (h2 : k ≠ 0) (h3 : c + k ≠ 0) : R 156 [.lst 8 [(nO (c) ++ [nils]), (nO 1 ++ [.lst 11 [(vC 98)]]), (nO (-1) ++ [.lst 11 [(vC 99)]])], .lst 8 [(nO (k) ++ [nils]), (nO (-1) ++ [.lst 11 [(vC 98)]]), (nO 1 ++ [.lst 11 [(vC 99)]])]] (.tup [.lst 8 [(nO (c + k) ++ [nils])], I 0]) := ru tk3 ok156 (y8 (vd (c + k) (by omega)) naught_t naught_t (nau (c + k) (by omega)) x7 cmp_99_99 cmp_98_99 x8 (y4 cmp_98_98 (w215 (c) (k) (c + k) (by omega)) cmp_99_99 cmp_98_98 (y2 cmp_98_99 cmp_99_98 z))) (by kernel_rfl)
theorem ad_1_2_nm (c : Int) (hc : -5 ≤ c ∧ c ≤ 5) (h1 : c ≠ 0) : R 156 [.lst 8 [(nO (c) ++ [nils]), (nO 1 ++ [.lst 11 [(vC 98)]]), (nO (-1) ++ [.lst 11 [(vC 99)]])], .lst 8 [(nO (-c) ++ [nils]), (nO (-1) ++ [.lst 11 [(vC 98)]]), (nO 1 ++ [.lst 11 [(vC 99)]])]] (.tup [.lst 8 [], I 0]) := ru tk3 ok156 (y8 naught_t naught_t naught_t x7 cmp_99_99 cmp_98_99 x8 cmp_98_98 (y4 (w215 (c) (-c) 0 (by omega)) cmp_99_99 cmp_98_98 cmp_98_99 (y cmp_99_98 z))) (by kernel_rfl)
theorem ad_1_2 (c k : Int) (hc : -34 ≤ c ∧ c ≤ 34) (hk : -5 ≤ k ∧ k ≤ 5) : R 156 [.lst 8 (pE c [(98, 1), (99, (-1))]), .lst 8 (pE k [(98, (-1)), (99, 1)])] (.tup [.lst 8 (pE (c + k) []), I 0]) := by
  by_cases h1 : c = 0
  · subst h1
    by_cases h2 : k = 0
    · subst h2; exact ad_1_2_zz
    · rw [Int.zero_add, pE_nz h2, pE_nz h2]; exact ad_1_2_zn k hk h2
  · by_cases h2 : k = 0
    · subst h2; rw [Int.add_zero, pE_nz h1, pE_nz h1]; exact ad_1_2_nz c hc h1
    · by_cases h3 : c + k = 0
      · have e : k = -c := by omega
        subst e
        rw [h3, pE_nz h1, pE_nz h2]; exact ad_1_2_nm c (by omega) h1
      · rw [pE_nz h1, pE_nz h2, pE_nz h3]; exact ad_1_2_nn c hc h1 k hk h2 h3
theorem sc_0_3_z : R 155 [.lst 8 [(nO 1 ++ [.lst 11 [(vC 97)]]), (nO (-1) ++ [.lst 11 [(vC 100)]])], N 1] (.tup [.lst 8 [(nO 1 ++ [.lst 11 [(vC 97)]]), (nO (-1) ++ [.lst 11 [(vC 100)]])], I 0]) := ru tk2 ok155 (y8 x1 x2 x3 x4 cmp_97_100 cmp_100_97 x5 x6 z) (by kernel_rfl)
theorem sc_0_3_n (c : Int) (hc : -40 ≤ c ∧ c ≤ 40) (h : c ≠ 0) : R 155 [.lst 8 [(nO (c) ++ [nils]), (nO 1 ++ [.lst 11 [(vC 97)]]), (nO (-1) ++ [.lst 11 [(vC 100)]])], N 1] (.tup [.lst 8 [(nO (c) ++ [nils]), (nO 1 ++ [.lst 11 [(vC 97)]]), (nO (-1) ++ [.lst 11 [(vC 100)]])], I 0]) := ru tk2 ok155 (y8 x1 x2 (vd (c) (by omega)) x3 x4 (nau (c) (by omega)) cmp_97_100 cmp_100_97 (y2 x5 x6 (y (w160 (c) 1 (c) (by omega) (by omega)) z))) (by kernel_rfl)
theorem sc_0_3 (c : Int) (hc : -40 ≤ c ∧ c ≤ 40) : R 155 [.lst 8 (pE c [(97, 1), (100, (-1))]), N 1] (.tup [.lst 8 (pE c [(97, 1), (100, (-1))]), I 0]) := by
  by_cases h : c = 0
  · subst h; exact sc_0_3_z
  · rw [pE_nz h]; exact sc_0_3_n c hc h
theorem ad_0_3_zz : R 156 [.lst 8 [(nO 1 ++ [.lst 11 [(vC 97)]]), (nO (-1) ++ [.lst 11 [(vC 100)]])], .lst 8 [(nO (-1) ++ [.lst 11 [(vC 97)]]), (nO 1 ++ [.lst 11 [(vC 98)]])]] (.tup [.lst 8 [(nO 1 ++ [.lst 11 [(vC 98)]]), (nO (-1) ++ [.lst 11 [(vC 100)]])], I 0]) := ru tk3 ok156 (y8 x1 x2 x3 x4 naught_t cmp_98_100 cmp_97_98 x8 (y4 cmp_97_97 cmp_98_97 cmp_98_100 cmp_97_97 (y2 cmp_97_100 cmp_100_97 z))) (by kernel_rfl)
theorem ad_0_3_nz (c : Int) (hc : -34 ≤ c ∧ c ≤ 34) (h1 : c ≠ 0) : R 156 [.lst 8 [(nO (c) ++ [nils]), (nO 1 ++ [.lst 11 [(vC 97)]]), (nO (-1) ++ [.lst 11 [(vC 100)]])], .lst 8 [(nO (-1) ++ [.lst 11 [(vC 97)]]), (nO 1 ++ [.lst 11 [(vC 98)]])]] (.tup [.lst 8 [(nO (c) ++ [nils]), (nO 1 ++ [.lst 11 [(vC 98)]]), (nO (-1) ++ [.lst 11 [(vC 100)]])], I 0]) := ru tk3 ok156 (y8 x1 x2 (vd (c) (by omega)) x3 x4 naught_t (nau (c) (by omega)) cmp_98_100 (y8 cmp_97_98 x8 cmp_97_97 cmp_98_97 cmp_98_100 cmp_97_97 cmp_97_100 cmp_100_97 z)) (by kernel_rfl)
theorem ad_0_3_zn (k : Int) (hk : -5 ≤ k ∧ k ≤ 5) (h2 : k ≠ 0) : R 156 [.lst 8 [(nO 1 ++ [.lst 11 [(vC 97)]]), (nO (-1) ++ [.lst 11 [(vC 100)]])], .lst 8 [(nO (k) ++ [nils]), (nO (-1) ++ [.lst 11 [(vC 97)]]), (nO 1 ++ [.lst 11 [(vC 98)]])]] (.tup [.lst 8 [(nO (k) ++ [nils]), (nO 1 ++ [.lst 11 [(vC 98)]]), (nO (-1) ++ [.lst 11 [(vC 100)]])], I 0]) := ru tk3 ok156 (y8 x1 x2 (vd (k) (by omega)) x3 x4 naught_t (nau (k) (by omega)) cmp_98_100 (y8 cmp_97_98 x8 cmp_97_97 cmp_98_97 cmp_98_100 cmp_97_97 cmp_97_100 cmp_100_97 z)) (by kernel_rfl)
theorem ad_0_3_nn (c : Int) (hc : -34 ≤ c ∧ c ≤ 34) (h1 : c ≠ 0) (k : Int) (hk : -5 ≤ k ∧ k ≤ 5) (h2 : k ≠ 0) (h3 : c + k ≠ 0) : R 156 [.lst 8 [(nO (c) ++ [nils]), (nO 1 ++ [.lst 11 [(vC 97)]]), (nO (-1) ++ [.lst 11 [(vC 100)]])], .lst 8 [(nO (k) ++ [nils]), (nO (-1) ++ [.lst 11 [(vC 97)]]), (nO 1 ++ [.lst 11 [(vC 98)]])]] (.tup [.lst 8 [(nO (c + k) ++ [nils]), (nO 1 ++ [.lst 11 [(vC 98)]]), (nO (-1) ++ [.lst 11 [(vC 100)]])], I 0]) := ru tk3 ok156 (y8 x1 x2 (vd (c + k) (by omega)) x3 x4 naught_t (nau (c + k) (by omega)) cmp_98_100 (y8 cmp_97_98 x8 cmp_97_97 (w215 (c) (k) (c + k) (by omega)) cmp_98_97 cmp_98_100 cmp_97_97 cmp_97_100 (y cmp_100_97 z))) (by kernel_rfl)
theorem ad_0_3_nm (c : Int) (hc : -5 ≤ c ∧ c ≤ 5) (h1 : c ≠ 0) : R 156 [.lst 8 [(nO (c) ++ [nils]), (nO 1 ++ [.lst 11 [(vC 97)]]), (nO (-1) ++ [.lst 11 [(vC 100)]])], .lst 8 [(nO (-c) ++ [nils]), (nO (-1) ++ [.lst 11 [(vC 97)]]), (nO 1 ++ [.lst 11 [(vC 98)]])]] (.tup [.lst 8 [(nO 1 ++ [.lst 11 [(vC 98)]]), (nO (-1) ++ [.lst 11 [(vC 100)]])], I 0]) := ru tk3 ok156 (y8 x1 x2 x3 x4 naught_t naught_t cmp_98_100 cmp_97_98 (y8 x8 cmp_97_97 (w215 (c) (-c) 0 (by omega)) cmp_98_97 cmp_98_100 cmp_97_97 cmp_97_100 cmp_100_97 z)) (by kernel_rfl)
theorem ad_0_3 (c k : Int) (hc : -34 ≤ c ∧ c ≤ 34) (hk : -5 ≤ k ∧ k ≤ 5) : R 156 [.lst 8 (pE c [(97, 1), (100, (-1))]), .lst 8 (pE k [(97, (-1)), (98, 1)])] (.tup [.lst 8 (pE (c + k) [(98, 1), (100, (-1))]), I 0]) := by
  by_cases h1 : c = 0
  · subst h1
    by_cases h2 : k = 0
    · subst h2; exact ad_0_3_zz
    · rw [Int.zero_add, pE_nz h2, pE_nz h2]; exact ad_0_3_zn k hk h2
  · by_cases h2 : k = 0
    · subst h2; rw [Int.add_zero, pE_nz h1, pE_nz h1]; exact ad_0_3_nz c hc h1
    · by_cases h3 : c + k = 0
      · have e : k = -c := by omega
        subst e
        rw [h3, pE_nz h1, pE_nz h2]; exact ad_0_3_nm c (by omega) h1
      · rw [pE_nz h1, pE_nz h2, pE_nz h3]; exact ad_0_3_nn c hc h1 k hk h2 h3
theorem sc_1_3_z : R 155 [.lst 8 [(nO 1 ++ [.lst 11 [(vC 98)]]), (nO (-1) ++ [.lst 11 [(vC 100)]])], N 1] (.tup [.lst 8 [(nO 1 ++ [.lst 11 [(vC 98)]]), (nO (-1) ++ [.lst 11 [(vC 100)]])], I 0]) := ru tk2 ok155 (y8 x1 x2 x3 x4 cmp_98_100 cmp_100_98 x5 x6 z) (by kernel_rfl)
theorem sc_1_3_n (c : Int) (hc : -40 ≤ c ∧ c ≤ 40) (h : c ≠ 0) : R 155 [.lst 8 [(nO (c) ++ [nils]), (nO 1 ++ [.lst 11 [(vC 98)]]), (nO (-1) ++ [.lst 11 [(vC 100)]])], N 1] (.tup [.lst 8 [(nO (c) ++ [nils]), (nO 1 ++ [.lst 11 [(vC 98)]]), (nO (-1) ++ [.lst 11 [(vC 100)]])], I 0]) := ru tk2 ok155 (y8 x1 x2 (vd (c) (by omega)) x3 x4 (nau (c) (by omega)) cmp_98_100 cmp_100_98 (y2 x5 x6 (y (w160 (c) 1 (c) (by omega) (by omega)) z))) (by kernel_rfl)
theorem sc_1_3 (c : Int) (hc : -40 ≤ c ∧ c ≤ 40) : R 155 [.lst 8 (pE c [(98, 1), (100, (-1))]), N 1] (.tup [.lst 8 (pE c [(98, 1), (100, (-1))]), I 0]) := by
  by_cases h : c = 0
  · subst h; exact sc_1_3_z
  · rw [pE_nz h]; exact sc_1_3_n c hc h
theorem ad_1_3_zz : R 156 [.lst 8 [(nO 1 ++ [.lst 11 [(vC 98)]]), (nO (-1) ++ [.lst 11 [(vC 100)]])], .lst 8 [(nO (-1) ++ [.lst 11 [(vC 98)]]), (nO 1 ++ [.lst 11 [(vC 99)]])]] (.tup [.lst 8 [(nO 1 ++ [.lst 11 [(vC 99)]]), (nO (-1) ++ [.lst 11 [(vC 100)]])], I 0]) := ru tk3 ok156 (y8 x1 x2 x3 x4 naught_t cmp_99_100 cmp_98_99 x8 (y4 cmp_98_98 cmp_99_98 cmp_99_100 cmp_98_98 (y2 cmp_98_100 cmp_100_98 z))) (by kernel_rfl)
theorem ad_1_3_nz (c : Int) (hc : -34 ≤ c ∧ c ≤ 34) (h1 : c ≠ 0) : R 156 [.lst 8 [(nO (c) ++ [nils]), (nO 1 ++ [.lst 11 [(vC 98)]]), (nO (-1) ++ [.lst 11 [(vC 100)]])], .lst 8 [(nO (-1) ++ [.lst 11 [(vC 98)]]), (nO 1 ++ [.lst 11 [(vC 99)]])]] (.tup [.lst 8 [(nO (c) ++ [nils]), (nO 1 ++ [.lst 11 [(vC 99)]]), (nO (-1) ++ [.lst 11 [(vC 100)]])], I 0]) := ru tk3 ok156 (y8 x1 x2 (vd (c) (by omega)) x3 x4 naught_t (nau (c) (by omega)) cmp_99_100 (y8 cmp_98_99 x8 cmp_98_98 cmp_99_98 cmp_99_100 cmp_98_98 cmp_98_100 cmp_100_98 z)) (by kernel_rfl)
theorem ad_1_3_zn (k : Int) (hk : -5 ≤ k ∧ k ≤ 5) (h2 : k ≠ 0) : R 156 [.lst 8 [(nO 1 ++ [.lst 11 [(vC 98)]]), (nO (-1) ++ [.lst 11 [(vC 100)]])], .lst 8 [(nO (k) ++ [nils]), (nO (-1) ++ [.lst 11 [(vC 98)]]), (nO 1 ++ [.lst 11 [(vC 99)]])]] (.tup [.lst 8 [(nO (k) ++ [nils]), (nO 1 ++ [.lst 11 [(vC 99)]]), (nO (-1) ++ [.lst 11 [(vC 100)]])], I 0]) := ru tk3 ok156 (y8 x1 x2 (vd (k) (by omega)) x3 x4 naught_t (nau (k) (by omega)) cmp_99_100 (y8 cmp_98_99 x8 cmp_98_98 cmp_99_98 cmp_99_100 cmp_98_98 cmp_98_100 cmp_100_98 z)) (by kernel_rfl)
theorem ad_1_3_nn (c : Int) (hc : -34 ≤ c ∧ c ≤ 34) (h1 : c ≠ 0) (k : Int) (hk : -5 ≤ k ∧ k ≤ 5) (h2 : k ≠ 0) (h3 : c + k ≠ 0) : R 156 [.lst 8 [(nO (c) ++ [nils]), (nO 1 ++ [.lst 11 [(vC 98)]]), (nO (-1) ++ [.lst 11 [(vC 100)]])], .lst 8 [(nO (k) ++ [nils]), (nO (-1) ++ [.lst 11 [(vC 98)]]), (nO 1 ++ [.lst 11 [(vC 99)]])]] (.tup [.lst 8 [(nO (c + k) ++ [nils]), (nO 1 ++ [.lst 11 [(vC 99)]]), (nO (-1) ++ [.lst 11 [(vC 100)]])], I 0]) := ru tk3 ok156 (y8 x1 x2 (vd (c + k) (by omega)) x3 x4 naught_t (nau (c + k) (by omega)) cmp_99_100 (y8 cmp_98_99 x8 cmp_98_98 (w215 (c) (k) (c + k) (by omega)) cmp_99_98 cmp_99_100 cmp_98_98 cmp_98_100 (y cmp_100_98 z))) (by kernel_rfl)
theorem ad_1_3_nm (c : Int) (hc : -5 ≤ c ∧ c ≤ 5) (h1 : c ≠ 0) : R 156 [.lst 8 [(nO (c) ++ [nils]), (nO 1 ++ [.lst 11 [(vC 98)]]), (nO (-1) ++ [.lst 11 [(vC 100)]])], .lst 8 [(nO (-c) ++ [nils]), (nO (-1) ++ [.lst 11 [(vC 98)]]), (nO 1 ++ [.lst 11 [(vC 99)]])]] (.tup [.lst 8 [(nO 1 ++ [.lst 11 [(vC 99)]]), (nO (-1) ++ [.lst 11 [(vC 100)]])], I 0]) := ru tk3 ok156 (y8 x1 x2 x3 x4 naught_t naught_t cmp_99_100 cmp_98_99 (y8 x8 cmp_98_98 (w215 (c) (-c) 0 (by omega)) cmp_99_98 cmp_99_100 cmp_98_98 cmp_98_100 cmp_100_98 z)) (by kernel_rfl)
theorem ad_1_3 (c k : Int) (hc : -34 ≤ c ∧ c ≤ 34) (hk : -5 ≤ k ∧ k ≤ 5) : R 156 [.lst 8 (pE c [(98, 1), (100, (-1))]), .lst 8 (pE k [(98, (-1)), (99, 1)])] (.tup [.lst 8 (pE (c + k) [(99, 1), (100, (-1))]), I 0]) := by
  by_cases h1 : c = 0
  · subst h1
    by_cases h2 : k = 0
    · subst h2; exact ad_1_3_zz
    · rw [Int.zero_add, pE_nz h2, pE_nz h2]; exact ad_1_3_zn k hk h2
  · by_cases h2 : k = 0
    · subst h2; rw [Int.add_zero, pE_nz h1, pE_nz h1]; exact ad_1_3_nz c hc h1
    · by_cases h3 : c + k = 0
      · have e : k = -c := by omega
        subst e
        rw [h3, pE_nz h1, pE_nz h2]; exact ad_1_3_nm c (by omega) h1
      · rw [pE_nz h1, pE_nz h2, pE_nz h3]; exact ad_1_3_nn c hc h1 k hk h2 h3
theorem sc_2_3_z : R 155 [.lst 8 [(nO 1 ++ [.lst 11 [(vC 99)]]), (nO (-1) ++ [.lst 11 [(vC 100)]])], N 1] (.tup [.lst 8 [(nO 1 ++ [.lst 11 [(vC 99)]]), (nO (-1) ++ [.lst 11 [(vC 100)]])], I 0]) := ru tk2 ok155 (y8 x1 x2 x3 x4 cmp_99_100 cmp_100_99 x5 x6 z) (by kernel_rfl)
theorem sc_2_3_n (c : Int) (hc : -40 ≤ c ∧ c ≤ 40) (h : c ≠ 0) : R 155 [.lst 8 [(nO (c) ++ [nils]), (nO 1 ++ [.lst 11 [(vC 99)]]), (nO (-1) ++ [.lst 11 [(vC 100)]])], N 1] (.tup [.lst 8 [(nO (c) ++ [nils]), (nO 1 ++ [.lst 11 [(vC 99)]]), (nO (-1) ++ [.lst 11 [(vC 100)]])], I 0]) := ru tk2 ok155 (y8 x1 x2 (vd (c) (by omega)) x3 x4 (nau (c) (by omega)) cmp_99_100 cmp_100_99 (y2 x5 x6 (y (w160 (c) 1 (c) (by omega) (by omega)) z))) (by kernel_rfl)
theorem sc_2_3 (c : Int) (hc : -40 ≤ c ∧ c ≤ 40) : R 155 [.lst 8 (pE c [(99, 1), (100, (-1))]), N 1] (.tup [.lst 8 (pE c [(99, 1), (100, (-1))]), I 0]) := by
  by_cases h : c = 0
  · subst h; exact sc_2_3_z
  · rw [pE_nz h]; exact sc_2_3_n c hc h
theorem ad_2_3_zz : R 156 [.lst 8 [(nO 1 ++ [.lst 11 [(vC 99)]]), (nO (-1) ++ [.lst 11 [(vC 100)]])], .lst 8 [(nO (-1) ++ [.lst 11 [(vC 99)]]), (nO 1 ++ [.lst 11 [(vC 100)]])]] (.tup [.lst 8 [], I 0]) := ru tk3 ok156 (y8 naught_t naught_t x7 cmp_100_100 cmp_99_100 x8 cmp_99_99 cmp_100_100 (y2 cmp_99_99 cmp_99_100 (y cmp_100_99 z))) (by kernel_rfl)
theorem ad_2_3_nz (c : Int) (hc : -34 ≤ c ∧ c ≤ 34) (h1 : c ≠ 0) : R 156 [.lst 8 [(nO (c) ++ [nils]), (nO 1 ++ [.lst 11 [(vC 99)]]), (nO (-1) ++ [.lst 11 [(vC 100)]])], .lst 8 [(nO (-1) ++ [.lst 11 [(vC 99)]]), (nO 1 ++ [.lst 11 [(vC 100)]])]] (.tup [.lst 8 [(nO (c) ++ [nils])], I 0]) := ru tk3 ok156 (y8 (vd (c) (by omega)) naught_t naught_t (nau (c) (by omega)) x7 cmp_100_100 cmp_99_100 x8 (y4 cmp_99_99 cmp_100_100 cmp_99_99 cmp_99_100 (y cmp_100_99 z))) (by kernel_rfl)
theorem ad_2_3_zn (k : Int) (hk : -5 ≤ k ∧ k ≤ 5) (h2 : k ≠ 0) : R 156 [.lst 8 [(nO 1 ++ [.lst 11 [(vC 99)]]), (nO (-1) ++ [.lst 11 [(vC 100)]])], .lst 8 [(nO (k) ++ [nils]), (nO (-1) ++ [.lst 11 [(vC 99)]]), (nO 1 ++ [.lst 11 [(vC 100)]])]] (.tup [.lst 8 [(nO (k) ++ [nils])], I 0]) := ru tk3 ok156 (y8 (vd (k) (by omega)) naught_t naught_t (nau (k) (by omega)) x7 cmp_100_100 cmp_99_100 x8 (y4 cmp_99_99 cmp_100_100 cmp_99_99 cmp_99_100 (y cmp_100_99 z))) (by kernel_rfl)
theorem ad_2_3_nn (c : Int) (hc : -34 ≤ c ∧ c ≤ 34) (h1 : c ≠ 0) (k : Int) (hk : -5 ≤ k ∧ k ≤ 5) (h2 : k ≠ 0) (h3 : c + k ≠ 0) : R 156 [.lst 8 [(nO (c) ++ [nils]), (nO 1 ++ [.lst 11 [(vC 99)]]), (nO (-1) ++ [.lst 11 [(vC 100)]])], .lst 8 [(nO (k) ++ [nils]), (nO (-1) ++ [.lst 11 [(vC 99)]]), (nO 1 ++ [.lst 11 [(vC 100)]])]] (.tup [.lst 8 [(nO (c + k) ++ [nils])], I 0]) := ru tk3 ok156 (y8 (vd (c + k) (by omega)) naught_t naught_t (nau (c + k) (by omega)) x7 cmp_100_100 cmp_99_100 x8 (y4 cmp_99_99 (w215 (c) (k) (c + k) (by omega)) cmp_100_100 cmp_99_99 (y2 cmp_99_100 cmp_100_99 z))) (by kernel_rfl)
theorem ad_2_3_nm (c : Int) (hc : -5 ≤ c ∧ c ≤ 5) (h1 : c ≠ 0) : R 156 [.lst 8 [(nO (c) ++ [nils]), (nO 1 ++ [.lst 11 [(vC 99)]]), (nO (-1) ++ [.lst 11 [(vC 100)]])], .lst 8 [(nO (-c) ++ [nils]), (nO (-1) ++ [.lst 11 [(vC 99)]]), (nO 1 ++ [.lst 11 [(vC 100)]])]] (.tup [.lst 8 [], I 0]) := ru tk3 ok156 (y8 naught_t naught_t naught_t x7 cmp_100_100 cmp_99_100 x8 cmp_99_99 (y4 (w215 (c) (-c) 0 (by omega)) cmp_100_100 cmp_99_99 cmp_99_100 (y cmp_100_99 z))) (by kernel_rfl)
theorem ad_2_3 (c k : Int) (hc : -34 ≤ c ∧ c ≤ 34) (hk : -5 ≤ k ∧ k ≤ 5) : R 156 [.lst 8 (pE c [(99, 1), (100, (-1))]), .lst 8 (pE k [(99, (-1)), (100, 1)])] (.tup [.lst 8 (pE (c + k) []), I 0]) := by
  by_cases h1 : c = 0
  · subst h1
    by_cases h2 : k = 0
    · subst h2; exact ad_2_3_zz
    · rw [Int.zero_add, pE_nz h2, pE_nz h2]; exact ad_2_3_zn k hk h2
  · by_cases h2 : k = 0
    · subst h2; rw [Int.add_zero, pE_nz h1, pE_nz h1]; exact ad_2_3_nz c hc h1
    · by_cases h3 : c + k = 0
      · have e : k = -c := by omega
        subst e
        rw [h3, pE_nz h1, pE_nz h2]; exact ad_2_3_nm c (by omega) h1
      · rw [pE_nz h1, pE_nz h2, pE_nz h3]; exact ad_2_3_nn c hc h1 k hk h2 h3
theorem sc_0_4_z : R 155 [.lst 8 [(nO 1 ++ [.lst 11 [(vC 97)]]), (nO (-1) ++ [.lst 11 [(vC 101)]])], N 1] (.tup [.lst 8 [(nO 1 ++ [.lst 11 [(vC 97)]]), (nO (-1) ++ [.lst 11 [(vC 101)]])], I 0]) := ru tk2 ok155 (y8 x1 x2 x3 x4 cmp_97_101 cmp_101_97 x5 x6 z) (by kernel_rfl)
theorem sc_0_4_n (c : Int) (hc : -40 ≤ c ∧ c ≤ 40) (h : c ≠ 0) : R 155 [.lst 8 [(nO (c) ++ [nils]), (nO 1 ++ [.lst 11 [(vC 97)]]), (nO (-1) ++ [.lst 11 [(vC 101)]])], N 1] (.tup [.lst 8 [(nO (c) ++ [nils]), (nO 1 ++ [.lst 11 [(vC 97)]]), (nO (-1) ++ [.lst 11 [(vC 101)]])], I 0]) := ru tk2 ok155 (y8 x1 x2 (vd (c) (by omega)) x3 x4 (nau (c) (by omega)) cmp_97_101 cmp_101_97 (y2 x5 x6 (y (w160 (c) 1 (c) (by omega) (by omega)) z))) (by kernel_rfl)
theorem sc_0_4 (c : Int) (hc : -40 ≤ c ∧ c ≤ 40) : R 155 [.lst 8 (pE c [(97, 1), (101, (-1))]), N 1] (.tup [.lst 8 (pE c [(97, 1), (101, (-1))]), I 0]) := by
  by_cases h : c = 0
  · subst h; exact sc_0_4_z
  · rw [pE_nz h]; exact sc_0_4_n c hc h
theorem ad_0_4_zz : R 156 [.lst 8 [(nO 1 ++ [.lst 11 [(vC 97)]]), (nO (-1) ++ [.lst 11 [(vC 101)]])], .lst 8 [(nO (-1) ++ [.lst 11 [(vC 97)]]), (nO 1 ++ [.lst 11 [(vC 98)]])]] (.tup [.lst 8 [(nO 1 ++ [.lst 11 [(vC 98)]]), (nO (-1) ++ [.lst 11 [(vC 101)]])], I 0]) := ru tk3 ok156 (y8 x1 x2 x3 x4 naught_t cmp_98_101 cmp_97_98 x8 (y4 cmp_97_97 cmp_98_97 cmp_98_101 cmp_97_97 (y2 cmp_97_101 cmp_101_97 z))) (by kernel_rfl)
theorem ad_0_4_nz (c : Int) (hc : -34 ≤ c ∧ c ≤ 34) (h1 : c ≠ 0) : R 156 [.lst 8 [(nO (c) ++ [nils]), (nO 1 ++ [.lst 11 [(vC 97)]]), (nO (-1) ++ [.lst 11 [(vC 101)]])], .lst 8 [(nO (-1) ++ [.lst 11 [(vC 97)]]), (nO 1 ++ [.lst 11 [(vC 98)]])]] (.tup [.lst 8 [(nO (c) ++ [nils]), (nO 1 ++ [.lst 11 [(vC 98)]]), (nO (-1) ++ [.lst 11 [(vC 101)]])], I 0]) := ru tk3 ok156 (y8 x1 x2 (vd (c) (by omega)) x3 x4 naught_t (nau (c) (by omega)) cmp_98_101 (y8 cmp_97_98 x8 cmp_97_97 cmp_98_97 cmp_98_101 cmp_97_97 cmp_97_101 cmp_101_97 z)) (by kernel_rfl)
theorem ad_0_4_zn (k : Int) (hk : -5 ≤ k ∧ k ≤ 5) (h2 : k ≠ 0) : R 156 [.lst 8 [(nO 1 ++ [.lst 11 [(vC 97)]]), (nO (-1) ++ [.lst 11 [(vC 101)]])], .lst 8 [(nO (k) ++ [nils]), (nO (-1) ++ [.lst 11 [(vC 97)]]), (nO 1 ++ [.lst 11 [(vC 98)]])]] (.tup [.lst 8 [(nO (k) ++ [nils]), (nO 1 ++ [.lst 11 [(vC 98)]]), (nO (-1) ++ [.lst 11 [(vC 101)]])], I 0]) := ru tk3 ok156 (y8 x1 x2 (vd (k) (by omega)) x3 x4 naught_t (nau (k) (by omega)) cmp_98_101 (y8 cmp_97_98 x8 cmp_97_97 cmp_98_97 cmp_98_101 cmp_97_97 cmp_97_101 cmp_101_97 z)) (by kernel_rfl)
theorem ad_0_4_nn (c : Int) (hc : -34 ≤ c ∧ c ≤ 34) (h1 : c ≠ 0) (k : Int) (hk : -5 ≤ k ∧ k ≤ 5) (h2 : k ≠ 0) (h3 : c + k ≠ 0) : R 156 [.lst 8 [(nO (c) ++ [nils]), (nO 1 ++ [.lst 11 [(vC 97)]]), (nO (-1) ++ [.lst 11 [(vC 101)]])], .lst 8 [(nO (k) ++ [nils]), (nO (-1) ++ [.lst 11 [(vC 97)]]), (nO 1 ++ [.lst 11 [(vC 98)]])]] (.tup [.lst 8 [(nO (c + k) ++ [nils]), (nO 1 ++ [.lst 11 [(vC 98)]]), (nO (-1) ++ [.lst 11 [(vC 101)]])], I 0]) := ru tk3 ok156 (y8 x1 x2 (vd (c + k) (by omega)) x3 x4 naught_t (nau (c + k) (by omega)) cmp_98_101 (y8 cmp_97_98 x8 cmp_97_97 (w215 (c) (k) (c + k) (by omega)) cmp_98_97 cmp_98_101 cmp_97_97 cmp_97_101 (y cmp_101_97 z))) (by kernel_rfl)
theorem ad_0_4_nm (c : Int) (hc : -5 ≤ c ∧ c ≤ 5) (h1 : c ≠ 0) : R 156 [.lst 8 [(nO (c) ++ [nils]), (nO 1 ++ [.lst 11 [(vC 97)]]), (nO (-1) ++ [.lst 11 [(vC 101)]])], .lst 8 [(nO (-c) ++ [nils]), (nO (-1) ++ [.lst 11 [(vC 97)]]), (nO 1 ++ [.lst 11 [(vC 98)]])]] (.tup [.lst 8 [(nO 1 ++ [.lst 11 [(vC 98)]]), (nO (-1) ++ [.lst 11 [(vC 101)]])], I 0]) := ru tk3 ok156 (y8 x1 x2 x3 x4 naught_t naught_t cmp_98_101 cmp_97_98 (y8 x8 cmp_97_97 (w215 (c) (-c) 0 (by omega)) cmp_98_97 cmp_98_101 cmp_97_97 cmp_97_101 cmp_101_97 z)) (by kernel_rfl)
theorem ad_0_4 (c k : Int) (hc : -34 ≤ c ∧ c ≤ 34) (hk : -5 ≤ k ∧ k ≤ 5) : R 156 [.lst 8 (pE c [(97, 1), (101, (-1))]), .lst 8 (pE k [(97, (-1)), (98, 1)])] (.tup [.lst 8 (pE (c + k) [(98, 1), (101, (-1))]), I 0]) := by
  by_cases h1 : c = 0
  · subst h1
    by_cases h2 : k = 0
    · subst h2; exact ad_0_4_zz
    · rw [Int.zero_add, pE_nz h2, pE_nz h2]; exact ad_0_4_zn k hk h2
  · by_cases h2 : k = 0
    · subst h2; rw [Int.add_zero, pE_nz h1, pE_nz h1]; exact ad_0_4_nz c hc h1
    · by_cases h3 : c + k = 0
      · have e : k = -c := by omega
        subst e
        rw [h3, pE_nz h1, pE_nz h2]; exact ad_0_4_nm c (by omega) h1
      · rw [pE_nz h1, pE_nz h2, pE_nz h3]; exact ad_0_4_nn c hc h1 k hk h2 h3
theorem sc_1_4_z : R 155 [.lst 8 [(nO 1 ++ [.lst 11 [(vC 98)]]), (nO (-1) ++ [.lst 11 [(vC 101)]])], N 1] (.tup [.lst 8 [(nO 1 ++ [.lst 11 [(vC 98)]]), (nO (-1) ++ [.lst 11 [(vC 101)]])], I 0]) := ru tk2 ok155 (y8 x1 x2 x3 x4 cmp_98_101 cmp_101_98 x5 x6 z) (by kernel_rfl)
theorem sc_1_4_n (c : Int) (hc : -40 ≤ c ∧ c ≤ 40) (h : c ≠ 0) : R 155 [.lst 8 [(nO (c) ++ [nils]), (nO 1 ++ [.lst 11 [(vC 98)]]), (nO (-1) ++ [.lst 11 [(vC 101)]])], N 1] (.tup [.lst 8 [(nO (c) ++ [nils]), (nO 1 ++ [.lst 11 [(vC 98)]]), (nO (-1) ++ [.lst 11 [(vC 101)]])], I 0]) := ru tk2 ok155 (y8 x1 x2 (vd (c) (by omega)) x3 x4 (nau (c) (by omega)) cmp_98_101 cmp_101_98 (y2 x5 x6 (y (w160 (c) 1 (c) (by omega) (by omega)) z))) (by kernel_rfl)
theorem sc_1_4 (c : Int) (hc : -40 ≤ c ∧ c ≤ 40) : R 155 [.lst 8 (pE c [(98, 1), (101, (-1))]), N 1] (.tup [.lst 8 (pE c [(98, 1), (101, (-1))]), I 0]) := by
  by_cases h : c = 0
  · subst h; exact sc_1_4_z
  · rw [pE_nz h]; exact sc_1_4_n c hc h
theorem ad_1_4_zz : R 156 [.lst 8 [(nO 1 ++ [.lst 11 [(vC 98)]]), (nO (-1) ++ [.lst 11 [(vC 101)]])], .lst 8 [(nO (-1) ++ [.lst 11 [(vC 98)]]), (nO 1 ++ [.lst 11 [(vC 99)]])]] (.tup [.lst 8 [(nO 1 ++ [.lst 11 [(vC 99)]]), (nO (-1) ++ [.lst 11 [(vC 101)]])], I 0]) := ru tk3 ok156 (y8 x1 x2 x3 x4 naught_t cmp_99_101 cmp_98_99 x8 (y4 cmp_98_98 cmp_99_98 cmp_99_101 cmp_98_98 (y2 cmp_98_101 cmp_101_98 z))) (by kernel_rfl)
theorem ad_1_4_nz (c : Int) (hc : -34 ≤ c ∧ c ≤ 34) (h1 : c ≠ 0) : R 156 [.lst 8 [(nO (c) ++ [nils]), (nO 1 ++ [.lst 11 [(vC 98)]]), (nO (-1) ++ [.lst 11 [(vC 101)]])], .lst 8 [(nO (-1) ++ [.lst 11 [(vC 98)]]), (nO 1 ++ [.lst 11 [(vC 99)]])]] (.tup [.lst 8 [(nO (c) ++ [nils]), (nO 1 ++ [.lst 11 [(vC 99)]]), (nO (-1) ++ [.lst 11 [(vC 101)]])], I 0]) := ru tk3 ok156 (y8 x1 x2 (vd (c) (by omega)) x3 x4 naught_t (nau (c) (by omega)) cmp_99_101 (y8 cmp_98_99 x8 cmp_98_98 cmp_99_98 cmp_99_101 cmp_98_98 cmp_98_101 cmp_101_98 z)) (by kernel_rfl)
theorem ad_1_4_zn (k : Int) (hk : -5 ≤ k ∧ k ≤ 5) (h2 : k ≠ 0) : R 156 [.lst 8 [(nO 1 ++ [.lst 11 [(vC 98)]]), (nO (-1) ++ [.lst 11 [(vC 101)]])], .lst 8 [(nO (k) ++ [nils]), (nO (-1) ++ [.lst 11 [(vC 98)]]), (nO 1 ++ [.lst 11 [(vC 99)]])]] (.tup [.lst 8 [(nO (k) ++ [nils]), (nO 1 ++ [.lst 11 [(vC 99)]]), (nO (-1) ++ [.lst 11 [(vC 101)]])], I 0]) := ru tk3 ok156 (y8 x1 x2 (vd (k) (by omega)) x3 x4 naught_t (nau (k) (by omega)) cmp_99_101 (y8 cmp_98_99 x8 cmp_98_98 cmp_99_98 cmp_99_101 cmp_98_98 cmp_98_101 cmp_101_98 z)) (by kernel_rfl)
theorem ad_1_4_nn (c : Int) (hc : -34 ≤ c ∧ c ≤ 34) (h1 : c ≠ 0) (k : Int) (hk : -5 ≤ k ∧ k ≤ 5) (h2 : k ≠ 0) (h3 : c + k ≠ 0) : R 156 [.lst 8 [(nO (c) ++ [nils]), (nO 1 ++ [.lst 11 [(vC 98)]]), (nO (-1) ++ [.lst 11 [(vC 101)]])], .lst 8 [(nO (k) ++ [nils]), (nO (-1) ++ [.lst 11 [(vC 98)]]), (nO 1 ++ [.lst 11 [(vC 99)]])]] (.tup [.lst 8 [(nO (c + k) ++ [nils]), (nO 1 ++ [.lst 11 [(vC 99)]]), (nO (-1) ++ [.lst 11 [(vC 101)]])], I 0]) := ru tk3 ok156 (y8 x1 x2 (vd (c + k) (by omega)) x3 x4 naught_t (nau (c + k) (by omega)) cmp_99_101 (y8 cmp_98_99 x8 cmp_98_98 (w215 (c) (k) (c + k) (by omega)) cmp_99_98 cmp_99_101 cmp_98_98 cmp_98_101 (y cmp_101_98 z))) (by kernel_rfl)
theorem ad_1_4_nm (c : Int) (hc : -5 ≤ c ∧ c ≤ 5) (h1 : c ≠ 0) : R 156 [.lst 8 [(nO (c) ++ [nils]), (nO 1 ++ [.lst 11 [(vC 98)]]), (nO (-1) ++ [.lst 11 [(vC 101)]])], .lst 8 [(nO (-c) ++ [nils]), (nO (-1) ++ [.lst 11 [(vC 98)]]), (nO 1 ++ [.lst 11 [(vC 99)]])]] (.tup [.lst 8 [(nO 1 ++ [.lst 11 [(vC 99)]]), (nO (-1) ++ [.lst 11 [(vC 101)]])], I 0]) := ru tk3 ok156 (y8 x1 x2 x3 x4 naught_t naught_t cmp_99_101 cmp_98_99 (y8 x8 cmp_98_98 (w215 (c) (-c) 0 (by omega)) cmp_99_98 cmp_99_101 cmp_98_98 cmp_98_101 cmp_101_98 z)) (by kernel_rfl)
theorem ad_1_4 (c k : Int) (hc : -34 ≤ c ∧ c ≤ 34) (hk : -5 ≤ k ∧ k ≤ 5) : R 156 [.lst 8 (pE c [(98, 1), (101, (-1))]), .lst 8 (pE k [(98, (-1)), (99, 1)])] (.tup [.lst 8 (pE (c + k) [(99, 1), (101, (-1))]), I 0]) := by
  by_cases h1 : c = 0
  · subst h1
    by_cases h2 : k = 0
    · subst h2; exact ad_1_4_zz
    · rw [Int.zero_add, pE_nz h2, pE_nz h2]; exact ad_1_4_zn k hk h2
  · by_cases h2 : k = 0
    · subst h2; rw [Int.add_zero, pE_nz h1, pE_nz h1]; exact ad_1_4_nz c hc h1
    · by_cases h3 : c + k = 0
      · have e : k = -c := by omega
        subst e
        rw [h3, pE_nz h1, pE_nz h2]; exact ad_1_4_nm c (by omega) h1
      · rw [pE_nz h1, pE_nz h2, pE_nz h3]; exact ad_1_4_nn c hc h1 k hk h2 h3
theorem sc_2_4_z : R 155 [.lst 8 [(nO 1 ++ [.lst 11 [(vC 99)]]), (nO (-1) ++ [.lst 11 [(vC 101)]])], N 1] (.tup [.lst 8 [(nO 1 ++ [.lst 11 [(vC 99)]]), (nO (-1) ++ [.lst 11 [(vC 101)]])], I 0]) := ru tk2 ok155 (y8 x1 x2 x3 x4 cmp_99_101 cmp_101_99 x5 x6 z) (by kernel_rfl)
theorem sc_2_4_n (c : Int) (hc : -40 ≤ c ∧ c ≤ 40) (h : c ≠ 0) : R 155 [.lst 8 [(nO (c) ++ [nils]), (nO 1 ++ [.lst 11 [(vC 99)]]), (nO (-1) ++ [.lst 11 [(vC 101)]])], N 1] (.tup [.lst 8 [(nO (c) ++ [nils]), (nO 1 ++ [.lst 11 [(vC 99)]]), (nO (-1) ++ [.lst 11 [(vC 101)]])], I 0]) := ru tk2 ok155 (y8 x1 x2 (vd (c) (by omega)) x3 x4 (nau (c) (by omega)) cmp_99_101 cmp_101_99 (y2 x5 x6 (y (w160 (c) 1 (c) (by omega) (by omega)) z))) (by kernel_rfl)
theorem sc_2_4 (c : Int) (hc : -40 ≤ c ∧ c ≤ 40) : R 155 [.lst 8 (pE c [(99, 1), (101, (-1))]), N 1] (.tup [.lst 8 (pE c [(99, 1), (101, (-1))]), I 0]) := by
  by_cases h : c = 0
  · subst h; exact sc_2_4_z
  · rw [pE_nz h]; exact sc_2_4_n c hc h
theorem ad_2_4_zz : R 156 [.lst 8 [(nO 1 ++ [.lst 11 [(vC 99)]]), (nO (-1) ++ [.lst 11 [(vC 101)]])], .lst 8 [(nO (-1) ++ [.lst 11 [(vC 99)]]), (nO 1 ++ [.lst 11 [(vC 100)]])]] (.tup [.lst 8 [(nO 1 ++ [.lst 11 [(vC 100)]]), (nO (-1) ++ [.lst 11 [(vC 101)]])], I 0]) := ru tk3 ok156 (y8 x1 x2 x3 x4 naught_t cmp_100_101 cmp_99_100 x8 (y4 cmp_99_99 cmp_100_99 cmp_100_101 cmp_99_99 (y2 cmp_99_101 cmp_101_99 z))) (by kernel_rfl)
theorem ad_2_4_nz (c : Int) (hc : -34 ≤ c ∧ c ≤ 34) (h1 : c ≠ 0) : R 156 [.lst 8 [(nO (c) ++ [nils]), (nO 1 ++ [.lst 11 [(vC 99)]]), (nO (-1) ++ [.lst 11 [(vC 101)]])], .lst 8 [(nO (-1) ++ [.lst 11 [(vC 99)]]), (nO 1 ++ [.lst 11 [(vC 100)]])]] (.tup [.lst 8 [(nO (c) ++ [nils]), (nO 1 ++ [.lst 11 [(vC 100)]]), (nO (-1) ++ [.lst 11 [(vC 101)]])], I 0]) := ru tk3 ok156 (y8 x1 x2 (vd (c) (by omega)) x3 x4 naught_t (nau (c) (by omega)) cmp_100_101 (y8 cmp_99_100 x8 cmp_99_99 cmp_100_99 cmp_100_101 cmp_99_99 cmp_99_101 cmp_101_99 z)) (by kernel_rfl)
theorem ad_2_4_zn (k : Int) (hk : -5 ≤ k ∧ k ≤ 5) (h2 : k ≠ 0) : R 156 [.lst 8 [(nO 1 ++ [.lst 11 [(vC 99)]]), (nO (-1) ++ [.lst 11 [(vC 101)]])], .lst 8 [(nO (k) ++ [nils]), (nO (-1) ++ [.lst 11 [(vC 99)]]), (nO 1 ++ [.lst 11 [(vC 100)]])]] (.tup [.lst 8 [(nO (k) ++ [nils]), (nO 1 ++ [.lst 11 [(vC 100)]]), (nO (-1) ++ [.lst 11 [(vC 101)]])], I 0]) := ru tk3 ok156 (y8 x1 x2 (vd (k) (by omega)) x3 x4 naught_t (nau (k) (by omega)) cmp_100_101 (y8 cmp_99_100 x8 cmp_99_99 cmp_100_99 cmp_100_101 cmp_99_99 cmp_99_101 cmp_101_99 z)) (by kernel_rfl)
theorem ad_2_4_nn (c : Int) (hc : -34 ≤ c ∧ c ≤ 34) (h1 : c ≠ 0) (k : Int) (hk : -5 ≤ k ∧ k ≤ 5) (h2 : k ≠ 0) (h3 : c + k ≠ 0) : R 156 [.lst 8 [(nO (c) ++ [nils]), (nO 1 ++ [.lst 11 [(vC 99)]]), (nO (-1) ++ [.lst 11 [(vC 101)]])], .lst 8 [(nO (k) ++ [nils]), (nO (-1) ++ [.lst 11 [(vC 99)]]), (nO 1 ++ [.lst 11 [(vC 100)]])]] (.tup [.lst 8 [(nO (c + k) ++ [nils]), (nO 1 ++ [.lst 11 [(vC 100)]]), (nO (-1) ++ [.lst 11 [(vC 101)]])], I 0]) := ru tk3 ok156 (y8 x1 x2 (vd (c + k) (by omega)) x3 x4 naught_t (nau (c + k) (by omega)) cmp_100_101 (y8 cmp_99_100 x8 cmp_99_99 (w215 (c) (k) (c + k) (by omega)) cmp_100_99 cmp_100_101 cmp_99_99 cmp_99_101 (y cmp_101_99 z))) (by kernel_rfl)
theorem ad_2_4_nm (c : Int) (hc : -5 ≤ c ∧ c ≤ 5) (h1 : c ≠ 0) : R 156 [.lst 8 [(nO (c) ++ [nils]), (nO 1 ++ [.lst 11 [(vC 99)]]), (nO (-1) ++ [.lst 11 [(vC 101)]])], .lst 8 [(nO (-c) ++ [nils]), (nO (-1) ++ [.lst 11 [(vC 99)]]), (nO 1 ++ [.lst 11 [(vC 100)]])]] (.tup [.lst 8 [(nO 1 ++ [.lst 11 [(vC 100)]]), (nO (-1) ++ [.lst 11 [(vC 101)]])], I 0]) := ru tk3 ok156 (y8 x1 x2 x3 x4 naught_t naught_t cmp_100_101 cmp_99_100 (y8 x8 cmp_99_99 (w215 (c) (-c) 0 (by omega)) cmp_100_99 cmp_100_101 cmp_99_99 cmp_99_101 cmp_101_99 z)) (by kernel_rfl)
theorem ad_2_4 (c k : Int) (hc : -34 ≤ c ∧ c ≤ 34) (hk : -5 ≤ k ∧ k ≤ 5) : R 156 [.lst 8 (pE c [(99, 1), (101, (-1))]), .lst 8 (pE k [(99, (-1)), (100, 1)])] (.tup [.lst 8 (pE (c + k) [(100, 1), (101, (-1))]), I 0]) := by
  by_cases h1 : c = 0
  · subst h1
    by_cases h2 : k = 0
    · subst h2; exact ad_2_4_zz
    · rw [Int.zero_add, pE_nz h2, pE_nz h2]; exact ad_2_4_zn k hk h2
  · by_cases h2 : k = 0
    · subst h2; rw [Int.add_zero, pE_nz h1, pE_nz h1]; exact ad_2_4_nz c hc h1
    · by_cases h3 : c + k = 0
      · have e : k = -c := by omega
        subst e
        rw [h3, pE_nz h1, pE_nz h2]; exact ad_2_4_nm c (by omega) h1
      · rw [pE_nz h1, pE_nz h2, pE_nz h3]; exact ad_2_4_nn c hc h1 k hk h2 h3
theorem sc_3_4_z : R 155 [.lst 8 [(nO 1 ++ [.lst 11 [(vC 100)]]), (nO (-1) ++ [.lst 11 [(vC 101)]])], N 1] (.tup [.lst 8 [(nO 1 ++ [.lst 11 [(vC 100)]]), (nO (-1) ++ [.lst 11 [(vC 101)]])], I 0]) := ru tk2 ok155 (y8 x1 x2 x3 x4 cmp_100_101 cmp_101_100 x5 x6 z) (by kernel_rfl)
theorem sc_3_4_n (c : Int) (hc : -40 ≤ c ∧ c ≤ 40) (h : c ≠ 0) : R 155 [.lst 8 [(nO (c) ++ [nils]), (nO 1 ++ [.lst 11 [(vC 100)]]), (nO (-1) ++ [.lst 11 [(vC 101)]])], N 1] (.tup [.lst 8 [(nO (c) ++ [nils]), (nO 1 ++ [.lst 11 [(vC 100)]]), (nO (-1) ++ [.lst 11 [(vC 101)]])], I 0]) := ru tk2 ok155 (y8 x1 x2 (vd (c) (by omega)) x3 x4 (nau (c) (by omega)) cmp_100_101 cmp_101_100 (y2 x5 x6 (y (w160 (c) 1 (c) (by omega) (by omega)) z))) (by kernel_rfl)
theorem sc_3_4 (c : Int) (hc : -40 ≤ c ∧ c ≤ 40) : R 155 [.lst 8 (pE c [(100, 1), (101, (-1))]), N 1] (.tup [.lst 8 (pE c [(100, 1), (101, (-1))]), I 0]) := by
  by_cases h : c = 0
  · subst h; exact sc_3_4_z
  · rw [pE_nz h]; exact sc_3_4_n c hc h
theorem ad_3_4_zz : R 156 [.lst 8 [(nO 1 ++ [.lst 11 [(vC 100)]]), (nO (-1) ++ [.lst 11 [(vC 101)]])], .lst 8 [(nO (-1) ++ [.lst 11 [(vC 100)]]), (nO 1 ++ [.lst 11 [(vC 101)]])]] (.tup [.lst 8 [], I 0]) := ru tk3 ok156 (y8 naught_t naught_t x7 cmp_101_101 cmp_100_101 x8 cmp_100_100 cmp_101_101 (y2 cmp_100_100 cmp_100_101 (y cmp_101_100 z))) (by kernel_rfl)
theorem ad_3_4_nz (c : Int) (hc : -34 ≤ c ∧ c ≤ 34) (h1 : c ≠ 0) : R 156 [.lst 8 [(nO (c) ++ [nils]), (nO 1 ++ [.lst 11 [(vC 100)]]), (nO (-1) ++ [.lst 11 [(vC 101)]])], .lst 8 [(nO (-1) ++ [.lst 11 [(vC 100)]]), (nO 1 ++ [.lst 11 [(vC 101)]])]] (.tup [.lst 8 [(nO (c) ++ [nils])], I 0]) := ru tk3 ok156 (y8 (vd (c) (by omega)) naught_t naught_t (nau (c) (by omega)) x7 cmp_101_101 cmp_100_101 x8 (y4 cmp_100_100 cmp_101_101 cmp_100_100 cmp_100_101 (y cmp_101_100 z))) (by kernel_rfl)
theorem ad_3_4_zn (k : Int) (hk : -5 ≤ k ∧ k ≤ 5) (h2 : k ≠ 0) : R 156 [.lst 8 [(nO 1 ++ [.lst 11 [(vC 100)]]), (nO (-1) ++ [.lst 11 [(vC 101)]])], .lst 8 [(nO (k) ++ [nils]), (nO (-1) ++ [.lst 11 [(vC 100)]]), (nO 1 ++ [.lst 11 [(vC 101)]])]] (.tup [.lst 8 [(nO (k) ++ [nils])], I 0]) := ru tk3 ok156 (y8 (vd (k) (by omega)) naught_t naught_t (nau (k) (by omega)) x7 cmp_101_101 cmp_100_101 x8 (y4 cmp_100_100 cmp_101_101 cmp_100_100 cmp_100_101 (y cmp_101_100 z))) (by kernel_rfl)
theorem ad_3_4_nn (c : Int) (hc : -34 ≤ c ∧ c ≤ 34) (h1 : c ≠ 0) (k : Int) (hk : -5 ≤ k ∧ k ≤ 5) (h2 : k ≠ 0) (h3 : c + k ≠ 0) : R 156 [.lst 8 [(nO (c) ++ [nils]), (nO 1 ++ [.lst 11 [(vC 100)]]), (nO (-1) ++ [.lst 11 [(vC 101)]])], .lst 8 [(nO (k) ++ [nils]), (nO (-1) ++ [.lst 11 [(vC 100)]]), (nO 1 ++ [.lst 11 [(vC 101)]])]] (.tup [.lst 8 [(nO (c + k) ++ [nils])], I 0]) := ru tk3 ok156 (y8 (vd (c + k) (by omega)) naught_t naught_t (nau (c + k) (by omega)) x7 cmp_101_101 cmp_100_101 x8 (y4 cmp_100_100 (w215 (c) (k) (c + k) (by omega)) cmp_101_101 cmp_100_100 (y2 cmp_100_101 cmp_101_100 z))) (by kernel_rfl)
theorem ad_3_4_nm (c : Int) (hc : -5 ≤ c ∧ c ≤ 5) (h1 : c ≠ 0) : R 156 [.lst 8 [(nO (c) ++ [nils]), (nO 1 ++ [.lst 11 [(vC 100)]]), (nO (-1) ++ [.lst 11 [(vC 101)]])], .lst 8 [(nO (-c) ++ [nils]), (nO (-1) ++ [.lst 11 [(vC 100)]]), (nO 1 ++ [.lst 11 [(vC 101)]])]] (.tup [.lst 8 [], I 0]) := ru tk3 ok156 (y8 naught_t naught_t naught_t x7 cmp_101_101 cmp_100_101 x8 cmp_100_100 (y4 (w215 (c) (-c) 0 (by omega)) cmp_101_101 cmp_100_100 cmp_100_101 (y cmp_101_100 z))) (by kernel_rfl)
theorem ad_3_4 (c k : Int) (hc : -34 ≤ c ∧ c ≤ 34) (hk : -5 ≤ k ∧ k ≤ 5) : R 156 [.lst 8 (pE c [(100, 1), (101, (-1))]), .lst 8 (pE k [(100, (-1)), (101, 1)])] (.tup [.lst 8 (pE (c + k) []), I 0]) := by
  by_cases h1 : c = 0
  · subst h1
    by_cases h2 : k = 0
    · subst h2; exact ad_3_4_zz
    · rw [Int.zero_add, pE_nz h2, pE_nz h2]; exact ad_3_4_zn k hk h2
  · by_cases h2 : k = 0
    · subst h2; rw [Int.add_zero, pE_nz h1, pE_nz h1]; exact ad_3_4_nz c hc h1
    · by_cases h3 : c + k = 0
      · have e : k = -c := by omega
        subst e
        rw [h3, pE_nz h1, pE_nz h2]; exact ad_3_4_nm c (by omega) h1
      · rw [pE_nz h1, pE_nz h2, pE_nz h3]; exact ad_3_4_nn c hc h1 k hk h2 h3
theorem sr_0_z : R 155 [.lst 8 [(nO (-1) ++ [.lst 11 [(vC 97)]]), (nO 1 ++ [.lst 11 [(vC 98)]])], N 1] (.tup [.lst 8 [(nO (-1) ++ [.lst 11 [(vC 97)]]), (nO 1 ++ [.lst 11 [(vC 98)]])], I 0]) := ru tk2 ok155 (y8 x2 x1 x4 x3 cmp_97_98 cmp_98_97 x6 x5 z) (by kernel_rfl)
theorem sr_0_n (c : Int) (hc : -40 ≤ c ∧ c ≤ 40) (h : c ≠ 0) : R 155 [.lst 8 [(nO (c) ++ [nils]), (nO (-1) ++ [.lst 11 [(vC 97)]]), (nO 1 ++ [.lst 11 [(vC 98)]])], N 1] (.tup [.lst 8 [(nO (c) ++ [nils]), (nO (-1) ++ [.lst 11 [(vC 97)]]), (nO 1 ++ [.lst 11 [(vC 98)]])], I 0]) := ru tk2 ok155 (y8 x2 x1 (vd (c) (by omega)) x4 x3 (nau (c) (by omega)) cmp_97_98 cmp_98_97 (y2 x6 x5 (y (w160 (c) 1 (c) (by omega) (by omega)) z))) (by kernel_rfl)
theorem sr_0 (c : Int) (hc : -40 ≤ c ∧ c ≤ 40) : R 155 [.lst 8 (pE c [(97, (-1)), (98, 1)]), N 1] (.tup [.lst 8 (pE c [(97, (-1)), (98, 1)]), I 0]) := by
  by_cases h : c = 0
  · subst h; exact sr_0_z
  · rw [pE_nz h]; exact sr_0_n c hc h
theorem sr_1_z : R 155 [.lst 8 [(nO (-1) ++ [.lst 11 [(vC 98)]]), (nO 1 ++ [.lst 11 [(vC 99)]])], N 1] (.tup [.lst 8 [(nO (-1) ++ [.lst 11 [(vC 98)]]), (nO 1 ++ [.lst 11 [(vC 99)]])], I 0]) := ru tk2 ok155 (y8 x2 x1 x4 x3 cmp_98_99 cmp_99_98 x6 x5 z) (by kernel_rfl)
theorem sr_1_n (c : Int) (hc : -40 ≤ c ∧ c ≤ 40) (h : c ≠ 0) : R 155 [.lst 8 [(nO (c) ++ [nils]), (nO (-1) ++ [.lst 11 [(vC 98)]]), (nO 1 ++ [.lst 11 [(vC 99)]])], N 1] (.tup [.lst 8 [(nO (c) ++ [nils]), (nO (-1) ++ [.lst 11 [(vC 98)]]), (nO 1 ++ [.lst 11 [(vC 99)]])], I 0]) := ru tk2 ok155 (y8 x2 x1 (vd (c) (by omega)) x4 x3 (nau (c) (by omega)) cmp_98_99 cmp_99_98 (y2 x6 x5 (y (w160 (c) 1 (c) (by omega) (by omega)) z))) (by kernel_rfl)
theorem sr_1 (c : Int) (hc : -40 ≤ c ∧ c ≤ 40) : R 155 [.lst 8 (pE c [(98, (-1)), (99, 1)]), N 1] (.tup [.lst 8 (pE c [(98, (-1)), (99, 1)]), I 0]) := by
  by_cases h : c = 0
  · subst h; exact sr_1_z
  · rw [pE_nz h]; exact sr_1_n c hc h
theorem sr_2_z : R 155 [.lst 8 [(nO (-1) ++ [.lst 11 [(vC 99)]]), (nO 1 ++ [.lst 11 [(vC 100)]])], N 1] (.tup [.lst 8 [(nO (-1) ++ [.lst 11 [(vC 99)]]), (nO 1 ++ [.lst 11 [(vC 100)]])], I 0]) := ru tk2 ok155 (y8 x2 x1 x4 x3 cmp_99_100 cmp_100_99 x6 x5 z) (by kernel_rfl)
theorem sr_2_n (c : Int) (hc : -40 ≤ c ∧ c ≤ 40) (h : c ≠ 0) : R 155 [.lst 8 [(nO (c) ++ [nils]), (nO (-1) ++ [.lst 11 [(vC 99)]]), (nO 1 ++ [.lst 11 [(vC 100)]])], N 1] (.tup [.lst 8 [(nO (c) ++ [nils]), (nO (-1) ++ [.lst 11 [(vC 99)]]), (nO 1 ++ [.lst 11 [(vC 100)]])], I 0]) := ru tk2 ok155 (y8 x2 x1 (vd (c) (by omega)) x4 x3 (nau (c) (by omega)) cmp_99_100 cmp_100_99 (y2 x6 x5 (y (w160 (c) 1 (c) (by omega) (by omega)) z))) (by kernel_rfl)
theorem sr_2 (c : Int) (hc : -40 ≤ c ∧ c ≤ 40) : R 155 [.lst 8 (pE c [(99, (-1)), (100, 1)]), N 1] (.tup [.lst 8 (pE c [(99, (-1)), (100, 1)]), I 0]) := by
  by_cases h : c = 0
  · subst h; exact sr_2_z
  · rw [pE_nz h]; exact sr_2_n c hc h
theorem sr_3_z : R 155 [.lst 8 [(nO (-1) ++ [.lst 11 [(vC 100)]]), (nO 1 ++ [.lst 11 [(vC 101)]])], N 1] (.tup [.lst 8 [(nO (-1) ++ [.lst 11 [(vC 100)]]), (nO 1 ++ [.lst 11 [(vC 101)]])], I 0]) := ru tk2 ok155 (y8 x2 x1 x4 x3 cmp_100_101 cmp_101_100 x6 x5 z) (by kernel_rfl)
theorem sr_3_n (c : Int) (hc : -40 ≤ c ∧ c ≤ 40) (h : c ≠ 0) : R 155 [.lst 8 [(nO (c) ++ [nils]), (nO (-1) ++ [.lst 11 [(vC 100)]]), (nO 1 ++ [.lst 11 [(vC 101)]])], N 1] (.tup [.lst 8 [(nO (c) ++ [nils]), (nO (-1) ++ [.lst 11 [(vC 100)]]), (nO 1 ++ [.lst 11 [(vC 101)]])], I 0]) := ru tk2 ok155 (y8 x2 x1 (vd (c) (by omega)) x4 x3 (nau (c) (by omega)) cmp_100_101 cmp_101_100 (y2 x6 x5 (y (w160 (c) 1 (c) (by omega) (by omega)) z))) (by kernel_rfl)
theorem sr_3 (c : Int) (hc : -40 ≤ c ∧ c ≤ 40) : R 155 [.lst 8 (pE c [(100, (-1)), (101, 1)]), N 1] (.tup [.lst 8 (pE c [(100, (-1)), (101, 1)]), I 0]) := by
  by_cases h : c = 0
  · subst h; exact sr_3_z
  · rw [pE_nz h]; exact sr_3_n c hc h

end Go.Proofs.YthiipifjdfmblaaGreatDoor

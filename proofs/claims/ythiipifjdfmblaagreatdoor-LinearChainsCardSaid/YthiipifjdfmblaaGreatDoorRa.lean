/- How the reference reads the literals of the chains, and scales, adds and reads their polynomials. Made by a program: each contract comes of a run of the function's body. -/
import Derived.Test.YthiipifjdfmblaaGreatDoorP
set_option linter.unusedVariables false
set_option linter.unusedSimpArgs false
namespace Go.Proofs.YthiipifjdfmblaaGreatDoor
open Go Go.Pf Go.RowKit
set_option maxRecDepth 100000
theorem rcm_97_97 : R 188 [.agg (vC 97), .agg (vC 97)] (I 0) := ru tk10 ok188 z (by kernel_rfl)
theorem rcm_97_98 : R 188 [.agg (vC 97), .agg (vC 98)] (I (-1)) := ru tk10 ok188 z (by kernel_rfl)
theorem rcm_97_99 : R 188 [.agg (vC 97), .agg (vC 99)] (I (-1)) := ru tk10 ok188 z (by kernel_rfl)
theorem rcm_97_100 : R 188 [.agg (vC 97), .agg (vC 100)] (I (-1)) := ru tk10 ok188 z (by kernel_rfl)
theorem rcm_97_101 : R 188 [.agg (vC 97), .agg (vC 101)] (I (-1)) := ru tk10 ok188 z (by kernel_rfl)
theorem rcm_98_97 : R 188 [.agg (vC 98), .agg (vC 97)] (I 1) := ru tk10 ok188 z (by kernel_rfl)
theorem rcm_98_98 : R 188 [.agg (vC 98), .agg (vC 98)] (I 0) := ru tk10 ok188 z (by kernel_rfl)
theorem rcm_98_99 : R 188 [.agg (vC 98), .agg (vC 99)] (I (-1)) := ru tk10 ok188 z (by kernel_rfl)
theorem rcm_98_100 : R 188 [.agg (vC 98), .agg (vC 100)] (I (-1)) := ru tk10 ok188 z (by kernel_rfl)
theorem rcm_98_101 : R 188 [.agg (vC 98), .agg (vC 101)] (I (-1)) := ru tk10 ok188 z (by kernel_rfl)
theorem rcm_99_97 : R 188 [.agg (vC 99), .agg (vC 97)] (I 1) := ru tk10 ok188 z (by kernel_rfl)
theorem rcm_99_98 : R 188 [.agg (vC 99), .agg (vC 98)] (I 1) := ru tk10 ok188 z (by kernel_rfl)
theorem rcm_99_99 : R 188 [.agg (vC 99), .agg (vC 99)] (I 0) := ru tk10 ok188 z (by kernel_rfl)
theorem rcm_99_100 : R 188 [.agg (vC 99), .agg (vC 100)] (I (-1)) := ru tk10 ok188 z (by kernel_rfl)
theorem rcm_99_101 : R 188 [.agg (vC 99), .agg (vC 101)] (I (-1)) := ru tk10 ok188 z (by kernel_rfl)
theorem rcm_100_97 : R 188 [.agg (vC 100), .agg (vC 97)] (I 1) := ru tk10 ok188 z (by kernel_rfl)
theorem rcm_100_98 : R 188 [.agg (vC 100), .agg (vC 98)] (I 1) := ru tk10 ok188 z (by kernel_rfl)
theorem rcm_100_99 : R 188 [.agg (vC 100), .agg (vC 99)] (I 1) := ru tk10 ok188 z (by kernel_rfl)
theorem rcm_100_100 : R 188 [.agg (vC 100), .agg (vC 100)] (I 0) := ru tk10 ok188 z (by kernel_rfl)
theorem rcm_100_101 : R 188 [.agg (vC 100), .agg (vC 101)] (I (-1)) := ru tk10 ok188 z (by kernel_rfl)
theorem rcm_101_97 : R 188 [.agg (vC 101), .agg (vC 97)] (I 1) := ru tk10 ok188 z (by kernel_rfl)
theorem rcm_101_98 : R 188 [.agg (vC 101), .agg (vC 98)] (I 1) := ru tk10 ok188 z (by kernel_rfl)
theorem rcm_101_99 : R 188 [.agg (vC 101), .agg (vC 99)] (I 1) := ru tk10 ok188 z (by kernel_rfl)
theorem rcm_101_100 : R 188 [.agg (vC 101), .agg (vC 100)] (I 1) := ru tk10 ok188 z (by kernel_rfl)
theorem rcm_101_101 : R 188 [.agg (vC 101), .agg (vC 101)] (I 0) := ru tk10 ok188 z (by kernel_rfl)
theorem rcm_120_120 : R 188 [.agg (vC 120), .agg (vC 120)] (I 0) := ru tk10 ok188 z (by kernel_rfl)
theorem rcm_120_121 : R 188 [.agg (vC 120), .agg (vC 121)] (I (-1)) := ru tk10 ok188 z (by kernel_rfl)
theorem rcm_120_122 : R 188 [.agg (vC 120), .agg (vC 122)] (I (-1)) := ru tk10 ok188 z (by kernel_rfl)
theorem rcm_121_120 : R 188 [.agg (vC 121), .agg (vC 120)] (I 1) := ru tk10 ok188 z (by kernel_rfl)
theorem rcm_121_121 : R 188 [.agg (vC 121), .agg (vC 121)] (I 0) := ru tk10 ok188 z (by kernel_rfl)
theorem rcm_121_122 : R 188 [.agg (vC 121), .agg (vC 122)] (I (-1)) := ru tk10 ok188 z (by kernel_rfl)
theorem rcm_122_120 : R 188 [.agg (vC 122), .agg (vC 120)] (I 1) := ru tk10 ok188 z (by kernel_rfl)
theorem rcm_122_121 : R 188 [.agg (vC 122), .agg (vC 121)] (I 1) := ru tk10 ok188 z (by kernel_rfl)
theorem rcm_122_122 : R 188 [.agg (vC 122), .agg (vC 122)] (I 0) := ru tk10 ok188 z (by kernel_rfl)
theorem rva_97 : R 199 [.agg (vC 97)] (Bo true) := ru tk11 ok199 z (by kernel_rfl)
theorem rva_98 : R 199 [.agg (vC 98)] (Bo true) := ru tk11 ok199 z (by kernel_rfl)
theorem rva_99 : R 199 [.agg (vC 99)] (Bo true) := ru tk11 ok199 z (by kernel_rfl)
theorem rva_100 : R 199 [.agg (vC 100)] (Bo true) := ru tk11 ok199 z (by kernel_rfl)
theorem rva_101 : R 199 [.agg (vC 101)] (Bo true) := ru tk11 ok199 z (by kernel_rfl)
theorem rva_120 : R 199 [.agg (vC 120)] (Bo true) := ru tk11 ok199 z (by kernel_rfl)
theorem rva_121 : R 199 [.agg (vC 121)] (Bo true) := ru tk11 ok199 z (by kernel_rfl)
theorem rva_122 : R 199 [.agg (vC 122)] (Bo true) := ru tk11 ok199 z (by kernel_rfl)
theorem rsr_0_z : R 43 [.lst 8 [(nO (-1) ++ [.lst 11 [(vC 97)]]), (nO 1 ++ [.lst 11 [(vC 98)]])], N 1] (.tup [.lst 8 [(nO (-1) ++ [.lst 11 [(vC 97)]]), (nO 1 ++ [.lst 11 [(vC 98)]])], I 0]) := ru tk12 ok43 (y8 rcm_97_98 rva_98 x13 x14 rva_97 x15 x16 x17 (y2 x18 x13 z)) (by kernel_rfl)
theorem rsr_0_n (c : Int) (hc : -40 ≤ c ∧ c ≤ 40) (h : c ≠ 0) : R 43 [.lst 8 [(nO (c) ++ [nils]), (nO (-1) ++ [.lst 11 [(vC 97)]]), (nO 1 ++ [.lst 11 [(vC 98)]])], N 1] (.tup [.lst 8 [(nO (c) ++ [nils]), (nO (-1) ++ [.lst 11 [(vC 97)]]), (nO 1 ++ [.lst 11 [(vC 98)]])], I 0]) := ru tk12 ok43 (y8 rcm_97_98 rva_98 x13 x14 rva_97 x15 x16 (nne (c) (by omega)) (y4 (rvd (c) (by omega)) x17 x18 (w109p (c) (by omega)) (y x13 z))) (by kernel_rfl)
theorem rsr_0 (c : Int) (hc : -40 ≤ c ∧ c ≤ 40) : R 43 [.lst 8 (pE c [(97, (-1)), (98, 1)]), N 1] (.tup [.lst 8 (pE c [(97, (-1)), (98, 1)]), I 0]) := by
  by_cases h : c = 0
  · subst h; exact rsr_0_z
  · rw [pE_nz h]; exact rsr_0_n c hc h
theorem rsr_1_z : R 43 [.lst 8 [(nO (-1) ++ [.lst 11 [(vC 98)]]), (nO 1 ++ [.lst 11 [(vC 99)]])], N 1] (.tup [.lst 8 [(nO (-1) ++ [.lst 11 [(vC 98)]]), (nO 1 ++ [.lst 11 [(vC 99)]])], I 0]) := ru tk12 ok43 (y8 rcm_98_99 rva_99 x13 x14 rva_98 x15 x16 x17 (y2 x18 x13 z)) (by kernel_rfl)
theorem rsr_1_n (c : Int) (hc : -40 ≤ c ∧ c ≤ 40) (h : c ≠ 0) : R 43 [.lst 8 [(nO (c) ++ [nils]), (nO (-1) ++ [.lst 11 [(vC 98)]]), (nO 1 ++ [.lst 11 [(vC 99)]])], N 1] (.tup [.lst 8 [(nO (c) ++ [nils]), (nO (-1) ++ [.lst 11 [(vC 98)]]), (nO 1 ++ [.lst 11 [(vC 99)]])], I 0]) := ru tk12 ok43 (y8 rcm_98_99 rva_99 x13 x14 rva_98 x15 x16 (nne (c) (by omega)) (y4 (rvd (c) (by omega)) x17 x18 (w109p (c) (by omega)) (y x13 z))) (by kernel_rfl)
theorem rsr_1 (c : Int) (hc : -40 ≤ c ∧ c ≤ 40) : R 43 [.lst 8 (pE c [(98, (-1)), (99, 1)]), N 1] (.tup [.lst 8 (pE c [(98, (-1)), (99, 1)]), I 0]) := by
  by_cases h : c = 0
  · subst h; exact rsr_1_z
  · rw [pE_nz h]; exact rsr_1_n c hc h
theorem rsr_2_z : R 43 [.lst 8 [(nO (-1) ++ [.lst 11 [(vC 99)]]), (nO 1 ++ [.lst 11 [(vC 100)]])], N 1] (.tup [.lst 8 [(nO (-1) ++ [.lst 11 [(vC 99)]]), (nO 1 ++ [.lst 11 [(vC 100)]])], I 0]) := ru tk12 ok43 (y8 rcm_99_100 rva_100 x13 x14 rva_99 x15 x16 x17 (y2 x18 x13 z)) (by kernel_rfl)
theorem rsr_2_n (c : Int) (hc : -40 ≤ c ∧ c ≤ 40) (h : c ≠ 0) : R 43 [.lst 8 [(nO (c) ++ [nils]), (nO (-1) ++ [.lst 11 [(vC 99)]]), (nO 1 ++ [.lst 11 [(vC 100)]])], N 1] (.tup [.lst 8 [(nO (c) ++ [nils]), (nO (-1) ++ [.lst 11 [(vC 99)]]), (nO 1 ++ [.lst 11 [(vC 100)]])], I 0]) := ru tk12 ok43 (y8 rcm_99_100 rva_100 x13 x14 rva_99 x15 x16 (nne (c) (by omega)) (y4 (rvd (c) (by omega)) x17 x18 (w109p (c) (by omega)) (y x13 z))) (by kernel_rfl)
theorem rsr_2 (c : Int) (hc : -40 ≤ c ∧ c ≤ 40) : R 43 [.lst 8 (pE c [(99, (-1)), (100, 1)]), N 1] (.tup [.lst 8 (pE c [(99, (-1)), (100, 1)]), I 0]) := by
  by_cases h : c = 0
  · subst h; exact rsr_2_z
  · rw [pE_nz h]; exact rsr_2_n c hc h
theorem rsr_3_z : R 43 [.lst 8 [(nO (-1) ++ [.lst 11 [(vC 100)]]), (nO 1 ++ [.lst 11 [(vC 101)]])], N 1] (.tup [.lst 8 [(nO (-1) ++ [.lst 11 [(vC 100)]]), (nO 1 ++ [.lst 11 [(vC 101)]])], I 0]) := ru tk12 ok43 (y8 rcm_100_101 rva_101 x13 x14 rva_100 x15 x16 x17 (y2 x18 x13 z)) (by kernel_rfl)
theorem rsr_3_n (c : Int) (hc : -40 ≤ c ∧ c ≤ 40) (h : c ≠ 0) : R 43 [.lst 8 [(nO (c) ++ [nils]), (nO (-1) ++ [.lst 11 [(vC 100)]]), (nO 1 ++ [.lst 11 [(vC 101)]])], N 1] (.tup [.lst 8 [(nO (c) ++ [nils]), (nO (-1) ++ [.lst 11 [(vC 100)]]), (nO 1 ++ [.lst 11 [(vC 101)]])], I 0]) := ru tk12 ok43 (y8 rcm_100_101 rva_101 x13 x14 rva_100 x15 x16 (nne (c) (by omega)) (y4 (rvd (c) (by omega)) x17 x18 (w109p (c) (by omega)) (y x13 z))) (by kernel_rfl)
theorem rsr_3 (c : Int) (hc : -40 ≤ c ∧ c ≤ 40) : R 43 [.lst 8 (pE c [(100, (-1)), (101, 1)]), N 1] (.tup [.lst 8 (pE c [(100, (-1)), (101, 1)]), I 0]) := by
  by_cases h : c = 0
  · subst h; exact rsr_3_z
  · rw [pE_nz h]; exact rsr_3_n c hc h
theorem rsc_1_z : R 43 [.lst 8 [(nO 1 ++ [.lst 11 [(vC 97)]]), (nO (-1) ++ [.lst 11 [(vC 98)]])], N 1] (.tup [.lst 8 [(nO 1 ++ [.lst 11 [(vC 97)]]), (nO (-1) ++ [.lst 11 [(vC 98)]])], I 0]) := ru tk12 ok43 (y8 rcm_97_98 rva_98 x15 x16 rva_97 x13 x14 x18 (y2 x17 x13 z)) (by kernel_rfl)
theorem rsc_1_n (c : Int) (hc : -40 ≤ c ∧ c ≤ 40) (h : c ≠ 0) : R 43 [.lst 8 [(nO (c) ++ [nils]), (nO 1 ++ [.lst 11 [(vC 97)]]), (nO (-1) ++ [.lst 11 [(vC 98)]])], N 1] (.tup [.lst 8 [(nO (c) ++ [nils]), (nO 1 ++ [.lst 11 [(vC 97)]]), (nO (-1) ++ [.lst 11 [(vC 98)]])], I 0]) := ru tk12 ok43 (y8 rcm_97_98 rva_98 x15 x16 rva_97 x13 x14 (nne (c) (by omega)) (y4 (rvd (c) (by omega)) x18 x17 (w109p (c) (by omega)) (y x13 z))) (by kernel_rfl)
theorem rsc_1 (c : Int) (hc : -40 ≤ c ∧ c ≤ 40) : R 43 [.lst 8 (pE c [(97, 1), (98, (-1))]), N 1] (.tup [.lst 8 (pE c [(97, 1), (98, (-1))]), I 0]) := by
  by_cases h : c = 0
  · subst h; exact rsc_1_z
  · rw [pE_nz h]; exact rsc_1_n c hc h
theorem rsc_2_z : R 43 [.lst 8 [(nO 1 ++ [.lst 11 [(vC 97)]]), (nO (-1) ++ [.lst 11 [(vC 99)]])], N 1] (.tup [.lst 8 [(nO 1 ++ [.lst 11 [(vC 97)]]), (nO (-1) ++ [.lst 11 [(vC 99)]])], I 0]) := ru tk12 ok43 (y8 rcm_97_99 rva_99 x15 x16 rva_97 x13 x14 x18 (y2 x17 x13 z)) (by kernel_rfl)
theorem rsc_2_n (c : Int) (hc : -40 ≤ c ∧ c ≤ 40) (h : c ≠ 0) : R 43 [.lst 8 [(nO (c) ++ [nils]), (nO 1 ++ [.lst 11 [(vC 97)]]), (nO (-1) ++ [.lst 11 [(vC 99)]])], N 1] (.tup [.lst 8 [(nO (c) ++ [nils]), (nO 1 ++ [.lst 11 [(vC 97)]]), (nO (-1) ++ [.lst 11 [(vC 99)]])], I 0]) := ru tk12 ok43 (y8 rcm_97_99 rva_99 x15 x16 rva_97 x13 x14 (nne (c) (by omega)) (y4 (rvd (c) (by omega)) x18 x17 (w109p (c) (by omega)) (y x13 z))) (by kernel_rfl)
theorem rsc_2 (c : Int) (hc : -40 ≤ c ∧ c ≤ 40) : R 43 [.lst 8 (pE c [(97, 1), (99, (-1))]), N 1] (.tup [.lst 8 (pE c [(97, 1), (99, (-1))]), I 0]) := by
  by_cases h : c = 0
  · subst h; exact rsc_2_z
  · rw [pE_nz h]; exact rsc_2_n c hc h
theorem rsc_3_z : R 43 [.lst 8 [(nO 1 ++ [.lst 11 [(vC 97)]]), (nO (-1) ++ [.lst 11 [(vC 100)]])], N 1] (.tup [.lst 8 [(nO 1 ++ [.lst 11 [(vC 97)]]), (nO (-1) ++ [.lst 11 [(vC 100)]])], I 0]) := ru tk12 ok43 (y8 rcm_97_100 rva_100 x15 x16 rva_97 x13 x14 x18 (y2 x17 x13 z)) (by kernel_rfl)
theorem rsc_3_n (c : Int) (hc : -40 ≤ c ∧ c ≤ 40) (h : c ≠ 0) : R 43 [.lst 8 [(nO (c) ++ [nils]), (nO 1 ++ [.lst 11 [(vC 97)]]), (nO (-1) ++ [.lst 11 [(vC 100)]])], N 1] (.tup [.lst 8 [(nO (c) ++ [nils]), (nO 1 ++ [.lst 11 [(vC 97)]]), (nO (-1) ++ [.lst 11 [(vC 100)]])], I 0]) := ru tk12 ok43 (y8 rcm_97_100 rva_100 x15 x16 rva_97 x13 x14 (nne (c) (by omega)) (y4 (rvd (c) (by omega)) x18 x17 (w109p (c) (by omega)) (y x13 z))) (by kernel_rfl)
theorem rsc_3 (c : Int) (hc : -40 ≤ c ∧ c ≤ 40) : R 43 [.lst 8 (pE c [(97, 1), (100, (-1))]), N 1] (.tup [.lst 8 (pE c [(97, 1), (100, (-1))]), I 0]) := by
  by_cases h : c = 0
  · subst h; exact rsc_3_z
  · rw [pE_nz h]; exact rsc_3_n c hc h
theorem rsc_4_z : R 43 [.lst 8 [(nO 1 ++ [.lst 11 [(vC 97)]]), (nO (-1) ++ [.lst 11 [(vC 101)]])], N 1] (.tup [.lst 8 [(nO 1 ++ [.lst 11 [(vC 97)]]), (nO (-1) ++ [.lst 11 [(vC 101)]])], I 0]) := ru tk12 ok43 (y8 rcm_97_101 rva_101 x15 x16 rva_97 x13 x14 x18 (y2 x17 x13 z)) (by kernel_rfl)
theorem rsc_4_n (c : Int) (hc : -40 ≤ c ∧ c ≤ 40) (h : c ≠ 0) : R 43 [.lst 8 [(nO (c) ++ [nils]), (nO 1 ++ [.lst 11 [(vC 97)]]), (nO (-1) ++ [.lst 11 [(vC 101)]])], N 1] (.tup [.lst 8 [(nO (c) ++ [nils]), (nO 1 ++ [.lst 11 [(vC 97)]]), (nO (-1) ++ [.lst 11 [(vC 101)]])], I 0]) := ru tk12 ok43 (y8 rcm_97_101 rva_101 x15 x16 rva_97 x13 x14 (nne (c) (by omega)) (y4 (rvd (c) (by omega)) x18 x17 (w109p (c) (by omega)) (y x13 z))) (by kernel_rfl)
theorem rsc_4 (c : Int) (hc : -40 ≤ c ∧ c ≤ 40) : R 43 [.lst 8 (pE c [(97, 1), (101, (-1))]), N 1] (.tup [.lst 8 (pE c [(97, 1), (101, (-1))]), I 0]) := by
  by_cases h : c = 0
  · subst h; exact rsc_4_z
  · rw [pE_nz h]; exact rsc_4_n c hc h
theorem ran_z : R 44 [nils, .lst 8 [(nO (-1) ++ [.lst 11 [(vC 97)]]), (nO 1 ++ [.lst 11 [(vC 98)]])]] (.tup [.lst 8 [(nO (-1) ++ [.lst 11 [(vC 97)]]), (nO 1 ++ [.lst 11 [(vC 98)]])], I 0]) := ru tk13 ok44 (y8 rcm_97_98 rva_98 x13 x14 rva_97 x15 x16 rcm_97_98 (y2 x13 x15 z)) (by kernel_rfl)
theorem ran_n (c : Int) (hc : -40 ≤ c ∧ c ≤ 40) (h : c ≠ 0) : R 44 [nils, .lst 8 [(nO (c) ++ [nils]), (nO (-1) ++ [.lst 11 [(vC 97)]]), (nO 1 ++ [.lst 11 [(vC 98)]])]] (.tup [.lst 8 [(nO (c) ++ [nils]), (nO (-1) ++ [.lst 11 [(vC 97)]]), (nO 1 ++ [.lst 11 [(vC 98)]])], I 0]) := ru tk13 ok44 (y8 rcm_97_98 rva_98 x13 x14 rva_97 x15 x16 (nne (c) (by omega)) (y4 (rvd (c) (by omega)) rcm_97_98 x13 x15 (y (nne (c) (by omega)) z))) (by kernel_rfl)
theorem ran (c : Int) (hc : -40 ≤ c ∧ c ≤ 40) : R 44 [nils, .lst 8 (pE c [(97, (-1)), (98, 1)])] (.tup [.lst 8 (pE c [(97, (-1)), (98, 1)]), I 0]) := by
  by_cases h : c = 0
  · subst h; exact ran_z
  · rw [pE_nz h]; exact ran_n c hc h
theorem ram_1_zz : R 44 [.lst 8 [(nO (-1) ++ [.lst 11 [(vC 97)]]), (nO 1 ++ [.lst 11 [(vC 98)]])], .lst 8 [(nO (-1) ++ [.lst 11 [(vC 98)]]), (nO 1 ++ [.lst 11 [(vC 99)]])]] (.tup [.lst 8 [(nO (-1) ++ [.lst 11 [(vC 97)]]), (nO 1 ++ [.lst 11 [(vC 99)]])], I 0]) := ru tk13 ok44 (y8 rcm_97_99 rva_99 x13 x14 rva_97 x15 x16 rcm_97_99 (y4 x13 none_t x19 rcm_98_98 (y2 rcm_98_98 rcm_97_98 (y x15 z)))) (by kernel_rfl)
theorem ram_1_nz (c : Int) (hc : -15 ≤ c ∧ c ≤ 15) (h1 : c ≠ 0) : R 44 [.lst 8 [(nO (c) ++ [nils]), (nO (-1) ++ [.lst 11 [(vC 97)]]), (nO 1 ++ [.lst 11 [(vC 98)]])], .lst 8 [(nO (-1) ++ [.lst 11 [(vC 98)]]), (nO 1 ++ [.lst 11 [(vC 99)]])]] (.tup [.lst 8 [(nO (c) ++ [nils]), (nO (-1) ++ [.lst 11 [(vC 97)]]), (nO 1 ++ [.lst 11 [(vC 99)]])], I 0]) := ru tk13 ok44 (y8 rcm_97_99 rva_99 x13 x14 rva_97 x15 x16 (nne (c) (by omega)) (y8 (rvd (c) (by omega)) rcm_97_99 x13 none_t x19 rcm_98_98 rcm_98_98 rcm_97_98 (y x15 z))) (by kernel_rfl)
theorem ram_1_zn (k : Int) (hk : -5 ≤ k ∧ k ≤ 5) (h2 : k ≠ 0) : R 44 [.lst 8 [(nO (-1) ++ [.lst 11 [(vC 97)]]), (nO 1 ++ [.lst 11 [(vC 98)]])], .lst 8 [(nO (k) ++ [nils]), (nO (-1) ++ [.lst 11 [(vC 98)]]), (nO 1 ++ [.lst 11 [(vC 99)]])]] (.tup [.lst 8 [(nO (k) ++ [nils]), (nO (-1) ++ [.lst 11 [(vC 97)]]), (nO 1 ++ [.lst 11 [(vC 99)]])], I 0]) := ru tk13 ok44 (y8 rcm_97_99 rva_99 x13 x14 rva_97 x15 x16 (nne (k) (by omega)) (y8 (rvd (k) (by omega)) rcm_97_99 x13 none_t x19 rcm_98_98 rcm_98_98 rcm_97_98 (y2 x15 (nne (k) (by omega)) z))) (by kernel_rfl)
theorem ram_1_nn (c : Int) (hc : -15 ≤ c ∧ c ≤ 15) (h1 : c ≠ 0) (k : Int) (hk : -5 ≤ k ∧ k ≤ 5) (h2 : k ≠ 0) (h3 : c + k ≠ 0) : R 44 [.lst 8 [(nO (c) ++ [nils]), (nO (-1) ++ [.lst 11 [(vC 97)]]), (nO 1 ++ [.lst 11 [(vC 98)]])], .lst 8 [(nO (k) ++ [nils]), (nO (-1) ++ [.lst 11 [(vC 98)]]), (nO 1 ++ [.lst 11 [(vC 99)]])]] (.tup [.lst 8 [(nO (c + k) ++ [nils]), (nO (-1) ++ [.lst 11 [(vC 97)]]), (nO 1 ++ [.lst 11 [(vC 99)]])], I 0]) := ru tk13 ok44 (y8 rcm_97_99 rva_99 x13 x14 rva_97 x15 x16 (nne (c + k) (by omega)) (y8 (rvd (c + k) (by omega)) rcm_97_99 x13 none_t x19 rcm_98_98 rcm_98_98 rcm_97_98 (y4 x15 (nne (c + k) (by omega)) (w177 (c) (k) (c + k) (by omega)) (nne (k) (by omega)) z))) (by kernel_rfl)
theorem ram_1_nm (c : Int) (hc : -5 ≤ c ∧ c ≤ 5) (h1 : c ≠ 0) : R 44 [.lst 8 [(nO (c) ++ [nils]), (nO (-1) ++ [.lst 11 [(vC 97)]]), (nO 1 ++ [.lst 11 [(vC 98)]])], .lst 8 [(nO (-c) ++ [nils]), (nO (-1) ++ [.lst 11 [(vC 98)]]), (nO 1 ++ [.lst 11 [(vC 99)]])]] (.tup [.lst 8 [(nO (-1) ++ [.lst 11 [(vC 97)]]), (nO 1 ++ [.lst 11 [(vC 99)]])], I 0]) := ru tk13 ok44 (y8 rcm_97_99 rva_99 x13 x14 rva_97 x15 x16 rcm_97_99 (y8 x13 none_t x19 rcm_98_98 rcm_98_98 rcm_97_98 x15 none_t (y2 (w177 (c) (-c) 0 (by omega)) (nne (-c) (by omega)) z))) (by kernel_rfl)
theorem ram_1 (c k : Int) (hc : -15 ≤ c ∧ c ≤ 15) (hk : -5 ≤ k ∧ k ≤ 5) : R 44 [.lst 8 (pE c [(97, (-1)), (98, 1)]), .lst 8 (pE k [(98, (-1)), (99, 1)])] (.tup [.lst 8 (pE (c + k) [(97, (-1)), (99, 1)]), I 0]) := by
  by_cases h1 : c = 0
  · subst h1
    by_cases h2 : k = 0
    · subst h2; exact ram_1_zz
    · rw [Int.zero_add, pE_nz h2, pE_nz h2]; exact ram_1_zn k hk h2
  · by_cases h2 : k = 0
    · subst h2; rw [Int.add_zero, pE_nz h1, pE_nz h1]; exact ram_1_nz c hc h1
    · by_cases h3 : c + k = 0
      · have e : k = -c := by omega
        subst e
        rw [h3, pE_nz h1, pE_nz h2]; exact ram_1_nm c (by omega) h1
      · rw [pE_nz h1, pE_nz h2, pE_nz h3]; exact ram_1_nn c hc h1 k hk h2 h3
theorem ram_2_zz : R 44 [.lst 8 [(nO (-1) ++ [.lst 11 [(vC 97)]]), (nO 1 ++ [.lst 11 [(vC 99)]])], .lst 8 [(nO (-1) ++ [.lst 11 [(vC 99)]]), (nO 1 ++ [.lst 11 [(vC 100)]])]] (.tup [.lst 8 [(nO (-1) ++ [.lst 11 [(vC 97)]]), (nO 1 ++ [.lst 11 [(vC 100)]])], I 0]) := ru tk13 ok44 (y8 rcm_97_100 rva_100 x13 x14 rva_97 x15 x16 rcm_97_100 (y4 x13 none_t x19 rcm_99_99 (y2 rcm_99_99 rcm_97_99 (y x15 z)))) (by kernel_rfl)
theorem ram_2_nz (c : Int) (hc : -15 ≤ c ∧ c ≤ 15) (h1 : c ≠ 0) : R 44 [.lst 8 [(nO (c) ++ [nils]), (nO (-1) ++ [.lst 11 [(vC 97)]]), (nO 1 ++ [.lst 11 [(vC 99)]])], .lst 8 [(nO (-1) ++ [.lst 11 [(vC 99)]]), (nO 1 ++ [.lst 11 [(vC 100)]])]] (.tup [.lst 8 [(nO (c) ++ [nils]), (nO (-1) ++ [.lst 11 [(vC 97)]]), (nO 1 ++ [.lst 11 [(vC 100)]])], I 0]) := ru tk13 ok44 (y8 rcm_97_100 rva_100 x13 x14 rva_97 x15 x16 (nne (c) (by omega)) (y8 (rvd (c) (by omega)) rcm_97_100 x13 none_t x19 rcm_99_99 rcm_99_99 rcm_97_99 (y x15 z))) (by kernel_rfl)
theorem ram_2_zn (k : Int) (hk : -5 ≤ k ∧ k ≤ 5) (h2 : k ≠ 0) : R 44 [.lst 8 [(nO (-1) ++ [.lst 11 [(vC 97)]]), (nO 1 ++ [.lst 11 [(vC 99)]])], .lst 8 [(nO (k) ++ [nils]), (nO (-1) ++ [.lst 11 [(vC 99)]]), (nO 1 ++ [.lst 11 [(vC 100)]])]] (.tup [.lst 8 [(nO (k) ++ [nils]), (nO (-1) ++ [.lst 11 [(vC 97)]]), (nO 1 ++ [.lst 11 [(vC 100)]])], I 0]) := ru tk13 ok44 (y8 rcm_97_100 rva_100 x13 x14 rva_97 x15 x16 (nne (k) (by omega)) (y8 (rvd (k) (by omega)) rcm_97_100 x13 none_t x19 rcm_99_99 rcm_99_99 rcm_97_99 (y2 x15 (nne (k) (by omega)) z))) (by kernel_rfl)
theorem ram_2_nn (c : Int) (hc : -15 ≤ c ∧ c ≤ 15) (h1 : c ≠ 0) (k : Int) (hk : -5 ≤ k ∧ k ≤ 5) (h2 : k ≠ 0) (h3 : c + k ≠ 0) : R 44 [.lst 8 [(nO (c) ++ [nils]), (nO (-1) ++ [.lst 11 [(vC 97)]]), (nO 1 ++ [.lst 11 [(vC 99)]])], .lst 8 [(nO (k) ++ [nils]), (nO (-1) ++ [.lst 11 [(vC 99)]]), (nO 1 ++ [.lst 11 [(vC 100)]])]] (.tup [.lst 8 [(nO (c + k) ++ [nils]), (nO (-1) ++ [.lst 11 [(vC 97)]]), (nO 1 ++ [.lst 11 [(vC 100)]])], I 0]) := ru tk13 ok44 (y8 rcm_97_100 rva_100 x13 x14 rva_97 x15 x16 (nne (c + k) (by omega)) (y8 (rvd (c + k) (by omega)) rcm_97_100 x13 none_t x19 rcm_99_99 rcm_99_99 rcm_97_99 (y4 x15 (nne (c + k) (by omega)) (w177 (c) (k) (c + k) (by omega)) (nne (k) (by omega)) z))) (by kernel_rfl)
theorem ram_2_nm (c : Int) (hc : -5 ≤ c ∧ c ≤ 5) (h1 : c ≠ 0) : R 44 [.lst 8 [(nO (c) ++ [nils]), (nO (-1) ++ [.lst 11 [(vC 97)]]), (nO 1 ++ [.lst 11 [(vC 99)]])], .lst 8 [(nO (-c) ++ [nils]), (nO (-1) ++ [.lst 11 [(vC 99)]]), (nO 1 ++ [.lst 11 [(vC 100)]])]] (.tup [.lst 8 [(nO (-1) ++ [.lst 11 [(vC 97)]]), (nO 1 ++ [.lst 11 [(vC 100)]])], I 0]) := ru tk13 ok44 (y8 rcm_97_100 rva_100 x13 x14 rva_97 x15 x16 rcm_97_100 (y8 x13 none_t x19 rcm_99_99 rcm_99_99 rcm_97_99 x15 none_t (y2 (w177 (c) (-c) 0 (by omega)) (nne (-c) (by omega)) z))) (by kernel_rfl)
theorem ram_2 (c k : Int) (hc : -15 ≤ c ∧ c ≤ 15) (hk : -5 ≤ k ∧ k ≤ 5) : R 44 [.lst 8 (pE c [(97, (-1)), (99, 1)]), .lst 8 (pE k [(99, (-1)), (100, 1)])] (.tup [.lst 8 (pE (c + k) [(97, (-1)), (100, 1)]), I 0]) := by
  by_cases h1 : c = 0
  · subst h1
    by_cases h2 : k = 0
    · subst h2; exact ram_2_zz
    · rw [Int.zero_add, pE_nz h2, pE_nz h2]; exact ram_2_zn k hk h2
  · by_cases h2 : k = 0
    · subst h2; rw [Int.add_zero, pE_nz h1, pE_nz h1]; exact ram_2_nz c hc h1
    · by_cases h3 : c + k = 0
      · have e : k = -c := by omega
        subst e
        rw [h3, pE_nz h1, pE_nz h2]; exact ram_2_nm c (by omega) h1
      · rw [pE_nz h1, pE_nz h2, pE_nz h3]; exact ram_2_nn c hc h1 k hk h2 h3
theorem ram_3_zz : R 44 [.lst 8 [(nO (-1) ++ [.lst 11 [(vC 97)]]), (nO 1 ++ [.lst 11 [(vC 100)]])], .lst 8 [(nO (-1) ++ [.lst 11 [(vC 100)]]), (nO 1 ++ [.lst 11 [(vC 101)]])]] (.tup [.lst 8 [(nO (-1) ++ [.lst 11 [(vC 97)]]), (nO 1 ++ [.lst 11 [(vC 101)]])], I 0]) := ru tk13 ok44 (y8 rcm_97_101 rva_101 x13 x14 rva_97 x15 x16 rcm_97_101 (y4 x13 none_t x19 rcm_100_100 (y2 rcm_100_100 rcm_97_100 (y x15 z)))) (by kernel_rfl)
theorem ram_3_nz (c : Int) (hc : -15 ≤ c ∧ c ≤ 15) (h1 : c ≠ 0) : R 44 [.lst 8 [(nO (c) ++ [nils]), (nO (-1) ++ [.lst 11 [(vC 97)]]), (nO 1 ++ [.lst 11 [(vC 100)]])], .lst 8 [(nO (-1) ++ [.lst 11 [(vC 100)]]), (nO 1 ++ [.lst 11 [(vC 101)]])]] (.tup [.lst 8 [(nO (c) ++ [nils]), (nO (-1) ++ [.lst 11 [(vC 97)]]), (nO 1 ++ [.lst 11 [(vC 101)]])], I 0]) := ru tk13 ok44 (y8 rcm_97_101 rva_101 x13 x14 rva_97 x15 x16 (nne (c) (by omega)) (y8 (rvd (c) (by omega)) rcm_97_101 x13 none_t x19 rcm_100_100 rcm_100_100 rcm_97_100 (y x15 z))) (by kernel_rfl)
theorem ram_3_zn (k : Int) (hk : -5 ≤ k ∧ k ≤ 5) (h2 : k ≠ 0) : R 44 [.lst 8 [(nO (-1) ++ [.lst 11 [(vC 97)]]), (nO 1 ++ [.lst 11 [(vC 100)]])], .lst 8 [(nO (k) ++ [nils]), (nO (-1) ++ [.lst 11 [(vC 100)]]), (nO 1 ++ [.lst 11 [(vC 101)]])]] (.tup [.lst 8 [(nO (k) ++ [nils]), (nO (-1) ++ [.lst 11 [(vC 97)]]), (nO 1 ++ [.lst 11 [(vC 101)]])], I 0]) := ru tk13 ok44 (y8 rcm_97_101 rva_101 x13 x14 rva_97 x15 x16 (nne (k) (by omega)) (y8 (rvd (k) (by omega)) rcm_97_101 x13 none_t x19 rcm_100_100 rcm_100_100 rcm_97_100 (y2 x15 (nne (k) (by omega)) z))) (by kernel_rfl)
theorem ram_3_nn (c : Int) (hc : -15 ≤ c ∧ c ≤ 15) (h1 : c ≠ 0) (k : Int) (hk : -5 ≤ k ∧ k ≤ 5) (h2 : k ≠ 0) (h3 : c + k ≠ 0) : R 44 [.lst 8 [(nO (c) ++ [nils]), (nO (-1) ++ [.lst 11 [(vC 97)]]), (nO 1 ++ [.lst 11 [(vC 100)]])], .lst 8 [(nO (k) ++ [nils]), (nO (-1) ++ [.lst 11 [(vC 100)]]), (nO 1 ++ [.lst 11 [(vC 101)]])]] (.tup [.lst 8 [(nO (c + k) ++ [nils]), (nO (-1) ++ [.lst 11 [(vC 97)]]), (nO 1 ++ [.lst 11 [(vC 101)]])], I 0]) := ru tk13 ok44 (y8 rcm_97_101 rva_101 x13 x14 rva_97 x15 x16 (nne (c + k) (by omega)) (y8 (rvd (c + k) (by omega)) rcm_97_101 x13 none_t x19 rcm_100_100 rcm_100_100 rcm_97_100 (y4 x15 (nne (c + k) (by omega)) (w177 (c) (k) (c + k) (by omega)) (nne (k) (by omega)) z))) (by kernel_rfl)
theorem ram_3_nm (c : Int) (hc : -5 ≤ c ∧ c ≤ 5) (h1 : c ≠ 0) : R 44 [.lst 8 [(nO (c) ++ [nils]), (nO (-1) ++ [.lst 11 [(vC 97)]]), (nO 1 ++ [.lst 11 [(vC 100)]])], .lst 8 [(nO (-c) ++ [nils]), (nO (-1) ++ [.lst 11 [(vC 100)]]), (nO 1 ++ [.lst 11 [(vC 101)]])]] (.tup [.lst 8 [(nO (-1) ++ [.lst 11 [(vC 97)]]), (nO 1 ++ [.lst 11 [(vC 101)]])], I 0]) := ru tk13 ok44 (y8 rcm_97_101 rva_101 x13 x14 rva_97 x15 x16 rcm_97_101 (y8 x13 none_t x19 rcm_100_100 rcm_100_100 rcm_97_100 x15 none_t (y2 (w177 (c) (-c) 0 (by omega)) (nne (-c) (by omega)) z))) (by kernel_rfl)
theorem ram_3 (c k : Int) (hc : -15 ≤ c ∧ c ≤ 15) (hk : -5 ≤ k ∧ k ≤ 5) : R 44 [.lst 8 (pE c [(97, (-1)), (100, 1)]), .lst 8 (pE k [(100, (-1)), (101, 1)])] (.tup [.lst 8 (pE (c + k) [(97, (-1)), (101, 1)]), I 0]) := by
  by_cases h1 : c = 0
  · subst h1
    by_cases h2 : k = 0
    · subst h2; exact ram_3_zz
    · rw [Int.zero_add, pE_nz h2, pE_nz h2]; exact ram_3_zn k hk h2
  · by_cases h2 : k = 0
    · subst h2; rw [Int.add_zero, pE_nz h1, pE_nz h1]; exact ram_3_nz c hc h1
    · by_cases h3 : c + k = 0
      · have e : k = -c := by omega
        subst e
        rw [h3, pE_nz h1, pE_nz h2]; exact ram_3_nm c (by omega) h1
      · rw [pE_nz h1, pE_nz h2, pE_nz h3]; exact ram_3_nn c hc h1 k hk h2 h3
theorem ral_1_zz : R 44 [.lst 8 [(nO (-1) ++ [.lst 11 [(vC 97)]]), (nO 1 ++ [.lst 11 [(vC 98)]])], .lst 8 [(nO 1 ++ [.lst 11 [(vC 97)]]), (nO (-1) ++ [.lst 11 [(vC 98)]])]] (.tup [.lst 8 [], I 0]) := ru tk13 ok44 (y8 none_t x19 rcm_98_98 rcm_98_98 x15 none_t x20 rcm_97_97 (y2 rcm_97_97 x13 z)) (by kernel_rfl)
theorem ral_1_nz (c : Int) (hc : -20 ≤ c ∧ c ≤ 20) (h1 : c ≠ 0) : R 44 [.lst 8 [(nO (c) ++ [nils]), (nO (-1) ++ [.lst 11 [(vC 97)]]), (nO 1 ++ [.lst 11 [(vC 98)]])], .lst 8 [(nO 1 ++ [.lst 11 [(vC 97)]]), (nO (-1) ++ [.lst 11 [(vC 98)]])]] (.tup [.lst 8 [(nO (c) ++ [nils])], I 0]) := ru tk13 ok44 (y8 (nne (c) (by omega)) (rvd (c) (by omega)) none_t x19 rcm_98_98 rcm_98_98 x15 none_t (y4 x20 rcm_97_97 rcm_97_97 x13 z)) (by kernel_rfl)
theorem ral_1_zn (k : Int) (hk : -19 ≤ k ∧ k ≤ 19) (h2 : k ≠ 0) : R 44 [.lst 8 [(nO (-1) ++ [.lst 11 [(vC 97)]]), (nO 1 ++ [.lst 11 [(vC 98)]])], .lst 8 [(nO (k) ++ [nils]), (nO 1 ++ [.lst 11 [(vC 97)]]), (nO (-1) ++ [.lst 11 [(vC 98)]])]] (.tup [.lst 8 [(nO (k) ++ [nils])], I 0]) := ru tk13 ok44 (y8 (nne (k) (by omega)) (rvd (k) (by omega)) none_t x19 rcm_98_98 rcm_98_98 x15 none_t (y4 x20 rcm_97_97 rcm_97_97 x13 (y (nne (k) (by omega)) z))) (by kernel_rfl)
theorem ral_1_nn (c : Int) (hc : -20 ≤ c ∧ c ≤ 20) (h1 : c ≠ 0) (k : Int) (hk : -19 ≤ k ∧ k ≤ 19) (h2 : k ≠ 0) (h3 : c + k ≠ 0) : R 44 [.lst 8 [(nO (c) ++ [nils]), (nO (-1) ++ [.lst 11 [(vC 97)]]), (nO 1 ++ [.lst 11 [(vC 98)]])], .lst 8 [(nO (k) ++ [nils]), (nO 1 ++ [.lst 11 [(vC 97)]]), (nO (-1) ++ [.lst 11 [(vC 98)]])]] (.tup [.lst 8 [(nO (c + k) ++ [nils])], I 0]) := ru tk13 ok44 (y8 (nne (c + k) (by omega)) (rvd (c + k) (by omega)) none_t x19 rcm_98_98 rcm_98_98 x15 none_t (y4 x20 rcm_97_97 rcm_97_97 x13 (y2 (nne (c + k) (by omega)) (w177 (c) (k) (c + k) (by omega)) (y (nne (k) (by omega)) z)))) (by kernel_rfl)
theorem ral_1_nm (c : Int) (hc : -19 ≤ c ∧ c ≤ 19) (h1 : c ≠ 0) : R 44 [.lst 8 [(nO (c) ++ [nils]), (nO (-1) ++ [.lst 11 [(vC 97)]]), (nO 1 ++ [.lst 11 [(vC 98)]])], .lst 8 [(nO (-c) ++ [nils]), (nO 1 ++ [.lst 11 [(vC 97)]]), (nO (-1) ++ [.lst 11 [(vC 98)]])]] (.tup [.lst 8 [], I 0]) := ru tk13 ok44 (y8 none_t x19 rcm_98_98 rcm_98_98 x15 none_t x20 rcm_97_97 (y4 rcm_97_97 x13 none_t (w177 (c) (-c) 0 (by omega)) (y (nne (-c) (by omega)) z))) (by kernel_rfl)
theorem ral_1 (c k : Int) (hc : -20 ≤ c ∧ c ≤ 20) (hk : -19 ≤ k ∧ k ≤ 19) : R 44 [.lst 8 (pE c [(97, (-1)), (98, 1)]), .lst 8 (pE k [(97, 1), (98, (-1))])] (.tup [.lst 8 (pE (c + k) []), I 0]) := by
  by_cases h1 : c = 0
  · subst h1
    by_cases h2 : k = 0
    · subst h2; exact ral_1_zz
    · rw [Int.zero_add, pE_nz h2, pE_nz h2]; exact ral_1_zn k hk h2
  · by_cases h2 : k = 0
    · subst h2; rw [Int.add_zero, pE_nz h1, pE_nz h1]; exact ral_1_nz c hc h1
    · by_cases h3 : c + k = 0
      · have e : k = -c := by omega
        subst e
        rw [h3, pE_nz h1, pE_nz h2]; exact ral_1_nm c (by omega) h1
      · rw [pE_nz h1, pE_nz h2, pE_nz h3]; exact ral_1_nn c hc h1 k hk h2 h3
theorem ral_2_zz : R 44 [.lst 8 [(nO (-1) ++ [.lst 11 [(vC 97)]]), (nO 1 ++ [.lst 11 [(vC 99)]])], .lst 8 [(nO 1 ++ [.lst 11 [(vC 97)]]), (nO (-1) ++ [.lst 11 [(vC 99)]])]] (.tup [.lst 8 [], I 0]) := ru tk13 ok44 (y8 none_t x19 rcm_99_99 rcm_99_99 x15 none_t x20 rcm_97_97 (y2 rcm_97_97 x13 z)) (by kernel_rfl)
theorem ral_2_nz (c : Int) (hc : -20 ≤ c ∧ c ≤ 20) (h1 : c ≠ 0) : R 44 [.lst 8 [(nO (c) ++ [nils]), (nO (-1) ++ [.lst 11 [(vC 97)]]), (nO 1 ++ [.lst 11 [(vC 99)]])], .lst 8 [(nO 1 ++ [.lst 11 [(vC 97)]]), (nO (-1) ++ [.lst 11 [(vC 99)]])]] (.tup [.lst 8 [(nO (c) ++ [nils])], I 0]) := ru tk13 ok44 (y8 (nne (c) (by omega)) (rvd (c) (by omega)) none_t x19 rcm_99_99 rcm_99_99 x15 none_t (y4 x20 rcm_97_97 rcm_97_97 x13 z)) (by kernel_rfl)
theorem ral_2_zn (k : Int) (hk : -19 ≤ k ∧ k ≤ 19) (h2 : k ≠ 0) : R 44 [.lst 8 [(nO (-1) ++ [.lst 11 [(vC 97)]]), (nO 1 ++ [.lst 11 [(vC 99)]])], .lst 8 [(nO (k) ++ [nils]), (nO 1 ++ [.lst 11 [(vC 97)]]), (nO (-1) ++ [.lst 11 [(vC 99)]])]] (.tup [.lst 8 [(nO (k) ++ [nils])], I 0]) := ru tk13 ok44 (y8 (nne (k) (by omega)) (rvd (k) (by omega)) none_t x19 rcm_99_99 rcm_99_99 x15 none_t (y4 x20 rcm_97_97 rcm_97_97 x13 (y (nne (k) (by omega)) z))) (by kernel_rfl)
theorem ral_2_nn (c : Int) (hc : -20 ≤ c ∧ c ≤ 20) (h1 : c ≠ 0) (k : Int) (hk : -19 ≤ k ∧ k ≤ 19) (h2 : k ≠ 0) (h3 : c + k ≠ 0) : R 44 [.lst 8 [(nO (c) ++ [nils]), (nO (-1) ++ [.lst 11 [(vC 97)]]), (nO 1 ++ [.lst 11 [(vC 99)]])], .lst 8 [(nO (k) ++ [nils]), (nO 1 ++ [.lst 11 [(vC 97)]]), (nO (-1) ++ [.lst 11 [(vC 99)]])]] (.tup [.lst 8 [(nO (c + k) ++ [nils])], I 0]) := ru tk13 ok44 (y8 (nne (c + k) (by omega)) (rvd (c + k) (by omega)) none_t x19 rcm_99_99 rcm_99_99 x15 none_t (y4 x20 rcm_97_97 rcm_97_97 x13 (y2 (nne (c + k) (by omega)) (w177 (c) (k) (c + k) (by omega)) (y (nne (k) (by omega)) z)))) (by kernel_rfl)
theorem ral_2_nm (c : Int) (hc : -19 ≤ c ∧ c ≤ 19) (h1 : c ≠ 0) : R 44 [.lst 8 [(nO (c) ++ [nils]), (nO (-1) ++ [.lst 11 [(vC 97)]]), (nO 1 ++ [.lst 11 [(vC 99)]])], .lst 8 [(nO (-c) ++ [nils]), (nO 1 ++ [.lst 11 [(vC 97)]]), (nO (-1) ++ [.lst 11 [(vC 99)]])]] (.tup [.lst 8 [], I 0]) := ru tk13 ok44 (y8 none_t x19 rcm_99_99 rcm_99_99 x15 none_t x20 rcm_97_97 (y4 rcm_97_97 x13 none_t (w177 (c) (-c) 0 (by omega)) (y (nne (-c) (by omega)) z))) (by kernel_rfl)
theorem ral_2 (c k : Int) (hc : -20 ≤ c ∧ c ≤ 20) (hk : -19 ≤ k ∧ k ≤ 19) : R 44 [.lst 8 (pE c [(97, (-1)), (99, 1)]), .lst 8 (pE k [(97, 1), (99, (-1))])] (.tup [.lst 8 (pE (c + k) []), I 0]) := by
  by_cases h1 : c = 0
  · subst h1
    by_cases h2 : k = 0
    · subst h2; exact ral_2_zz
    · rw [Int.zero_add, pE_nz h2, pE_nz h2]; exact ral_2_zn k hk h2
  · by_cases h2 : k = 0
    · subst h2; rw [Int.add_zero, pE_nz h1, pE_nz h1]; exact ral_2_nz c hc h1
    · by_cases h3 : c + k = 0
      · have e : k = -c := by omega
        subst e
        rw [h3, pE_nz h1, pE_nz h2]; exact ral_2_nm c (by omega) h1
      · rw [pE_nz h1, pE_nz h2, pE_nz h3]; exact ral_2_nn c hc h1 k hk h2 h3
theorem ral_3_zz : R 44 [.lst 8 [(nO (-1) ++ [.lst 11 [(vC 97)]]), (nO 1 ++ [.lst 11 [(vC 100)]])], .lst 8 [(nO 1 ++ [.lst 11 [(vC 97)]]), (nO (-1) ++ [.lst 11 [(vC 100)]])]] (.tup [.lst 8 [], I 0]) := ru tk13 ok44 (y8 none_t x19 rcm_100_100 rcm_100_100 x15 none_t x20 rcm_97_97 (y2 rcm_97_97 x13 z)) (by kernel_rfl)
theorem ral_3_nz (c : Int) (hc : -20 ≤ c ∧ c ≤ 20) (h1 : c ≠ 0) : R 44 [.lst 8 [(nO (c) ++ [nils]), (nO (-1) ++ [.lst 11 [(vC 97)]]), (nO 1 ++ [.lst 11 [(vC 100)]])], .lst 8 [(nO 1 ++ [.lst 11 [(vC 97)]]), (nO (-1) ++ [.lst 11 [(vC 100)]])]] (.tup [.lst 8 [(nO (c) ++ [nils])], I 0]) := ru tk13 ok44 (y8 (nne (c) (by omega)) (rvd (c) (by omega)) none_t x19 rcm_100_100 rcm_100_100 x15 none_t (y4 x20 rcm_97_97 rcm_97_97 x13 z)) (by kernel_rfl)
theorem ral_3_zn (k : Int) (hk : -19 ≤ k ∧ k ≤ 19) (h2 : k ≠ 0) : R 44 [.lst 8 [(nO (-1) ++ [.lst 11 [(vC 97)]]), (nO 1 ++ [.lst 11 [(vC 100)]])], .lst 8 [(nO (k) ++ [nils]), (nO 1 ++ [.lst 11 [(vC 97)]]), (nO (-1) ++ [.lst 11 [(vC 100)]])]] (.tup [.lst 8 [(nO (k) ++ [nils])], I 0]) := ru tk13 ok44 (y8 (nne (k) (by omega)) (rvd (k) (by omega)) none_t x19 rcm_100_100 rcm_100_100 x15 none_t (y4 x20 rcm_97_97 rcm_97_97 x13 (y (nne (k) (by omega)) z))) (by kernel_rfl)
theorem ral_3_nn (c : Int) (hc : -20 ≤ c ∧ c ≤ 20) (h1 : c ≠ 0) (k : Int) (hk : -19 ≤ k ∧ k ≤ 19) (h2 : k ≠ 0) (h3 : c + k ≠ 0) : R 44 [.lst 8 [(nO (c) ++ [nils]), (nO (-1) ++ [.lst 11 [(vC 97)]]), (nO 1 ++ [.lst 11 [(vC 100)]])], .lst 8 [(nO (k) ++ [nils]), (nO 1 ++ [.lst 11 [(vC 97)]]), (nO (-1) ++ [.lst 11 [(vC 100)]])]] (.tup [.lst 8 [(nO (c + k) ++ [nils])], I 0]) := ru tk13 ok44 (y8 (nne (c + k) (by omega)) (rvd (c + k) (by omega)) none_t x19 rcm_100_100 rcm_100_100 x15 none_t (y4 x20 rcm_97_97 rcm_97_97 x13 (y2 (nne (c + k) (by omega)) (w177 (c) (k) (c + k) (by omega)) (y (nne (k) (by omega)) z)))) (by kernel_rfl)
theorem ral_3_nm (c : Int) (hc : -19 ≤ c ∧ c ≤ 19) (h1 : c ≠ 0) : R 44 [.lst 8 [(nO (c) ++ [nils]), (nO (-1) ++ [.lst 11 [(vC 97)]]), (nO 1 ++ [.lst 11 [(vC 100)]])], .lst 8 [(nO (-c) ++ [nils]), (nO 1 ++ [.lst 11 [(vC 97)]]), (nO (-1) ++ [.lst 11 [(vC 100)]])]] (.tup [.lst 8 [], I 0]) := ru tk13 ok44 (y8 none_t x19 rcm_100_100 rcm_100_100 x15 none_t x20 rcm_97_97 (y4 rcm_97_97 x13 none_t (w177 (c) (-c) 0 (by omega)) (y (nne (-c) (by omega)) z))) (by kernel_rfl)
theorem ral_3 (c k : Int) (hc : -20 ≤ c ∧ c ≤ 20) (hk : -19 ≤ k ∧ k ≤ 19) : R 44 [.lst 8 (pE c [(97, (-1)), (100, 1)]), .lst 8 (pE k [(97, 1), (100, (-1))])] (.tup [.lst 8 (pE (c + k) []), I 0]) := by
  by_cases h1 : c = 0
  · subst h1
    by_cases h2 : k = 0
    · subst h2; exact ral_3_zz
    · rw [Int.zero_add, pE_nz h2, pE_nz h2]; exact ral_3_zn k hk h2
  · by_cases h2 : k = 0
    · subst h2; rw [Int.add_zero, pE_nz h1, pE_nz h1]; exact ral_3_nz c hc h1
    · by_cases h3 : c + k = 0
      · have e : k = -c := by omega
        subst e
        rw [h3, pE_nz h1, pE_nz h2]; exact ral_3_nm c (by omega) h1
      · rw [pE_nz h1, pE_nz h2, pE_nz h3]; exact ral_3_nn c hc h1 k hk h2 h3
theorem ral_4_zz : R 44 [.lst 8 [(nO (-1) ++ [.lst 11 [(vC 97)]]), (nO 1 ++ [.lst 11 [(vC 101)]])], .lst 8 [(nO 1 ++ [.lst 11 [(vC 97)]]), (nO (-1) ++ [.lst 11 [(vC 101)]])]] (.tup [.lst 8 [], I 0]) := ru tk13 ok44 (y8 none_t x19 rcm_101_101 rcm_101_101 x15 none_t x20 rcm_97_97 (y2 rcm_97_97 x13 z)) (by kernel_rfl)
theorem ral_4_nz (c : Int) (hc : -20 ≤ c ∧ c ≤ 20) (h1 : c ≠ 0) : R 44 [.lst 8 [(nO (c) ++ [nils]), (nO (-1) ++ [.lst 11 [(vC 97)]]), (nO 1 ++ [.lst 11 [(vC 101)]])], .lst 8 [(nO 1 ++ [.lst 11 [(vC 97)]]), (nO (-1) ++ [.lst 11 [(vC 101)]])]] (.tup [.lst 8 [(nO (c) ++ [nils])], I 0]) := ru tk13 ok44 (y8 (nne (c) (by omega)) (rvd (c) (by omega)) none_t x19 rcm_101_101 rcm_101_101 x15 none_t (y4 x20 rcm_97_97 rcm_97_97 x13 z)) (by kernel_rfl)
theorem ral_4_zn (k : Int) (hk : -19 ≤ k ∧ k ≤ 19) (h2 : k ≠ 0) : R 44 [.lst 8 [(nO (-1) ++ [.lst 11 [(vC 97)]]), (nO 1 ++ [.lst 11 [(vC 101)]])], .lst 8 [(nO (k) ++ [nils]), (nO 1 ++ [.lst 11 [(vC 97)]]), (nO (-1) ++ [.lst 11 [(vC 101)]])]] (.tup [.lst 8 [(nO (k) ++ [nils])], I 0]) := ru tk13 ok44 (y8 (nne (k) (by omega)) (rvd (k) (by omega)) none_t x19 rcm_101_101 rcm_101_101 x15 none_t (y4 x20 rcm_97_97 rcm_97_97 x13 (y (nne (k) (by omega)) z))) (by kernel_rfl)
theorem ral_4_nn (c : Int) (hc : -20 ≤ c ∧ c ≤ 20) (h1 : c ≠ 0) (k : Int) (hk : -19 ≤ k ∧ k ≤ 19) (h2 : k ≠ 0) (h3 : c + k ≠ 0) : R 44 [.lst 8 [(nO (c) ++ [nils]), (nO (-1) ++ [.lst 11 [(vC 97)]]), (nO 1 ++ [.lst 11 [(vC 101)]])], .lst 8 [(nO (k) ++ [nils]), (nO 1 ++ [.lst 11 [(vC 97)]]), (nO (-1) ++ [.lst 11 [(vC 101)]])]] (.tup [.lst 8 [(nO (c + k) ++ [nils])], I 0]) := ru tk13 ok44 (y8 (nne (c + k) (by omega)) (rvd (c + k) (by omega)) none_t x19 rcm_101_101 rcm_101_101 x15 none_t (y4 x20 rcm_97_97 rcm_97_97 x13 (y2 (nne (c + k) (by omega)) (w177 (c) (k) (c + k) (by omega)) (y (nne (k) (by omega)) z)))) (by kernel_rfl)
theorem ral_4_nm (c : Int) (hc : -19 ≤ c ∧ c ≤ 19) (h1 : c ≠ 0) : R 44 [.lst 8 [(nO (c) ++ [nils]), (nO (-1) ++ [.lst 11 [(vC 97)]]), (nO 1 ++ [.lst 11 [(vC 101)]])], .lst 8 [(nO (-c) ++ [nils]), (nO 1 ++ [.lst 11 [(vC 97)]]), (nO (-1) ++ [.lst 11 [(vC 101)]])]] (.tup [.lst 8 [], I 0]) := ru tk13 ok44 (y8 none_t x19 rcm_101_101 rcm_101_101 x15 none_t x20 rcm_97_97 (y4 rcm_97_97 x13 none_t (w177 (c) (-c) 0 (by omega)) (y (nne (-c) (by omega)) z))) (by kernel_rfl)
theorem ral_4 (c k : Int) (hc : -20 ≤ c ∧ c ≤ 20) (hk : -19 ≤ k ∧ k ≤ 19) : R 44 [.lst 8 (pE c [(97, (-1)), (101, 1)]), .lst 8 (pE k [(97, 1), (101, (-1))])] (.tup [.lst 8 (pE (c + k) []), I 0]) := by
  by_cases h1 : c = 0
  · subst h1
    by_cases h2 : k = 0
    · subst h2; exact ral_4_zz
    · rw [Int.zero_add, pE_nz h2, pE_nz h2]; exact ral_4_zn k hk h2
  · by_cases h2 : k = 0
    · subst h2; rw [Int.add_zero, pE_nz h1, pE_nz h1]; exact ral_4_nz c hc h1
    · by_cases h3 : c + k = 0
      · have e : k = -c := by omega
        subst e
        rw [h3, pE_nz h1, pE_nz h2]; exact ral_4_nm c (by omega) h1
      · rw [pE_nz h1, pE_nz h2, pE_nz h3]; exact ral_4_nn c hc h1 k hk h2 h3
theorem rco_n (c : Int) (hc : -40 ≤ c ∧ c ≤ 40) (h : c ≠ 0) : R 45 [.lst 8 [(nO (c) ++ [nils])]] (.tup [N (c), Bo true]) := ru tk0 ok45 z (by kernel_rfl)
theorem rco_e : R 45 [.lst 8 []] (.tup [N 0, Bo true]) := ru tk0 ok45 (y x21 z) (by kernel_rfl)
theorem rhs_0_z : R 40 [.agg (aT [110, 111, 116] [(aT [60] [(aT [98, 105, 110, 97, 114, 121, 45, 43] [(cT 0), (vC 97)]), (vC 98)])])] (.tup [.lst 8 [(nO (-1) ++ [.lst 11 [(vC 97)]]), (nO 1 ++ [.lst 11 [(vC 98)]])], I 1, I 0]) := ru tk14 ok40 (y8 rcm_97_98 rva_98 x13 x14 rva_97 x15 x16 rcm_98_97 (y8 rcm_98_97 x15 rva_97 x15 x16 x22 x15 x23 (y8 rva_97 x13 x14 x13 rva_97 x13 x14 x24 (y4 none_t rva_98 x13 x14 (y x24 z))))) (by kernel_rfl)
theorem rhs_0_n (c : Int) (hc : -5 ≤ c ∧ c ≤ 5) (h : c ≠ 0) : R 40 [.agg (aT [110, 111, 116] [(aT [60] [(aT [98, 105, 110, 97, 114, 121, 45, 43] [(cT (c)), (vC 97)]), (vC 98)])])] (.tup [.lst 8 [(nO (-c) ++ [nils]), (nO (-1) ++ [.lst 11 [(vC 97)]]), (nO 1 ++ [.lst 11 [(vC 98)]])], I 1, I 0]) := ru tk15 ok40 (y8 rcm_97_98 rva_98 x13 x14 rva_97 x15 x16 (nne (-c) (by omega)) (y8 (rvd (-c) (by omega)) rcm_98_97 rcm_98_97 x15 (nne (-c) (by omega)) rva_97 x15 x16 (y8 (nne (-c) (by omega)) (rvd (-c) (by omega)) x22 (w109m (c) (-c) (by omega)) x15 x23 rva_97 x13 (y8 x14 (nne (c) (by omega)) (rvd (c) (by omega)) x13 rva_97 x13 x14 x24 (y4 (nne (c) (by omega)) (rvd (c) (by omega)) (nne (c) (by omega)) rva_98 (y2 x13 x14 (y x24 z))))))) (by kernel_rfl)
theorem rhs_0 (c : Int) (hc : -5 ≤ c ∧ c ≤ 5) : R 40 [.agg (litS 97 98 c)] (.tup [.lst 8 (pE (-c) [(97, (-1)), (98, 1)]), I 1, I 0]) := by
  by_cases h : c = 0
  · subst h; exact rhs_0_z
  · rw [pE_nz (c := (-c)) (by omega)]; exact rhs_0_n c hc h
theorem rhn_0_z : R 40 [.agg (aT [60] [(vC 98), (aT [98, 105, 110, 97, 114, 121, 45, 43] [(cT 0), (vC 97)])])] (.tup [.lst 8 [(nO (-1) ++ [.lst 11 [(vC 97)]]), (nO 1 ++ [.lst 11 [(vC 98)]])], I 2, I 0]) := ru tk14 ok40 (y8 rcm_97_98 rva_98 x13 x14 rva_97 x15 x16 rcm_98_97 (y8 rcm_98_97 x15 rva_97 x15 x16 x22 x15 x23 (y8 rva_97 x13 x14 x13 rva_97 x13 x14 x24 (y4 none_t rva_98 x13 x14 (y x24 z))))) (by kernel_rfl)
theorem rhn_0_n (c : Int) (hc : -5 ≤ c ∧ c ≤ 5) (h : c ≠ 0) : R 40 [.agg (aT [60] [(vC 98), (aT [98, 105, 110, 97, 114, 121, 45, 43] [(cT (c)), (vC 97)])])] (.tup [.lst 8 [(nO (-c) ++ [nils]), (nO (-1) ++ [.lst 11 [(vC 97)]]), (nO 1 ++ [.lst 11 [(vC 98)]])], I 2, I 0]) := ru tk15 ok40 (y8 rcm_97_98 rva_98 x13 x14 rva_97 x15 x16 (nne (-c) (by omega)) (y8 (rvd (-c) (by omega)) rcm_98_97 rcm_98_97 x15 (nne (-c) (by omega)) rva_97 x15 x16 (y8 (nne (-c) (by omega)) (rvd (-c) (by omega)) x22 (w109m (c) (-c) (by omega)) x15 x23 rva_97 x13 (y8 x14 (nne (c) (by omega)) (rvd (c) (by omega)) x13 rva_97 x13 x14 x24 (y4 (nne (c) (by omega)) (rvd (c) (by omega)) (nne (c) (by omega)) rva_98 (y2 x13 x14 (y x24 z))))))) (by kernel_rfl)
theorem rhn_0 (c : Int) (hc : -5 ≤ c ∧ c ≤ 5) : R 40 [.agg (litN 97 98 c)] (.tup [.lst 8 (pE (-c) [(97, (-1)), (98, 1)]), I 2, I 0]) := by
  by_cases h : c = 0
  · subst h; exact rhn_0_z
  · rw [pE_nz (c := (-c)) (by omega)]; exact rhn_0_n c hc h
theorem rhs_1_z : R 40 [.agg (aT [110, 111, 116] [(aT [60] [(aT [98, 105, 110, 97, 114, 121, 45, 43] [(cT 0), (vC 98)]), (vC 99)])])] (.tup [.lst 8 [(nO (-1) ++ [.lst 11 [(vC 98)]]), (nO 1 ++ [.lst 11 [(vC 99)]])], I 1, I 0]) := ru tk14 ok40 (y8 rcm_98_99 rva_99 x13 x14 rva_98 x15 x16 rcm_99_98 (y8 rcm_99_98 x15 rva_98 x15 x16 x22 x15 x23 (y8 rva_98 x13 x14 x13 rva_98 x13 x14 x24 (y4 none_t rva_99 x13 x14 (y x24 z))))) (by kernel_rfl)
theorem rhs_1_n (c : Int) (hc : -5 ≤ c ∧ c ≤ 5) (h : c ≠ 0) : R 40 [.agg (aT [110, 111, 116] [(aT [60] [(aT [98, 105, 110, 97, 114, 121, 45, 43] [(cT (c)), (vC 98)]), (vC 99)])])] (.tup [.lst 8 [(nO (-c) ++ [nils]), (nO (-1) ++ [.lst 11 [(vC 98)]]), (nO 1 ++ [.lst 11 [(vC 99)]])], I 1, I 0]) := ru tk15 ok40 (y8 rcm_98_99 rva_99 x13 x14 rva_98 x15 x16 (nne (-c) (by omega)) (y8 (rvd (-c) (by omega)) rcm_99_98 rcm_99_98 x15 (nne (-c) (by omega)) rva_98 x15 x16 (y8 (nne (-c) (by omega)) (rvd (-c) (by omega)) x22 (w109m (c) (-c) (by omega)) x15 x23 rva_98 x13 (y8 x14 (nne (c) (by omega)) (rvd (c) (by omega)) x13 rva_98 x13 x14 x24 (y4 (nne (c) (by omega)) (rvd (c) (by omega)) (nne (c) (by omega)) rva_99 (y2 x13 x14 (y x24 z))))))) (by kernel_rfl)
theorem rhs_1 (c : Int) (hc : -5 ≤ c ∧ c ≤ 5) : R 40 [.agg (litS 98 99 c)] (.tup [.lst 8 (pE (-c) [(98, (-1)), (99, 1)]), I 1, I 0]) := by
  by_cases h : c = 0
  · subst h; exact rhs_1_z
  · rw [pE_nz (c := (-c)) (by omega)]; exact rhs_1_n c hc h
theorem rhn_1_z : R 40 [.agg (aT [60] [(vC 99), (aT [98, 105, 110, 97, 114, 121, 45, 43] [(cT 0), (vC 98)])])] (.tup [.lst 8 [(nO (-1) ++ [.lst 11 [(vC 98)]]), (nO 1 ++ [.lst 11 [(vC 99)]])], I 2, I 0]) := ru tk14 ok40 (y8 rcm_98_99 rva_99 x13 x14 rva_98 x15 x16 rcm_99_98 (y8 rcm_99_98 x15 rva_98 x15 x16 x22 x15 x23 (y8 rva_98 x13 x14 x13 rva_98 x13 x14 x24 (y4 none_t rva_99 x13 x14 (y x24 z))))) (by kernel_rfl)
theorem rhn_1_n (c : Int) (hc : -5 ≤ c ∧ c ≤ 5) (h : c ≠ 0) : R 40 [.agg (aT [60] [(vC 99), (aT [98, 105, 110, 97, 114, 121, 45, 43] [(cT (c)), (vC 98)])])] (.tup [.lst 8 [(nO (-c) ++ [nils]), (nO (-1) ++ [.lst 11 [(vC 98)]]), (nO 1 ++ [.lst 11 [(vC 99)]])], I 2, I 0]) := ru tk15 ok40 (y8 rcm_98_99 rva_99 x13 x14 rva_98 x15 x16 (nne (-c) (by omega)) (y8 (rvd (-c) (by omega)) rcm_99_98 rcm_99_98 x15 (nne (-c) (by omega)) rva_98 x15 x16 (y8 (nne (-c) (by omega)) (rvd (-c) (by omega)) x22 (w109m (c) (-c) (by omega)) x15 x23 rva_98 x13 (y8 x14 (nne (c) (by omega)) (rvd (c) (by omega)) x13 rva_98 x13 x14 x24 (y4 (nne (c) (by omega)) (rvd (c) (by omega)) (nne (c) (by omega)) rva_99 (y2 x13 x14 (y x24 z))))))) (by kernel_rfl)
theorem rhn_1 (c : Int) (hc : -5 ≤ c ∧ c ≤ 5) : R 40 [.agg (litN 98 99 c)] (.tup [.lst 8 (pE (-c) [(98, (-1)), (99, 1)]), I 2, I 0]) := by
  by_cases h : c = 0
  · subst h; exact rhn_1_z
  · rw [pE_nz (c := (-c)) (by omega)]; exact rhn_1_n c hc h
theorem rhs_2_z : R 40 [.agg (aT [110, 111, 116] [(aT [60] [(aT [98, 105, 110, 97, 114, 121, 45, 43] [(cT 0), (vC 99)]), (vC 100)])])] (.tup [.lst 8 [(nO (-1) ++ [.lst 11 [(vC 99)]]), (nO 1 ++ [.lst 11 [(vC 100)]])], I 1, I 0]) := ru tk14 ok40 (y8 rcm_99_100 rva_100 x13 x14 rva_99 x15 x16 rcm_100_99 (y8 rcm_100_99 x15 rva_99 x15 x16 x22 x15 x23 (y8 rva_99 x13 x14 x13 rva_99 x13 x14 x24 (y4 none_t rva_100 x13 x14 (y x24 z))))) (by kernel_rfl)
theorem rhs_2_n (c : Int) (hc : -5 ≤ c ∧ c ≤ 5) (h : c ≠ 0) : R 40 [.agg (aT [110, 111, 116] [(aT [60] [(aT [98, 105, 110, 97, 114, 121, 45, 43] [(cT (c)), (vC 99)]), (vC 100)])])] (.tup [.lst 8 [(nO (-c) ++ [nils]), (nO (-1) ++ [.lst 11 [(vC 99)]]), (nO 1 ++ [.lst 11 [(vC 100)]])], I 1, I 0]) := ru tk15 ok40 (y8 rcm_99_100 rva_100 x13 x14 rva_99 x15 x16 (nne (-c) (by omega)) (y8 (rvd (-c) (by omega)) rcm_100_99 rcm_100_99 x15 (nne (-c) (by omega)) rva_99 x15 x16 (y8 (nne (-c) (by omega)) (rvd (-c) (by omega)) x22 (w109m (c) (-c) (by omega)) x15 x23 rva_99 x13 (y8 x14 (nne (c) (by omega)) (rvd (c) (by omega)) x13 rva_99 x13 x14 x24 (y4 (nne (c) (by omega)) (rvd (c) (by omega)) (nne (c) (by omega)) rva_100 (y2 x13 x14 (y x24 z))))))) (by kernel_rfl)
theorem rhs_2 (c : Int) (hc : -5 ≤ c ∧ c ≤ 5) : R 40 [.agg (litS 99 100 c)] (.tup [.lst 8 (pE (-c) [(99, (-1)), (100, 1)]), I 1, I 0]) := by
  by_cases h : c = 0
  · subst h; exact rhs_2_z
  · rw [pE_nz (c := (-c)) (by omega)]; exact rhs_2_n c hc h
theorem rhn_2_z : R 40 [.agg (aT [60] [(vC 100), (aT [98, 105, 110, 97, 114, 121, 45, 43] [(cT 0), (vC 99)])])] (.tup [.lst 8 [(nO (-1) ++ [.lst 11 [(vC 99)]]), (nO 1 ++ [.lst 11 [(vC 100)]])], I 2, I 0]) := ru tk14 ok40 (y8 rcm_99_100 rva_100 x13 x14 rva_99 x15 x16 rcm_100_99 (y8 rcm_100_99 x15 rva_99 x15 x16 x22 x15 x23 (y8 rva_99 x13 x14 x13 rva_99 x13 x14 x24 (y4 none_t rva_100 x13 x14 (y x24 z))))) (by kernel_rfl)
theorem rhn_2_n (c : Int) (hc : -5 ≤ c ∧ c ≤ 5) (h : c ≠ 0) : R 40 [.agg (aT [60] [(vC 100), (aT [98, 105, 110, 97, 114, 121, 45, 43] [(cT (c)), (vC 99)])])] (.tup [.lst 8 [(nO (-c) ++ [nils]), (nO (-1) ++ [.lst 11 [(vC 99)]]), (nO 1 ++ [.lst 11 [(vC 100)]])], I 2, I 0]) := ru tk15 ok40 (y8 rcm_99_100 rva_100 x13 x14 rva_99 x15 x16 (nne (-c) (by omega)) (y8 (rvd (-c) (by omega)) rcm_100_99 rcm_100_99 x15 (nne (-c) (by omega)) rva_99 x15 x16 (y8 (nne (-c) (by omega)) (rvd (-c) (by omega)) x22 (w109m (c) (-c) (by omega)) x15 x23 rva_99 x13 (y8 x14 (nne (c) (by omega)) (rvd (c) (by omega)) x13 rva_99 x13 x14 x24 (y4 (nne (c) (by omega)) (rvd (c) (by omega)) (nne (c) (by omega)) rva_100 (y2 x13 x14 (y x24 z))))))) (by kernel_rfl)
theorem rhn_2 (c : Int) (hc : -5 ≤ c ∧ c ≤ 5) : R 40 [.agg (litN 99 100 c)] (.tup [.lst 8 (pE (-c) [(99, (-1)), (100, 1)]), I 2, I 0]) := by
  by_cases h : c = 0
  · subst h; exact rhn_2_z
  · rw [pE_nz (c := (-c)) (by omega)]; exact rhn_2_n c hc h
theorem rhs_3_z : R 40 [.agg (aT [110, 111, 116] [(aT [60] [(aT [98, 105, 110, 97, 114, 121, 45, 43] [(cT 0), (vC 100)]), (vC 101)])])] (.tup [.lst 8 [(nO (-1) ++ [.lst 11 [(vC 100)]]), (nO 1 ++ [.lst 11 [(vC 101)]])], I 1, I 0]) := ru tk14 ok40 (y8 rcm_100_101 rva_101 x13 x14 rva_100 x15 x16 rcm_101_100 (y8 rcm_101_100 x15 rva_100 x15 x16 x22 x15 x23 (y8 rva_100 x13 x14 x13 rva_100 x13 x14 x24 (y4 none_t rva_101 x13 x14 (y x24 z))))) (by kernel_rfl)
theorem rhs_3_n (c : Int) (hc : -5 ≤ c ∧ c ≤ 5) (h : c ≠ 0) : R 40 [.agg (aT [110, 111, 116] [(aT [60] [(aT [98, 105, 110, 97, 114, 121, 45, 43] [(cT (c)), (vC 100)]), (vC 101)])])] (.tup [.lst 8 [(nO (-c) ++ [nils]), (nO (-1) ++ [.lst 11 [(vC 100)]]), (nO 1 ++ [.lst 11 [(vC 101)]])], I 1, I 0]) := ru tk15 ok40 (y8 rcm_100_101 rva_101 x13 x14 rva_100 x15 x16 (nne (-c) (by omega)) (y8 (rvd (-c) (by omega)) rcm_101_100 rcm_101_100 x15 (nne (-c) (by omega)) rva_100 x15 x16 (y8 (nne (-c) (by omega)) (rvd (-c) (by omega)) x22 (w109m (c) (-c) (by omega)) x15 x23 rva_100 x13 (y8 x14 (nne (c) (by omega)) (rvd (c) (by omega)) x13 rva_100 x13 x14 x24 (y4 (nne (c) (by omega)) (rvd (c) (by omega)) (nne (c) (by omega)) rva_101 (y2 x13 x14 (y x24 z))))))) (by kernel_rfl)
theorem rhs_3 (c : Int) (hc : -5 ≤ c ∧ c ≤ 5) : R 40 [.agg (litS 100 101 c)] (.tup [.lst 8 (pE (-c) [(100, (-1)), (101, 1)]), I 1, I 0]) := by
  by_cases h : c = 0
  · subst h; exact rhs_3_z
  · rw [pE_nz (c := (-c)) (by omega)]; exact rhs_3_n c hc h
theorem rhn_3_z : R 40 [.agg (aT [60] [(vC 101), (aT [98, 105, 110, 97, 114, 121, 45, 43] [(cT 0), (vC 100)])])] (.tup [.lst 8 [(nO (-1) ++ [.lst 11 [(vC 100)]]), (nO 1 ++ [.lst 11 [(vC 101)]])], I 2, I 0]) := ru tk14 ok40 (y8 rcm_100_101 rva_101 x13 x14 rva_100 x15 x16 rcm_101_100 (y8 rcm_101_100 x15 rva_100 x15 x16 x22 x15 x23 (y8 rva_100 x13 x14 x13 rva_100 x13 x14 x24 (y4 none_t rva_101 x13 x14 (y x24 z))))) (by kernel_rfl)
theorem rhn_3_n (c : Int) (hc : -5 ≤ c ∧ c ≤ 5) (h : c ≠ 0) : R 40 [.agg (aT [60] [(vC 101), (aT [98, 105, 110, 97, 114, 121, 45, 43] [(cT (c)), (vC 100)])])] (.tup [.lst 8 [(nO (-c) ++ [nils]), (nO (-1) ++ [.lst 11 [(vC 100)]]), (nO 1 ++ [.lst 11 [(vC 101)]])], I 2, I 0]) := ru tk15 ok40 (y8 rcm_100_101 rva_101 x13 x14 rva_100 x15 x16 (nne (-c) (by omega)) (y8 (rvd (-c) (by omega)) rcm_101_100 rcm_101_100 x15 (nne (-c) (by omega)) rva_100 x15 x16 (y8 (nne (-c) (by omega)) (rvd (-c) (by omega)) x22 (w109m (c) (-c) (by omega)) x15 x23 rva_100 x13 (y8 x14 (nne (c) (by omega)) (rvd (c) (by omega)) x13 rva_100 x13 x14 x24 (y4 (nne (c) (by omega)) (rvd (c) (by omega)) (nne (c) (by omega)) rva_101 (y2 x13 x14 (y x24 z))))))) (by kernel_rfl)
theorem rhn_3 (c : Int) (hc : -5 ≤ c ∧ c ≤ 5) : R 40 [.agg (litN 100 101 c)] (.tup [.lst 8 (pE (-c) [(100, (-1)), (101, 1)]), I 2, I 0]) := by
  by_cases h : c = 0
  · subst h; exact rhn_3_z
  · rw [pE_nz (c := (-c)) (by omega)]; exact rhn_3_n c hc h
theorem rhl_1_z : R 40 [.agg (aT [60] [(aT [98, 105, 110, 97, 114, 121, 45, 43] [(cT 0), (vC 97)]), (vC 98)])] (.tup [.lst 8 [(nO 1 ++ [.lst 11 [(vC 97)]]), (nO (-1) ++ [.lst 11 [(vC 98)]])], I 2, I 0]) := ru tk16 ok40 (y8 rcm_97_98 rva_98 x15 x16 rva_97 x13 x14 rcm_97_98 (y8 x15 rva_98 x15 x16 x22 x15 x23 rva_98 (y8 x13 x14 x24 rva_97 x13 x14 x13 rva_97 (y4 x13 x14 x24 none_t z)))) (by kernel_rfl)
theorem rhl_1_n (c : Int) (hc : -19 ≤ c ∧ c ≤ 19) (h : c ≠ 0) : R 40 [.agg (aT [60] [(aT [98, 105, 110, 97, 114, 121, 45, 43] [(cT (c)), (vC 97)]), (vC 98)])] (.tup [.lst 8 [(nO (c) ++ [nils]), (nO 1 ++ [.lst 11 [(vC 97)]]), (nO (-1) ++ [.lst 11 [(vC 98)]])], I 2, I 0]) := ru tk17 ok40 (y8 rcm_97_98 rva_98 x15 x16 rva_97 x13 x14 (nne (c) (by omega)) (y8 (rvd (c) (by omega)) rcm_97_98 x15 rva_98 x15 x16 x22 x15 (y8 x23 rva_98 x13 x14 x24 rva_97 x13 x14 (y8 (nne (c) (by omega)) (rvd (c) (by omega)) x13 rva_97 x13 x14 x24 (nne (c) (by omega)) (y2 (rvd (c) (by omega)) (nne (c) (by omega)) z))))) (by kernel_rfl)
theorem rhl_1 (c : Int) (hc : -19 ≤ c ∧ c ≤ 19) : R 40 [.agg (litL 98 c)] (.tup [.lst 8 (pE c [(97, 1), (98, (-1))]), I 2, I 0]) := by
  by_cases h : c = 0
  · subst h; exact rhl_1_z
  · rw [pE_nz (c := c) (by omega)]; exact rhl_1_n c hc h
theorem rhl_2_z : R 40 [.agg (aT [60] [(aT [98, 105, 110, 97, 114, 121, 45, 43] [(cT 0), (vC 97)]), (vC 99)])] (.tup [.lst 8 [(nO 1 ++ [.lst 11 [(vC 97)]]), (nO (-1) ++ [.lst 11 [(vC 99)]])], I 2, I 0]) := ru tk16 ok40 (y8 rcm_97_99 rva_99 x15 x16 rva_97 x13 x14 rcm_97_99 (y8 x15 rva_99 x15 x16 x22 x15 x23 rva_99 (y8 x13 x14 x24 rva_97 x13 x14 x13 rva_97 (y4 x13 x14 x24 none_t z)))) (by kernel_rfl)
theorem rhl_2_n (c : Int) (hc : -19 ≤ c ∧ c ≤ 19) (h : c ≠ 0) : R 40 [.agg (aT [60] [(aT [98, 105, 110, 97, 114, 121, 45, 43] [(cT (c)), (vC 97)]), (vC 99)])] (.tup [.lst 8 [(nO (c) ++ [nils]), (nO 1 ++ [.lst 11 [(vC 97)]]), (nO (-1) ++ [.lst 11 [(vC 99)]])], I 2, I 0]) := ru tk17 ok40 (y8 rcm_97_99 rva_99 x15 x16 rva_97 x13 x14 (nne (c) (by omega)) (y8 (rvd (c) (by omega)) rcm_97_99 x15 rva_99 x15 x16 x22 x15 (y8 x23 rva_99 x13 x14 x24 rva_97 x13 x14 (y8 (nne (c) (by omega)) (rvd (c) (by omega)) x13 rva_97 x13 x14 x24 (nne (c) (by omega)) (y2 (rvd (c) (by omega)) (nne (c) (by omega)) z))))) (by kernel_rfl)
theorem rhl_2 (c : Int) (hc : -19 ≤ c ∧ c ≤ 19) : R 40 [.agg (litL 99 c)] (.tup [.lst 8 (pE c [(97, 1), (99, (-1))]), I 2, I 0]) := by
  by_cases h : c = 0
  · subst h; exact rhl_2_z
  · rw [pE_nz (c := c) (by omega)]; exact rhl_2_n c hc h
theorem rhl_3_z : R 40 [.agg (aT [60] [(aT [98, 105, 110, 97, 114, 121, 45, 43] [(cT 0), (vC 97)]), (vC 100)])] (.tup [.lst 8 [(nO 1 ++ [.lst 11 [(vC 97)]]), (nO (-1) ++ [.lst 11 [(vC 100)]])], I 2, I 0]) := ru tk16 ok40 (y8 rcm_97_100 rva_100 x15 x16 rva_97 x13 x14 rcm_97_100 (y8 x15 rva_100 x15 x16 x22 x15 x23 rva_100 (y8 x13 x14 x24 rva_97 x13 x14 x13 rva_97 (y4 x13 x14 x24 none_t z)))) (by kernel_rfl)
theorem rhl_3_n (c : Int) (hc : -19 ≤ c ∧ c ≤ 19) (h : c ≠ 0) : R 40 [.agg (aT [60] [(aT [98, 105, 110, 97, 114, 121, 45, 43] [(cT (c)), (vC 97)]), (vC 100)])] (.tup [.lst 8 [(nO (c) ++ [nils]), (nO 1 ++ [.lst 11 [(vC 97)]]), (nO (-1) ++ [.lst 11 [(vC 100)]])], I 2, I 0]) := ru tk17 ok40 (y8 rcm_97_100 rva_100 x15 x16 rva_97 x13 x14 (nne (c) (by omega)) (y8 (rvd (c) (by omega)) rcm_97_100 x15 rva_100 x15 x16 x22 x15 (y8 x23 rva_100 x13 x14 x24 rva_97 x13 x14 (y8 (nne (c) (by omega)) (rvd (c) (by omega)) x13 rva_97 x13 x14 x24 (nne (c) (by omega)) (y2 (rvd (c) (by omega)) (nne (c) (by omega)) z))))) (by kernel_rfl)
theorem rhl_3 (c : Int) (hc : -19 ≤ c ∧ c ≤ 19) : R 40 [.agg (litL 100 c)] (.tup [.lst 8 (pE c [(97, 1), (100, (-1))]), I 2, I 0]) := by
  by_cases h : c = 0
  · subst h; exact rhl_3_z
  · rw [pE_nz (c := c) (by omega)]; exact rhl_3_n c hc h
theorem rhl_4_z : R 40 [.agg (aT [60] [(aT [98, 105, 110, 97, 114, 121, 45, 43] [(cT 0), (vC 97)]), (vC 101)])] (.tup [.lst 8 [(nO 1 ++ [.lst 11 [(vC 97)]]), (nO (-1) ++ [.lst 11 [(vC 101)]])], I 2, I 0]) := ru tk16 ok40 (y8 rcm_97_101 rva_101 x15 x16 rva_97 x13 x14 rcm_97_101 (y8 x15 rva_101 x15 x16 x22 x15 x23 rva_101 (y8 x13 x14 x24 rva_97 x13 x14 x13 rva_97 (y4 x13 x14 x24 none_t z)))) (by kernel_rfl)
theorem rhl_4_n (c : Int) (hc : -19 ≤ c ∧ c ≤ 19) (h : c ≠ 0) : R 40 [.agg (aT [60] [(aT [98, 105, 110, 97, 114, 121, 45, 43] [(cT (c)), (vC 97)]), (vC 101)])] (.tup [.lst 8 [(nO (c) ++ [nils]), (nO 1 ++ [.lst 11 [(vC 97)]]), (nO (-1) ++ [.lst 11 [(vC 101)]])], I 2, I 0]) := ru tk17 ok40 (y8 rcm_97_101 rva_101 x15 x16 rva_97 x13 x14 (nne (c) (by omega)) (y8 (rvd (c) (by omega)) rcm_97_101 x15 rva_101 x15 x16 x22 x15 (y8 x23 rva_101 x13 x14 x24 rva_97 x13 x14 (y8 (nne (c) (by omega)) (rvd (c) (by omega)) x13 rva_97 x13 x14 x24 (nne (c) (by omega)) (y2 (rvd (c) (by omega)) (nne (c) (by omega)) z))))) (by kernel_rfl)
theorem rhl_4 (c : Int) (hc : -19 ≤ c ∧ c ≤ 19) : R 40 [.agg (litL 101 c)] (.tup [.lst 8 (pE c [(97, 1), (101, (-1))]), I 2, I 0]) := by
  by_cases h : c = 0
  · subst h; exact rhl_4_z
  · rw [pE_nz (c := c) (by omega)]; exact rhl_4_n c hc h

end Go.Proofs.YthiipifjdfmblaaGreatDoor

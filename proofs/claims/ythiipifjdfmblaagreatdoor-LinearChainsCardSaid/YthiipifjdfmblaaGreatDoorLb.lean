/- The atoms of rows. Made by a program: each contract comes of a run of the function's body. -/
import Derived.Test.YthiipifjdfmblaaGreatDoorL
set_option linter.unusedVariables false
set_option linter.unusedSimpArgs false
namespace Go.Proofs.YthiipifjdfmblaaGreatDoor
open Go Go.Pf Go.RowKit
set_option maxRecDepth 100000
theorem at_1_0_0 (s0 : Bool) (s : Bool) : R 167 [.lst 4 [(rowQ (.lst 8 (pV [(97, (-1)), (98, 1)])) s0 [1, 0]), (rowQ (.lst 8 (pV [(97, 1), (98, (-1))])) s [0, 1])]] (.lst 1 [[.lst 11 [(vC 97)]], [.lst 11 [(vC 98)]]]) := ru tk8 ok167 z (by kernel_rfl)
theorem at_1_0_1 (k0 : Int) (s0 : Bool) (s : Bool) : R 167 [.lst 4 [(rowQ (.lst 8 (pC (k0) [(97, (-1)), (98, 1)])) s0 [1, 0]), (rowQ (.lst 8 (pV [(97, 1), (98, (-1))])) s [0, 1])]] (.lst 1 [[.lst 11 [(vC 97)]], [.lst 11 [(vC 98)]]]) := ru tk8 ok167 z (by kernel_rfl)
theorem at_1_0_2 (c : Int) (s0 : Bool) (s : Bool) : R 167 [.lst 4 [(rowQ (.lst 8 (pV [(97, (-1)), (98, 1)])) s0 [1, 0]), (rowQ (.lst 8 (pC (c) [(97, 1), (98, (-1))])) s [0, 1])]] (.lst 1 [[.lst 11 [(vC 97)]], [.lst 11 [(vC 98)]]]) := ru tk8 ok167 z (by kernel_rfl)
theorem at_1_0_3 (k0 : Int) (c : Int) (s0 : Bool) (s : Bool) : R 167 [.lst 4 [(rowQ (.lst 8 (pC (k0) [(97, (-1)), (98, 1)])) s0 [1, 0]), (rowQ (.lst 8 (pC (c) [(97, 1), (98, (-1))])) s [0, 1])]] (.lst 1 [[.lst 11 [(vC 97)]], [.lst 11 [(vC 98)]]]) := ru tk8 ok167 z (by kernel_rfl)
theorem at_1_0 (k0 : Int) (c : Int) (s0 : Bool) (s : Bool) : R 167 [.lst 4 [rowP k0 [(97, (-1)), (98, 1)] s0 [1, 0], rowP c [(97, 1), (98, (-1))] s [0, 1]]] (.lst 1 [[.lst 11 [vC 97]], [.lst 11 [vC 98]]]) := by
  unfold rowP
  by_cases h0 : k0 = 0
  · subst h0
    by_cases h1 : c = 0
    · subst h1
      exact at_1_0_0 s0 s
    · rw [pE_nz h1]
      exact at_1_0_2 c s0 s
  · rw [pE_nz h0]
    by_cases h1 : c = 0
    · subst h1
      exact at_1_0_1 k0 s0 s
    · rw [pE_nz h1]
      exact at_1_0_3 k0 c s0 s
theorem at_1_f_n (c : Int) (s : Bool) : R 167 [.lst 4 [(rowQ (.lst 8 (pC (c) [])) s [1, 1])]] (nils) := ru tk0 ok167 z (by kernel_rfl)
theorem at_1_f_z (s : Bool) : R 167 [.lst 4 [(rowQ (nils) s [1, 1])]] (nils) := ru tk0 ok167 z (by kernel_rfl)
theorem at_2_0_0 (s0 : Bool) (s1 : Bool) (s : Bool) : R 167 [.lst 4 [(rowQ (.lst 8 (pV [(97, (-1)), (98, 1)])) s0 [1, 0, 0]), (rowQ (.lst 8 (pV [(98, (-1)), (99, 1)])) s1 [0, 1, 0]), (rowQ (.lst 8 (pV [(97, 1), (99, (-1))])) s [0, 0, 1])]] (.lst 1 [[.lst 11 [(vC 97)]], [.lst 11 [(vC 98)]], [.lst 11 [(vC 99)]]]) := ru tk8 ok167 z (by kernel_rfl)
theorem at_2_0_1 (k0 : Int) (s0 : Bool) (s1 : Bool) (s : Bool) : R 167 [.lst 4 [(rowQ (.lst 8 (pC (k0) [(97, (-1)), (98, 1)])) s0 [1, 0, 0]), (rowQ (.lst 8 (pV [(98, (-1)), (99, 1)])) s1 [0, 1, 0]), (rowQ (.lst 8 (pV [(97, 1), (99, (-1))])) s [0, 0, 1])]] (.lst 1 [[.lst 11 [(vC 97)]], [.lst 11 [(vC 98)]], [.lst 11 [(vC 99)]]]) := ru tk8 ok167 z (by kernel_rfl)
theorem at_2_0_2 (k1 : Int) (s0 : Bool) (s1 : Bool) (s : Bool) : R 167 [.lst 4 [(rowQ (.lst 8 (pV [(97, (-1)), (98, 1)])) s0 [1, 0, 0]), (rowQ (.lst 8 (pC (k1) [(98, (-1)), (99, 1)])) s1 [0, 1, 0]), (rowQ (.lst 8 (pV [(97, 1), (99, (-1))])) s [0, 0, 1])]] (.lst 1 [[.lst 11 [(vC 97)]], [.lst 11 [(vC 98)]], [.lst 11 [(vC 99)]]]) := ru tk8 ok167 z (by kernel_rfl)
theorem at_2_0_3 (k0 : Int) (k1 : Int) (s0 : Bool) (s1 : Bool) (s : Bool) : R 167 [.lst 4 [(rowQ (.lst 8 (pC (k0) [(97, (-1)), (98, 1)])) s0 [1, 0, 0]), (rowQ (.lst 8 (pC (k1) [(98, (-1)), (99, 1)])) s1 [0, 1, 0]), (rowQ (.lst 8 (pV [(97, 1), (99, (-1))])) s [0, 0, 1])]] (.lst 1 [[.lst 11 [(vC 97)]], [.lst 11 [(vC 98)]], [.lst 11 [(vC 99)]]]) := ru tk8 ok167 z (by kernel_rfl)
theorem at_2_0_4 (c : Int) (s0 : Bool) (s1 : Bool) (s : Bool) : R 167 [.lst 4 [(rowQ (.lst 8 (pV [(97, (-1)), (98, 1)])) s0 [1, 0, 0]), (rowQ (.lst 8 (pV [(98, (-1)), (99, 1)])) s1 [0, 1, 0]), (rowQ (.lst 8 (pC (c) [(97, 1), (99, (-1))])) s [0, 0, 1])]] (.lst 1 [[.lst 11 [(vC 97)]], [.lst 11 [(vC 98)]], [.lst 11 [(vC 99)]]]) := ru tk8 ok167 z (by kernel_rfl)
theorem at_2_0_5 (k0 : Int) (c : Int) (s0 : Bool) (s1 : Bool) (s : Bool) : R 167 [.lst 4 [(rowQ (.lst 8 (pC (k0) [(97, (-1)), (98, 1)])) s0 [1, 0, 0]), (rowQ (.lst 8 (pV [(98, (-1)), (99, 1)])) s1 [0, 1, 0]), (rowQ (.lst 8 (pC (c) [(97, 1), (99, (-1))])) s [0, 0, 1])]] (.lst 1 [[.lst 11 [(vC 97)]], [.lst 11 [(vC 98)]], [.lst 11 [(vC 99)]]]) := ru tk8 ok167 z (by kernel_rfl)
theorem at_2_0_6 (k1 : Int) (c : Int) (s0 : Bool) (s1 : Bool) (s : Bool) : R 167 [.lst 4 [(rowQ (.lst 8 (pV [(97, (-1)), (98, 1)])) s0 [1, 0, 0]), (rowQ (.lst 8 (pC (k1) [(98, (-1)), (99, 1)])) s1 [0, 1, 0]), (rowQ (.lst 8 (pC (c) [(97, 1), (99, (-1))])) s [0, 0, 1])]] (.lst 1 [[.lst 11 [(vC 97)]], [.lst 11 [(vC 98)]], [.lst 11 [(vC 99)]]]) := ru tk8 ok167 z (by kernel_rfl)
theorem at_2_0_7 (k0 : Int) (k1 : Int) (c : Int) (s0 : Bool) (s1 : Bool) (s : Bool) : R 167 [.lst 4 [(rowQ (.lst 8 (pC (k0) [(97, (-1)), (98, 1)])) s0 [1, 0, 0]), (rowQ (.lst 8 (pC (k1) [(98, (-1)), (99, 1)])) s1 [0, 1, 0]), (rowQ (.lst 8 (pC (c) [(97, 1), (99, (-1))])) s [0, 0, 1])]] (.lst 1 [[.lst 11 [(vC 97)]], [.lst 11 [(vC 98)]], [.lst 11 [(vC 99)]]]) := ru tk8 ok167 z (by kernel_rfl)
theorem at_2_0 (k0 : Int) (k1 : Int) (c : Int) (s0 : Bool) (s1 : Bool) (s : Bool) : R 167 [.lst 4 [rowP k0 [(97, (-1)), (98, 1)] s0 [1, 0, 0], rowP k1 [(98, (-1)), (99, 1)] s1 [0, 1, 0], rowP c [(97, 1), (99, (-1))] s [0, 0, 1]]] (.lst 1 [[.lst 11 [vC 97]], [.lst 11 [vC 98]], [.lst 11 [vC 99]]]) := by
  unfold rowP
  by_cases h0 : k0 = 0
  · subst h0
    by_cases h1 : k1 = 0
    · subst h1
      by_cases h2 : c = 0
      · subst h2
        exact at_2_0_0 s0 s1 s
      · rw [pE_nz h2]
        exact at_2_0_4 c s0 s1 s
    · rw [pE_nz h1]
      by_cases h2 : c = 0
      · subst h2
        exact at_2_0_2 k1 s0 s1 s
      · rw [pE_nz h2]
        exact at_2_0_6 k1 c s0 s1 s
  · rw [pE_nz h0]
    by_cases h1 : k1 = 0
    · subst h1
      by_cases h2 : c = 0
      · subst h2
        exact at_2_0_1 k0 s0 s1 s
      · rw [pE_nz h2]
        exact at_2_0_5 k0 c s0 s1 s
    · rw [pE_nz h1]
      by_cases h2 : c = 0
      · subst h2
        exact at_2_0_3 k0 k1 s0 s1 s
      · rw [pE_nz h2]
        exact at_2_0_7 k0 k1 c s0 s1 s
theorem at_2_1_0 (s1 : Bool) (s : Bool) : R 167 [.lst 4 [(rowQ (.lst 8 (pV [(98, (-1)), (99, 1)])) s1 [0, 1, 0]), (rowQ (.lst 8 (pV [(98, 1), (99, (-1))])) s [1, 0, 1])]] (.lst 1 [[.lst 11 [(vC 98)]], [.lst 11 [(vC 99)]]]) := ru tk8 ok167 z (by kernel_rfl)
theorem at_2_1_1 (k1 : Int) (s1 : Bool) (s : Bool) : R 167 [.lst 4 [(rowQ (.lst 8 (pC (k1) [(98, (-1)), (99, 1)])) s1 [0, 1, 0]), (rowQ (.lst 8 (pV [(98, 1), (99, (-1))])) s [1, 0, 1])]] (.lst 1 [[.lst 11 [(vC 98)]], [.lst 11 [(vC 99)]]]) := ru tk8 ok167 z (by kernel_rfl)
theorem at_2_1_2 (c : Int) (s1 : Bool) (s : Bool) : R 167 [.lst 4 [(rowQ (.lst 8 (pV [(98, (-1)), (99, 1)])) s1 [0, 1, 0]), (rowQ (.lst 8 (pC (c) [(98, 1), (99, (-1))])) s [1, 0, 1])]] (.lst 1 [[.lst 11 [(vC 98)]], [.lst 11 [(vC 99)]]]) := ru tk8 ok167 z (by kernel_rfl)
theorem at_2_1_3 (k1 : Int) (c : Int) (s1 : Bool) (s : Bool) : R 167 [.lst 4 [(rowQ (.lst 8 (pC (k1) [(98, (-1)), (99, 1)])) s1 [0, 1, 0]), (rowQ (.lst 8 (pC (c) [(98, 1), (99, (-1))])) s [1, 0, 1])]] (.lst 1 [[.lst 11 [(vC 98)]], [.lst 11 [(vC 99)]]]) := ru tk8 ok167 z (by kernel_rfl)
theorem at_2_1 (k1 : Int) (c : Int) (s1 : Bool) (s : Bool) : R 167 [.lst 4 [rowP k1 [(98, (-1)), (99, 1)] s1 [0, 1, 0], rowP c [(98, 1), (99, (-1))] s [1, 0, 1]]] (.lst 1 [[.lst 11 [vC 98]], [.lst 11 [vC 99]]]) := by
  unfold rowP
  by_cases h0 : k1 = 0
  · subst h0
    by_cases h1 : c = 0
    · subst h1
      exact at_2_1_0 s1 s
    · rw [pE_nz h1]
      exact at_2_1_2 c s1 s
  · rw [pE_nz h0]
    by_cases h1 : c = 0
    · subst h1
      exact at_2_1_1 k1 s1 s
    · rw [pE_nz h1]
      exact at_2_1_3 k1 c s1 s
theorem at_2_f_n (c : Int) (s : Bool) : R 167 [.lst 4 [(rowQ (.lst 8 (pC (c) [])) s [1, 1, 1])]] (nils) := ru tk0 ok167 z (by kernel_rfl)
theorem at_2_f_z (s : Bool) : R 167 [.lst 4 [(rowQ (nils) s [1, 1, 1])]] (nils) := ru tk0 ok167 z (by kernel_rfl)
theorem at_3_0_0 (s0 : Bool) (s1 : Bool) (s2 : Bool) (s : Bool) : R 167 [.lst 4 [(rowQ (.lst 8 (pV [(97, (-1)), (98, 1)])) s0 [1, 0, 0, 0]), (rowQ (.lst 8 (pV [(98, (-1)), (99, 1)])) s1 [0, 1, 0, 0]), (rowQ (.lst 8 (pV [(99, (-1)), (100, 1)])) s2 [0, 0, 1, 0]), (rowQ (.lst 8 (pV [(97, 1), (100, (-1))])) s [0, 0, 0, 1])]] (.lst 1 [[.lst 11 [(vC 97)]], [.lst 11 [(vC 98)]], [.lst 11 [(vC 99)]], [.lst 11 [(vC 100)]]]) := ru tk8 ok167 z (by kernel_rfl)
theorem at_3_0_1 (k0 : Int) (s0 : Bool) (s1 : Bool) (s2 : Bool) (s : Bool) : R 167 [.lst 4 [(rowQ (.lst 8 (pC (k0) [(97, (-1)), (98, 1)])) s0 [1, 0, 0, 0]), (rowQ (.lst 8 (pV [(98, (-1)), (99, 1)])) s1 [0, 1, 0, 0]), (rowQ (.lst 8 (pV [(99, (-1)), (100, 1)])) s2 [0, 0, 1, 0]), (rowQ (.lst 8 (pV [(97, 1), (100, (-1))])) s [0, 0, 0, 1])]] (.lst 1 [[.lst 11 [(vC 97)]], [.lst 11 [(vC 98)]], [.lst 11 [(vC 99)]], [.lst 11 [(vC 100)]]]) := ru tk8 ok167 z (by kernel_rfl)
theorem at_3_0_2 (k1 : Int) (s0 : Bool) (s1 : Bool) (s2 : Bool) (s : Bool) : R 167 [.lst 4 [(rowQ (.lst 8 (pV [(97, (-1)), (98, 1)])) s0 [1, 0, 0, 0]), (rowQ (.lst 8 (pC (k1) [(98, (-1)), (99, 1)])) s1 [0, 1, 0, 0]), (rowQ (.lst 8 (pV [(99, (-1)), (100, 1)])) s2 [0, 0, 1, 0]), (rowQ (.lst 8 (pV [(97, 1), (100, (-1))])) s [0, 0, 0, 1])]] (.lst 1 [[.lst 11 [(vC 97)]], [.lst 11 [(vC 98)]], [.lst 11 [(vC 99)]], [.lst 11 [(vC 100)]]]) := ru tk8 ok167 z (by kernel_rfl)
theorem at_3_0_3 (k0 : Int) (k1 : Int) (s0 : Bool) (s1 : Bool) (s2 : Bool) (s : Bool) : R 167 [.lst 4 [(rowQ (.lst 8 (pC (k0) [(97, (-1)), (98, 1)])) s0 [1, 0, 0, 0]), (rowQ (.lst 8 (pC (k1) [(98, (-1)), (99, 1)])) s1 [0, 1, 0, 0]), (rowQ (.lst 8 (pV [(99, (-1)), (100, 1)])) s2 [0, 0, 1, 0]), (rowQ (.lst 8 (pV [(97, 1), (100, (-1))])) s [0, 0, 0, 1])]] (.lst 1 [[.lst 11 [(vC 97)]], [.lst 11 [(vC 98)]], [.lst 11 [(vC 99)]], [.lst 11 [(vC 100)]]]) := ru tk8 ok167 z (by kernel_rfl)
theorem at_3_0_4 (k2 : Int) (s0 : Bool) (s1 : Bool) (s2 : Bool) (s : Bool) : R 167 [.lst 4 [(rowQ (.lst 8 (pV [(97, (-1)), (98, 1)])) s0 [1, 0, 0, 0]), (rowQ (.lst 8 (pV [(98, (-1)), (99, 1)])) s1 [0, 1, 0, 0]), (rowQ (.lst 8 (pC (k2) [(99, (-1)), (100, 1)])) s2 [0, 0, 1, 0]), (rowQ (.lst 8 (pV [(97, 1), (100, (-1))])) s [0, 0, 0, 1])]] (.lst 1 [[.lst 11 [(vC 97)]], [.lst 11 [(vC 98)]], [.lst 11 [(vC 99)]], [.lst 11 [(vC 100)]]]) := ru tk8 ok167 z (by kernel_rfl)
theorem at_3_0_5 (k0 : Int) (k2 : Int) (s0 : Bool) (s1 : Bool) (s2 : Bool) (s : Bool) : R 167 [.lst 4 [(rowQ (.lst 8 (pC (k0) [(97, (-1)), (98, 1)])) s0 [1, 0, 0, 0]), (rowQ (.lst 8 (pV [(98, (-1)), (99, 1)])) s1 [0, 1, 0, 0]), (rowQ (.lst 8 (pC (k2) [(99, (-1)), (100, 1)])) s2 [0, 0, 1, 0]), (rowQ (.lst 8 (pV [(97, 1), (100, (-1))])) s [0, 0, 0, 1])]] (.lst 1 [[.lst 11 [(vC 97)]], [.lst 11 [(vC 98)]], [.lst 11 [(vC 99)]], [.lst 11 [(vC 100)]]]) := ru tk8 ok167 z (by kernel_rfl)
theorem at_3_0_6 (k1 : Int) (k2 : Int) (s0 : Bool) (s1 : Bool) (s2 : Bool) (s : Bool) : R 167 [.lst 4 [(rowQ (.lst 8 (pV [(97, (-1)), (98, 1)])) s0 [1, 0, 0, 0]), (rowQ (.lst 8 (pC (k1) [(98, (-1)), (99, 1)])) s1 [0, 1, 0, 0]), (rowQ (.lst 8 (pC (k2) [(99, (-1)), (100, 1)])) s2 [0, 0, 1, 0]), (rowQ (.lst 8 (pV [(97, 1), (100, (-1))])) s [0, 0, 0, 1])]] (.lst 1 [[.lst 11 [(vC 97)]], [.lst 11 [(vC 98)]], [.lst 11 [(vC 99)]], [.lst 11 [(vC 100)]]]) := ru tk8 ok167 z (by kernel_rfl)
theorem at_3_0_7 (k0 : Int) (k1 : Int) (k2 : Int) (s0 : Bool) (s1 : Bool) (s2 : Bool) (s : Bool) : R 167 [.lst 4 [(rowQ (.lst 8 (pC (k0) [(97, (-1)), (98, 1)])) s0 [1, 0, 0, 0]), (rowQ (.lst 8 (pC (k1) [(98, (-1)), (99, 1)])) s1 [0, 1, 0, 0]), (rowQ (.lst 8 (pC (k2) [(99, (-1)), (100, 1)])) s2 [0, 0, 1, 0]), (rowQ (.lst 8 (pV [(97, 1), (100, (-1))])) s [0, 0, 0, 1])]] (.lst 1 [[.lst 11 [(vC 97)]], [.lst 11 [(vC 98)]], [.lst 11 [(vC 99)]], [.lst 11 [(vC 100)]]]) := ru tk8 ok167 z (by kernel_rfl)
theorem at_3_0_8 (c : Int) (s0 : Bool) (s1 : Bool) (s2 : Bool) (s : Bool) : R 167 [.lst 4 [(rowQ (.lst 8 (pV [(97, (-1)), (98, 1)])) s0 [1, 0, 0, 0]), (rowQ (.lst 8 (pV [(98, (-1)), (99, 1)])) s1 [0, 1, 0, 0]), (rowQ (.lst 8 (pV [(99, (-1)), (100, 1)])) s2 [0, 0, 1, 0]), (rowQ (.lst 8 (pC (c) [(97, 1), (100, (-1))])) s [0, 0, 0, 1])]] (.lst 1 [[.lst 11 [(vC 97)]], [.lst 11 [(vC 98)]], [.lst 11 [(vC 99)]], [.lst 11 [(vC 100)]]]) := ru tk8 ok167 z (by kernel_rfl)
theorem at_3_0_9 (k0 : Int) (c : Int) (s0 : Bool) (s1 : Bool) (s2 : Bool) (s : Bool) : R 167 [.lst 4 [(rowQ (.lst 8 (pC (k0) [(97, (-1)), (98, 1)])) s0 [1, 0, 0, 0]), (rowQ (.lst 8 (pV [(98, (-1)), (99, 1)])) s1 [0, 1, 0, 0]), (rowQ (.lst 8 (pV [(99, (-1)), (100, 1)])) s2 [0, 0, 1, 0]), (rowQ (.lst 8 (pC (c) [(97, 1), (100, (-1))])) s [0, 0, 0, 1])]] (.lst 1 [[.lst 11 [(vC 97)]], [.lst 11 [(vC 98)]], [.lst 11 [(vC 99)]], [.lst 11 [(vC 100)]]]) := ru tk8 ok167 z (by kernel_rfl)
theorem at_3_0_10 (k1 : Int) (c : Int) (s0 : Bool) (s1 : Bool) (s2 : Bool) (s : Bool) : R 167 [.lst 4 [(rowQ (.lst 8 (pV [(97, (-1)), (98, 1)])) s0 [1, 0, 0, 0]), (rowQ (.lst 8 (pC (k1) [(98, (-1)), (99, 1)])) s1 [0, 1, 0, 0]), (rowQ (.lst 8 (pV [(99, (-1)), (100, 1)])) s2 [0, 0, 1, 0]), (rowQ (.lst 8 (pC (c) [(97, 1), (100, (-1))])) s [0, 0, 0, 1])]] (.lst 1 [[.lst 11 [(vC 97)]], [.lst 11 [(vC 98)]], [.lst 11 [(vC 99)]], [.lst 11 [(vC 100)]]]) := ru tk8 ok167 z (by kernel_rfl)
theorem at_3_0_11 (k0 : Int) (k1 : Int) (c : Int) (s0 : Bool) (s1 : Bool) (s2 : Bool) (s : Bool) : R 167 [.lst 4 [(rowQ (.lst 8 (pC (k0) [(97, (-1)), (98, 1)])) s0 [1, 0, 0, 0]), (rowQ (.lst 8 (pC (k1) [(98, (-1)), (99, 1)])) s1 [0, 1, 0, 0]), (rowQ (.lst 8 (pV [(99, (-1)), (100, 1)])) s2 [0, 0, 1, 0]), (rowQ (.lst 8 (pC (c) [(97, 1), (100, (-1))])) s [0, 0, 0, 1])]] (.lst 1 [[.lst 11 [(vC 97)]], [.lst 11 [(vC 98)]], [.lst 11 [(vC 99)]], [.lst 11 [(vC 100)]]]) := ru tk8 ok167 z (by kernel_rfl)
theorem at_3_0_12 (k2 : Int) (c : Int) (s0 : Bool) (s1 : Bool) (s2 : Bool) (s : Bool) : R 167 [.lst 4 [(rowQ (.lst 8 (pV [(97, (-1)), (98, 1)])) s0 [1, 0, 0, 0]), (rowQ (.lst 8 (pV [(98, (-1)), (99, 1)])) s1 [0, 1, 0, 0]), (rowQ (.lst 8 (pC (k2) [(99, (-1)), (100, 1)])) s2 [0, 0, 1, 0]), (rowQ (.lst 8 (pC (c) [(97, 1), (100, (-1))])) s [0, 0, 0, 1])]] (.lst 1 [[.lst 11 [(vC 97)]], [.lst 11 [(vC 98)]], [.lst 11 [(vC 99)]], [.lst 11 [(vC 100)]]]) := ru tk8 ok167 z (by kernel_rfl)
theorem at_3_0_13 (k0 : Int) (k2 : Int) (c : Int) (s0 : Bool) (s1 : Bool) (s2 : Bool) (s : Bool) : R 167 [.lst 4 [(rowQ (.lst 8 (pC (k0) [(97, (-1)), (98, 1)])) s0 [1, 0, 0, 0]), (rowQ (.lst 8 (pV [(98, (-1)), (99, 1)])) s1 [0, 1, 0, 0]), (rowQ (.lst 8 (pC (k2) [(99, (-1)), (100, 1)])) s2 [0, 0, 1, 0]), (rowQ (.lst 8 (pC (c) [(97, 1), (100, (-1))])) s [0, 0, 0, 1])]] (.lst 1 [[.lst 11 [(vC 97)]], [.lst 11 [(vC 98)]], [.lst 11 [(vC 99)]], [.lst 11 [(vC 100)]]]) := ru tk8 ok167 z (by kernel_rfl)
theorem at_3_0_14 (k1 : Int) (k2 : Int) (c : Int) (s0 : Bool) (s1 : Bool) (s2 : Bool) (s : Bool) : R 167 [.lst 4 [(rowQ (.lst 8 (pV [(97, (-1)), (98, 1)])) s0 [1, 0, 0, 0]), (rowQ (.lst 8 (pC (k1) [(98, (-1)), (99, 1)])) s1 [0, 1, 0, 0]), (rowQ (.lst 8 (pC (k2) [(99, (-1)), (100, 1)])) s2 [0, 0, 1, 0]), (rowQ (.lst 8 (pC (c) [(97, 1), (100, (-1))])) s [0, 0, 0, 1])]] (.lst 1 [[.lst 11 [(vC 97)]], [.lst 11 [(vC 98)]], [.lst 11 [(vC 99)]], [.lst 11 [(vC 100)]]]) := ru tk8 ok167 z (by kernel_rfl)
theorem at_3_0_15 (k0 : Int) (k1 : Int) (k2 : Int) (c : Int) (s0 : Bool) (s1 : Bool) (s2 : Bool) (s : Bool) : R 167 [.lst 4 [(rowQ (.lst 8 (pC (k0) [(97, (-1)), (98, 1)])) s0 [1, 0, 0, 0]), (rowQ (.lst 8 (pC (k1) [(98, (-1)), (99, 1)])) s1 [0, 1, 0, 0]), (rowQ (.lst 8 (pC (k2) [(99, (-1)), (100, 1)])) s2 [0, 0, 1, 0]), (rowQ (.lst 8 (pC (c) [(97, 1), (100, (-1))])) s [0, 0, 0, 1])]] (.lst 1 [[.lst 11 [(vC 97)]], [.lst 11 [(vC 98)]], [.lst 11 [(vC 99)]], [.lst 11 [(vC 100)]]]) := ru tk8 ok167 z (by kernel_rfl)
theorem at_3_0 (k0 : Int) (k1 : Int) (k2 : Int) (c : Int) (s0 : Bool) (s1 : Bool) (s2 : Bool) (s : Bool) : R 167 [.lst 4 [rowP k0 [(97, (-1)), (98, 1)] s0 [1, 0, 0, 0], rowP k1 [(98, (-1)), (99, 1)] s1 [0, 1, 0, 0], rowP k2 [(99, (-1)), (100, 1)] s2 [0, 0, 1, 0], rowP c [(97, 1), (100, (-1))] s [0, 0, 0, 1]]] (.lst 1 [[.lst 11 [vC 97]], [.lst 11 [vC 98]], [.lst 11 [vC 99]], [.lst 11 [vC 100]]]) := by
  unfold rowP
  by_cases h0 : k0 = 0
  · subst h0
    by_cases h1 : k1 = 0
    · subst h1
      by_cases h2 : k2 = 0
      · subst h2
        by_cases h3 : c = 0
        · subst h3
          exact at_3_0_0 s0 s1 s2 s
        · rw [pE_nz h3]
          exact at_3_0_8 c s0 s1 s2 s
      · rw [pE_nz h2]
        by_cases h3 : c = 0
        · subst h3
          exact at_3_0_4 k2 s0 s1 s2 s
        · rw [pE_nz h3]
          exact at_3_0_12 k2 c s0 s1 s2 s
    · rw [pE_nz h1]
      by_cases h2 : k2 = 0
      · subst h2
        by_cases h3 : c = 0
        · subst h3
          exact at_3_0_2 k1 s0 s1 s2 s
        · rw [pE_nz h3]
          exact at_3_0_10 k1 c s0 s1 s2 s
      · rw [pE_nz h2]
        by_cases h3 : c = 0
        · subst h3
          exact at_3_0_6 k1 k2 s0 s1 s2 s
        · rw [pE_nz h3]
          exact at_3_0_14 k1 k2 c s0 s1 s2 s
  · rw [pE_nz h0]
    by_cases h1 : k1 = 0
    · subst h1
      by_cases h2 : k2 = 0
      · subst h2
        by_cases h3 : c = 0
        · subst h3
          exact at_3_0_1 k0 s0 s1 s2 s
        · rw [pE_nz h3]
          exact at_3_0_9 k0 c s0 s1 s2 s
      · rw [pE_nz h2]
        by_cases h3 : c = 0
        · subst h3
          exact at_3_0_5 k0 k2 s0 s1 s2 s
        · rw [pE_nz h3]
          exact at_3_0_13 k0 k2 c s0 s1 s2 s
    · rw [pE_nz h1]
      by_cases h2 : k2 = 0
      · subst h2
        by_cases h3 : c = 0
        · subst h3
          exact at_3_0_3 k0 k1 s0 s1 s2 s
        · rw [pE_nz h3]
          exact at_3_0_11 k0 k1 c s0 s1 s2 s
      · rw [pE_nz h2]
        by_cases h3 : c = 0
        · subst h3
          exact at_3_0_7 k0 k1 k2 s0 s1 s2 s
        · rw [pE_nz h3]
          exact at_3_0_15 k0 k1 k2 c s0 s1 s2 s
theorem at_3_1_0 (s1 : Bool) (s2 : Bool) (s : Bool) : R 167 [.lst 4 [(rowQ (.lst 8 (pV [(98, (-1)), (99, 1)])) s1 [0, 1, 0, 0]), (rowQ (.lst 8 (pV [(99, (-1)), (100, 1)])) s2 [0, 0, 1, 0]), (rowQ (.lst 8 (pV [(98, 1), (100, (-1))])) s [1, 0, 0, 1])]] (.lst 1 [[.lst 11 [(vC 98)]], [.lst 11 [(vC 99)]], [.lst 11 [(vC 100)]]]) := ru tk8 ok167 z (by kernel_rfl)
theorem at_3_1_1 (k1 : Int) (s1 : Bool) (s2 : Bool) (s : Bool) : R 167 [.lst 4 [(rowQ (.lst 8 (pC (k1) [(98, (-1)), (99, 1)])) s1 [0, 1, 0, 0]), (rowQ (.lst 8 (pV [(99, (-1)), (100, 1)])) s2 [0, 0, 1, 0]), (rowQ (.lst 8 (pV [(98, 1), (100, (-1))])) s [1, 0, 0, 1])]] (.lst 1 [[.lst 11 [(vC 98)]], [.lst 11 [(vC 99)]], [.lst 11 [(vC 100)]]]) := ru tk8 ok167 z (by kernel_rfl)
theorem at_3_1_2 (k2 : Int) (s1 : Bool) (s2 : Bool) (s : Bool) : R 167 [.lst 4 [(rowQ (.lst 8 (pV [(98, (-1)), (99, 1)])) s1 [0, 1, 0, 0]), (rowQ (.lst 8 (pC (k2) [(99, (-1)), (100, 1)])) s2 [0, 0, 1, 0]), (rowQ (.lst 8 (pV [(98, 1), (100, (-1))])) s [1, 0, 0, 1])]] (.lst 1 [[.lst 11 [(vC 98)]], [.lst 11 [(vC 99)]], [.lst 11 [(vC 100)]]]) := ru tk8 ok167 z (by kernel_rfl)
theorem at_3_1_3 (k1 : Int) (k2 : Int) (s1 : Bool) (s2 : Bool) (s : Bool) : R 167 [.lst 4 [(rowQ (.lst 8 (pC (k1) [(98, (-1)), (99, 1)])) s1 [0, 1, 0, 0]), (rowQ (.lst 8 (pC (k2) [(99, (-1)), (100, 1)])) s2 [0, 0, 1, 0]), (rowQ (.lst 8 (pV [(98, 1), (100, (-1))])) s [1, 0, 0, 1])]] (.lst 1 [[.lst 11 [(vC 98)]], [.lst 11 [(vC 99)]], [.lst 11 [(vC 100)]]]) := ru tk8 ok167 z (by kernel_rfl)
theorem at_3_1_4 (c : Int) (s1 : Bool) (s2 : Bool) (s : Bool) : R 167 [.lst 4 [(rowQ (.lst 8 (pV [(98, (-1)), (99, 1)])) s1 [0, 1, 0, 0]), (rowQ (.lst 8 (pV [(99, (-1)), (100, 1)])) s2 [0, 0, 1, 0]), (rowQ (.lst 8 (pC (c) [(98, 1), (100, (-1))])) s [1, 0, 0, 1])]] (.lst 1 [[.lst 11 [(vC 98)]], [.lst 11 [(vC 99)]], [.lst 11 [(vC 100)]]]) := ru tk8 ok167 z (by kernel_rfl)
theorem at_3_1_5 (k1 : Int) (c : Int) (s1 : Bool) (s2 : Bool) (s : Bool) : R 167 [.lst 4 [(rowQ (.lst 8 (pC (k1) [(98, (-1)), (99, 1)])) s1 [0, 1, 0, 0]), (rowQ (.lst 8 (pV [(99, (-1)), (100, 1)])) s2 [0, 0, 1, 0]), (rowQ (.lst 8 (pC (c) [(98, 1), (100, (-1))])) s [1, 0, 0, 1])]] (.lst 1 [[.lst 11 [(vC 98)]], [.lst 11 [(vC 99)]], [.lst 11 [(vC 100)]]]) := ru tk8 ok167 z (by kernel_rfl)
theorem at_3_1_6 (k2 : Int) (c : Int) (s1 : Bool) (s2 : Bool) (s : Bool) : R 167 [.lst 4 [(rowQ (.lst 8 (pV [(98, (-1)), (99, 1)])) s1 [0, 1, 0, 0]), (rowQ (.lst 8 (pC (k2) [(99, (-1)), (100, 1)])) s2 [0, 0, 1, 0]), (rowQ (.lst 8 (pC (c) [(98, 1), (100, (-1))])) s [1, 0, 0, 1])]] (.lst 1 [[.lst 11 [(vC 98)]], [.lst 11 [(vC 99)]], [.lst 11 [(vC 100)]]]) := ru tk8 ok167 z (by kernel_rfl)
theorem at_3_1_7 (k1 : Int) (k2 : Int) (c : Int) (s1 : Bool) (s2 : Bool) (s : Bool) : R 167 [.lst 4 [(rowQ (.lst 8 (pC (k1) [(98, (-1)), (99, 1)])) s1 [0, 1, 0, 0]), (rowQ (.lst 8 (pC (k2) [(99, (-1)), (100, 1)])) s2 [0, 0, 1, 0]), (rowQ (.lst 8 (pC (c) [(98, 1), (100, (-1))])) s [1, 0, 0, 1])]] (.lst 1 [[.lst 11 [(vC 98)]], [.lst 11 [(vC 99)]], [.lst 11 [(vC 100)]]]) := ru tk8 ok167 z (by kernel_rfl)
theorem at_3_1 (k1 : Int) (k2 : Int) (c : Int) (s1 : Bool) (s2 : Bool) (s : Bool) : R 167 [.lst 4 [rowP k1 [(98, (-1)), (99, 1)] s1 [0, 1, 0, 0], rowP k2 [(99, (-1)), (100, 1)] s2 [0, 0, 1, 0], rowP c [(98, 1), (100, (-1))] s [1, 0, 0, 1]]] (.lst 1 [[.lst 11 [vC 98]], [.lst 11 [vC 99]], [.lst 11 [vC 100]]]) := by
  unfold rowP
  by_cases h0 : k1 = 0
  · subst h0
    by_cases h1 : k2 = 0
    · subst h1
      by_cases h2 : c = 0
      · subst h2
        exact at_3_1_0 s1 s2 s
      · rw [pE_nz h2]
        exact at_3_1_4 c s1 s2 s
    · rw [pE_nz h1]
      by_cases h2 : c = 0
      · subst h2
        exact at_3_1_2 k2 s1 s2 s
      · rw [pE_nz h2]
        exact at_3_1_6 k2 c s1 s2 s
  · rw [pE_nz h0]
    by_cases h1 : k2 = 0
    · subst h1
      by_cases h2 : c = 0
      · subst h2
        exact at_3_1_1 k1 s1 s2 s
      · rw [pE_nz h2]
        exact at_3_1_5 k1 c s1 s2 s
    · rw [pE_nz h1]
      by_cases h2 : c = 0
      · subst h2
        exact at_3_1_3 k1 k2 s1 s2 s
      · rw [pE_nz h2]
        exact at_3_1_7 k1 k2 c s1 s2 s
theorem at_3_2_0 (s2 : Bool) (s : Bool) : R 167 [.lst 4 [(rowQ (.lst 8 (pV [(99, (-1)), (100, 1)])) s2 [0, 0, 1, 0]), (rowQ (.lst 8 (pV [(99, 1), (100, (-1))])) s [1, 1, 0, 1])]] (.lst 1 [[.lst 11 [(vC 99)]], [.lst 11 [(vC 100)]]]) := ru tk8 ok167 z (by kernel_rfl)
theorem at_3_2_1 (k2 : Int) (s2 : Bool) (s : Bool) : R 167 [.lst 4 [(rowQ (.lst 8 (pC (k2) [(99, (-1)), (100, 1)])) s2 [0, 0, 1, 0]), (rowQ (.lst 8 (pV [(99, 1), (100, (-1))])) s [1, 1, 0, 1])]] (.lst 1 [[.lst 11 [(vC 99)]], [.lst 11 [(vC 100)]]]) := ru tk8 ok167 z (by kernel_rfl)
theorem at_3_2_2 (c : Int) (s2 : Bool) (s : Bool) : R 167 [.lst 4 [(rowQ (.lst 8 (pV [(99, (-1)), (100, 1)])) s2 [0, 0, 1, 0]), (rowQ (.lst 8 (pC (c) [(99, 1), (100, (-1))])) s [1, 1, 0, 1])]] (.lst 1 [[.lst 11 [(vC 99)]], [.lst 11 [(vC 100)]]]) := ru tk8 ok167 z (by kernel_rfl)
theorem at_3_2_3 (k2 : Int) (c : Int) (s2 : Bool) (s : Bool) : R 167 [.lst 4 [(rowQ (.lst 8 (pC (k2) [(99, (-1)), (100, 1)])) s2 [0, 0, 1, 0]), (rowQ (.lst 8 (pC (c) [(99, 1), (100, (-1))])) s [1, 1, 0, 1])]] (.lst 1 [[.lst 11 [(vC 99)]], [.lst 11 [(vC 100)]]]) := ru tk8 ok167 z (by kernel_rfl)
theorem at_3_2 (k2 : Int) (c : Int) (s2 : Bool) (s : Bool) : R 167 [.lst 4 [rowP k2 [(99, (-1)), (100, 1)] s2 [0, 0, 1, 0], rowP c [(99, 1), (100, (-1))] s [1, 1, 0, 1]]] (.lst 1 [[.lst 11 [vC 99]], [.lst 11 [vC 100]]]) := by
  unfold rowP
  by_cases h0 : k2 = 0
  · subst h0
    by_cases h1 : c = 0
    · subst h1
      exact at_3_2_0 s2 s
    · rw [pE_nz h1]
      exact at_3_2_2 c s2 s
  · rw [pE_nz h0]
    by_cases h1 : c = 0
    · subst h1
      exact at_3_2_1 k2 s2 s
    · rw [pE_nz h1]
      exact at_3_2_3 k2 c s2 s
theorem at_3_f_n (c : Int) (s : Bool) : R 167 [.lst 4 [(rowQ (.lst 8 (pC (c) [])) s [1, 1, 1, 1])]] (nils) := ru tk0 ok167 z (by kernel_rfl)
theorem at_3_f_z (s : Bool) : R 167 [.lst 4 [(rowQ (nils) s [1, 1, 1, 1])]] (nils) := ru tk0 ok167 z (by kernel_rfl)
theorem at_4_0_0 (s0 : Bool) (s1 : Bool) (s2 : Bool) (s3 : Bool) (s : Bool) : R 167 [.lst 4 [(rowQ (.lst 8 (pV [(97, (-1)), (98, 1)])) s0 [1, 0, 0, 0, 0]), (rowQ (.lst 8 (pV [(98, (-1)), (99, 1)])) s1 [0, 1, 0, 0, 0]), (rowQ (.lst 8 (pV [(99, (-1)), (100, 1)])) s2 [0, 0, 1, 0, 0]), (rowQ (.lst 8 (pV [(100, (-1)), (101, 1)])) s3 [0, 0, 0, 1, 0]), (rowQ (.lst 8 (pV [(97, 1), (101, (-1))])) s [0, 0, 0, 0, 1])]] (.lst 1 [[.lst 11 [(vC 97)]], [.lst 11 [(vC 98)]], [.lst 11 [(vC 99)]], [.lst 11 [(vC 100)]], [.lst 11 [(vC 101)]]]) := ru tk8 ok167 z (by kernel_rfl)
theorem at_4_0_1 (k0 : Int) (s0 : Bool) (s1 : Bool) (s2 : Bool) (s3 : Bool) (s : Bool) : R 167 [.lst 4 [(rowQ (.lst 8 (pC (k0) [(97, (-1)), (98, 1)])) s0 [1, 0, 0, 0, 0]), (rowQ (.lst 8 (pV [(98, (-1)), (99, 1)])) s1 [0, 1, 0, 0, 0]), (rowQ (.lst 8 (pV [(99, (-1)), (100, 1)])) s2 [0, 0, 1, 0, 0]), (rowQ (.lst 8 (pV [(100, (-1)), (101, 1)])) s3 [0, 0, 0, 1, 0]), (rowQ (.lst 8 (pV [(97, 1), (101, (-1))])) s [0, 0, 0, 0, 1])]] (.lst 1 [[.lst 11 [(vC 97)]], [.lst 11 [(vC 98)]], [.lst 11 [(vC 99)]], [.lst 11 [(vC 100)]], [.lst 11 [(vC 101)]]]) := ru tk8 ok167 z (by kernel_rfl)
theorem at_4_0_2 (k1 : Int) (s0 : Bool) (s1 : Bool) (s2 : Bool) (s3 : Bool) (s : Bool) : R 167 [.lst 4 [(rowQ (.lst 8 (pV [(97, (-1)), (98, 1)])) s0 [1, 0, 0, 0, 0]), (rowQ (.lst 8 (pC (k1) [(98, (-1)), (99, 1)])) s1 [0, 1, 0, 0, 0]), (rowQ (.lst 8 (pV [(99, (-1)), (100, 1)])) s2 [0, 0, 1, 0, 0]), (rowQ (.lst 8 (pV [(100, (-1)), (101, 1)])) s3 [0, 0, 0, 1, 0]), (rowQ (.lst 8 (pV [(97, 1), (101, (-1))])) s [0, 0, 0, 0, 1])]] (.lst 1 [[.lst 11 [(vC 97)]], [.lst 11 [(vC 98)]], [.lst 11 [(vC 99)]], [.lst 11 [(vC 100)]], [.lst 11 [(vC 101)]]]) := ru tk8 ok167 z (by kernel_rfl)
theorem at_4_0_3 (k0 : Int) (k1 : Int) (s0 : Bool) (s1 : Bool) (s2 : Bool) (s3 : Bool) (s : Bool) : R 167 [.lst 4 [(rowQ (.lst 8 (pC (k0) [(97, (-1)), (98, 1)])) s0 [1, 0, 0, 0, 0]), (rowQ (.lst 8 (pC (k1) [(98, (-1)), (99, 1)])) s1 [0, 1, 0, 0, 0]), (rowQ (.lst 8 (pV [(99, (-1)), (100, 1)])) s2 [0, 0, 1, 0, 0]), (rowQ (.lst 8 (pV [(100, (-1)), (101, 1)])) s3 [0, 0, 0, 1, 0]), (rowQ (.lst 8 (pV [(97, 1), (101, (-1))])) s [0, 0, 0, 0, 1])]] (.lst 1 [[.lst 11 [(vC 97)]], [.lst 11 [(vC 98)]], [.lst 11 [(vC 99)]], [.lst 11 [(vC 100)]], [.lst 11 [(vC 101)]]]) := ru tk8 ok167 z (by kernel_rfl)
theorem at_4_0_4 (k2 : Int) (s0 : Bool) (s1 : Bool) (s2 : Bool) (s3 : Bool) (s : Bool) : R 167 [.lst 4 [(rowQ (.lst 8 (pV [(97, (-1)), (98, 1)])) s0 [1, 0, 0, 0, 0]), (rowQ (.lst 8 (pV [(98, (-1)), (99, 1)])) s1 [0, 1, 0, 0, 0]), (rowQ (.lst 8 (pC (k2) [(99, (-1)), (100, 1)])) s2 [0, 0, 1, 0, 0]), (rowQ (.lst 8 (pV [(100, (-1)), (101, 1)])) s3 [0, 0, 0, 1, 0]), (rowQ (.lst 8 (pV [(97, 1), (101, (-1))])) s [0, 0, 0, 0, 1])]] (.lst 1 [[.lst 11 [(vC 97)]], [.lst 11 [(vC 98)]], [.lst 11 [(vC 99)]], [.lst 11 [(vC 100)]], [.lst 11 [(vC 101)]]]) := ru tk8 ok167 z (by kernel_rfl)
theorem at_4_0_5 (k0 : Int) (k2 : Int) (s0 : Bool) (s1 : Bool) (s2 : Bool) (s3 : Bool) (s : Bool) : R 167 [.lst 4 [(rowQ (.lst 8 (pC (k0) [(97, (-1)), (98, 1)])) s0 [1, 0, 0, 0, 0]), (rowQ (.lst 8 (pV [(98, (-1)), (99, 1)])) s1 [0, 1, 0, 0, 0]), (rowQ (.lst 8 (pC (k2) [(99, (-1)), (100, 1)])) s2 [0, 0, 1, 0, 0]), (rowQ (.lst 8 (pV [(100, (-1)), (101, 1)])) s3 [0, 0, 0, 1, 0]), (rowQ (.lst 8 (pV [(97, 1), (101, (-1))])) s [0, 0, 0, 0, 1])]] (.lst 1 [[.lst 11 [(vC 97)]], [.lst 11 [(vC 98)]], [.lst 11 [(vC 99)]], [.lst 11 [(vC 100)]], [.lst 11 [(vC 101)]]]) := ru tk8 ok167 z (by kernel_rfl)
theorem at_4_0_6 (k1 : Int) (k2 : Int) (s0 : Bool) (s1 : Bool) (s2 : Bool) (s3 : Bool) (s : Bool) : R 167 [.lst 4 [(rowQ (.lst 8 (pV [(97, (-1)), (98, 1)])) s0 [1, 0, 0, 0, 0]), (rowQ (.lst 8 (pC (k1) [(98, (-1)), (99, 1)])) s1 [0, 1, 0, 0, 0]), (rowQ (.lst 8 (pC (k2) [(99, (-1)), (100, 1)])) s2 [0, 0, 1, 0, 0]), (rowQ (.lst 8 (pV [(100, (-1)), (101, 1)])) s3 [0, 0, 0, 1, 0]), (rowQ (.lst 8 (pV [(97, 1), (101, (-1))])) s [0, 0, 0, 0, 1])]] (.lst 1 [[.lst 11 [(vC 97)]], [.lst 11 [(vC 98)]], [.lst 11 [(vC 99)]], [.lst 11 [(vC 100)]], [.lst 11 [(vC 101)]]]) := ru tk8 ok167 z (by kernel_rfl)
theorem at_4_0_7 (k0 : Int) (k1 : Int) (k2 : Int) (s0 : Bool) (s1 : Bool) (s2 : Bool) (s3 : Bool) (s : Bool) : R 167 [.lst 4 [(rowQ (.lst 8 (pC (k0) [(97, (-1)), (98, 1)])) s0 [1, 0, 0, 0, 0]), (rowQ (.lst 8 (pC (k1) [(98, (-1)), (99, 1)])) s1 [0, 1, 0, 0, 0]), (rowQ (.lst 8 (pC (k2) [(99, (-1)), (100, 1)])) s2 [0, 0, 1, 0, 0]), (rowQ (.lst 8 (pV [(100, (-1)), (101, 1)])) s3 [0, 0, 0, 1, 0]), (rowQ (.lst 8 (pV [(97, 1), (101, (-1))])) s [0, 0, 0, 0, 1])]] (.lst 1 [[.lst 11 [(vC 97)]], [.lst 11 [(vC 98)]], [.lst 11 [(vC 99)]], [.lst 11 [(vC 100)]], [.lst 11 [(vC 101)]]]) := ru tk8 ok167 z (by kernel_rfl)
theorem at_4_0_8 (k3 : Int) (s0 : Bool) (s1 : Bool) (s2 : Bool) (s3 : Bool) (s : Bool) : R 167 [.lst 4 [(rowQ (.lst 8 (pV [(97, (-1)), (98, 1)])) s0 [1, 0, 0, 0, 0]), (rowQ (.lst 8 (pV [(98, (-1)), (99, 1)])) s1 [0, 1, 0, 0, 0]), (rowQ (.lst 8 (pV [(99, (-1)), (100, 1)])) s2 [0, 0, 1, 0, 0]), (rowQ (.lst 8 (pC (k3) [(100, (-1)), (101, 1)])) s3 [0, 0, 0, 1, 0]), (rowQ (.lst 8 (pV [(97, 1), (101, (-1))])) s [0, 0, 0, 0, 1])]] (.lst 1 [[.lst 11 [(vC 97)]], [.lst 11 [(vC 98)]], [.lst 11 [(vC 99)]], [.lst 11 [(vC 100)]], [.lst 11 [(vC 101)]]]) := ru tk8 ok167 z (by kernel_rfl)
theorem at_4_0_9 (k0 : Int) (k3 : Int) (s0 : Bool) (s1 : Bool) (s2 : Bool) (s3 : Bool) (s : Bool) : R 167 [.lst 4 [(rowQ (.lst 8 (pC (k0) [(97, (-1)), (98, 1)])) s0 [1, 0, 0, 0, 0]), (rowQ (.lst 8 (pV [(98, (-1)), (99, 1)])) s1 [0, 1, 0, 0, 0]), (rowQ (.lst 8 (pV [(99, (-1)), (100, 1)])) s2 [0, 0, 1, 0, 0]), (rowQ (.lst 8 (pC (k3) [(100, (-1)), (101, 1)])) s3 [0, 0, 0, 1, 0]), (rowQ (.lst 8 (pV [(97, 1), (101, (-1))])) s [0, 0, 0, 0, 1])]] (.lst 1 [[.lst 11 [(vC 97)]], [.lst 11 [(vC 98)]], [.lst 11 [(vC 99)]], [.lst 11 [(vC 100)]], [.lst 11 [(vC 101)]]]) := ru tk8 ok167 z (by kernel_rfl)
theorem at_4_0_10 (k1 : Int) (k3 : Int) (s0 : Bool) (s1 : Bool) (s2 : Bool) (s3 : Bool) (s : Bool) : R 167 [.lst 4 [(rowQ (.lst 8 (pV [(97, (-1)), (98, 1)])) s0 [1, 0, 0, 0, 0]), (rowQ (.lst 8 (pC (k1) [(98, (-1)), (99, 1)])) s1 [0, 1, 0, 0, 0]), (rowQ (.lst 8 (pV [(99, (-1)), (100, 1)])) s2 [0, 0, 1, 0, 0]), (rowQ (.lst 8 (pC (k3) [(100, (-1)), (101, 1)])) s3 [0, 0, 0, 1, 0]), (rowQ (.lst 8 (pV [(97, 1), (101, (-1))])) s [0, 0, 0, 0, 1])]] (.lst 1 [[.lst 11 [(vC 97)]], [.lst 11 [(vC 98)]], [.lst 11 [(vC 99)]], [.lst 11 [(vC 100)]], [.lst 11 [(vC 101)]]]) := ru tk8 ok167 z (by kernel_rfl)
theorem at_4_0_11 (k0 : Int) (k1 : Int) (k3 : Int) (s0 : Bool) (s1 : Bool) (s2 : Bool) (s3 : Bool) (s : Bool) : R 167 [.lst 4 [(rowQ (.lst 8 (pC (k0) [(97, (-1)), (98, 1)])) s0 [1, 0, 0, 0, 0]), (rowQ (.lst 8 (pC (k1) [(98, (-1)), (99, 1)])) s1 [0, 1, 0, 0, 0]), (rowQ (.lst 8 (pV [(99, (-1)), (100, 1)])) s2 [0, 0, 1, 0, 0]), (rowQ (.lst 8 (pC (k3) [(100, (-1)), (101, 1)])) s3 [0, 0, 0, 1, 0]), (rowQ (.lst 8 (pV [(97, 1), (101, (-1))])) s [0, 0, 0, 0, 1])]] (.lst 1 [[.lst 11 [(vC 97)]], [.lst 11 [(vC 98)]], [.lst 11 [(vC 99)]], [.lst 11 [(vC 100)]], [.lst 11 [(vC 101)]]]) := ru tk8 ok167 z (by kernel_rfl)
theorem at_4_0_12 (k2 : Int) (k3 : Int) (s0 : Bool) (s1 : Bool) (s2 : Bool) (s3 : Bool) (s : Bool) : R 167 [.lst 4 [(rowQ (.lst 8 (pV [(97, (-1)), (98, 1)])) s0 [1, 0, 0, 0, 0]), (rowQ (.lst 8 (pV [(98, (-1)), (99, 1)])) s1 [0, 1, 0, 0, 0]), (rowQ (.lst 8 (pC (k2) [(99, (-1)), (100, 1)])) s2 [0, 0, 1, 0, 0]), (rowQ (.lst 8 (pC (k3) [(100, (-1)), (101, 1)])) s3 [0, 0, 0, 1, 0]), (rowQ (.lst 8 (pV [(97, 1), (101, (-1))])) s [0, 0, 0, 0, 1])]] (.lst 1 [[.lst 11 [(vC 97)]], [.lst 11 [(vC 98)]], [.lst 11 [(vC 99)]], [.lst 11 [(vC 100)]], [.lst 11 [(vC 101)]]]) := ru tk8 ok167 z (by kernel_rfl)
theorem at_4_0_13 (k0 : Int) (k2 : Int) (k3 : Int) (s0 : Bool) (s1 : Bool) (s2 : Bool) (s3 : Bool) (s : Bool) : R 167 [.lst 4 [(rowQ (.lst 8 (pC (k0) [(97, (-1)), (98, 1)])) s0 [1, 0, 0, 0, 0]), (rowQ (.lst 8 (pV [(98, (-1)), (99, 1)])) s1 [0, 1, 0, 0, 0]), (rowQ (.lst 8 (pC (k2) [(99, (-1)), (100, 1)])) s2 [0, 0, 1, 0, 0]), (rowQ (.lst 8 (pC (k3) [(100, (-1)), (101, 1)])) s3 [0, 0, 0, 1, 0]), (rowQ (.lst 8 (pV [(97, 1), (101, (-1))])) s [0, 0, 0, 0, 1])]] (.lst 1 [[.lst 11 [(vC 97)]], [.lst 11 [(vC 98)]], [.lst 11 [(vC 99)]], [.lst 11 [(vC 100)]], [.lst 11 [(vC 101)]]]) := ru tk8 ok167 z (by kernel_rfl)
theorem at_4_0_14 (k1 : Int) (k2 : Int) (k3 : Int) (s0 : Bool) (s1 : Bool) (s2 : Bool) (s3 : Bool) (s : Bool) : R 167 [.lst 4 [(rowQ (.lst 8 (pV [(97, (-1)), (98, 1)])) s0 [1, 0, 0, 0, 0]), (rowQ (.lst 8 (pC (k1) [(98, (-1)), (99, 1)])) s1 [0, 1, 0, 0, 0]), (rowQ (.lst 8 (pC (k2) [(99, (-1)), (100, 1)])) s2 [0, 0, 1, 0, 0]), (rowQ (.lst 8 (pC (k3) [(100, (-1)), (101, 1)])) s3 [0, 0, 0, 1, 0]), (rowQ (.lst 8 (pV [(97, 1), (101, (-1))])) s [0, 0, 0, 0, 1])]] (.lst 1 [[.lst 11 [(vC 97)]], [.lst 11 [(vC 98)]], [.lst 11 [(vC 99)]], [.lst 11 [(vC 100)]], [.lst 11 [(vC 101)]]]) := ru tk8 ok167 z (by kernel_rfl)
theorem at_4_0_15 (k0 : Int) (k1 : Int) (k2 : Int) (k3 : Int) (s0 : Bool) (s1 : Bool) (s2 : Bool) (s3 : Bool) (s : Bool) : R 167 [.lst 4 [(rowQ (.lst 8 (pC (k0) [(97, (-1)), (98, 1)])) s0 [1, 0, 0, 0, 0]), (rowQ (.lst 8 (pC (k1) [(98, (-1)), (99, 1)])) s1 [0, 1, 0, 0, 0]), (rowQ (.lst 8 (pC (k2) [(99, (-1)), (100, 1)])) s2 [0, 0, 1, 0, 0]), (rowQ (.lst 8 (pC (k3) [(100, (-1)), (101, 1)])) s3 [0, 0, 0, 1, 0]), (rowQ (.lst 8 (pV [(97, 1), (101, (-1))])) s [0, 0, 0, 0, 1])]] (.lst 1 [[.lst 11 [(vC 97)]], [.lst 11 [(vC 98)]], [.lst 11 [(vC 99)]], [.lst 11 [(vC 100)]], [.lst 11 [(vC 101)]]]) := ru tk8 ok167 z (by kernel_rfl)
theorem at_4_0_16 (c : Int) (s0 : Bool) (s1 : Bool) (s2 : Bool) (s3 : Bool) (s : Bool) : R 167 [.lst 4 [(rowQ (.lst 8 (pV [(97, (-1)), (98, 1)])) s0 [1, 0, 0, 0, 0]), (rowQ (.lst 8 (pV [(98, (-1)), (99, 1)])) s1 [0, 1, 0, 0, 0]), (rowQ (.lst 8 (pV [(99, (-1)), (100, 1)])) s2 [0, 0, 1, 0, 0]), (rowQ (.lst 8 (pV [(100, (-1)), (101, 1)])) s3 [0, 0, 0, 1, 0]), (rowQ (.lst 8 (pC (c) [(97, 1), (101, (-1))])) s [0, 0, 0, 0, 1])]] (.lst 1 [[.lst 11 [(vC 97)]], [.lst 11 [(vC 98)]], [.lst 11 [(vC 99)]], [.lst 11 [(vC 100)]], [.lst 11 [(vC 101)]]]) := ru tk8 ok167 z (by kernel_rfl)
theorem at_4_0_17 (k0 : Int) (c : Int) (s0 : Bool) (s1 : Bool) (s2 : Bool) (s3 : Bool) (s : Bool) : R 167 [.lst 4 [(rowQ (.lst 8 (pC (k0) [(97, (-1)), (98, 1)])) s0 [1, 0, 0, 0, 0]), (rowQ (.lst 8 (pV [(98, (-1)), (99, 1)])) s1 [0, 1, 0, 0, 0]), (rowQ (.lst 8 (pV [(99, (-1)), (100, 1)])) s2 [0, 0, 1, 0, 0]), (rowQ (.lst 8 (pV [(100, (-1)), (101, 1)])) s3 [0, 0, 0, 1, 0]), (rowQ (.lst 8 (pC (c) [(97, 1), (101, (-1))])) s [0, 0, 0, 0, 1])]] (.lst 1 [[.lst 11 [(vC 97)]], [.lst 11 [(vC 98)]], [.lst 11 [(vC 99)]], [.lst 11 [(vC 100)]], [.lst 11 [(vC 101)]]]) := ru tk8 ok167 z (by kernel_rfl)
theorem at_4_0_18 (k1 : Int) (c : Int) (s0 : Bool) (s1 : Bool) (s2 : Bool) (s3 : Bool) (s : Bool) : R 167 [.lst 4 [(rowQ (.lst 8 (pV [(97, (-1)), (98, 1)])) s0 [1, 0, 0, 0, 0]), (rowQ (.lst 8 (pC (k1) [(98, (-1)), (99, 1)])) s1 [0, 1, 0, 0, 0]), (rowQ (.lst 8 (pV [(99, (-1)), (100, 1)])) s2 [0, 0, 1, 0, 0]), (rowQ (.lst 8 (pV [(100, (-1)), (101, 1)])) s3 [0, 0, 0, 1, 0]), (rowQ (.lst 8 (pC (c) [(97, 1), (101, (-1))])) s [0, 0, 0, 0, 1])]] (.lst 1 [[.lst 11 [(vC 97)]], [.lst 11 [(vC 98)]], [.lst 11 [(vC 99)]], [.lst 11 [(vC 100)]], [.lst 11 [(vC 101)]]]) := ru tk8 ok167 z (by kernel_rfl)
theorem at_4_0_19 (k0 : Int) (k1 : Int) (c : Int) (s0 : Bool) (s1 : Bool) (s2 : Bool) (s3 : Bool) (s : Bool) : R 167 [.lst 4 [(rowQ (.lst 8 (pC (k0) [(97, (-1)), (98, 1)])) s0 [1, 0, 0, 0, 0]), (rowQ (.lst 8 (pC (k1) [(98, (-1)), (99, 1)])) s1 [0, 1, 0, 0, 0]), (rowQ (.lst 8 (pV [(99, (-1)), (100, 1)])) s2 [0, 0, 1, 0, 0]), (rowQ (.lst 8 (pV [(100, (-1)), (101, 1)])) s3 [0, 0, 0, 1, 0]), (rowQ (.lst 8 (pC (c) [(97, 1), (101, (-1))])) s [0, 0, 0, 0, 1])]] (.lst 1 [[.lst 11 [(vC 97)]], [.lst 11 [(vC 98)]], [.lst 11 [(vC 99)]], [.lst 11 [(vC 100)]], [.lst 11 [(vC 101)]]]) := ru tk8 ok167 z (by kernel_rfl)
theorem at_4_0_20 (k2 : Int) (c : Int) (s0 : Bool) (s1 : Bool) (s2 : Bool) (s3 : Bool) (s : Bool) : R 167 [.lst 4 [(rowQ (.lst 8 (pV [(97, (-1)), (98, 1)])) s0 [1, 0, 0, 0, 0]), (rowQ (.lst 8 (pV [(98, (-1)), (99, 1)])) s1 [0, 1, 0, 0, 0]), (rowQ (.lst 8 (pC (k2) [(99, (-1)), (100, 1)])) s2 [0, 0, 1, 0, 0]), (rowQ (.lst 8 (pV [(100, (-1)), (101, 1)])) s3 [0, 0, 0, 1, 0]), (rowQ (.lst 8 (pC (c) [(97, 1), (101, (-1))])) s [0, 0, 0, 0, 1])]] (.lst 1 [[.lst 11 [(vC 97)]], [.lst 11 [(vC 98)]], [.lst 11 [(vC 99)]], [.lst 11 [(vC 100)]], [.lst 11 [(vC 101)]]]) := ru tk8 ok167 z (by kernel_rfl)
theorem at_4_0_21 (k0 : Int) (k2 : Int) (c : Int) (s0 : Bool) (s1 : Bool) (s2 : Bool) (s3 : Bool) (s : Bool) : R 167 [.lst 4 [(rowQ (.lst 8 (pC (k0) [(97, (-1)), (98, 1)])) s0 [1, 0, 0, 0, 0]), (rowQ (.lst 8 (pV [(98, (-1)), (99, 1)])) s1 [0, 1, 0, 0, 0]), (rowQ (.lst 8 (pC (k2) [(99, (-1)), (100, 1)])) s2 [0, 0, 1, 0, 0]), (rowQ (.lst 8 (pV [(100, (-1)), (101, 1)])) s3 [0, 0, 0, 1, 0]), (rowQ (.lst 8 (pC (c) [(97, 1), (101, (-1))])) s [0, 0, 0, 0, 1])]] (.lst 1 [[.lst 11 [(vC 97)]], [.lst 11 [(vC 98)]], [.lst 11 [(vC 99)]], [.lst 11 [(vC 100)]], [.lst 11 [(vC 101)]]]) := ru tk8 ok167 z (by kernel_rfl)
theorem at_4_0_22 (k1 : Int) (k2 : Int) (c : Int) (s0 : Bool) (s1 : Bool) (s2 : Bool) (s3 : Bool) (s : Bool) : R 167 [.lst 4 [(rowQ (.lst 8 (pV [(97, (-1)), (98, 1)])) s0 [1, 0, 0, 0, 0]), (rowQ (.lst 8 (pC (k1) [(98, (-1)), (99, 1)])) s1 [0, 1, 0, 0, 0]), (rowQ (.lst 8 (pC (k2) [(99, (-1)), (100, 1)])) s2 [0, 0, 1, 0, 0]), (rowQ (.lst 8 (pV [(100, (-1)), (101, 1)])) s3 [0, 0, 0, 1, 0]), (rowQ (.lst 8 (pC (c) [(97, 1), (101, (-1))])) s [0, 0, 0, 0, 1])]] (.lst 1 [[.lst 11 [(vC 97)]], [.lst 11 [(vC 98)]], [.lst 11 [(vC 99)]], [.lst 11 [(vC 100)]], [.lst 11 [(vC 101)]]]) := ru tk8 ok167 z (by kernel_rfl)
theorem at_4_0_23 (k0 : Int) (k1 : Int) (k2 : Int) (c : Int) (s0 : Bool) (s1 : Bool) (s2 : Bool) (s3 : Bool) (s : Bool) : R 167 [.lst 4 [(rowQ (.lst 8 (pC (k0) [(97, (-1)), (98, 1)])) s0 [1, 0, 0, 0, 0]), (rowQ (.lst 8 (pC (k1) [(98, (-1)), (99, 1)])) s1 [0, 1, 0, 0, 0]), (rowQ (.lst 8 (pC (k2) [(99, (-1)), (100, 1)])) s2 [0, 0, 1, 0, 0]), (rowQ (.lst 8 (pV [(100, (-1)), (101, 1)])) s3 [0, 0, 0, 1, 0]), (rowQ (.lst 8 (pC (c) [(97, 1), (101, (-1))])) s [0, 0, 0, 0, 1])]] (.lst 1 [[.lst 11 [(vC 97)]], [.lst 11 [(vC 98)]], [.lst 11 [(vC 99)]], [.lst 11 [(vC 100)]], [.lst 11 [(vC 101)]]]) := ru tk8 ok167 z (by kernel_rfl)
theorem at_4_0_24 (k3 : Int) (c : Int) (s0 : Bool) (s1 : Bool) (s2 : Bool) (s3 : Bool) (s : Bool) : R 167 [.lst 4 [(rowQ (.lst 8 (pV [(97, (-1)), (98, 1)])) s0 [1, 0, 0, 0, 0]), (rowQ (.lst 8 (pV [(98, (-1)), (99, 1)])) s1 [0, 1, 0, 0, 0]), (rowQ (.lst 8 (pV [(99, (-1)), (100, 1)])) s2 [0, 0, 1, 0, 0]), (rowQ (.lst 8 (pC (k3) [(100, (-1)), (101, 1)])) s3 [0, 0, 0, 1, 0]), (rowQ (.lst 8 (pC (c) [(97, 1), (101, (-1))])) s [0, 0, 0, 0, 1])]] (.lst 1 [[.lst 11 [(vC 97)]], [.lst 11 [(vC 98)]], [.lst 11 [(vC 99)]], [.lst 11 [(vC 100)]], [.lst 11 [(vC 101)]]]) := ru tk8 ok167 z (by kernel_rfl)
theorem at_4_0_25 (k0 : Int) (k3 : Int) (c : Int) (s0 : Bool) (s1 : Bool) (s2 : Bool) (s3 : Bool) (s : Bool) : R 167 [.lst 4 [(rowQ (.lst 8 (pC (k0) [(97, (-1)), (98, 1)])) s0 [1, 0, 0, 0, 0]), (rowQ (.lst 8 (pV [(98, (-1)), (99, 1)])) s1 [0, 1, 0, 0, 0]), (rowQ (.lst 8 (pV [(99, (-1)), (100, 1)])) s2 [0, 0, 1, 0, 0]), (rowQ (.lst 8 (pC (k3) [(100, (-1)), (101, 1)])) s3 [0, 0, 0, 1, 0]), (rowQ (.lst 8 (pC (c) [(97, 1), (101, (-1))])) s [0, 0, 0, 0, 1])]] (.lst 1 [[.lst 11 [(vC 97)]], [.lst 11 [(vC 98)]], [.lst 11 [(vC 99)]], [.lst 11 [(vC 100)]], [.lst 11 [(vC 101)]]]) := ru tk8 ok167 z (by kernel_rfl)
theorem at_4_0_26 (k1 : Int) (k3 : Int) (c : Int) (s0 : Bool) (s1 : Bool) (s2 : Bool) (s3 : Bool) (s : Bool) : R 167 [.lst 4 [(rowQ (.lst 8 (pV [(97, (-1)), (98, 1)])) s0 [1, 0, 0, 0, 0]), (rowQ (.lst 8 (pC (k1) [(98, (-1)), (99, 1)])) s1 [0, 1, 0, 0, 0]), (rowQ (.lst 8 (pV [(99, (-1)), (100, 1)])) s2 [0, 0, 1, 0, 0]), (rowQ (.lst 8 (pC (k3) [(100, (-1)), (101, 1)])) s3 [0, 0, 0, 1, 0]), (rowQ (.lst 8 (pC (c) [(97, 1), (101, (-1))])) s [0, 0, 0, 0, 1])]] (.lst 1 [[.lst 11 [(vC 97)]], [.lst 11 [(vC 98)]], [.lst 11 [(vC 99)]], [.lst 11 [(vC 100)]], [.lst 11 [(vC 101)]]]) := ru tk8 ok167 z (by kernel_rfl)
theorem at_4_0_27 (k0 : Int) (k1 : Int) (k3 : Int) (c : Int) (s0 : Bool) (s1 : Bool) (s2 : Bool) (s3 : Bool) (s : Bool) : R 167 [.lst 4 [(rowQ (.lst 8 (pC (k0) [(97, (-1)), (98, 1)])) s0 [1, 0, 0, 0, 0]), (rowQ (.lst 8 (pC (k1) [(98, (-1)), (99, 1)])) s1 [0, 1, 0, 0, 0]), (rowQ (.lst 8 (pV [(99, (-1)), (100, 1)])) s2 [0, 0, 1, 0, 0]), (rowQ (.lst 8 (pC (k3) [(100, (-1)), (101, 1)])) s3 [0, 0, 0, 1, 0]), (rowQ (.lst 8 (pC (c) [(97, 1), (101, (-1))])) s [0, 0, 0, 0, 1])]] (.lst 1 [[.lst 11 [(vC 97)]], [.lst 11 [(vC 98)]], [.lst 11 [(vC 99)]], [.lst 11 [(vC 100)]], [.lst 11 [(vC 101)]]]) := ru tk8 ok167 z (by kernel_rfl)
theorem at_4_0_28 (k2 : Int) (k3 : Int) (c : Int) (s0 : Bool) (s1 : Bool) (s2 : Bool) (s3 : Bool) (s : Bool) : R 167 [.lst 4 [(rowQ (.lst 8 (pV [(97, (-1)), (98, 1)])) s0 [1, 0, 0, 0, 0]), (rowQ (.lst 8 (pV [(98, (-1)), (99, 1)])) s1 [0, 1, 0, 0, 0]), (rowQ (.lst 8 (pC (k2) [(99, (-1)), (100, 1)])) s2 [0, 0, 1, 0, 0]), (rowQ (.lst 8 (pC (k3) [(100, (-1)), (101, 1)])) s3 [0, 0, 0, 1, 0]), (rowQ (.lst 8 (pC (c) [(97, 1), (101, (-1))])) s [0, 0, 0, 0, 1])]] (.lst 1 [[.lst 11 [(vC 97)]], [.lst 11 [(vC 98)]], [.lst 11 [(vC 99)]], [.lst 11 [(vC 100)]], [.lst 11 [(vC 101)]]]) := ru tk8 ok167 z (by kernel_rfl)
theorem at_4_0_29 (k0 : Int) (k2 : Int) (k3 : Int) (c : Int) (s0 : Bool) (s1 : Bool) (s2 : Bool) (s3 : Bool) (s : Bool) : R 167 [.lst 4 [(rowQ (.lst 8 (pC (k0) [(97, (-1)), (98, 1)])) s0 [1, 0, 0, 0, 0]), (rowQ (.lst 8 (pV [(98, (-1)), (99, 1)])) s1 [0, 1, 0, 0, 0]), (rowQ (.lst 8 (pC (k2) [(99, (-1)), (100, 1)])) s2 [0, 0, 1, 0, 0]), (rowQ (.lst 8 (pC (k3) [(100, (-1)), (101, 1)])) s3 [0, 0, 0, 1, 0]), (rowQ (.lst 8 (pC (c) [(97, 1), (101, (-1))])) s [0, 0, 0, 0, 1])]] (.lst 1 [[.lst 11 [(vC 97)]], [.lst 11 [(vC 98)]], [.lst 11 [(vC 99)]], [.lst 11 [(vC 100)]], [.lst 11 [(vC 101)]]]) := ru tk8 ok167 z (by kernel_rfl)
theorem at_4_0_30 (k1 : Int) (k2 : Int) (k3 : Int) (c : Int) (s0 : Bool) (s1 : Bool) (s2 : Bool) (s3 : Bool) (s : Bool) : R 167 [.lst 4 [(rowQ (.lst 8 (pV [(97, (-1)), (98, 1)])) s0 [1, 0, 0, 0, 0]), (rowQ (.lst 8 (pC (k1) [(98, (-1)), (99, 1)])) s1 [0, 1, 0, 0, 0]), (rowQ (.lst 8 (pC (k2) [(99, (-1)), (100, 1)])) s2 [0, 0, 1, 0, 0]), (rowQ (.lst 8 (pC (k3) [(100, (-1)), (101, 1)])) s3 [0, 0, 0, 1, 0]), (rowQ (.lst 8 (pC (c) [(97, 1), (101, (-1))])) s [0, 0, 0, 0, 1])]] (.lst 1 [[.lst 11 [(vC 97)]], [.lst 11 [(vC 98)]], [.lst 11 [(vC 99)]], [.lst 11 [(vC 100)]], [.lst 11 [(vC 101)]]]) := ru tk8 ok167 z (by kernel_rfl)
theorem at_4_0_31 (k0 : Int) (k1 : Int) (k2 : Int) (k3 : Int) (c : Int) (s0 : Bool) (s1 : Bool) (s2 : Bool) (s3 : Bool) (s : Bool) : R 167 [.lst 4 [(rowQ (.lst 8 (pC (k0) [(97, (-1)), (98, 1)])) s0 [1, 0, 0, 0, 0]), (rowQ (.lst 8 (pC (k1) [(98, (-1)), (99, 1)])) s1 [0, 1, 0, 0, 0]), (rowQ (.lst 8 (pC (k2) [(99, (-1)), (100, 1)])) s2 [0, 0, 1, 0, 0]), (rowQ (.lst 8 (pC (k3) [(100, (-1)), (101, 1)])) s3 [0, 0, 0, 1, 0]), (rowQ (.lst 8 (pC (c) [(97, 1), (101, (-1))])) s [0, 0, 0, 0, 1])]] (.lst 1 [[.lst 11 [(vC 97)]], [.lst 11 [(vC 98)]], [.lst 11 [(vC 99)]], [.lst 11 [(vC 100)]], [.lst 11 [(vC 101)]]]) := ru tk8 ok167 z (by kernel_rfl)
theorem at_4_0 (k0 : Int) (k1 : Int) (k2 : Int) (k3 : Int) (c : Int) (s0 : Bool) (s1 : Bool) (s2 : Bool) (s3 : Bool) (s : Bool) : R 167 [.lst 4 [rowP k0 [(97, (-1)), (98, 1)] s0 [1, 0, 0, 0, 0], rowP k1 [(98, (-1)), (99, 1)] s1 [0, 1, 0, 0, 0], rowP k2 [(99, (-1)), (100, 1)] s2 [0, 0, 1, 0, 0], rowP k3 [(100, (-1)), (101, 1)] s3 [0, 0, 0, 1, 0], rowP c [(97, 1), (101, (-1))] s [0, 0, 0, 0, 1]]] (.lst 1 [[.lst 11 [vC 97]], [.lst 11 [vC 98]], [.lst 11 [vC 99]], [.lst 11 [vC 100]], [.lst 11 [vC 101]]]) := by
  unfold rowP
  by_cases h0 : k0 = 0
  · subst h0
    by_cases h1 : k1 = 0
    · subst h1
      by_cases h2 : k2 = 0
      · subst h2
        by_cases h3 : k3 = 0
        · subst h3
          by_cases h4 : c = 0
          · subst h4
            exact at_4_0_0 s0 s1 s2 s3 s
          · rw [pE_nz h4]
            exact at_4_0_16 c s0 s1 s2 s3 s
        · rw [pE_nz h3]
          by_cases h4 : c = 0
          · subst h4
            exact at_4_0_8 k3 s0 s1 s2 s3 s
          · rw [pE_nz h4]
            exact at_4_0_24 k3 c s0 s1 s2 s3 s
      · rw [pE_nz h2]
        by_cases h3 : k3 = 0
        · subst h3
          by_cases h4 : c = 0
          · subst h4
            exact at_4_0_4 k2 s0 s1 s2 s3 s
          · rw [pE_nz h4]
            exact at_4_0_20 k2 c s0 s1 s2 s3 s
        · rw [pE_nz h3]
          by_cases h4 : c = 0
          · subst h4
            exact at_4_0_12 k2 k3 s0 s1 s2 s3 s
          · rw [pE_nz h4]
            exact at_4_0_28 k2 k3 c s0 s1 s2 s3 s
    · rw [pE_nz h1]
      by_cases h2 : k2 = 0
      · subst h2
        by_cases h3 : k3 = 0
        · subst h3
          by_cases h4 : c = 0
          · subst h4
            exact at_4_0_2 k1 s0 s1 s2 s3 s
          · rw [pE_nz h4]
            exact at_4_0_18 k1 c s0 s1 s2 s3 s
        · rw [pE_nz h3]
          by_cases h4 : c = 0
          · subst h4
            exact at_4_0_10 k1 k3 s0 s1 s2 s3 s
          · rw [pE_nz h4]
            exact at_4_0_26 k1 k3 c s0 s1 s2 s3 s
      · rw [pE_nz h2]
        by_cases h3 : k3 = 0
        · subst h3
          by_cases h4 : c = 0
          · subst h4
            exact at_4_0_6 k1 k2 s0 s1 s2 s3 s
          · rw [pE_nz h4]
            exact at_4_0_22 k1 k2 c s0 s1 s2 s3 s
        · rw [pE_nz h3]
          by_cases h4 : c = 0
          · subst h4
            exact at_4_0_14 k1 k2 k3 s0 s1 s2 s3 s
          · rw [pE_nz h4]
            exact at_4_0_30 k1 k2 k3 c s0 s1 s2 s3 s
  · rw [pE_nz h0]
    by_cases h1 : k1 = 0
    · subst h1
      by_cases h2 : k2 = 0
      · subst h2
        by_cases h3 : k3 = 0
        · subst h3
          by_cases h4 : c = 0
          · subst h4
            exact at_4_0_1 k0 s0 s1 s2 s3 s
          · rw [pE_nz h4]
            exact at_4_0_17 k0 c s0 s1 s2 s3 s
        · rw [pE_nz h3]
          by_cases h4 : c = 0
          · subst h4
            exact at_4_0_9 k0 k3 s0 s1 s2 s3 s
          · rw [pE_nz h4]
            exact at_4_0_25 k0 k3 c s0 s1 s2 s3 s
      · rw [pE_nz h2]
        by_cases h3 : k3 = 0
        · subst h3
          by_cases h4 : c = 0
          · subst h4
            exact at_4_0_5 k0 k2 s0 s1 s2 s3 s
          · rw [pE_nz h4]
            exact at_4_0_21 k0 k2 c s0 s1 s2 s3 s
        · rw [pE_nz h3]
          by_cases h4 : c = 0
          · subst h4
            exact at_4_0_13 k0 k2 k3 s0 s1 s2 s3 s
          · rw [pE_nz h4]
            exact at_4_0_29 k0 k2 k3 c s0 s1 s2 s3 s
    · rw [pE_nz h1]
      by_cases h2 : k2 = 0
      · subst h2
        by_cases h3 : k3 = 0
        · subst h3
          by_cases h4 : c = 0
          · subst h4
            exact at_4_0_3 k0 k1 s0 s1 s2 s3 s
          · rw [pE_nz h4]
            exact at_4_0_19 k0 k1 c s0 s1 s2 s3 s
        · rw [pE_nz h3]
          by_cases h4 : c = 0
          · subst h4
            exact at_4_0_11 k0 k1 k3 s0 s1 s2 s3 s
          · rw [pE_nz h4]
            exact at_4_0_27 k0 k1 k3 c s0 s1 s2 s3 s
      · rw [pE_nz h2]
        by_cases h3 : k3 = 0
        · subst h3
          by_cases h4 : c = 0
          · subst h4
            exact at_4_0_7 k0 k1 k2 s0 s1 s2 s3 s
          · rw [pE_nz h4]
            exact at_4_0_23 k0 k1 k2 c s0 s1 s2 s3 s
        · rw [pE_nz h3]
          by_cases h4 : c = 0
          · subst h4
            exact at_4_0_15 k0 k1 k2 k3 s0 s1 s2 s3 s
          · rw [pE_nz h4]
            exact at_4_0_31 k0 k1 k2 k3 c s0 s1 s2 s3 s
theorem at_4_1_0 (s1 : Bool) (s2 : Bool) (s3 : Bool) (s : Bool) : R 167 [.lst 4 [(rowQ (.lst 8 (pV [(98, (-1)), (99, 1)])) s1 [0, 1, 0, 0, 0]), (rowQ (.lst 8 (pV [(99, (-1)), (100, 1)])) s2 [0, 0, 1, 0, 0]), (rowQ (.lst 8 (pV [(100, (-1)), (101, 1)])) s3 [0, 0, 0, 1, 0]), (rowQ (.lst 8 (pV [(98, 1), (101, (-1))])) s [1, 0, 0, 0, 1])]] (.lst 1 [[.lst 11 [(vC 98)]], [.lst 11 [(vC 99)]], [.lst 11 [(vC 100)]], [.lst 11 [(vC 101)]]]) := ru tk8 ok167 z (by kernel_rfl)
theorem at_4_1_1 (k1 : Int) (s1 : Bool) (s2 : Bool) (s3 : Bool) (s : Bool) : R 167 [.lst 4 [(rowQ (.lst 8 (pC (k1) [(98, (-1)), (99, 1)])) s1 [0, 1, 0, 0, 0]), (rowQ (.lst 8 (pV [(99, (-1)), (100, 1)])) s2 [0, 0, 1, 0, 0]), (rowQ (.lst 8 (pV [(100, (-1)), (101, 1)])) s3 [0, 0, 0, 1, 0]), (rowQ (.lst 8 (pV [(98, 1), (101, (-1))])) s [1, 0, 0, 0, 1])]] (.lst 1 [[.lst 11 [(vC 98)]], [.lst 11 [(vC 99)]], [.lst 11 [(vC 100)]], [.lst 11 [(vC 101)]]]) := ru tk8 ok167 z (by kernel_rfl)
theorem at_4_1_2 (k2 : Int) (s1 : Bool) (s2 : Bool) (s3 : Bool) (s : Bool) : R 167 [.lst 4 [(rowQ (.lst 8 (pV [(98, (-1)), (99, 1)])) s1 [0, 1, 0, 0, 0]), (rowQ (.lst 8 (pC (k2) [(99, (-1)), (100, 1)])) s2 [0, 0, 1, 0, 0]), (rowQ (.lst 8 (pV [(100, (-1)), (101, 1)])) s3 [0, 0, 0, 1, 0]), (rowQ (.lst 8 (pV [(98, 1), (101, (-1))])) s [1, 0, 0, 0, 1])]] (.lst 1 [[.lst 11 [(vC 98)]], [.lst 11 [(vC 99)]], [.lst 11 [(vC 100)]], [.lst 11 [(vC 101)]]]) := ru tk8 ok167 z (by kernel_rfl)
theorem at_4_1_3 (k1 : Int) (k2 : Int) (s1 : Bool) (s2 : Bool) (s3 : Bool) (s : Bool) : R 167 [.lst 4 [(rowQ (.lst 8 (pC (k1) [(98, (-1)), (99, 1)])) s1 [0, 1, 0, 0, 0]), (rowQ (.lst 8 (pC (k2) [(99, (-1)), (100, 1)])) s2 [0, 0, 1, 0, 0]), (rowQ (.lst 8 (pV [(100, (-1)), (101, 1)])) s3 [0, 0, 0, 1, 0]), (rowQ (.lst 8 (pV [(98, 1), (101, (-1))])) s [1, 0, 0, 0, 1])]] (.lst 1 [[.lst 11 [(vC 98)]], [.lst 11 [(vC 99)]], [.lst 11 [(vC 100)]], [.lst 11 [(vC 101)]]]) := ru tk8 ok167 z (by kernel_rfl)
theorem at_4_1_4 (k3 : Int) (s1 : Bool) (s2 : Bool) (s3 : Bool) (s : Bool) : R 167 [.lst 4 [(rowQ (.lst 8 (pV [(98, (-1)), (99, 1)])) s1 [0, 1, 0, 0, 0]), (rowQ (.lst 8 (pV [(99, (-1)), (100, 1)])) s2 [0, 0, 1, 0, 0]), (rowQ (.lst 8 (pC (k3) [(100, (-1)), (101, 1)])) s3 [0, 0, 0, 1, 0]), (rowQ (.lst 8 (pV [(98, 1), (101, (-1))])) s [1, 0, 0, 0, 1])]] (.lst 1 [[.lst 11 [(vC 98)]], [.lst 11 [(vC 99)]], [.lst 11 [(vC 100)]], [.lst 11 [(vC 101)]]]) := ru tk8 ok167 z (by kernel_rfl)
theorem at_4_1_5 (k1 : Int) (k3 : Int) (s1 : Bool) (s2 : Bool) (s3 : Bool) (s : Bool) : R 167 [.lst 4 [(rowQ (.lst 8 (pC (k1) [(98, (-1)), (99, 1)])) s1 [0, 1, 0, 0, 0]), (rowQ (.lst 8 (pV [(99, (-1)), (100, 1)])) s2 [0, 0, 1, 0, 0]), (rowQ (.lst 8 (pC (k3) [(100, (-1)), (101, 1)])) s3 [0, 0, 0, 1, 0]), (rowQ (.lst 8 (pV [(98, 1), (101, (-1))])) s [1, 0, 0, 0, 1])]] (.lst 1 [[.lst 11 [(vC 98)]], [.lst 11 [(vC 99)]], [.lst 11 [(vC 100)]], [.lst 11 [(vC 101)]]]) := ru tk8 ok167 z (by kernel_rfl)
theorem at_4_1_6 (k2 : Int) (k3 : Int) (s1 : Bool) (s2 : Bool) (s3 : Bool) (s : Bool) : R 167 [.lst 4 [(rowQ (.lst 8 (pV [(98, (-1)), (99, 1)])) s1 [0, 1, 0, 0, 0]), (rowQ (.lst 8 (pC (k2) [(99, (-1)), (100, 1)])) s2 [0, 0, 1, 0, 0]), (rowQ (.lst 8 (pC (k3) [(100, (-1)), (101, 1)])) s3 [0, 0, 0, 1, 0]), (rowQ (.lst 8 (pV [(98, 1), (101, (-1))])) s [1, 0, 0, 0, 1])]] (.lst 1 [[.lst 11 [(vC 98)]], [.lst 11 [(vC 99)]], [.lst 11 [(vC 100)]], [.lst 11 [(vC 101)]]]) := ru tk8 ok167 z (by kernel_rfl)
theorem at_4_1_7 (k1 : Int) (k2 : Int) (k3 : Int) (s1 : Bool) (s2 : Bool) (s3 : Bool) (s : Bool) : R 167 [.lst 4 [(rowQ (.lst 8 (pC (k1) [(98, (-1)), (99, 1)])) s1 [0, 1, 0, 0, 0]), (rowQ (.lst 8 (pC (k2) [(99, (-1)), (100, 1)])) s2 [0, 0, 1, 0, 0]), (rowQ (.lst 8 (pC (k3) [(100, (-1)), (101, 1)])) s3 [0, 0, 0, 1, 0]), (rowQ (.lst 8 (pV [(98, 1), (101, (-1))])) s [1, 0, 0, 0, 1])]] (.lst 1 [[.lst 11 [(vC 98)]], [.lst 11 [(vC 99)]], [.lst 11 [(vC 100)]], [.lst 11 [(vC 101)]]]) := ru tk8 ok167 z (by kernel_rfl)
theorem at_4_1_8 (c : Int) (s1 : Bool) (s2 : Bool) (s3 : Bool) (s : Bool) : R 167 [.lst 4 [(rowQ (.lst 8 (pV [(98, (-1)), (99, 1)])) s1 [0, 1, 0, 0, 0]), (rowQ (.lst 8 (pV [(99, (-1)), (100, 1)])) s2 [0, 0, 1, 0, 0]), (rowQ (.lst 8 (pV [(100, (-1)), (101, 1)])) s3 [0, 0, 0, 1, 0]), (rowQ (.lst 8 (pC (c) [(98, 1), (101, (-1))])) s [1, 0, 0, 0, 1])]] (.lst 1 [[.lst 11 [(vC 98)]], [.lst 11 [(vC 99)]], [.lst 11 [(vC 100)]], [.lst 11 [(vC 101)]]]) := ru tk8 ok167 z (by kernel_rfl)
theorem at_4_1_9 (k1 : Int) (c : Int) (s1 : Bool) (s2 : Bool) (s3 : Bool) (s : Bool) : R 167 [.lst 4 [(rowQ (.lst 8 (pC (k1) [(98, (-1)), (99, 1)])) s1 [0, 1, 0, 0, 0]), (rowQ (.lst 8 (pV [(99, (-1)), (100, 1)])) s2 [0, 0, 1, 0, 0]), (rowQ (.lst 8 (pV [(100, (-1)), (101, 1)])) s3 [0, 0, 0, 1, 0]), (rowQ (.lst 8 (pC (c) [(98, 1), (101, (-1))])) s [1, 0, 0, 0, 1])]] (.lst 1 [[.lst 11 [(vC 98)]], [.lst 11 [(vC 99)]], [.lst 11 [(vC 100)]], [.lst 11 [(vC 101)]]]) := ru tk8 ok167 z (by kernel_rfl)
theorem at_4_1_10 (k2 : Int) (c : Int) (s1 : Bool) (s2 : Bool) (s3 : Bool) (s : Bool) : R 167 [.lst 4 [(rowQ (.lst 8 (pV [(98, (-1)), (99, 1)])) s1 [0, 1, 0, 0, 0]), (rowQ (.lst 8 (pC (k2) [(99, (-1)), (100, 1)])) s2 [0, 0, 1, 0, 0]), (rowQ (.lst 8 (pV [(100, (-1)), (101, 1)])) s3 [0, 0, 0, 1, 0]), (rowQ (.lst 8 (pC (c) [(98, 1), (101, (-1))])) s [1, 0, 0, 0, 1])]] (.lst 1 [[.lst 11 [(vC 98)]], [.lst 11 [(vC 99)]], [.lst 11 [(vC 100)]], [.lst 11 [(vC 101)]]]) := ru tk8 ok167 z (by kernel_rfl)
theorem at_4_1_11 (k1 : Int) (k2 : Int) (c : Int) (s1 : Bool) (s2 : Bool) (s3 : Bool) (s : Bool) : R 167 [.lst 4 [(rowQ (.lst 8 (pC (k1) [(98, (-1)), (99, 1)])) s1 [0, 1, 0, 0, 0]), (rowQ (.lst 8 (pC (k2) [(99, (-1)), (100, 1)])) s2 [0, 0, 1, 0, 0]), (rowQ (.lst 8 (pV [(100, (-1)), (101, 1)])) s3 [0, 0, 0, 1, 0]), (rowQ (.lst 8 (pC (c) [(98, 1), (101, (-1))])) s [1, 0, 0, 0, 1])]] (.lst 1 [[.lst 11 [(vC 98)]], [.lst 11 [(vC 99)]], [.lst 11 [(vC 100)]], [.lst 11 [(vC 101)]]]) := ru tk8 ok167 z (by kernel_rfl)
theorem at_4_1_12 (k3 : Int) (c : Int) (s1 : Bool) (s2 : Bool) (s3 : Bool) (s : Bool) : R 167 [.lst 4 [(rowQ (.lst 8 (pV [(98, (-1)), (99, 1)])) s1 [0, 1, 0, 0, 0]), (rowQ (.lst 8 (pV [(99, (-1)), (100, 1)])) s2 [0, 0, 1, 0, 0]), (rowQ (.lst 8 (pC (k3) [(100, (-1)), (101, 1)])) s3 [0, 0, 0, 1, 0]), (rowQ (.lst 8 (pC (c) [(98, 1), (101, (-1))])) s [1, 0, 0, 0, 1])]] (.lst 1 [[.lst 11 [(vC 98)]], [.lst 11 [(vC 99)]], [.lst 11 [(vC 100)]], [.lst 11 [(vC 101)]]]) := ru tk8 ok167 z (by kernel_rfl)
theorem at_4_1_13 (k1 : Int) (k3 : Int) (c : Int) (s1 : Bool) (s2 : Bool) (s3 : Bool) (s : Bool) : R 167 [.lst 4 [(rowQ (.lst 8 (pC (k1) [(98, (-1)), (99, 1)])) s1 [0, 1, 0, 0, 0]), (rowQ (.lst 8 (pV [(99, (-1)), (100, 1)])) s2 [0, 0, 1, 0, 0]), (rowQ (.lst 8 (pC (k3) [(100, (-1)), (101, 1)])) s3 [0, 0, 0, 1, 0]), (rowQ (.lst 8 (pC (c) [(98, 1), (101, (-1))])) s [1, 0, 0, 0, 1])]] (.lst 1 [[.lst 11 [(vC 98)]], [.lst 11 [(vC 99)]], [.lst 11 [(vC 100)]], [.lst 11 [(vC 101)]]]) := ru tk8 ok167 z (by kernel_rfl)
theorem at_4_1_14 (k2 : Int) (k3 : Int) (c : Int) (s1 : Bool) (s2 : Bool) (s3 : Bool) (s : Bool) : R 167 [.lst 4 [(rowQ (.lst 8 (pV [(98, (-1)), (99, 1)])) s1 [0, 1, 0, 0, 0]), (rowQ (.lst 8 (pC (k2) [(99, (-1)), (100, 1)])) s2 [0, 0, 1, 0, 0]), (rowQ (.lst 8 (pC (k3) [(100, (-1)), (101, 1)])) s3 [0, 0, 0, 1, 0]), (rowQ (.lst 8 (pC (c) [(98, 1), (101, (-1))])) s [1, 0, 0, 0, 1])]] (.lst 1 [[.lst 11 [(vC 98)]], [.lst 11 [(vC 99)]], [.lst 11 [(vC 100)]], [.lst 11 [(vC 101)]]]) := ru tk8 ok167 z (by kernel_rfl)
theorem at_4_1_15 (k1 : Int) (k2 : Int) (k3 : Int) (c : Int) (s1 : Bool) (s2 : Bool) (s3 : Bool) (s : Bool) : R 167 [.lst 4 [(rowQ (.lst 8 (pC (k1) [(98, (-1)), (99, 1)])) s1 [0, 1, 0, 0, 0]), (rowQ (.lst 8 (pC (k2) [(99, (-1)), (100, 1)])) s2 [0, 0, 1, 0, 0]), (rowQ (.lst 8 (pC (k3) [(100, (-1)), (101, 1)])) s3 [0, 0, 0, 1, 0]), (rowQ (.lst 8 (pC (c) [(98, 1), (101, (-1))])) s [1, 0, 0, 0, 1])]] (.lst 1 [[.lst 11 [(vC 98)]], [.lst 11 [(vC 99)]], [.lst 11 [(vC 100)]], [.lst 11 [(vC 101)]]]) := ru tk8 ok167 z (by kernel_rfl)
theorem at_4_1 (k1 : Int) (k2 : Int) (k3 : Int) (c : Int) (s1 : Bool) (s2 : Bool) (s3 : Bool) (s : Bool) : R 167 [.lst 4 [rowP k1 [(98, (-1)), (99, 1)] s1 [0, 1, 0, 0, 0], rowP k2 [(99, (-1)), (100, 1)] s2 [0, 0, 1, 0, 0], rowP k3 [(100, (-1)), (101, 1)] s3 [0, 0, 0, 1, 0], rowP c [(98, 1), (101, (-1))] s [1, 0, 0, 0, 1]]] (.lst 1 [[.lst 11 [vC 98]], [.lst 11 [vC 99]], [.lst 11 [vC 100]], [.lst 11 [vC 101]]]) := by
  unfold rowP
  by_cases h0 : k1 = 0
  · subst h0
    by_cases h1 : k2 = 0
    · subst h1
      by_cases h2 : k3 = 0
      · subst h2
        by_cases h3 : c = 0
        · subst h3
          exact at_4_1_0 s1 s2 s3 s
        · rw [pE_nz h3]
          exact at_4_1_8 c s1 s2 s3 s
      · rw [pE_nz h2]
        by_cases h3 : c = 0
        · subst h3
          exact at_4_1_4 k3 s1 s2 s3 s
        · rw [pE_nz h3]
          exact at_4_1_12 k3 c s1 s2 s3 s
    · rw [pE_nz h1]
      by_cases h2 : k3 = 0
      · subst h2
        by_cases h3 : c = 0
        · subst h3
          exact at_4_1_2 k2 s1 s2 s3 s
        · rw [pE_nz h3]
          exact at_4_1_10 k2 c s1 s2 s3 s
      · rw [pE_nz h2]
        by_cases h3 : c = 0
        · subst h3
          exact at_4_1_6 k2 k3 s1 s2 s3 s
        · rw [pE_nz h3]
          exact at_4_1_14 k2 k3 c s1 s2 s3 s
  · rw [pE_nz h0]
    by_cases h1 : k2 = 0
    · subst h1
      by_cases h2 : k3 = 0
      · subst h2
        by_cases h3 : c = 0
        · subst h3
          exact at_4_1_1 k1 s1 s2 s3 s
        · rw [pE_nz h3]
          exact at_4_1_9 k1 c s1 s2 s3 s
      · rw [pE_nz h2]
        by_cases h3 : c = 0
        · subst h3
          exact at_4_1_5 k1 k3 s1 s2 s3 s
        · rw [pE_nz h3]
          exact at_4_1_13 k1 k3 c s1 s2 s3 s
    · rw [pE_nz h1]
      by_cases h2 : k3 = 0
      · subst h2
        by_cases h3 : c = 0
        · subst h3
          exact at_4_1_3 k1 k2 s1 s2 s3 s
        · rw [pE_nz h3]
          exact at_4_1_11 k1 k2 c s1 s2 s3 s
      · rw [pE_nz h2]
        by_cases h3 : c = 0
        · subst h3
          exact at_4_1_7 k1 k2 k3 s1 s2 s3 s
        · rw [pE_nz h3]
          exact at_4_1_15 k1 k2 k3 c s1 s2 s3 s
theorem at_4_2_0 (s2 : Bool) (s3 : Bool) (s : Bool) : R 167 [.lst 4 [(rowQ (.lst 8 (pV [(99, (-1)), (100, 1)])) s2 [0, 0, 1, 0, 0]), (rowQ (.lst 8 (pV [(100, (-1)), (101, 1)])) s3 [0, 0, 0, 1, 0]), (rowQ (.lst 8 (pV [(99, 1), (101, (-1))])) s [1, 1, 0, 0, 1])]] (.lst 1 [[.lst 11 [(vC 99)]], [.lst 11 [(vC 100)]], [.lst 11 [(vC 101)]]]) := ru tk8 ok167 z (by kernel_rfl)
theorem at_4_2_1 (k2 : Int) (s2 : Bool) (s3 : Bool) (s : Bool) : R 167 [.lst 4 [(rowQ (.lst 8 (pC (k2) [(99, (-1)), (100, 1)])) s2 [0, 0, 1, 0, 0]), (rowQ (.lst 8 (pV [(100, (-1)), (101, 1)])) s3 [0, 0, 0, 1, 0]), (rowQ (.lst 8 (pV [(99, 1), (101, (-1))])) s [1, 1, 0, 0, 1])]] (.lst 1 [[.lst 11 [(vC 99)]], [.lst 11 [(vC 100)]], [.lst 11 [(vC 101)]]]) := ru tk8 ok167 z (by kernel_rfl)
theorem at_4_2_2 (k3 : Int) (s2 : Bool) (s3 : Bool) (s : Bool) : R 167 [.lst 4 [(rowQ (.lst 8 (pV [(99, (-1)), (100, 1)])) s2 [0, 0, 1, 0, 0]), (rowQ (.lst 8 (pC (k3) [(100, (-1)), (101, 1)])) s3 [0, 0, 0, 1, 0]), (rowQ (.lst 8 (pV [(99, 1), (101, (-1))])) s [1, 1, 0, 0, 1])]] (.lst 1 [[.lst 11 [(vC 99)]], [.lst 11 [(vC 100)]], [.lst 11 [(vC 101)]]]) := ru tk8 ok167 z (by kernel_rfl)
theorem at_4_2_3 (k2 : Int) (k3 : Int) (s2 : Bool) (s3 : Bool) (s : Bool) : R 167 [.lst 4 [(rowQ (.lst 8 (pC (k2) [(99, (-1)), (100, 1)])) s2 [0, 0, 1, 0, 0]), (rowQ (.lst 8 (pC (k3) [(100, (-1)), (101, 1)])) s3 [0, 0, 0, 1, 0]), (rowQ (.lst 8 (pV [(99, 1), (101, (-1))])) s [1, 1, 0, 0, 1])]] (.lst 1 [[.lst 11 [(vC 99)]], [.lst 11 [(vC 100)]], [.lst 11 [(vC 101)]]]) := ru tk8 ok167 z (by kernel_rfl)
theorem at_4_2_4 (c : Int) (s2 : Bool) (s3 : Bool) (s : Bool) : R 167 [.lst 4 [(rowQ (.lst 8 (pV [(99, (-1)), (100, 1)])) s2 [0, 0, 1, 0, 0]), (rowQ (.lst 8 (pV [(100, (-1)), (101, 1)])) s3 [0, 0, 0, 1, 0]), (rowQ (.lst 8 (pC (c) [(99, 1), (101, (-1))])) s [1, 1, 0, 0, 1])]] (.lst 1 [[.lst 11 [(vC 99)]], [.lst 11 [(vC 100)]], [.lst 11 [(vC 101)]]]) := ru tk8 ok167 z (by kernel_rfl)
theorem at_4_2_5 (k2 : Int) (c : Int) (s2 : Bool) (s3 : Bool) (s : Bool) : R 167 [.lst 4 [(rowQ (.lst 8 (pC (k2) [(99, (-1)), (100, 1)])) s2 [0, 0, 1, 0, 0]), (rowQ (.lst 8 (pV [(100, (-1)), (101, 1)])) s3 [0, 0, 0, 1, 0]), (rowQ (.lst 8 (pC (c) [(99, 1), (101, (-1))])) s [1, 1, 0, 0, 1])]] (.lst 1 [[.lst 11 [(vC 99)]], [.lst 11 [(vC 100)]], [.lst 11 [(vC 101)]]]) := ru tk8 ok167 z (by kernel_rfl)
theorem at_4_2_6 (k3 : Int) (c : Int) (s2 : Bool) (s3 : Bool) (s : Bool) : R 167 [.lst 4 [(rowQ (.lst 8 (pV [(99, (-1)), (100, 1)])) s2 [0, 0, 1, 0, 0]), (rowQ (.lst 8 (pC (k3) [(100, (-1)), (101, 1)])) s3 [0, 0, 0, 1, 0]), (rowQ (.lst 8 (pC (c) [(99, 1), (101, (-1))])) s [1, 1, 0, 0, 1])]] (.lst 1 [[.lst 11 [(vC 99)]], [.lst 11 [(vC 100)]], [.lst 11 [(vC 101)]]]) := ru tk8 ok167 z (by kernel_rfl)
theorem at_4_2_7 (k2 : Int) (k3 : Int) (c : Int) (s2 : Bool) (s3 : Bool) (s : Bool) : R 167 [.lst 4 [(rowQ (.lst 8 (pC (k2) [(99, (-1)), (100, 1)])) s2 [0, 0, 1, 0, 0]), (rowQ (.lst 8 (pC (k3) [(100, (-1)), (101, 1)])) s3 [0, 0, 0, 1, 0]), (rowQ (.lst 8 (pC (c) [(99, 1), (101, (-1))])) s [1, 1, 0, 0, 1])]] (.lst 1 [[.lst 11 [(vC 99)]], [.lst 11 [(vC 100)]], [.lst 11 [(vC 101)]]]) := ru tk8 ok167 z (by kernel_rfl)
theorem at_4_2 (k2 : Int) (k3 : Int) (c : Int) (s2 : Bool) (s3 : Bool) (s : Bool) : R 167 [.lst 4 [rowP k2 [(99, (-1)), (100, 1)] s2 [0, 0, 1, 0, 0], rowP k3 [(100, (-1)), (101, 1)] s3 [0, 0, 0, 1, 0], rowP c [(99, 1), (101, (-1))] s [1, 1, 0, 0, 1]]] (.lst 1 [[.lst 11 [vC 99]], [.lst 11 [vC 100]], [.lst 11 [vC 101]]]) := by
  unfold rowP
  by_cases h0 : k2 = 0
  · subst h0
    by_cases h1 : k3 = 0
    · subst h1
      by_cases h2 : c = 0
      · subst h2
        exact at_4_2_0 s2 s3 s
      · rw [pE_nz h2]
        exact at_4_2_4 c s2 s3 s
    · rw [pE_nz h1]
      by_cases h2 : c = 0
      · subst h2
        exact at_4_2_2 k3 s2 s3 s
      · rw [pE_nz h2]
        exact at_4_2_6 k3 c s2 s3 s
  · rw [pE_nz h0]
    by_cases h1 : k3 = 0
    · subst h1
      by_cases h2 : c = 0
      · subst h2
        exact at_4_2_1 k2 s2 s3 s
      · rw [pE_nz h2]
        exact at_4_2_5 k2 c s2 s3 s
    · rw [pE_nz h1]
      by_cases h2 : c = 0
      · subst h2
        exact at_4_2_3 k2 k3 s2 s3 s
      · rw [pE_nz h2]
        exact at_4_2_7 k2 k3 c s2 s3 s
theorem at_4_3_0 (s3 : Bool) (s : Bool) : R 167 [.lst 4 [(rowQ (.lst 8 (pV [(100, (-1)), (101, 1)])) s3 [0, 0, 0, 1, 0]), (rowQ (.lst 8 (pV [(100, 1), (101, (-1))])) s [1, 1, 1, 0, 1])]] (.lst 1 [[.lst 11 [(vC 100)]], [.lst 11 [(vC 101)]]]) := ru tk8 ok167 z (by kernel_rfl)
theorem at_4_3_1 (k3 : Int) (s3 : Bool) (s : Bool) : R 167 [.lst 4 [(rowQ (.lst 8 (pC (k3) [(100, (-1)), (101, 1)])) s3 [0, 0, 0, 1, 0]), (rowQ (.lst 8 (pV [(100, 1), (101, (-1))])) s [1, 1, 1, 0, 1])]] (.lst 1 [[.lst 11 [(vC 100)]], [.lst 11 [(vC 101)]]]) := ru tk8 ok167 z (by kernel_rfl)
theorem at_4_3_2 (c : Int) (s3 : Bool) (s : Bool) : R 167 [.lst 4 [(rowQ (.lst 8 (pV [(100, (-1)), (101, 1)])) s3 [0, 0, 0, 1, 0]), (rowQ (.lst 8 (pC (c) [(100, 1), (101, (-1))])) s [1, 1, 1, 0, 1])]] (.lst 1 [[.lst 11 [(vC 100)]], [.lst 11 [(vC 101)]]]) := ru tk8 ok167 z (by kernel_rfl)
theorem at_4_3_3 (k3 : Int) (c : Int) (s3 : Bool) (s : Bool) : R 167 [.lst 4 [(rowQ (.lst 8 (pC (k3) [(100, (-1)), (101, 1)])) s3 [0, 0, 0, 1, 0]), (rowQ (.lst 8 (pC (c) [(100, 1), (101, (-1))])) s [1, 1, 1, 0, 1])]] (.lst 1 [[.lst 11 [(vC 100)]], [.lst 11 [(vC 101)]]]) := ru tk8 ok167 z (by kernel_rfl)
theorem at_4_3 (k3 : Int) (c : Int) (s3 : Bool) (s : Bool) : R 167 [.lst 4 [rowP k3 [(100, (-1)), (101, 1)] s3 [0, 0, 0, 1, 0], rowP c [(100, 1), (101, (-1))] s [1, 1, 1, 0, 1]]] (.lst 1 [[.lst 11 [vC 100]], [.lst 11 [vC 101]]]) := by
  unfold rowP
  by_cases h0 : k3 = 0
  · subst h0
    by_cases h1 : c = 0
    · subst h1
      exact at_4_3_0 s3 s
    · rw [pE_nz h1]
      exact at_4_3_2 c s3 s
  · rw [pE_nz h0]
    by_cases h1 : c = 0
    · subst h1
      exact at_4_3_1 k3 s3 s
    · rw [pE_nz h1]
      exact at_4_3_3 k3 c s3 s
theorem at_4_f_n (c : Int) (s : Bool) : R 167 [.lst 4 [(rowQ (.lst 8 (pC (c) [])) s [1, 1, 1, 1, 1])]] (nils) := ru tk0 ok167 z (by kernel_rfl)
theorem at_4_f_z (s : Bool) : R 167 [.lst 4 [(rowQ (nils) s [1, 1, 1, 1, 1])]] (nils) := ru tk0 ok167 z (by kernel_rfl)

end Go.Proofs.YthiipifjdfmblaaGreatDoor

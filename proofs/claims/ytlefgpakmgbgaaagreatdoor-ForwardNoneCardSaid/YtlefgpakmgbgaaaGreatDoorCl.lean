/- The functions that the law reaches. -/
import Derived.Test.YtlefgpakmgbgaaaGreatDoorSb
import Derived.Test.YtlefgpakmgbgaaaGreatDoorRows
set_option linter.unusedVariables false
set_option linter.unusedSimpArgs false
set_option linter.unusedSectionVars false
section
namespace Go.Hf
open Go
noncomputable def tbit (m f : Nat) : Bool := Nat.beq (Nat.land (Nat.shiftRight m f) 1) 1
noncomputable def frcN {α : Type} (n : Nat) (f : Nat → α) : α := @Nat.rec (fun _ => α) (f 0) (fun p _ => f (Nat.succ p)) n
theorem frcN_eq {α : Type} (n : Nat) (f : Nat → α) : frcN n f = f n := by cases n <;> rfl
def stepC {α : Type} (x : α) : α := x
noncomputable def apF {α β : Type} (l r : List α) (k : List α → β) : β := @List.rec α (fun _ => (List α → β) → β) (fun k => k r) (fun h _ ih k => ih fun t => k (h :: t)) l k
theorem apF_eq {α β : Type} : ∀ (l r : List α) (k : List α → β), apF l r k = k (l ++ r)
  | [], _, _ => rfl
  | h :: t, r, k => by show apF t r (fun t => k (h :: t)) = _; rw [apF_eq t r]; rfl
noncomputable def closF (ld : Nat → List Nat) (n : Nat) : List Nat → List Nat → Nat → List Nat :=
  @Nat.rec (fun _ => List Nat → List Nat → Nat → List Nat) (fun _ seen _ => seen.reverse)
    (fun _ ih todo seen m => @List.rec Nat (fun _ => List Nat) seen.reverse (fun f r _ => @Bool.rec (fun _ => List Nat) (apF (ld f) r fun t => frcN (Nat.lor m (Nat.shiftLeft 1 f)) fun m => stepC ih t (f :: seen) m) (stepC ih r seen m) (tbit m f)) todo) n
theorem tbit_eq (m f : Nat) : tbit m f = m.testBit f := by
  unfold tbit Nat.testBit
  have h1 : Nat.land (Nat.shiftRight m f) 1 = 1 &&& (m >>> f) := by rw [Nat.and_comm]; rfl
  have h2 : 1 &&& (m >>> f) = (m >>> f) % 2 := by rw [Nat.and_comm]; exact Nat.and_one_is_mod _
  rw [h1, h2]
  rcases Nat.mod_two_eq_zero_or_one (m >>> f) with h | h <;> rw [h] <;> rfl
theorem closF_eq (P : Program) (ld : Nat → List Nat) (hld : ∀ f, (P.funcs[f]?).elim [] P.leadsTo = ld f) : ∀ (n : Nat) (todo seen : List Nat) (m : Nat), (∀ f, seen.contains f = m.testBit f) → P.closureVia n todo seen = closF ld n todo seen m
  | 0, _, _, _, _ => rfl
  | _ + 1, [], _, _, _ => rfl
  | n + 1, f :: r, seen, m, h => by
    have e : closF ld (n + 1) (f :: r) seen m = @Bool.rec (fun _ => List Nat) (apF (ld f) r fun t => frcN (Nat.lor m (Nat.shiftLeft 1 f)) fun m => stepC (closF ld n) t (f :: seen) m) (stepC (closF ld n) r seen m) (tbit m f) := rfl
    rw [e, tbit_eq, ← h f]
    unfold Program.closureVia
    cases hc : seen.contains f with
    | true => exact closF_eq P ld hld n r seen m h
    | false =>
      simp only [Bool.false_eq_true, if_false, apF_eq, frcN_eq, stepC]
      rw [hld]
      refine closF_eq P ld hld n _ _ _ fun g => ?_
      have h3 : Nat.lor m (Nat.shiftLeft 1 f) = m ||| (1 <<< f) := rfl
      rw [h3, Nat.testBit_or, ← h g, List.contains_cons, Nat.one_shiftLeft, Nat.testBit_two_pow, Bool.or_comm]
      congr 1
      by_cases hg : g = f
      · subst hg; simp
      · have : f ≠ g := fun e => hg e.symm
        simp [hg, this]
end Go.Hf
end
section
set_option maxRecDepth 1000000
namespace Go.Hf
open Go Go.Proofs
noncomputable def ld3 (f : Nat) : List Nat := (Tryz.prog.funcs[f]?).elim [] Tryz.prog.leadsTo
def CL : List Nat := [3, 4, 10, 13, 39, 5, 14, 43, 106, 107, 105, 159, 160, 226, 296, 297, 227, 298, 299, 404, 485, 300, 301, 302, 303, 304, 146, 211, 280, 212, 213, 281, 282, 283, 214, 305, 161, 81, 228, 306, 80, 45, 82, 77, 83, 229, 162, 230, 44, 108, 163, 164, 41, 60, 26, 109, 165, 231, 307, 405, 169, 232, 308, 115, 233, 309, 406, 234, 235, 236, 237, 310, 407, 408, 409, 78, 145, 210, 279, 388, 473, 474, 537, 536, 538, 475, 476, 539, 540, 589, 590, 79, 312, 311, 410, 486, 104, 118, 167, 67, 120, 121, 58, 487, 488, 542, 591, 592, 593, 644, 594, 595, 645, 596, 597, 646, 543, 598, 648, 682, 647, 599, 600, 649, 683, 684, 685, 686, 601, 315, 411, 238, 54, 166, 239, 313, 114, 240, 314, 241, 110, 46, 111, 15, 11, 40, 47, 49, 50, 48, 38, 28, 51, 16, 52, 53, 112, 59, 17, 55, 113, 168, 12, 42, 56, 57, 61, 116, 62, 117, 170, 63, 64, 65, 119, 66, 68, 122, 8, 29, 84, 147, 216, 192, 138, 203, 261, 344, 441, 513, 567, 442, 514, 568, 625, 508, 559, 248, 328, 427, 428, 343, 440, 510, 564, 511, 565, 512, 566, 603, 650, 622, 623, 624, 657, 345, 172, 346, 242, 243, 316, 412, 413, 489, 490, 544, 602, 545, 563, 546, 604, 651, 547, 491, 129, 128, 183, 251, 492, 548, 385, 245, 371, 151, 221, 459, 523, 524, 574, 607, 653, 552, 553, 496, 554, 555, 578, 635, 676, 696, 697, 677, 698, 708, 699, 700, 709, 701, 636, 616, 579, 656, 582, 655, 618, 583, 249, 556, 617, 525, 493, 495, 494, 549, 605, 652, 606, 550, 609, 608, 610, 612, 654, 611, 614, 613, 551, 615, 317, 318, 319, 414, 415, 416, 497, 417, 393, 498, 418, 173, 244, 94, 177, 246, 320, 175, 152, 174, 321, 34, 91, 90, 322, 419, 420, 499, 421, 422, 423, 323, 325, 324, 424, 500, 258, 425, 501, 557, 326, 426, 502, 503, 558, 504, 505, 506, 374, 465, 464, 507, 357, 449, 517, 156, 569, 262, 347, 348, 444, 443, 570, 531, 463, 587, 580, 637, 678, 581, 643, 528, 466, 626, 627, 535, 658, 687, 704, 628, 373, 462, 527, 629, 659, 660, 577, 661, 662, 327, 354, 209, 207, 35, 92, 277, 383, 278, 384, 386, 472, 387, 263, 349, 144, 193, 259, 264, 265, 351, 350, 445, 267, 352, 446, 516, 515, 266, 75, 141, 142, 208, 98, 153, 205, 276, 76, 143, 268, 353, 269, 201, 204, 270, 355, 447, 271, 356, 218, 448, 272, 358, 450, 518, 571, 519, 359, 360, 273, 361, 452, 451, 362, 453, 364, 455, 220, 293, 454, 89, 150, 219, 520, 368, 457, 363, 365, 366, 456, 521, 522, 369, 572, 631, 671, 630, 663, 664, 688, 665, 689, 690, 666, 691, 692, 705, 667, 668, 669, 670, 573, 632, 672, 673, 693, 706, 367, 370, 458, 274, 372, 460, 461, 526, 575, 467, 529, 584, 638, 639, 679, 702, 530, 585, 586, 640, 641, 680, 703, 642, 681, 532, 588, 533, 375, 377, 468, 534, 576, 633, 674, 634, 675, 694, 695, 707, 710, 376, 378, 275, 380, 470, 471, 381, 382, 379, 469, 206, 257, 215, 284, 389, 390, 477, 285, 391, 392, 394, 85, 31, 88, 148, 149, 217, 286, 154, 395, 397, 287, 288, 396, 398, 289, 290, 399, 478, 291, 400, 479, 292, 30, 86, 87, 127, 181, 250, 329, 429, 509, 560, 619, 620, 561, 562, 621, 182, 32, 33, 36, 93, 95, 96, 97, 99, 100, 155, 157, 222, 223, 294, 401, 480, 481, 482, 541, 484, 483, 158, 224, 225, 196, 295, 402, 403, 7, 23, 24, 37, 25, 27, 101, 102, 103, 6, 18, 69, 123, 171, 124, 176, 178, 126, 125, 179, 180, 247, 70, 19, 71, 20, 72, 131, 185, 252, 186, 184, 130, 132, 188, 189, 190, 253, 330, 331, 430, 332, 431, 432, 136, 202, 137, 334, 254, 333, 134, 195, 197, 198, 335, 336, 433, 338, 187, 191, 255, 256, 337, 434, 435, 436, 437, 133, 194, 135, 200, 260, 339, 438, 340, 341, 342, 439, 199, 22, 21, 73, 74, 139, 140, 9]
theorem cl_run : closF ld3 (1 + (Tryz.prog.funcs.toList.map fun g => (Tryz.prog.leadsTo g).length + 1).sum) [3] [] 0 = CL := by kernel_rfl
theorem cl3 : Tryz.prog.closure 3 = CL := by
  unfold Program.closure
  rw [closF_eq Tryz.prog ld3 (fun _ => rfl) _ [3] [] 0 (fun f => by simp), cl_run]
end Go.Hf
end

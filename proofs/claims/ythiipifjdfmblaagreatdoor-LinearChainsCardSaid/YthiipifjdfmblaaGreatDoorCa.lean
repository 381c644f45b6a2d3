/- Compiled code, part a: compiled forms of functions of the program, made by a program; each is shown to be the function's own. -/
import Derived.Test.YthiipifjdfmblaaGreatDoorPgE
import Derived.Test.YthiipifjdfmblaaGreatDoorProg
import Derived.KernelRfl
set_option linter.unusedVariables false
set_option linter.unusedSimpArgs false
namespace Go.Proofs.YthiipifjdfmblaaGreatDoor
open Go Go.Pf
set_option maxRecDepth 100000

def modesTab : List (Nat × Pf.Mode) := [(184, .eat), (236, .inout), (182, .inout), (284, .inout), (232, .inout), (335, .inout), (279, .inout), (336, .inout), (280, .inout), (358, .inout), (330, .inout), (372, .inout), (356, .inout), (238, .eat), (286, .inout)]

/- Short words for the compiled forms. -/
namespace W
def m (d x : Nat) : POper := q d (.mv (.tmp x))
def t (n : Nat) : Operand := .tmp n
def i (n : Int) : Operand := .const (.int .i64 n)
def F : Operand := .const (.bool false)
def T : Operand := .const (.bool true)
def E : Operand := .const (.slice none 0 0)
def O : Operand := .const (.string ⟨#[]⟩)
def a11 : List Value := [(.int .i64 0), (.string ⟨#[]⟩), (.string ⟨#[]⟩), (.int .i64 0), (.string ⟨#[]⟩), (.string ⟨#[]⟩), (.string ⟨#[]⟩), (.string ⟨#[]⟩), (.string ⟨#[]⟩), (.slice none 0 0), (.slice none 0 0)]
def a7 : List Value := [(.int .i64 0), (.string ⟨#[]⟩), (.string ⟨#[]⟩), (.string ⟨#[]⟩), (.string ⟨#[]⟩), (.string ⟨#[]⟩), (.slice none 0 0)]
def a8 : List Value := [(.int .i64 0), (.string ⟨#[]⟩), (.string ⟨#[]⟩), (.string ⟨#[]⟩), (.string ⟨#[]⟩), (.string ⟨#[]⟩), (.slice none 0 0), (.slice none 0 0)]
def i1 : List Pf.Mode := [.imm]
def k (f : Nat) (l : List Operand) : ROp := .call (.func f) l [.imm]
def s (l : List POper) (c : PC) : PC := .seq (.region false l) c
def r (l : List POper) : PC := .region false l
theorem okF {f : Nat} {fn : Func} {c : FnR} (h : Tryz.prog.funcs[f]? = some fn) (e : fnOf Tryz.prog ⟨[], modesTab, []⟩ fn 6 false .imm = some c) : FnOk Tryz.prog f c := FnOk.of h e
theorem okT {f : Nat} {fn : Func} {c : FnR} (h : Tryz.prog.funcs[f]? = some fn) (e : fnOf Tryz.prog ⟨[], modesTab, []⟩ fn 6 true .imm = some c) : FnOk Tryz.prog f c := FnOk.of h e
end W
open W

def c4 : FnR := ⟨(s [q 6 (.mv F)]
 (.seq (s [q 11 (k 7 []), q 12 (.un .not (t 11))]
 (.cond (t 12) (s [q 6 (.mv F)]
 .ret) .skip))
 (.seq (s [m 13 1, q 14 (.len false (t 13)), q 15 (.bin .gtr (t 14) (i 6))]
 (.cond (t 15) (s [q 6 (.mv T)]
 .ret) .skip))
 (s [m 17 0, q 18 (.bin .rem (t 17) (.const (.int .u8 4))), q 19 (.cint .i64 (t 18)), q 20 (.bin .add (i 2) (t 19)), m 21 1, m 22 2, q 23 (.bin .rem (t 22) (.const (.int .i8 20))), q 24 (.cint .i64 (t 23)), q 25 (k 14 [(t 20), (t 21), (t 24)]), m 16 25, q 26 (.ext (t 16) 0), q 27 (.ext (t 16) 1), m 7 26, m 8 27]
 (s [m 29 7, q 30 (k 10 [(t 29)]), m 28 30, q 31 (.ext (t 28) 0), q 32 (.ext (t 28) 1), m 9 31, m 10 32]
 (s [m 33 10, m 34 8, q 35 (.bin .eql (t 34) (i 1)), q 36 (.binb false (t 33) (t 35)), m 37 36, qg 38 37 true (.mv (t 10)), qg 39 37 true (.un .not (t 38)), qg 40 37 true (.mv (t 39)), qg 41 40 false (.mv (t 7)), qg 42 40 false (.mv (t 9)), qg 43 40 false (k 11 [(t 41), (t 42)]), qg 44 37 true (.pick (t 40) T (t 43)), q 45 (.pick (t 37) (t 44) F), m 6 45]
 .ret)))))), 46, 6, [.tmp 6], false, .imm, []⟩
theorem ok4 : FnOk Tryz.prog 4 c4 := okF Tryz.func4 (by kernel_rfl)
def c7 : FnR := ⟨(s [q 0 (.mv F)]
 (s [q 8 (.call (.func 21) [(.const (.string ⟨#[120]⟩))] i1), q 9 (.call (.func 21) [(.const (.string ⟨#[121]⟩))] i1), q 10 (.call (.func 21) [(.const (.string ⟨#[122]⟩))] i1), q 1 (.alloc a11), q 2 (.alloc a11), q 3 (.alloc a11), qn (.store 11 (t 1) (t 8)), qn (.store 11 (t 2) (t 9)), qn (.store 11 (t 3) (t 10))]
 (.seq (.region true [
  ⟨some 11, none, .load true 11 (t 1), [1], []⟩,
  ⟨some 12, none, .load true 11 (t 2), [2], []⟩,
  ⟨some 13, none, .bslice 56 11 a11 2 [(0, (t 11)), (1, (t 12))] false, [8, 9], [13]⟩,
  ⟨some 14, none, .call (.func 22) [(.const (.string ⟨#[60]⟩)), (t 13)] i1, [13], [14]⟩,
  ⟨some 15, none, .bslice 56 11 a11 1 [(0, (t 14))] false, [14], [15]⟩,
  ⟨some 16, none, .call (.func 22) [(.const (.string ⟨#[110, 111, 116]⟩)), (t 15)] i1, [15], [16]⟩,
  ⟨some 17, none, .load true 11 (t 2), [2], []⟩,
  ⟨some 18, none, .load true 11 (t 3), [3], []⟩,
  ⟨some 19, none, .bslice 56 11 a11 2 [(0, (t 17)), (1, (t 18))] false, [9, 10], [19]⟩,
  ⟨some 20, none, .call (.func 22) [(.const (.string ⟨#[60]⟩)), (t 19)] i1, [19], [20]⟩,
  ⟨some 21, none, .bslice 56 11 a11 1 [(0, (t 20))] false, [20], [21]⟩,
  ⟨some 22, none, .call (.func 22) [(.const (.string ⟨#[110, 111, 116]⟩)), (t 21)] i1, [21], [22]⟩,
  ⟨some 23, none, .load true 11 (t 1), [1], []⟩,
  ⟨some 24, none, .load true 11 (t 3), [3], []⟩,
  ⟨some 25, none, .bslice 56 11 a11 2 [(0, (t 23)), (1, (t 24))] false, [8, 10], [25]⟩,
  ⟨some 26, none, .call (.func 22) [(.const (.string ⟨#[60]⟩)), (t 25)] i1, [25], [26]⟩,
  ⟨some 27, none, .bslice 56 11 a11 3 [(0, (t 16)), (1, (t 22)), (2, (t 26))] false, [16, 22, 26], [27]⟩,
  m 4 27])
 (s [m 29 4, q 30 (k 10 [(t 29)]), m 28 30, q 31 (.ext (t 28) 0), q 32 (.ext (t 28) 1), m 5 31, m 6 32]
 (.seq (.region true [
  ⟨some 33, none, k 23 [(i 0)], [], [33]⟩,
  ⟨some 34, none, .load true 11 (t 1), [1], []⟩,
  ⟨some 35, none, .bslice 56 11 a11 2 [(0, (t 33)), (1, (t 34))] false, [33, 8], [35]⟩,
  ⟨some 36, none, .call (.func 22) [(.const (.string ⟨#[60]⟩)), (t 35)] i1, [35], [36]⟩,
  ⟨some 37, none, .bslice 56 11 a11 1 [(0, (t 36))] false, [36], [37]⟩,
  ⟨some 38, none, .call (.func 22) [(.const (.string ⟨#[110, 111, 116]⟩)), (t 37)] i1, [37], [38]⟩,
  ⟨some 39, none, k 23 [(i 0)], [], [39]⟩,
  ⟨some 40, none, .load true 11 (t 2), [2], []⟩,
  ⟨some 41, none, .bslice 56 11 a11 2 [(0, (t 39)), (1, (t 40))] false, [39, 9], [41]⟩,
  ⟨some 42, none, .call (.func 22) [(.const (.string ⟨#[60]⟩)), (t 41)] i1, [41], [42]⟩,
  ⟨some 43, none, .bslice 56 11 a11 1 [(0, (t 42))] false, [42], [43]⟩,
  ⟨some 44, none, .call (.func 22) [(.const (.string ⟨#[110, 111, 116]⟩)), (t 43)] i1, [43], [44]⟩,
  ⟨some 45, none, .bslice 56 11 a11 2 [(0, (t 38)), (1, (t 44))] false, [38, 44], [45]⟩,
  ⟨some 46, none, k 16 [(t 45)], [45], [46]⟩,
  m 7 46])
 (.seq (.region true [
  m 47 6,
  m 48 47,
  qg 49 48 true (.mv (t 4)),
  qg 50 48 true (.mv (t 5)),
  ⟨some 51, some (48, true), k 11 [(t 49), (t 50)], [27, 30], [51]⟩,
  q 52 (.pick (t 48) (t 51) F),
  m 53 52,
  qg 54 53 true (.mv (t 7)),
  qg 55 53 true (.len false (t 54)),
  qg 56 53 true (.bin .eql (t 55) (i 3)),
  q 57 (.pick (t 53) (t 56) F),
  m 58 57,
  qg 59 58 true (.mv (t 7)),
  ⟨some 60, some (58, true), .iaddr 11 (t 59) (i 1), [46], []⟩,
  ⟨some 61, some (58, true), .load true 11 (t 60), [46], []⟩,
  ⟨some 62, some (58, true), k 23 [(i 0)], [], [62]⟩,
  ⟨some 63, some (58, true), .load true 11 (t 1), [1], []⟩,
  ⟨some 64, some (58, true), .load true 11 (t 2), [2], []⟩,
  ⟨some 65, some (58, true), .bslice 56 11 a11 2 [(0, (t 63)), (1, (t 64))] false, [8, 9], [65]⟩,
  ⟨some 66, some (58, true), .call (.func 22) [(.const (.string ⟨#[98, 105, 110, 97, 114, 121, 45, 42]⟩)), (t 65)] i1, [65], [66]⟩,
  ⟨some 67, some (58, true), .bslice 56 11 a11 2 [(0, (t 62)), (1, (t 66))] false, [62, 66], [67]⟩,
  ⟨some 68, some (58, true), .call (.func 22) [(.const (.string ⟨#[60]⟩)), (t 67)] i1, [67], [68]⟩,
  ⟨some 69, some (58, true), k 24 [(t 61), (t 68)], [68], [69]⟩,
  q 70 (.pick (t 58) (t 69) F),
  m 0 70])
 .ret)))))), 71, 7, [.tmp 0], false, .imm, []⟩
theorem ok7 : FnOk Tryz.prog 7 c7 := FnOk.of (H := ⟨[], modesTab, [(1, [1]), (2, [2]), (3, [3]), (11, [8]), (12, [9]), (13, [13]), (14, [14]), (15, [15]), (16, [16]), (17, [9]), (18, [10]), (19, [19]), (20, [20]), (21, [21]), (22, [22]), (23, [8]), (24, [10]), (25, [25]), (26, [26]), (33, [33]), (34, [8]), (35, [35]), (36, [36]), (37, [37]), (38, [38]), (39, [39]), (40, [9]), (41, [41]), (42, [42]), (43, [43]), (44, [44]), (45, [45]), (49, [27]), (50, [30]), (59, [46]), (60, [46]), (62, [62]), (63, [8]), (64, [9]), (65, [65]), (66, [66]), (67, [67]), (68, [68])]⟩) (d := 7) (own := false) (m := .imm) Tryz.func7 (by kernel_rfl)
def c10 : FnR := ⟨(s [q 2 (.mv E), q 3 (.mv F)]
 (s [q 4 (.mv E), q 5 (.mv E)]
 (.seq (s [m 13 0, q 14 (.len false (t 13)), q 15 (.mv (i 0))]
 (.block 0 (.loop (s [q 16 (.bin .lss (t 15) (t 14))]
 (.seq (.cond (t 16) .skip (.exit 0))
 (.seq (.block 1 (s [m 17 15, q 18 (.iaddr 11 (t 13) (t 15)), q 19 (.load true 11 (t 18)), q 7 (.alloc a11), m 6 17, qn (.store 11 (t 7) (t 19))]
 (s [q 21 (.load true 11 (t 7)), q 22 (k 35 [(t 21)]), m 20 22, q 23 (.ext (t 20) 0), q 24 (.ext (t 20) 1), q 25 (.ext (t 20) 2), m 8 23, m 9 24, m 10 25]
 (.seq (s [m 26 10, q 27 (.bin .neq (t 26) (i 0)), m 28 27, qg 29 28 false (.mv (t 9)), qg 30 28 false (.bin .eql (t 29) (i 0)), q 31 (.pick (t 28) T (t 30))]
 (.cond (t 31) (.exit 1) .skip))
 (.seq (.region true [
  m 32 8,
  m 33 9,
  q 34 (.bin .eql (t 33) (i 1)),
  m 35 0,
  q 36 (.len false (t 35)),
  ⟨some 37, none, .mkslice 54 7 112 a7 (t 36) (t 36), [], [37]⟩,
  m 38 0,
  q 39 (.len false (t 38)),
  ⟨some 40, none, .mkslice 4 1 1 [(.bool false)] (t 39) (t 39), [], [40]⟩,
  q 41 (.build [(.slice none 0 0), (.bool false), (.slice none 0 0), (.slice none 0 0)] [(0, 1, (t 32)), (1, 1, (t 34)), (2, 1, (t 37)), (3, 1, (t 40))]),
  ⟨some 11, none, .alloc [(.slice none 0 0), (.bool false), (.slice none 0 0), (.slice none 0 0)], [], [11]⟩,
  ⟨none, none, .store 4 (t 11) (t 41), [11, 22, 37, 40], [11]⟩])
 (.seq (s [q 42 (.faddr 2 (t 11)), q 43 (.load false 1 (t 42)), q 44 (.len false (t 43)), q 45 (.mv (i 0))]
 (.block 2 (.loop (s [q 46 (.bin .lss (t 45) (t 44))]
 (.seq (.cond (t 46) .skip (.exit 2))
 (.seq (.block 3 (s [m 47 45, m 12 47]
 (.region true [
  q 48 (.faddr 2 (t 11)),
  ⟨some 49, none, .load false 1 (t 48), [11], []⟩,
  m 50 12,
  ⟨some 51, none, k 36 [], [], [51]⟩,
  ⟨some 52, none, .iaddr 7 (t 49) (t 50), [22, 37, 40], []⟩,
  ⟨none, none, .store 7 (t 52) (t 51), [22, 37, 40, 51], [22, 37, 40]⟩])))
 (r [q 53 (.bin .add (t 45) (i 1)), m 45 53])))))))
 (.seq (.region true [
  q 54 (.faddr 2 (t 11)),
  ⟨some 55, none, .load false 1 (t 54), [11], []⟩,
  m 56 6,
  ⟨some 57, none, k 37 [(i 1)], [], [57]⟩,
  ⟨some 58, none, .iaddr 7 (t 55) (t 56), [22, 37, 40], []⟩,
  ⟨none, none, .store 7 (t 58) (t 57), [22, 37, 40, 57], [22, 37, 40]⟩])
 (s [m 59 9, q 60 (.bin .eql (t 59) (i 3))]
 (.cond (t 60) (r [m 61 4, q 62 (.load true 4 (t 11)), q 63 (.bslice 104 4 [(.slice none 0 0), (.bool false), (.slice none 0 0), (.slice none 0 0)] 1 [(0, (t 62))] false), q 64 (.append 104 4 80 (t 61) (t 63) false), m 4 64]) (s [q 65 (.faddr 3 (t 11)), q 66 (.load false 1 (t 65)), m 67 6, q 68 (.iaddr 1 (t 66) (t 67)), qn (.store 1 (t 68) T)]
 (r [m 69 5, q 70 (.load true 4 (t 11)), q 71 (.bslice 104 4 [(.slice none 0 0), (.bool false), (.slice none 0 0), (.slice none 0 0)] 1 [(0, (t 70))] false), q 72 (.append 104 4 80 (t 69) (t 71) false), m 5 72])))))))))))
 (r [q 73 (.bin .add (t 15) (i 1)), m 15 73])))))))
 (s [m 74 0, m 75 4, m 76 5, q 77 (k 38 [(t 74), (t 75), (t 76)]), q 78 (.ext (t 77) 0), q 79 (.ext (t 77) 1), m 2 78, m 3 79]
 .ret)))), 80, 7, [.tmp 2, .tmp 3], false, .imm, []⟩
theorem ok10 : FnOk Tryz.prog 10 c10 := FnOk.of (H := ⟨[22, 37, 40], modesTab, [(11, [11]), (41, [22, 37, 40]), (48, [11]), (49, [22, 37, 40]), (51, [51]), (52, [22, 37, 40]), (54, [11]), (55, [22, 37, 40]), (57, [57]), (58, [22, 37, 40])]⟩) (d := 7) (own := false) (m := .imm) Tryz.func10 (by kernel_rfl)
def c11 : FnR := ⟨(s [q 4 (.mv F)]
 (.seq (s [m 14 1, q 15 (.len false (t 14)), m 16 0, q 17 (.len false (t 16)), q 18 (.bin .neq (t 15) (t 17))]
 (.cond (t 18) (s [q 4 (.mv F)]
 .ret) .skip))
 (.seq (s [q 5 (.mv (i 0))]
 (.block 0 (.loop (.seq (s [m 19 5, m 20 1, q 21 (.len false (t 20)), q 22 (.bin .lss (t 19) (t 21))]
 (.cond (t 22) .skip (.exit 0)))
 (.seq (.block 1 (s [m 25 1, m 26 5, q 27 (.iaddr 7 (t 25) (t 26)), q 28 (.faddr 0 (t 27)), q 29 (.load false 1 (t 28)), q 30 (.bin .neq (t 29) (i 1)), m 31 30, qg 32 31 false (.mv (t 1)), qg 33 31 false (.mv (t 5)), qg 34 31 false (.iaddr 7 (t 32) (t 33)), qg 35 31 false (.load true 7 (t 34)), qg 36 31 false (k 39 [(t 35)]), qg 37 31 false (.un .not (t 36)), q 38 (.pick (t 31) T (t 37))]
 (.cond (t 38) (s [q 4 (.mv F)]
 .ret) .skip)))
 (r [m 23 5, q 24 (.bin .add (t 23) (i 1)), m 5 24]))))))
 (s [q 6 (.mv E)]
 (s [q 7 (.mv F)]
 (.seq (s [q 8 (.mv (i 0))]
 (.block 2 (.loop (.seq (s [m 39 8, m 40 0, q 41 (.len false (t 40)), q 42 (.bin .lss (t 39) (t 41))]
 (.cond (t 42) .skip (.exit 2)))
 (.seq (.block 3 (s [m 46 0, m 47 8, q 48 (.iaddr 11 (t 46) (t 47)), q 49 (.load true 11 (t 48)), q 50 (k 40 [(t 49)]), m 45 50, q 51 (.ext (t 45) 0), q 52 (.ext (t 45) 1), q 53 (.ext (t 45) 2), m 9 51, m 10 52, m 11 53]
 (.seq (s [m 54 11, q 55 (.bin .neq (t 54) (i 0)), m 56 55, qg 57 56 false (.mv (t 10)), qg 58 56 false (.bin .eql (t 57) (i 0)), q 59 (.pick (t 56) T (t 58))]
 (.cond (t 59) (.seq (s [m 60 1, m 61 8, q 62 (.iaddr 7 (t 60) (t 61)), q 63 (.load true 7 (t 62)), q 64 (k 41 [(t 63)]), q 65 (.un .not (t 64))]
 (.cond (t 65) (s [q 4 (.mv F)]
 .ret) .skip))
 (.exit 3)) .skip))
 (.seq (s [m 66 10, q 67 (.bin .neq (t 66) (i 3)), m 68 67, qg 69 68 true (.mv (t 1)), qg 70 68 true (.mv (t 8)), qg 71 68 true (.iaddr 7 (t 69) (t 70)), qg 72 68 true (.load true 7 (t 71)), qg 73 68 true (k 42 [(t 72)]), q 74 (.pick (t 68) (t 73) F)]
 (.cond (t 74) (s [q 4 (.mv F)]
 .ret) .skip))
 (s [m 75 7, m 76 75, qg 77 76 false (.mv (t 10)), qg 78 76 false (.bin .eql (t 77) (i 1)), qg 79 76 false (.mv (t 78)), qg 80 79 true (.mv (t 1)), qg 81 79 true (.mv (t 8)), qg 82 79 true (.iaddr 7 (t 80) (t 81)), qg 83 79 true (.load true 7 (t 82)), qg 84 79 true (k 41 [(t 83)]), qg 85 79 true (.un .not (t 84)), qg 86 76 false (.pick (t 79) (t 85) F), q 87 (.pick (t 76) T (t 86)), m 7 87]
 (s [m 89 9, m 90 1, m 91 8, q 92 (.iaddr 7 (t 90) (t 91)), q 93 (.load true 7 (t 92)), q 94 (k 43 [(t 89), (t 93)]), m 88 94, q 95 (.ext (t 88) 0), q 96 (.ext (t 88) 1), m 9 95, m 11 96]
 (.seq (s [m 97 11, q 98 (.bin .neq (t 97) (i 0))]
 (.cond (t 98) (s [q 4 (.mv F)]
 .ret) .skip))
 (s [m 100 6, m 101 9, q 102 (k 44 [(t 100), (t 101)]), m 99 102, q 103 (.ext (t 99) 0), q 104 (.ext (t 99) 1), m 6 103, m 11 104]
 (s [m 105 11, q 106 (.bin .neq (t 105) (i 0))]
 (.cond (t 106) (s [q 4 (.mv F)]
 .ret) .skip))))))))))
 (r [m 43 8, q 44 (.bin .add (t 43) (i 1)), m 8 44]))))))
 (s [m 108 6, q 109 (k 45 [(t 108)]), m 107 109, q 110 (.ext (t 107) 0), q 111 (.ext (t 107) 1), q 12 (.alloc a7), qn (.store 7 (t 12) (t 110)), m 13 111]
 (s [m 112 13, m 113 112, qg 114 113 true (.load true 7 (t 12)), qg 115 113 true (k 42 [(t 114)]), qg 116 113 true (.mv (t 115)), qg 117 116 false (.mv (t 7)), qg 118 116 false (.mv (t 117)), qg 119 118 true (.load true 7 (t 12)), qg 120 118 true (k 41 [(t 119)]), qg 121 116 false (.pick (t 118) (t 120) F), qg 122 113 true (.pick (t 116) T (t 121)), q 123 (.pick (t 113) (t 122) F), m 4 123]
 .ret)))))))), 124, 7, [.tmp 4], false, .imm, []⟩
theorem ok11 : FnOk Tryz.prog 11 c11 := FnOk.of (H := ⟨[], modesTab, []⟩) (d := 7) (own := false) (m := .imm) Tryz.func11 (by kernel_rfl)
def c14 : FnR := ⟨(s [q 6 (.mv E), q 7 (.mv (i 0))]
 (s [q 8 (.mv E)]
 (s [q 9 (.mv (i 0)), q 10 (.mv (i 0))]
 (.seq (s [q 11 (.mv (i 0))]
 (.block 0 (.loop (.seq (s [m 17 11, q 18 (.bin .add (t 17) (i 1)), m 19 0, q 20 (.bin .lss (t 18) (t 19))]
 (.cond (t 20) .skip (.exit 0)))
 (.seq (.block 1 (.seq (.region true [
  m 23 11,
  m 24 11,
  q 25 (.bin .add (t 24) (i 1)),
  q 26 (.sslice (.const (.string ⟨#[97, 98, 99, 100, 101, 102, 103]⟩)) (some (t 23)) (some (t 25))),
  ⟨some 27, none, k 21 [(t 26)], [], [27]⟩,
  m 28 11,
  q 29 (.bin .add (t 28) (i 1)),
  m 30 11,
  q 31 (.bin .add (t 30) (i 2)),
  q 32 (.sslice (.const (.string ⟨#[97, 98, 99, 100, 101, 102, 103]⟩)) (some (t 29)) (some (t 31))),
  ⟨some 33, none, k 21 [(t 32)], [], [33]⟩,
  ⟨some 12, none, .alloc a11, [], [12]⟩,
  ⟨some 13, none, .alloc a11, [], [13]⟩,
  ⟨none, none, .store 11 (t 12) (t 27), [12, 27], [12]⟩,
  ⟨none, none, .store 11 (t 13) (t 33), [13, 33], [13]⟩])
 (s [q 14 (.mv (i 0))]
 (.seq (s [m 34 11, m 35 1, q 36 (.len false (t 35)), q 37 (.bin .lss (t 34) (t 36))]
 (.cond (t 37) (r [m 38 1, m 39 11, q 40 (.iaddr 1 (t 38) (t 39)), q 41 (.load false 1 (t 40)), q 42 (.bin .rem (t 41) (.const (.int .u8 11))), q 43 (.cint .i64 (t 42)), q 44 (.bin .sub (t 43) (i 5)), m 14 44]) .skip))
 (.seq (.region true [
  m 45 14,
  ⟨some 46, none, k 23 [(t 45)], [], [46]⟩,
  ⟨some 47, none, .load true 11 (t 12), [12], []⟩,
  ⟨some 48, none, .bslice 56 11 a11 2 [(0, (t 46)), (1, (t 47))] false, [46, 27, 49], [48]⟩,
  ⟨some 49, none, .call (.func 22) [(.const (.string ⟨#[98, 105, 110, 97, 114, 121, 45, 43]⟩)), (t 48)] i1, [48], [49]⟩,
  ⟨none, none, .store 11 (t 12) (t 49), [12, 49], [12]⟩])
 (s [m 50 9, m 51 14, q 52 (.bin .add (t 50) (t 51)), m 9 52]
 (s [m 53 11, m 54 1, q 55 (.len false (t 54)), q 56 (.bin .lss (t 53) (t 55)), m 57 56, qg 58 57 true (.mv (t 1)), qg 59 57 true (.mv (t 11)), qg 60 57 true (.iaddr 1 (t 58) (t 59)), qg 61 57 true (.load false 1 (t 60)), qg 62 57 true (.bin .geq (t 61) (.const (.int .u8 128))), q 63 (.pick (t 57) (t 62) F)]
 (.cond (t 63) (s [m 64 8, q 65 (.load true 11 (t 12)), q 66 (.load true 11 (t 13)), q 67 (.bslice 56 11 a11 2 [(0, (t 65)), (1, (t 66))] false), q 68 (.call (.func 22) [(.const (.string ⟨#[60]⟩)), (t 67)] i1), q 69 (.bslice 56 11 a11 1 [(0, (t 68))] false), q 70 (.call (.func 22) [(.const (.string ⟨#[110, 111, 116]⟩)), (t 69)] i1), q 71 (.bslice 56 11 a11 1 [(0, (t 70))] false), q 72 (.append 56 11 176 (t 64) (t 71) false), m 8 72]
 (r [m 73 10, q 74 (.bin .add (t 73) (i 1)), m 10 74])) (r [m 75 8, q 76 (.load true 11 (t 13)), q 77 (.load true 11 (t 12)), q 78 (.bslice 56 11 a11 2 [(0, (t 76)), (1, (t 77))] false), q 79 (.call (.func 22) [(.const (.string ⟨#[60]⟩)), (t 78)] i1), q 80 (.bslice 56 11 a11 1 [(0, (t 79))] false), q 81 (.append 56 11 176 (t 75) (t 80) false), m 8 81])))))))))
 (r [m 21 11, q 22 (.bin .add (t 21) (i 1)), m 11 22]))))))
 (s [m 82 0, q 83 (.bin .sub (t 82) (i 1)), m 84 0, q 85 (.sslice (.const (.string ⟨#[97, 98, 99, 100, 101, 102, 103]⟩)) (some (t 83)) (some (t 84))), q 86 (k 21 [(t 85)]), q 87 (.call (.func 21) [(.const (.string ⟨#[97]⟩))] i1), q 15 (.alloc a11), q 16 (.alloc a11), qn (.store 11 (t 15) (t 86)), qn (.store 11 (t 16) (t 87))]
 (.seq (.region true [
  m 88 8,
  m 89 2,
  ⟨some 90, none, k 23 [(t 89)], [], [90]⟩,
  ⟨some 91, none, .load true 11 (t 16), [16], []⟩,
  ⟨some 92, none, .bslice 56 11 a11 2 [(0, (t 90)), (1, (t 91))] false, [90, 87], [92]⟩,
  ⟨some 93, none, .call (.func 22) [(.const (.string ⟨#[98, 105, 110, 97, 114, 121, 45, 43]⟩)), (t 92)] i1, [92], [93]⟩,
  ⟨some 94, none, .load true 11 (t 15), [15], []⟩,
  ⟨some 95, none, .bslice 56 11 a11 2 [(0, (t 93)), (1, (t 94))] false, [93, 86], [95]⟩,
  ⟨some 96, none, .call (.func 22) [(.const (.string ⟨#[60]⟩)), (t 95)] i1, [95], [96]⟩,
  ⟨some 97, none, .bslice 56 11 a11 1 [(0, (t 96))] false, [96], [97]⟩,
  ⟨some 98, none, .append 56 11 176 (t 88) (t 97) false, [72, 81, 98, 97], [98, 72, 81, 98]⟩,
  m 8 98])
 (.seq (s [m 99 9, m 100 2, q 101 (.bin .gtr (t 99) (t 100)), m 102 101, qg 103 102 false (.mv (t 9)), qg 104 102 false (.mv (t 2)), qg 105 102 false (.bin .eql (t 103) (t 104)), qg 106 102 false (.mv (t 105)), qg 107 106 true (.mv (t 10)), qg 108 106 true (.bin .gtr (t 107) (i 0)), qg 109 102 false (.pick (t 106) (t 108) F), q 110 (.pick (t 102) T (t 109))]
 (.cond (t 110) (s [m 111 8, m 6 111, q 7 (.mv (i 1))]
 .ret) .skip))
 (s [m 112 8, m 6 112, q 7 (.mv (i 0))]
 .ret)))))))), 113, 7, [.tmp 6, .tmp 7], false, .imm, []⟩
theorem ok14 : FnOk Tryz.prog 14 c14 := FnOk.of (H := ⟨[], modesTab, [(12, [12]), (13, [13]), (15, [15]), (16, [16]), (27, [27]), (33, [33]), (46, [46]), (47, [27, 49]), (48, [48]), (49, [49]), (88, [72, 81, 98]), (90, [90]), (91, [87]), (92, [92]), (93, [93]), (94, [86]), (95, [95]), (96, [96]), (97, [97])]⟩) (d := 7) (own := false) (m := .imm) Tryz.func14 (by kernel_rfl)
def c16 : FnR := ⟨(s [q 2 (.mv E)]
 (s [q 3 (.mv E)]
 (.seq (s [m 6 0, q 7 (k 57 [(t 6)]), q 8 (.len false (t 7)), q 9 (.mv (i 0))]
 (.block 0 (.loop (s [q 10 (.bin .lss (t 9) (t 8))]
 (.seq (.cond (t 10) .skip (.exit 0))
 (.seq (.block 1 (s [q 11 (.iaddr 37 (t 7) (t 9)), q 12 (.load true 37 (t 11)), q 5 (.alloc [(.int .i64 0), (.string ⟨#[]⟩), (.string ⟨#[]⟩), (.int .i64 0), (.string ⟨#[]⟩), (.string ⟨#[]⟩), (.string ⟨#[]⟩), (.string ⟨#[]⟩), (.string ⟨#[]⟩), (.slice none 0 0), (.slice none 0 0), (.int .i64 0), (.string ⟨#[]⟩), (.string ⟨#[]⟩), (.int .i64 0), (.string ⟨#[]⟩), (.string ⟨#[]⟩), (.string ⟨#[]⟩), (.string ⟨#[]⟩), (.string ⟨#[]⟩), (.slice none 0 0), (.slice none 0 0), (.slice none 0 0), (.slice none 0 0), (.bool false), (.slice none 0 0), (.int .i64 0), (.string ⟨#[]⟩), (.string ⟨#[]⟩), (.int .i64 0), (.string ⟨#[]⟩), (.string ⟨#[]⟩), (.string ⟨#[]⟩), (.string ⟨#[]⟩), (.string ⟨#[]⟩), (.slice none 0 0), (.slice none 0 0)]), qn (.store 37 (t 5) (t 12))]
 (r [m 13 3, q 14 (.faddr 26 (t 5)), q 15 (.load true 11 (t 14)), q 16 (.bslice 56 11 a11 1 [(0, (t 15))] false), q 17 (.append 56 11 176 (t 13) (t 16) false), m 3 17])))
 (r [q 18 (.bin .add (t 9) (i 1)), m 9 18])))))))
 (s [m 19 3, m 2 19]
 .ret)))), 20, 5, [.tmp 2], false, .imm, []⟩
theorem ok16 : FnOk Tryz.prog 16 c16 := FnOk.of (H := ⟨[], modesTab, []⟩) (d := 5) (own := false) (m := .imm) Tryz.func16 (by kernel_rfl)
def c21 : FnR := ⟨(s [q 2 (.alloc a11)]
 (s [m 3 0, q 4 (k 28 [(t 3)]), q 5 (k 67 [(t 4)]), qn (.store 11 (t 2) (t 5))]
 .ret)), 6, 4, [.cell 2 true 11], false, .imm, []⟩
theorem ok21 : FnOk Tryz.prog 21 c21 := FnOk.of (H := ⟨[], modesTab, []⟩) (d := 4) (own := false) (m := .imm) Tryz.func21 (by kernel_rfl)
def c22 : FnR := ⟨(s [q 4 (.alloc a11)]
 (s [m 5 0, m 6 1, q 7 (k 62 [(t 5), (t 6)]), qn (.store 11 (t 4) (t 7))]
 .ret)), 8, 4, [.cell 4 true 11], false, .imm, []⟩
theorem ok22 : FnOk Tryz.prog 22 c22 := FnOk.of (H := ⟨[], modesTab, []⟩) (d := 4) (own := false) (m := .imm) Tryz.func22 (by kernel_rfl)
def c23 : FnR := ⟨(s [q 2 (.alloc a11)]
 (s [m 3 0, q 4 (k 60 [(t 3)]), q 5 (k 59 [(t 4)]), qn (.store 11 (t 2) (t 5))]
 .ret)), 6, 4, [.cell 2 true 11], false, .imm, []⟩
theorem ok23 : FnOk Tryz.prog 23 c23 := FnOk.of (H := ⟨[], modesTab, []⟩) (d := 4) (own := false) (m := .imm) Tryz.func23 (by kernel_rfl)
def c24 : FnR := ⟨(s [q 2 (.box (t 0)), q 3 (.box (t 1)), q 4 (.mv F)]
 (s [q 5 (.faddr 0 (t 2)), q 6 (.load false 1 (t 5)), q 7 (.faddr 0 (t 3)), q 8 (.load false 1 (t 7)), q 9 (.bin .eql (t 6) (t 8)), m 10 9, qg 11 10 true (.faddr 1 (t 2)), qg 12 10 true (.load true 2 (t 11)), qg 13 10 true (.faddr 1 (t 3)), qg 14 10 true (.load true 2 (t 13)), qg 15 10 true (.eqs false (t 12) (t 14)), q 16 (.pick (t 10) (t 15) F), m 17 16, qg 18 17 true (.faddr 3 (t 2)), qg 19 17 true (.load true 7 (t 18)), qg 20 17 true (.faddr 3 (t 3)), qg 21 17 true (.load true 7 (t 20)), qg 22 17 true (k 65 [(t 19), (t 21)]), q 23 (.pick (t 17) (t 22) F), m 24 23, qg 25 24 true (.faddr 10 (t 2)), qg 26 24 true (.load false 1 (t 25)), qg 27 24 true (.faddr 10 (t 3)), qg 28 24 true (.load false 1 (t 27)), qg 29 24 true (k 68 [(t 26), (t 28)]), q 30 (.pick (t 24) (t 29) F), m 4 30]
 .ret)), 31, 5, [.tmp 4], false, .imm, []⟩
theorem ok24 : FnOk Tryz.prog 24 c24 := FnOk.of (H := ⟨[], modesTab, []⟩) (d := 5) (own := false) (m := .imm) Tryz.func24 (by kernel_rfl)
def c28 : FnR := ⟨(s [q 2 (.alloc [(.string ⟨#[]⟩), (.string ⟨#[]⟩)])]
 (s [m 3 0, q 4 (.build [(.string ⟨#[]⟩), (.string ⟨#[]⟩)] [(0, 1, (.const (.string ⟨#[117, 115, 101, 114]⟩))), (1, 1, (t 3))]), qn (.store 2 (t 2) (t 4))]
 .ret)), 5, 4, [.cell 2 true 2], false, .imm, []⟩
theorem ok28 : FnOk Tryz.prog 28 c28 := FnOk.of (H := ⟨[], modesTab, []⟩) (d := 4) (own := false) (m := .imm) Tryz.func28 (by kernel_rfl)
def c35 : FnR := ⟨(s [q 1 (.box (t 0)), q 2 (.mv E), q 3 (.mv (i 0)), q 4 (.mv (i 0))]
 (s [q 10 (.build a11 []), q 11 (.build a11 []), q 6 (.alloc a11), q 7 (.alloc a11), q 5 (.mv (i 0)), qn (.store 11 (t 6) (t 10)), qn (.store 11 (t 7) (t 11))]
 (.seq (.block 0 (s [q 13 (.load true 11 (t 1)), q 14 (.call (.func 98) [(t 13), (.const (.string ⟨#[60]⟩)), (i 2)] i1), m 12 14]
 (.cond (t 12) (.region true [
  q 15 (.faddr 10 (t 1)),
  ⟨some 16, none, .load false 1 (t 15), [1], []⟩,
  q 17 (.iaddr 11 (t 16) (i 0)),
  q 18 (.load true 11 (t 17)),
  q 19 (.faddr 10 (t 1)),
  ⟨some 20, none, .load false 1 (t 19), [1], []⟩,
  q 21 (.iaddr 11 (t 20) (i 1)),
  q 22 (.load true 11 (t 21)),
  q 5 (.mv (i 2)),
  ⟨none, none, .store 11 (t 6) (t 18), [6], [6]⟩,
  ⟨none, none, .store 11 (t 7) (t 22), [7], [7]⟩]) (s [q 24 (.load true 11 (t 1)), q 25 (.call (.func 98) [(t 24), (.const (.string ⟨#[110, 111, 116]⟩)), (i 1)] i1), m 26 25, qg 27 26 true (.faddr 10 (t 1)), qg 28 26 true (.load false 1 (t 27)), qg 29 26 true (.iaddr 11 (t 28) (i 0)), qg 30 26 true (.load true 11 (t 29)), qg 31 26 true (.call (.func 98) [(t 30), (.const (.string ⟨#[60]⟩)), (i 2)] i1), q 32 (.pick (t 26) (t 31) F), m 23 32]
 (.cond (t 23) (.region true [
  q 33 (.faddr 10 (t 1)),
  ⟨some 34, none, .load false 1 (t 33), [1], []⟩,
  q 35 (.iaddr 11 (t 34) (i 0)),
  q 36 (.faddr 10 (t 35)),
  q 37 (.load false 1 (t 36)),
  q 38 (.iaddr 11 (t 37) (i 1)),
  q 39 (.load true 11 (t 38)),
  q 40 (.faddr 10 (t 1)),
  ⟨some 41, none, .load false 1 (t 40), [1], []⟩,
  q 42 (.iaddr 11 (t 41) (i 0)),
  q 43 (.faddr 10 (t 42)),
  q 44 (.load false 1 (t 43)),
  q 45 (.iaddr 11 (t 44) (i 0)),
  q 46 (.load true 11 (t 45)),
  q 5 (.mv (i 1)),
  ⟨none, none, .store 11 (t 6) (t 39), [6], [6]⟩,
  ⟨none, none, .store 11 (t 7) (t 46), [7], [7]⟩]) (s [q 48 (.load true 11 (t 1)), q 49 (.call (.func 98) [(t 48), (.const (.string ⟨#[110, 111, 116]⟩)), (i 1)] i1), m 50 49, qg 51 50 true (.faddr 10 (t 1)), qg 52 50 true (.load false 1 (t 51)), qg 53 50 true (.iaddr 11 (t 52) (i 0)), qg 54 50 true (.load true 11 (t 53)), qg 55 50 true (.call (.func 98) [(t 54), (.const (.string ⟨#[101, 113, 117, 97, 108]⟩)), (i 2)] i1), q 56 (.pick (t 50) (t 55) F), m 47 56]
 (.cond (t 47) (.region true [
  q 57 (.faddr 10 (t 1)),
  ⟨some 58, none, .load false 1 (t 57), [1], []⟩,
  q 59 (.iaddr 11 (t 58) (i 0)),
  q 60 (.faddr 10 (t 59)),
  q 61 (.load false 1 (t 60)),
  q 62 (.iaddr 11 (t 61) (i 0)),
  q 63 (.load true 11 (t 62)),
  q 64 (.faddr 10 (t 1)),
  ⟨some 65, none, .load false 1 (t 64), [1], []⟩,
  q 66 (.iaddr 11 (t 65) (i 0)),
  q 67 (.faddr 10 (t 66)),
  q 68 (.load false 1 (t 67)),
  q 69 (.iaddr 11 (t 68) (i 1)),
  q 70 (.load true 11 (t 69)),
  q 5 (.mv (i 3)),
  ⟨none, none, .store 11 (t 6) (t 63), [6], [6]⟩,
  ⟨none, none, .store 11 (t 7) (t 70), [7], [7]⟩]) (s [q 2 (.mv E), q 3 (.mv (i 0)), q 4 (.mv (i 0))]
 .ret))))))))
 (s [q 72 (.load true 11 (t 6)), q 73 (.load true 11 (t 7)), q 74 (k 99 [(t 72), (t 73)]), m 71 74, q 75 (.ext (t 71) 0), q 76 (.ext (t 71) 1), m 8 75, m 9 76]
 (.seq (s [m 77 9, q 78 (.bin .neq (t 77) (i 0))]
 (.cond (t 78) (s [m 79 9, q 2 (.mv E), q 3 (.mv (i 0)), m 4 79]
 .ret) .skip))
 (s [m 80 8, m 81 5, m 2 80, m 3 81, q 4 (.mv (i 0))]
 .ret)))))), 82, 7, [.tmp 2, .tmp 3, .tmp 4], false, .imm, []⟩
theorem ok35 : FnOk Tryz.prog 35 c35 := FnOk.of (H := ⟨[], modesTab, [(6, [6]), (7, [7]), (15, [1]), (19, [1]), (33, [1]), (40, [1]), (57, [1]), (64, [1])]⟩) (d := 7) (own := false) (m := .imm) Tryz.func35 (by kernel_rfl)
def c36 : FnR := ⟨(s [q 0 (.alloc a7)]
 (s [q 1 (k 37 [(i 0)]), qn (.store 7 (t 0) (t 1))]
 .ret)), 2, 4, [.cell 0 true 7], false, .imm, []⟩
theorem ok36 : FnOk Tryz.prog 36 c36 := FnOk.of (H := ⟨[], modesTab, []⟩) (d := 4) (own := false) (m := .imm) Tryz.func36 (by kernel_rfl)
def c37 : FnR := ⟨(s [q 2 (.alloc a7)]
 (s [m 3 0, q 4 (k 101 [(t 3)]), q 5 (k 100 [(t 4)]), qn (.store 7 (t 2) (t 5))]
 .ret)), 6, 4, [.cell 2 true 7], false, .imm, []⟩
theorem ok37 : FnOk Tryz.prog 37 c37 := FnOk.of (H := ⟨[], modesTab, []⟩) (d := 4) (own := false) (m := .imm) Tryz.func37 (by kernel_rfl)
def c38 : FnR := ⟨(s [q 6 (.mv E), q 7 (.mv F)]
 (.seq (.block 0 (.loop (.seq (s [m 13 1, q 14 (.len false (t 13)), q 15 (.bin .gtr (t 14) (i 0))]
 (.cond (t 15) .skip (.exit 0)))
 (.block 1 (s [m 16 1, q 17 (.iaddr 4 (t 16) (i 0)), q 18 (.load true 4 (t 17)), q 8 (.alloc [(.slice none 0 0), (.bool false), (.slice none 0 0), (.slice none 0 0)]), qn (.store 4 (t 8) (t 18))]
 (s [m 19 1, q 20 (.slc 4 (t 19) (some (i 1)) none), m 1 20]
 (s [q 21 (.faddr 0 (t 8)), q 22 (.load false 1 (t 21)), q 23 (k 102 [(t 22)]), m 9 23]
 (.seq (s [m 24 9, q 25 (.isnil false (t 24))]
 (.cond (t 25) (.seq (s [m 27 0, q 28 (.load true 4 (t 8)), q 29 (k 103 [(t 27), (t 28)]), m 26 29, q 30 (.ext (t 26) 0), q 31 (.ext (t 26) 1), m 10 30, m 11 31]
 (s [m 32 11]
 (.cond (t 32) (s [m 33 10, m 6 33, q 7 (.mv T)]
 .ret) .skip)))
 (.exit 1)) .skip))
 (s [q 12 (.mv F)]
 (.seq (s [m 35 1, q 36 (.load true 4 (t 8)), m 37 9, q 38 (k 104 [(t 35), (t 36), (t 37)]), m 34 38, q 39 (.ext (t 34) 0), q 40 (.ext (t 34) 1), m 1 39, m 12 40]
 (s [m 41 12, q 42 (.un .not (t 41))]
 (.cond (t 42) (s [q 6 (.mv E), q 7 (.mv F)]
 .ret) .skip)))
 (s [m 44 2, q 45 (.load true 4 (t 8)), m 46 9, q 47 (k 104 [(t 44), (t 45), (t 46)]), m 43 47, q 48 (.ext (t 43) 0), q 49 (.ext (t 43) 1), m 2 48, m 12 49]
 (s [m 50 12, q 51 (.un .not (t 50))]
 (.cond (t 51) (s [q 6 (.mv E), q 7 (.mv F)]
 .ret) .skip)))))))))))))
 (s [m 52 0, m 53 2, q 54 (k 105 [(t 52), (t 53)]), q 55 (.ext (t 54) 0), q 56 (.ext (t 54) 1), m 6 55, m 7 56]
 .ret))), 57, 6, [.tmp 6, .tmp 7], false, .imm, []⟩
theorem ok38 : FnOk Tryz.prog 38 c38 := okF Tryz.func38 (by kernel_rfl)
def c39 : FnR := ⟨(s [q 1 (.box (t 0)), q 2 (.mv F)]
 (s [q 3 (.load true 7 (t 1)), q 4 (k 106 [(t 3)]), q 5 (.bin .leq (t 4) (i 3000)), m 6 5, qg 7 6 true (.load true 7 (t 1)), qg 8 6 true (k 107 [(t 7)]), q 9 (.pick (t 6) (t 8) F), m 2 9]
 .ret)), 10, 4, [.tmp 2], false, .imm, []⟩
theorem ok39 : FnOk Tryz.prog 39 c39 := FnOk.of (H := ⟨[], modesTab, []⟩) (d := 4) (own := false) (m := .imm) Tryz.func39 (by kernel_rfl)
def c40 : FnR := ⟨(s [q 1 (.box (t 0)), q 2 (.mv E), q 3 (.mv (i 0)), q 4 (.mv (i 0))]
 (s [q 5 (.mv (i 0))]
 (s [q 6 (.mv E)]
 (s [q 7 (.mv (i 0))]
 (.seq (.block 0 (s [q 9 (.load true 11 (t 1)), q 10 (.call (.func 85) [(t 9), (.const (.string ⟨#[60]⟩)), (i 2)] i1), m 8 10]
 (.cond (t 8) (s [q 5 (.mv (i 2))]
 (.region true [
  q 12 (.faddr 10 (t 1)),
  ⟨some 13, none, .load false 1 (t 12), [1], []⟩,
  q 14 (.iaddr 11 (t 13) (i 1)),
  q 15 (.load true 11 (t 14)),
  q 16 (.faddr 10 (t 1)),
  ⟨some 17, none, .load false 1 (t 16), [1], []⟩,
  q 18 (.iaddr 11 (t 17) (i 0)),
  q 19 (.load true 11 (t 18)),
  ⟨some 20, none, k 108 [(t 15), (t 19)], [], [20]⟩,
  m 11 20,
  q 21 (.ext (t 11) 0),
  q 22 (.ext (t 11) 1),
  m 6 21,
  m 7 22])) (s [q 24 (.load true 11 (t 1)), q 25 (.call (.func 85) [(t 24), (.const (.string ⟨#[110, 111, 116]⟩)), (i 1)] i1), m 26 25, qg 27 26 true (.faddr 10 (t 1)), qg 28 26 true (.load false 1 (t 27)), qg 29 26 true (.iaddr 11 (t 28) (i 0)), qg 30 26 true (.load true 11 (t 29)), qg 31 26 true (.call (.func 85) [(t 30), (.const (.string ⟨#[60]⟩)), (i 2)] i1), q 32 (.pick (t 26) (t 31) F), m 23 32]
 (.cond (t 23) (s [q 5 (.mv (i 1))]
 (.region true [
  q 34 (.faddr 10 (t 1)),
  ⟨some 35, none, .load false 1 (t 34), [1], []⟩,
  q 36 (.iaddr 11 (t 35) (i 0)),
  q 37 (.faddr 10 (t 36)),
  q 38 (.load false 1 (t 37)),
  q 39 (.iaddr 11 (t 38) (i 0)),
  q 40 (.load true 11 (t 39)),
  q 41 (.faddr 10 (t 1)),
  ⟨some 42, none, .load false 1 (t 41), [1], []⟩,
  q 43 (.iaddr 11 (t 42) (i 0)),
  q 44 (.faddr 10 (t 43)),
  q 45 (.load false 1 (t 44)),
  q 46 (.iaddr 11 (t 45) (i 1)),
  q 47 (.load true 11 (t 46)),
  ⟨some 48, none, k 108 [(t 40), (t 47)], [], [48]⟩,
  m 33 48,
  q 49 (.ext (t 33) 0),
  q 50 (.ext (t 33) 1),
  m 6 49,
  m 7 50])) (s [q 52 (.load true 11 (t 1)), q 53 (.call (.func 85) [(t 52), (.const (.string ⟨#[110, 111, 116]⟩)), (i 1)] i1), m 54 53, qg 55 54 true (.faddr 10 (t 1)), qg 56 54 true (.load false 1 (t 55)), qg 57 54 true (.iaddr 11 (t 56) (i 0)), qg 58 54 true (.load true 11 (t 57)), qg 59 54 true (.call (.func 85) [(t 58), (.const (.string ⟨#[101, 113, 117, 97, 108]⟩)), (i 2)] i1), q 60 (.pick (t 54) (t 59) F), m 51 60]
 (.cond (t 51) (s [q 5 (.mv (i 3))]
 (.region true [
  q 62 (.faddr 10 (t 1)),
  ⟨some 63, none, .load false 1 (t 62), [1], []⟩,
  q 64 (.iaddr 11 (t 63) (i 0)),
  q 65 (.faddr 10 (t 64)),
  q 66 (.load false 1 (t 65)),
  q 67 (.iaddr 11 (t 66) (i 1)),
  q 68 (.load true 11 (t 67)),
  q 69 (.faddr 10 (t 1)),
  ⟨some 70, none, .load false 1 (t 69), [1], []⟩,
  q 71 (.iaddr 11 (t 70) (i 0)),
  q 72 (.faddr 10 (t 71)),
  q 73 (.load false 1 (t 72)),
  q 74 (.iaddr 11 (t 73) (i 0)),
  q 75 (.load true 11 (t 74)),
  ⟨some 76, none, k 108 [(t 68), (t 75)], [], [76]⟩,
  m 61 76,
  q 77 (.ext (t 61) 0),
  q 78 (.ext (t 61) 1),
  m 6 77,
  m 7 78])) .skip)))))))
 (.seq (s [m 79 7, q 80 (.bin .neq (t 79) (i 0))]
 (.cond (t 80) (s [m 81 7, q 2 (.mv E), q 3 (.mv (i 0)), m 4 81]
 .ret) .skip))
 (s [m 82 6, m 83 5, m 2 82, m 3 83, q 4 (.mv (i 0))]
 .ret))))))), 84, 7, [.tmp 2, .tmp 3, .tmp 4], false, .imm, []⟩
theorem ok40 : FnOk Tryz.prog 40 c40 := FnOk.of (H := ⟨[], modesTab, [(12, [1]), (16, [1]), (34, [1]), (41, [1]), (62, [1]), (69, [1])]⟩) (d := 7) (own := false) (m := .imm) Tryz.func40 (by kernel_rfl)
def c41 : FnR := ⟨(s [q 1 (.box (t 0)), q 2 (.mv F)]
 (s [q 3 (.faddr 0 (t 1)), q 4 (.load false 1 (t 3)), q 5 (.bin .neq (t 4) (i 1)), m 6 5, qg 7 6 false (.faddr 1 (t 1)), qg 8 6 false (.load false 1 (t 7)), qg 9 6 false (.bin .eql (t 8) (.const (.string ⟨#[48]⟩))), q 10 (.pick (t 6) T (t 9)), m 2 10]
 .ret)), 11, 4, [.tmp 2], false, .imm, []⟩
theorem ok41 : FnOk Tryz.prog 41 c41 := FnOk.of (H := ⟨[], modesTab, []⟩) (d := 4) (own := false) (m := .imm) Tryz.func41 (by kernel_rfl)
def c42 : FnR := ⟨(s [q 1 (.box (t 0)), q 2 (.mv F)]
 (s [q 3 (.faddr 1 (t 1)), q 4 (.load false 1 (t 3)), q 5 (.len true (t 4)), q 6 (.bin .gtr (t 5) (i 0)), m 7 6, qg 8 7 true (.faddr 1 (t 1)), qg 9 7 true (.load false 1 (t 8)), qg 10 7 true (.sidx (t 9) (i 0)), qg 11 7 true (.bin .eql (t 10) (.const (.int .u8 45))), q 12 (.pick (t 7) (t 11) F), m 2 12]
 .ret)), 13, 4, [.tmp 2], false, .imm, []⟩
theorem ok42 : FnOk Tryz.prog 42 c42 := FnOk.of (H := ⟨[], modesTab, []⟩) (d := 4) (own := false) (m := .imm) Tryz.func42 (by kernel_rfl)
def c43 : FnR := ⟨(s [q 3 (.box (t 1)), q 4 (.mv E), q 5 (.mv (i 0))]
 (.seq (s [q 8 (.load true 7 (t 3)), q 9 (k 41 [(t 8)])]
 (.cond (t 9) (s [q 4 (.mv E), q 5 (.mv (i 0))]
 .ret) .skip))
 (s [q 6 (.mv E)]
 (.seq (s [q 7 (.mv (i 0))]
 (.block 0 (.loop (.seq (s [m 10 7, m 11 0, q 12 (.len false (t 11)), q 13 (.bin .lss (t 10) (t 12))]
 (.cond (t 13) .skip (.exit 0)))
 (.seq (.block 1 (.region true [
  m 16 6,
  m 17 0,
  m 18 7,
  q 19 (.iaddr 8 (t 17) (t 18)),
  q 20 (.faddr 0 (t 19)),
  q 21 (.load true 7 (t 20)),
  ⟨some 22, none, .load true 7 (t 3), [3], []⟩,
  ⟨some 23, none, k 109 [(t 21), (t 22)], [], [23]⟩,
  m 24 0,
  m 25 7,
  q 26 (.iaddr 8 (t 24) (t 25)),
  q 27 (.faddr 7 (t 26)),
  q 28 (.load false 1 (t 27)),
  q 29 (.build a8 [(0, 7, (t 23)), (7, 1, (t 28))]),
  ⟨some 30, none, .bslice 120 8 a8 1 [(0, (t 29))] false, [23], [30]⟩,
  ⟨some 31, none, .append 120 8 136 (t 16) (t 30) false, [31, 30], [31, 31]⟩,
  m 6 31]))
 (r [m 14 7, q 15 (.bin .add (t 14) (i 1)), m 7 15]))))))
 (s [m 32 6, q 33 (k 110 [(t 32)]), q 34 (.ext (t 33) 0), q 35 (.ext (t 33) 1), m 4 34, m 5 35]
 .ret))))), 36, 6, [.tmp 4, .tmp 5], false, .imm, []⟩
theorem ok43 : FnOk Tryz.prog 43 c43 := FnOk.of (H := ⟨[], modesTab, [(3, [3]), (16, [31]), (29, [23]), (30, [30])]⟩) (d := 6) (own := false) (m := .imm) Tryz.func43 (by kernel_rfl)
def c44 : FnR := ⟨(s [q 4 (.mv E), q 5 (.mv (i 0))]
 (.seq (s [q 6 (.mv (i 0))]
 (.block 0 (.loop (.seq (s [m 7 6, m 8 1, q 9 (.len false (t 8)), q 10 (.bin .lss (t 7) (t 9))]
 (.cond (t 10) .skip (.exit 0)))
 (.seq (.block 1 (r [m 13 0, m 14 1, m 15 6, q 16 (.iaddr 8 (t 14) (t 15)), q 17 (.load true 8 (t 16)), q 18 (k 111 [(t 13), (t 17)]), m 0 18]))
 (r [m 11 6, q 12 (.bin .add (t 11) (i 1)), m 6 12]))))))
 (s [m 19 0, q 20 (k 110 [(t 19)]), q 21 (.ext (t 20) 0), q 22 (.ext (t 20) 1), m 4 21, m 5 22]
 .ret))), 23, 5, [.tmp 4, .tmp 5], false, .imm, []⟩
theorem ok44 : FnOk Tryz.prog 44 c44 := FnOk.of (H := ⟨[], modesTab, []⟩) (d := 5) (own := false) (m := .imm) Tryz.func44 (by kernel_rfl)
def c45 : FnR := ⟨(s [q 2 (.alloc a7), q 3 (.mv F)]
 (.seq (s [m 4 0, q 5 (.len false (t 4)), q 6 (.bin .eql (t 5) (i 0))]
 (.cond (t 6) (s [q 7 (k 60 [(i 0)]), qn (.store 7 (t 2) (t 7)), q 3 (.mv T)]
 .ret) .skip))
 (.seq (s [m 8 0, q 9 (.len false (t 8)), q 10 (.bin .eql (t 9) (i 1)), m 11 10, qg 12 11 true (.mv (t 0)), qg 13 11 true (.iaddr 8 (t 12) (i 0)), qg 14 11 true (.faddr 7 (t 13)), qg 15 11 true (.load false 1 (t 14)), qg 16 11 true (.len false (t 15)), qg 17 11 true (.bin .eql (t 16) (i 0)), q 18 (.pick (t 11) (t 17) F)]
 (.cond (t 18) (s [m 19 0, q 20 (.iaddr 8 (t 19) (i 0)), q 21 (.faddr 0 (t 20)), q 22 (.load true 7 (t 21)), qn (.store 7 (t 2) (t 22)), q 3 (.mv T)]
 .ret) .skip))
 (s [q 23 (.build a7 []), qn (.store 7 (t 2) (t 23)), q 3 (.mv F)]
 .ret)))), 24, 5, [.cell 2 true 7, .tmp 3], false, .imm, []⟩
theorem ok45 : FnOk Tryz.prog 45 c45 := FnOk.of (H := ⟨[], modesTab, []⟩) (d := 5) (own := false) (m := .imm) Tryz.func45 (by kernel_rfl)
def c57 : FnR := ⟨(s [q 2 (.mv E)]
 (s [q 3 (.mv E)]
 (.seq (s [m 19 0, q 20 (.len false (t 19)), q 21 (.mv (i 0))]
 (.block 0 (.loop (s [q 22 (.bin .lss (t 21) (t 20))]
 (.seq (.cond (t 22) .skip (.exit 0))
 (.seq (.block 1 (s [q 23 (.iaddr 11 (t 19) (t 21)), q 24 (.load true 11 (t 23)), q 5 (.alloc a11), qn (.store 11 (t 5) (t 24))]
 (s [q 26 (.load true 11 (t 5)), q 27 (k 116 [(t 26)]), m 25 27, q 28 (.ext (t 25) 0), q 29 (.ext (t 25) 1), q 30 (.ext (t 25) 2), m 6 28, m 7 29, m 8 30]
 (.seq (s [m 31 8, q 32 (.un .not (t 31)), m 33 32, qg 34 33 false (.mv (t 7)), qg 35 33 false (.bin .eql (t 34) (i 3)), q 36 (.pick (t 33) T (t 35))]
 (.cond (t 36) (.exit 1) .skip))
 (s [m 38 6, q 39 (k 117 [(t 38)]), m 37 39, q 40 (.ext (t 37) 0), q 41 (.ext (t 37) 1), q 9 (.alloc a7), qn (.store 7 (t 9) (t 40)), m 10 41]
 (s [m 42 10, q 43 (.un .not (t 42))]
 (.cond (t 43) (r [m 44 3, q 45 (.load true 11 (t 5)), m 46 6, m 47 7, q 48 (.bin .eql (t 47) (i 1)), q 49 (.build [(.int .i64 0), (.string ⟨#[]⟩), (.string ⟨#[]⟩), (.int .i64 0), (.string ⟨#[]⟩), (.string ⟨#[]⟩), (.string ⟨#[]⟩), (.string ⟨#[]⟩), (.string ⟨#[]⟩), (.slice none 0 0), (.slice none 0 0), (.slice none 0 0), (.bool false)] [(0, 11, (t 45)), (11, 1, (t 46)), (12, 1, (t 48))]), q 50 (.bslice 182 13 [(.int .i64 0), (.string ⟨#[]⟩), (.string ⟨#[]⟩), (.int .i64 0), (.string ⟨#[]⟩), (.string ⟨#[]⟩), (.string ⟨#[]⟩), (.string ⟨#[]⟩), (.string ⟨#[]⟩), (.slice none 0 0), (.slice none 0 0), (.slice none 0 0), (.bool false)] 1 [(0, (t 49))] false), q 51 (.append 182 13 208 (t 44) (t 50) false), m 3 51]) .skip)))))))
 (r [q 52 (.bin .add (t 21) (i 1)), m 21 52])))))))
 (s [q 11 (.mv E)]
 (.seq (s [m 53 3, q 54 (.len false (t 53)), q 55 (.mv (i 0))]
 (.block 2 (.loop (s [q 56 (.bin .lss (t 55) (t 54))]
 (.seq (.cond (t 56) .skip (.exit 2))
 (.seq (.block 3 (s [m 57 55, m 12 57]
 (s [m 58 12, m 13 58]
 (.block 4 (.loop (.seq (s [m 59 13, m 60 3, q 61 (.len false (t 60)), q 62 (.bin .lss (t 59) (t 61))]
 (.cond (t 62) .skip (.exit 4)))
 (.seq (.block 5 (.seq (s [m 65 11, q 66 (.len false (t 65)), q 67 (.bin .geq (t 66) (i 12))]
 (.cond (t 67) (s [m 68 11, m 2 68]
 .ret) .skip))
 (.seq (.region true [
  m 70 3,
  m 71 12,
  ⟨some 72, none, .iaddr 13 (t 70) (t 71), [51], []⟩,
  q 73 (.faddr 11 (t 72)),
  ⟨some 74, none, .load false 1 (t 73), [51], []⟩,
  m 75 3,
  m 76 13,
  ⟨some 77, none, .iaddr 13 (t 75) (t 76), [51], []⟩,
  q 78 (.faddr 11 (t 77)),
  ⟨some 79, none, .load false 1 (t 78), [51], []⟩,
  ⟨some 80, none, k 118 [(t 74), (t 79)], [], [80]⟩,
  m 69 80,
  q 81 (.ext (t 69) 0),
  q 82 (.ext (t 69) 1),
  m 14 81,
  m 15 82])
 (.seq (s [m 83 15, q 84 (.bin .neq (t 83) (i 0)), m 85 84, qg 86 85 false (.mv (t 14)), qg 87 85 false (k 119 [(t 86)]), q 88 (.pick (t 85) T (t 87))]
 (.cond (t 88) (.exit 5) .skip))
 (s [m 89 14, q 90 (k 120 [(t 89)]), q 16 (.alloc a11), qn (.store 11 (t 16) (t 90))]
 (.seq (.region true [
  m 91 3,
  m 92 12,
  ⟨some 93, none, .iaddr 13 (t 91) (t 92), [51], []⟩,
  q 94 (.faddr 0 (t 93)),
  ⟨some 95, none, .load true 11 (t 94), [51], []⟩,
  m 96 3,
  m 97 13,
  ⟨some 98, none, .iaddr 13 (t 96) (t 97), [51], []⟩,
  q 99 (.faddr 0 (t 98)),
  ⟨some 100, none, .load true 11 (t 99), [51], []⟩,
  m 101 3,
  m 102 12,
  ⟨some 103, none, .iaddr 13 (t 101) (t 102), [51], []⟩,
  q 104 (.faddr 11 (t 103)),
  ⟨some 105, none, .load false 1 (t 104), [51], []⟩,
  m 106 3,
  m 107 13,
  ⟨some 108, none, .iaddr 13 (t 106) (t 107), [51], []⟩,
  q 109 (.faddr 11 (t 108)),
  ⟨some 110, none, .load false 1 (t 109), [51], []⟩,
  m 111 3,
  m 112 12,
  ⟨some 113, none, .iaddr 13 (t 111) (t 112), [51], []⟩,
  q 114 (.faddr 12 (t 113)),
  ⟨some 115, none, .load false 1 (t 114), [51], []⟩,
  m 116 115,
  qg 117 116 true (.mv (t 3)),
  qg 118 116 true (.mv (t 13)),
  ⟨some 119, some (116, true), .iaddr 13 (t 117) (t 118), [51], []⟩,
  qg 120 116 true (.faddr 12 (t 119)),
  ⟨some 121, some (116, true), .load false 1 (t 120), [51], []⟩,
  q 122 (.pick (t 116) (t 121) F),
  m 123 14,
  q 124 (.build [(.int .i64 0), (.string ⟨#[]⟩), (.string ⟨#[]⟩), (.int .i64 0), (.string ⟨#[]⟩), (.string ⟨#[]⟩), (.string ⟨#[]⟩), (.string ⟨#[]⟩), (.string ⟨#[]⟩), (.slice none 0 0), (.slice none 0 0), (.int .i64 0), (.string ⟨#[]⟩), (.string ⟨#[]⟩), (.int .i64 0), (.string ⟨#[]⟩), (.string ⟨#[]⟩), (.string ⟨#[]⟩), (.string ⟨#[]⟩), (.string ⟨#[]⟩), (.slice none 0 0), (.slice none 0 0), (.slice none 0 0), (.slice none 0 0), (.bool false), (.slice none 0 0), (.int .i64 0), (.string ⟨#[]⟩), (.string ⟨#[]⟩), (.int .i64 0), (.string ⟨#[]⟩), (.string ⟨#[]⟩), (.string ⟨#[]⟩), (.string ⟨#[]⟩), (.string ⟨#[]⟩), (.slice none 0 0), (.slice none 0 0)] [(0, 11, (t 95)), (11, 11, (t 100)), (22, 1, (t 105)), (23, 1, (t 110)), (24, 1, (t 122)), (25, 1, (t 123))]),
  ⟨some 17, none, .alloc [(.int .i64 0), (.string ⟨#[]⟩), (.string ⟨#[]⟩), (.int .i64 0), (.string ⟨#[]⟩), (.string ⟨#[]⟩), (.string ⟨#[]⟩), (.string ⟨#[]⟩), (.string ⟨#[]⟩), (.slice none 0 0), (.slice none 0 0), (.int .i64 0), (.string ⟨#[]⟩), (.string ⟨#[]⟩), (.int .i64 0), (.string ⟨#[]⟩), (.string ⟨#[]⟩), (.string ⟨#[]⟩), (.string ⟨#[]⟩), (.string ⟨#[]⟩), (.slice none 0 0), (.slice none 0 0), (.slice none 0 0), (.slice none 0 0), (.bool false), (.slice none 0 0), (.int .i64 0), (.string ⟨#[]⟩), (.string ⟨#[]⟩), (.int .i64 0), (.string ⟨#[]⟩), (.string ⟨#[]⟩), (.string ⟨#[]⟩), (.string ⟨#[]⟩), (.string ⟨#[]⟩), (.slice none 0 0), (.slice none 0 0)], [], [17]⟩,
  ⟨none, none, .store 37 (t 17) (t 124), [17, 80], [17]⟩])
 (s [q 125 (k 36 []), q 126 (k 121 [(t 125)]), q 18 (.alloc a11), qn (.store 11 (t 18) (t 126))]
 (.seq (s [q 127 (.faddr 24 (t 17)), q 128 (.load false 1 (t 127))]
 (.cond (t 128) (r [q 129 (.load true 11 (t 18)), q 130 (.load true 11 (t 16)), q 131 (.bslice 56 11 a11 2 [(0, (t 129)), (1, (t 130))] false), q 132 (.call (.func 122) [(.const (.string ⟨#[60]⟩)), (t 131)] i1), q 133 (.faddr 26 (t 17)), qn (.store 11 (t 133) (t 132))]) (r [q 134 (.load true 11 (t 16)), q 135 (.load true 11 (t 18)), q 136 (.bslice 56 11 a11 2 [(0, (t 134)), (1, (t 135))] false), q 137 (.call (.func 122) [(.const (.string ⟨#[60]⟩)), (t 136)] i1), q 138 (k 123 [(t 137)]), q 139 (.faddr 26 (t 17)), qn (.store 11 (t 139) (t 138))])))
 (r [m 140 11, q 141 (.load true 37 (t 17)), q 142 (.bslice 132 37 [(.int .i64 0), (.string ⟨#[]⟩), (.string ⟨#[]⟩), (.int .i64 0), (.string ⟨#[]⟩), (.string ⟨#[]⟩), (.string ⟨#[]⟩), (.string ⟨#[]⟩), (.string ⟨#[]⟩), (.slice none 0 0), (.slice none 0 0), (.int .i64 0), (.string ⟨#[]⟩), (.string ⟨#[]⟩), (.int .i64 0), (.string ⟨#[]⟩), (.string ⟨#[]⟩), (.string ⟨#[]⟩), (.string ⟨#[]⟩), (.string ⟨#[]⟩), (.slice none 0 0), (.slice none 0 0), (.slice none 0 0), (.slice none 0 0), (.bool false), (.slice none 0 0), (.int .i64 0), (.string ⟨#[]⟩), (.string ⟨#[]⟩), (.int .i64 0), (.string ⟨#[]⟩), (.string ⟨#[]⟩), (.string ⟨#[]⟩), (.string ⟨#[]⟩), (.string ⟨#[]⟩), (.slice none 0 0), (.slice none 0 0)] 1 [(0, (t 141))] false), q 143 (.append 132 37 608 (t 140) (t 142) false), m 11 143])))))))))
 (r [m 63 13, q 64 (.bin .add (t 63) (i 1)), m 13 64]))))))))
 (r [q 144 (.bin .add (t 55) (i 1)), m 55 144])))))))
 (s [m 145 11, m 2 145]
 .ret)))))), 146, 8, [.tmp 2], false, .imm, []⟩
theorem ok57 : FnOk Tryz.prog 57 c57 := FnOk.of (H := ⟨[], modesTab, [(17, [17]), (70, [51]), (73, [51]), (75, [51]), (78, [51]), (91, [51]), (94, [51]), (96, [51]), (99, [51]), (101, [51]), (104, [51]), (106, [51]), (109, [51]), (111, [51]), (114, [51]), (117, [51]), (120, [51]), (124, [80])]⟩) (d := 8) (own := false) (m := .imm) Tryz.func57 (by kernel_rfl)
def c59 : FnR := ⟨(s [q 1 (.box (t 0)), q 2 (.alloc a11)]
 (s [q 3 (.load true 7 (t 1)), q 4 (.build a11 [(0, 1, (i 2)), (3, 7, (t 3))]), qn (.store 11 (t 2) (t 4))]
 .ret)), 5, 4, [.cell 2 true 11], false, .imm, []⟩
theorem ok59 : FnOk Tryz.prog 59 c59 := FnOk.of (H := ⟨[], modesTab, []⟩) (d := 4) (own := false) (m := .imm) Tryz.func59 (by kernel_rfl)
def c60 : FnR := ⟨(s [q 2 (.alloc a7)]
 (s [m 3 0, q 4 (k 125 [(t 3)]), q 5 (.call (.func 114) [(t 4), (.const (.string ⟨#[49]⟩))] i1), qn (.store 7 (t 2) (t 5))]
 .ret)), 6, 4, [.cell 2 true 7], false, .imm, []⟩
theorem ok60 : FnOk Tryz.prog 60 c60 := FnOk.of (H := ⟨[], modesTab, []⟩) (d := 4) (own := false) (m := .imm) Tryz.func60 (by kernel_rfl)
def c62 : FnR := ⟨(s [q 4 (.alloc a11)]
 (s [m 5 0, q 6 (k 71 [(t 5)]), m 7 1, q 8 (k 81 [(t 6), (t 7)]), qn (.store 11 (t 4) (t 8))]
 .ret)), 9, 4, [.cell 4 true 11], false, .imm, []⟩
theorem ok62 : FnOk Tryz.prog 62 c62 := FnOk.of (H := ⟨[], modesTab, []⟩) (d := 4) (own := false) (m := .imm) Tryz.func62 (by kernel_rfl)
def c65 : FnR := ⟨(s [q 2 (.box (t 0)), q 3 (.box (t 1)), q 4 (.mv F)]
 (.seq (s [q 6 (.faddr 0 (t 2)), q 7 (.load false 1 (t 6)), q 8 (.faddr 0 (t 3)), q 9 (.load false 1 (t 8)), q 10 (.bin .neq (t 7) (t 9)), m 11 10, qg 12 11 false (.faddr 1 (t 2)), qg 13 11 false (.load false 1 (t 12)), qg 14 11 false (.faddr 1 (t 3)), qg 15 11 false (.load false 1 (t 14)), qg 16 11 false (.bin .neq (t 13) (t 15)), q 17 (.pick (t 11) T (t 16)), m 18 17, qg 19 18 false (.faddr 2 (t 2)), qg 20 18 false (.load false 1 (t 19)), qg 21 18 false (.faddr 2 (t 3)), qg 22 18 false (.load false 1 (t 21)), qg 23 18 false (.bin .neq (t 20) (t 22)), q 24 (.pick (t 18) T (t 23)), m 25 24, qg 26 25 false (.faddr 3 (t 2)), qg 27 25 false (.load true 2 (t 26)), qg 28 25 false (.faddr 3 (t 3)), qg 29 25 false (.load true 2 (t 28)), qg 30 25 false (.eqs true (t 27) (t 29)), q 31 (.pick (t 25) T (t 30)), m 32 31, qg 33 32 false (.faddr 5 (t 2)), qg 34 32 false (.load false 1 (t 33)), qg 35 32 false (.faddr 5 (t 3)), qg 36 32 false (.load false 1 (t 35)), qg 37 32 false (.bin .neq (t 34) (t 36)), q 38 (.pick (t 32) T (t 37)), m 39 38, qg 40 39 false (.faddr 6 (t 2)), qg 41 39 false (.load false 1 (t 40)), qg 42 39 false (.len false (t 41)), qg 43 39 false (.faddr 6 (t 3)), qg 44 39 false (.load false 1 (t 43)), qg 45 39 false (.len false (t 44)), qg 46 39 false (.bin .neq (t 42) (t 45)), q 47 (.pick (t 39) T (t 46))]
 (.cond (t 47) (s [q 4 (.mv F)]
 .ret) .skip))
 (.seq (s [q 5 (.mv (i 0))]
 (.block 0 (.loop (.seq (s [m 48 5, q 49 (.faddr 6 (t 2)), q 50 (.load false 1 (t 49)), q 51 (.len false (t 50)), q 52 (.bin .lss (t 48) (t 51))]
 (.cond (t 52) .skip (.exit 0)))
 (.seq (.block 1 (.seq (.region true [
  q 55 (.faddr 6 (t 2)),
  ⟨some 56, none, .load false 1 (t 55), [2], []⟩,
  m 57 5,
  q 58 (.iaddr 7 (t 56) (t 57)),
  q 59 (.load true 7 (t 58)),
  q 60 (.faddr 6 (t 3)),
  ⟨some 61, none, .load false 1 (t 60), [3], []⟩,
  m 62 5,
  q 63 (.iaddr 7 (t 61) (t 62)),
  q 64 (.load true 7 (t 63)),
  ⟨some 65, none, k 65 [(t 59), (t 64)], [], [65]⟩,
  q 66 (.un .not (t 65))])
 (.cond (t 66) (s [q 4 (.mv F)]
 .ret) .skip)))
 (r [m 53 5, q 54 (.bin .add (t 53) (i 1)), m 5 54]))))))
 (s [q 4 (.mv T)]
 .ret)))), 67, 7, [.tmp 4], false, .imm, []⟩
theorem ok65 : FnOk Tryz.prog 65 c65 := FnOk.of (H := ⟨[], modesTab, [(55, [2]), (60, [3])]⟩) (d := 7) (own := false) (m := .imm) Tryz.func65 (by kernel_rfl)
def c67 : FnR := ⟨(s [q 1 (.box (t 0)), q 2 (.alloc a11)]
 (s [q 3 (.load true 2 (t 1)), q 4 (.build a11 [(0, 1, (i 1)), (1, 2, (t 3))]), qn (.store 11 (t 2) (t 4))]
 .ret)), 5, 4, [.cell 2 true 11], false, .imm, []⟩
theorem ok67 : FnOk Tryz.prog 67 c67 := FnOk.of (H := ⟨[], modesTab, []⟩) (d := 4) (own := false) (m := .imm) Tryz.func67 (by kernel_rfl)
def c68 : FnR := ⟨(s [q 4 (.mv F)]
 (.seq (s [m 6 0, q 7 (.len false (t 6)), m 8 1, q 9 (.len false (t 8)), q 10 (.bin .neq (t 7) (t 9))]
 (.cond (t 10) (s [q 4 (.mv F)]
 .ret) .skip))
 (.seq (s [q 5 (.mv (i 0))]
 (.block 0 (.loop (.seq (s [m 11 5, m 12 0, q 13 (.len false (t 12)), q 14 (.bin .lss (t 11) (t 13))]
 (.cond (t 14) .skip (.exit 0)))
 (.seq (.block 1 (.seq (.region true [
  m 17 0,
  m 18 5,
  q 19 (.iaddr 11 (t 17) (t 18)),
  q 20 (.load true 11 (t 19)),
  m 21 1,
  m 22 5,
  q 23 (.iaddr 11 (t 21) (t 22)),
  q 24 (.load true 11 (t 23)),
  ⟨some 25, none, k 24 [(t 20), (t 24)], [], [25]⟩,
  q 26 (.un .not (t 25))])
 (.cond (t 26) (s [q 4 (.mv F)]
 .ret) .skip)))
 (r [m 15 5, q 16 (.bin .add (t 15) (i 1)), m 5 16]))))))
 (s [q 4 (.mv T)]
 .ret)))), 27, 5, [.tmp 4], false, .imm, []⟩
theorem ok68 : FnOk Tryz.prog 68 c68 := FnOk.of (H := ⟨[], modesTab, []⟩) (d := 5) (own := false) (m := .imm) Tryz.func68 (by kernel_rfl)
def c71 : FnR := ⟨(s [q 2 (.alloc [(.string ⟨#[]⟩), (.string ⟨#[]⟩)])]
 (s [m 3 0, q 4 (.build [(.string ⟨#[]⟩), (.string ⟨#[]⟩)] [(0, 1, (.const (.string ⟨#[108, 105, 115, 112]⟩))), (1, 1, (t 3))]), qn (.store 2 (t 2) (t 4))]
 .ret)), 5, 4, [.cell 2 true 2], false, .imm, []⟩
theorem ok71 : FnOk Tryz.prog 71 c71 := FnOk.of (H := ⟨[], modesTab, []⟩) (d := 4) (own := false) (m := .imm) Tryz.func71 (by kernel_rfl)
def c81 : FnR := ⟨(s [q 2 (.box (t 0)), q 4 (.alloc a11)]
 (s [q 5 (.load true 2 (t 2)), m 6 1, q 7 (.build a11 [(0, 1, (i 3)), (1, 2, (t 5)), (10, 1, (t 6))]), qn (.store 11 (t 4) (t 7))]
 .ret)), 8, 4, [.cell 4 true 11], false, .imm, []⟩
theorem ok81 : FnOk Tryz.prog 81 c81 := FnOk.of (H := ⟨[], modesTab, []⟩) (d := 4) (own := false) (m := .imm) Tryz.func81 (by kernel_rfl)
def c85 : FnR := ⟨(s [q 3 (.box (t 0)), q 6 (.mv F)]
 (.seq (.region true [
  q 7 (.faddr 0 (t 3)),
  ⟨some 8, none, .load false 1 (t 7), [3], []⟩,
  q 9 (.bin .eql (t 8) (i 3)),
  m 10 9,
  qg 11 10 true (.faddr 1 (t 3)),
  ⟨some 12, some (10, true), .load true 2 (t 11), [3], []⟩,
  qg 13 10 true (.mv (t 1)),
  ⟨some 14, some (10, true), k 71 [(t 13)], [], [14]⟩,
  qg 15 10 true (.eqs false (t 12) (t 14)),
  q 16 (.pick (t 10) (t 15) F),
  m 17 16,
  qg 18 17 true (.faddr 10 (t 3)),
  ⟨some 19, some (17, true), .load false 1 (t 18), [3], []⟩,
  qg 20 17 true (.len false (t 19)),
  qg 21 17 true (.mv (t 2)),
  qg 22 17 true (.bin .eql (t 20) (t 21)),
  q 23 (.pick (t 17) (t 22) F),
  m 6 23])
 .ret)), 24, 5, [.tmp 6], false, .imm, []⟩
theorem ok85 : FnOk Tryz.prog 85 c85 := FnOk.of (H := ⟨[], modesTab, [(7, [3]), (11, [3]), (18, [3])]⟩) (d := 5) (own := false) (m := .imm) Tryz.func85 (by kernel_rfl)
def c98 : FnR := ⟨(s [q 3 (.box (t 0)), q 6 (.mv F)]
 (s [q 7 (.faddr 0 (t 3)), q 8 (.load false 1 (t 7)), q 9 (.bin .eql (t 8) (i 3)), m 10 9, qg 11 10 true (.faddr 1 (t 3)), qg 12 10 true (.load true 2 (t 11)), qg 13 10 true (.mv (t 1)), qg 14 10 true (.build [(.string ⟨#[]⟩), (.string ⟨#[]⟩)] [(0, 1, (.const (.string ⟨#[108, 105, 115, 112]⟩))), (1, 1, (t 13))]), qg 15 10 true (.eqs false (t 12) (t 14)), q 16 (.pick (t 10) (t 15) F), m 17 16, qg 18 17 true (.faddr 10 (t 3)), qg 19 17 true (.load false 1 (t 18)), qg 20 17 true (.len false (t 19)), qg 21 17 true (.mv (t 2)), qg 22 17 true (.bin .eql (t 20) (t 21)), q 23 (.pick (t 17) (t 22) F), m 6 23]
 .ret)), 24, 5, [.tmp 6], false, .imm, []⟩
theorem ok98 : FnOk Tryz.prog 98 c98 := FnOk.of (H := ⟨[], modesTab, []⟩) (d := 5) (own := false) (m := .imm) Tryz.func98 (by kernel_rfl)
def c99 : FnR := ⟨(s [q 2 (.box (t 0)), q 3 (.box (t 1)), q 4 (.mv E), q 5 (.mv (i 0))]
 (s [q 10 (.load true 11 (t 2)), q 11 (k 154 [(t 10)]), m 9 11, q 12 (.ext (t 9) 0), q 13 (.ext (t 9) 1), m 6 12, m 7 13]
 (.seq (s [m 14 7, q 15 (.bin .neq (t 14) (i 0))]
 (.cond (t 15) (s [m 16 7, q 4 (.mv E), m 5 16]
 .ret) .skip))
 (s [q 18 (.load true 11 (t 3)), q 19 (k 154 [(t 18)]), m 17 19, q 20 (.ext (t 17) 0), q 21 (.ext (t 17) 1), m 8 20, m 7 21]
 (.seq (s [m 22 7, q 23 (.bin .neq (t 22) (i 0))]
 (.cond (t 23) (s [m 24 7, q 4 (.mv E), m 5 24]
 .ret) .skip))
 (.seq (s [m 26 8, q 27 (k 37 [(i (-1))]), q 28 (k 155 [(t 26), (t 27)]), m 25 28, q 29 (.ext (t 25) 0), q 30 (.ext (t 25) 1), m 8 29, m 7 30]
 (s [m 31 7, q 32 (.bin .neq (t 31) (i 0))]
 (.cond (t 32) (s [m 33 7, q 4 (.mv E), m 5 33]
 .ret) .skip)))
 (s [m 34 6, m 35 8, q 36 (k 156 [(t 34), (t 35)]), q 37 (.ext (t 36) 0), q 38 (.ext (t 36) 1), m 4 37, m 5 38]
 .ret))))))), 39, 6, [.tmp 4, .tmp 5], false, .imm, []⟩
theorem ok99 : FnOk Tryz.prog 99 c99 := okF Tryz.func99 (by kernel_rfl)
def c100 : FnR := ⟨(s [q 2 (.alloc a7)]
 (s [m 3 0, q 4 (.build a7 [(0, 1, (i 1)), (1, 1, (t 3)), (2, 1, (.const (.string ⟨#[49]⟩)))]), qn (.store 7 (t 2) (t 4))]
 .ret)), 5, 4, [.cell 2 true 7], false, .imm, []⟩
theorem ok100 : FnOk Tryz.prog 100 c100 := FnOk.of (H := ⟨[], modesTab, []⟩) (d := 4) (own := false) (m := .imm) Tryz.func100 (by kernel_rfl)
def c101 : FnR := ⟨(s [q 2 (.mv O)]
 (s [m 3 0, q 4 (k 157 [(t 3)]), m 2 4]
 .ret)), 5, 4, [.tmp 2], false, .imm, []⟩
theorem ok101 : FnOk Tryz.prog 101 c101 := FnOk.of (H := ⟨[], modesTab, []⟩) (d := 4) (own := false) (m := .imm) Tryz.func101 (by kernel_rfl)
def c105 : FnR := ⟨(s [q 4 (.mv E), q 5 (.mv F)]
 (.block 0 (.loop (.block 1 (.seq (s [m 21 0, m 22 1, q 23 (k 166 [(t 21), (t 22)]), m 20 23, q 24 (.ext (t 20) 0), q 25 (.ext (t 20) 1), m 6 24, m 7 25]
 (s [m 26 7]
 (.cond (t 26) (s [m 27 6, m 4 27, q 5 (.mv T)]
 .ret) .skip)))
 (s [m 28 1, q 29 (k 167 [(t 28)]), m 8 29]
 (.seq (s [m 30 8, q 31 (.len false (t 30)), q 32 (.bin .eql (t 31) (i 0))]
 (.cond (t 32) (s [q 4 (.mv E), q 5 (.mv F)]
 .ret) .skip))
 (s [q 9 (.mv (i 0)), q 10 (.mv (i (-1)))]
 (.seq (s [m 33 8, q 34 (.len false (t 33)), q 35 (.mv (i 0))]
 (.block 2 (.loop (s [q 36 (.bin .lss (t 35) (t 34))]
 (.seq (.cond (t 36) .skip (.exit 2))
 (.seq (.block 3 (s [m 37 35, q 38 (.iaddr 1 (t 33) (t 35)), q 39 (.load false 1 (t 38)), m 11 37, m 12 39]
 (s [q 13 (.mv (i 0)), q 14 (.mv (i 0))]
 (.seq (s [m 40 1, q 41 (.len false (t 40)), q 42 (.mv (i 0))]
 (.block 4 (.loop (s [q 43 (.bin .lss (t 42) (t 41))]
 (.seq (.cond (t 43) .skip (.exit 4))
 (.seq (.block 5 (s [q 44 (.iaddr 4 (t 40) (t 42)), q 45 (.load true 4 (t 44)), q 16 (.alloc [(.slice none 0 0), (.bool false), (.slice none 0 0), (.slice none 0 0)]), qn (.store 4 (t 16) (t 45))]
 (s [q 46 (.faddr 0 (t 16)), q 47 (.load false 1 (t 46)), m 48 12, q 49 (k 162 [(t 47), (t 48)]), q 17 (.alloc a7), qn (.store 7 (t 17) (t 49))]
 (.seq (.region true [
  ⟨some 50, none, k 36 [], [], [50]⟩,
  ⟨some 51, none, .load true 7 (t 17), [17], []⟩,
  ⟨some 52, none, k 159 [(t 50), (t 51)], [50, 49], [52]⟩])
 (.cond (t 52) (r [m 53 13, q 54 (.bin .add (t 53) (i 1)), m 13 54]) (.seq (.region true [
  ⟨some 55, none, .load true 7 (t 17), [17], []⟩,
  ⟨some 56, none, k 36 [], [], [56]⟩,
  ⟨some 57, none, k 159 [(t 55), (t 56)], [49, 56], [57]⟩])
 (.cond (t 57) (r [m 58 14, q 59 (.bin .add (t 58) (i 1)), m 14 59]) .skip)))))))
 (r [q 60 (.bin .add (t 42) (i 1)), m 42 60])))))))
 (s [m 61 13, m 62 14, q 63 (.bin .mul (t 61) (t 62)), m 18 63]
 (s [m 64 10, q 65 (.bin .lss (t 64) (i 0)), m 66 65, qg 67 66 false (.mv (t 18)), qg 68 66 false (.mv (t 10)), qg 69 66 false (.bin .lss (t 67) (t 68)), q 70 (.pick (t 66) T (t 69))]
 (.cond (t 70) (r [m 71 11, m 72 18, m 9 71, m 10 72]) .skip)))))))
 (r [q 73 (.bin .add (t 35) (i 1)), m 35 73])))))))
 (s [q 19 (.mv F)]
 (s [m 75 1, m 76 8, m 77 9, q 78 (.iaddr 1 (t 76) (t 77)), q 79 (.load false 1 (t 78)), q 80 (k 168 [(t 75), (t 79)]), m 74 80, q 81 (.ext (t 74) 0), q 82 (.ext (t 74) 1), m 1 81, m 19 82]
 (s [m 83 19, q 84 (.un .not (t 83)), m 85 84, qg 86 85 false (.mv (t 1)), qg 87 85 false (.len false (t 86)), qg 88 85 false (.bin .gtr (t 87) (i 400)), q 89 (.pick (t 85) T (t 88))]
 (.cond (t 89) (s [q 4 (.mv E), q 5 (.mv F)]
 .ret) .skip))))))))))))), 90, 7, [.tmp 4, .tmp 5], false, .imm, []⟩
theorem ok105 : FnOk Tryz.prog 105 c105 := FnOk.of (H := ⟨[], modesTab, [(17, [17]), (50, [50]), (51, [49]), (55, [49]), (56, [56])]⟩) (d := 7) (own := false) (m := .imm) Tryz.func105 (by kernel_rfl)
def c106 : FnR := ⟨(s [q 1 (.box (t 0)), q 2 (.mv (i 0))]
 (s [q 3 (.load true 7 (t 1)), q 4 (k 169 [(t 3), (i 3001)]), m 2 4]
 .ret)), 5, 4, [.tmp 2], false, .imm, []⟩
theorem ok106 : FnOk Tryz.prog 106 c106 := FnOk.of (H := ⟨[], modesTab, []⟩) (d := 4) (own := false) (m := .imm) Tryz.func106 (by kernel_rfl)
def c107 : FnR := ⟨(s [q 1 (.box (t 0)), q 2 (.mv F)]
 (s [q 6 (.faddr 3 (t 1)), q 7 (.load true 2 (t 6)), q 8 (.build [(.string ⟨#[]⟩), (.string ⟨#[]⟩)] []), q 9 (.eqs false (t 7) (t 8)), m 3 9]
 (.seq (s [q 10 (.faddr 0 (t 1)), q 11 (.load false 1 (t 10))]
 (.block 0 (s [q 13 (.bin .eql (t 11) (i 1)), m 12 13]
 (.cond (t 12) (s [q 15 (.faddr 1 (t 1)), q 16 (.load false 1 (t 15)), q 17 (.faddr 2 (t 1)), q 18 (.load false 1 (t 17)), q 19 (k 170 [(t 16), (t 18)]), m 14 19, q 20 (.ext (t 14) 0), q 21 (.ext (t 14) 1), m 4 20, m 5 21]
 (s [m 22 3, m 23 22, qg 24 23 true (.faddr 5 (t 1)), qg 25 23 true (.load false 1 (t 24)), qg 26 23 true (.bin .eql (t 25) O), q 27 (.pick (t 23) (t 26) F), m 28 27, qg 29 28 true (.faddr 6 (t 1)), qg 30 28 true (.load false 1 (t 29)), qg 31 28 true (.len false (t 30)), qg 32 28 true (.bin .eql (t 31) (i 0)), q 33 (.pick (t 28) (t 32) F), m 34 33, qg 35 34 true (.mv (t 4)), qg 36 34 true (.faddr 1 (t 1)), qg 37 34 true (.load false 1 (t 36)), qg 38 34 true (.bin .eql (t 35) (t 37)), q 39 (.pick (t 34) (t 38) F), m 40 39, qg 41 40 true (.mv (t 5)), qg 42 40 true (.faddr 2 (t 1)), qg 43 40 true (.load false 1 (t 42)), qg 44 40 true (.bin .eql (t 41) (t 43)), q 45 (.pick (t 40) (t 44) F), m 46 45, qg 47 46 true (.mv (t 4)), qg 48 46 true (k 171 [(t 47)]), qg 49 46 true (.bin .leq (t 48) (i 100)), q 50 (.pick (t 46) (t 49) F), m 51 50, qg 52 51 true (.mv (t 5)), qg 53 51 true (k 171 [(t 52)]), qg 54 51 true (.bin .leq (t 53) (i 100)), q 55 (.pick (t 51) (t 54) F), m 2 55]
 .ret)) (s [q 57 (.bin .eql (t 11) (i 2)), m 56 57]
 (.cond (t 56) (s [q 58 (.faddr 3 (t 1)), q 59 (.load true 2 (t 58)), q 60 (k 172 [(t 59)]), m 61 60, qg 62 61 true (.faddr 1 (t 1)), qg 63 61 true (.load false 1 (t 62)), qg 64 61 true (.bin .eql (t 63) O), q 65 (.pick (t 61) (t 64) F), m 66 65, qg 67 66 true (.faddr 2 (t 1)), qg 68 66 true (.load false 1 (t 67)), qg 69 66 true (.bin .eql (t 68) O), q 70 (.pick (t 66) (t 69) F), m 71 70, qg 72 71 true (.faddr 5 (t 1)), qg 73 71 true (.load false 1 (t 72)), qg 74 71 true (.bin .eql (t 73) O), q 75 (.pick (t 71) (t 74) F), m 76 75, qg 77 76 true (.faddr 6 (t 1)), qg 78 76 true (.load false 1 (t 77)), qg 79 76 true (.len false (t 78)), qg 80 76 true (.bin .eql (t 79) (i 0)), q 81 (.pick (t 76) (t 80) F), m 2 81]
 .ret) (s [q 83 (.bin .eql (t 11) (i 3)), m 82 83]
 (.cond (t 82) (s [m 84 3, m 85 84, qg 86 85 true (.faddr 1 (t 1)), qg 87 85 true (.load false 1 (t 86)), qg 88 85 true (.bin .eql (t 87) O), q 89 (.pick (t 85) (t 88) F), m 90 89, qg 91 90 true (.faddr 2 (t 1)), qg 92 90 true (.load false 1 (t 91)), qg 93 90 true (.bin .eql (t 92) O), q 94 (.pick (t 90) (t 93) F), m 95 94, qg 96 95 true (.faddr 5 (t 1)), qg 97 95 true (.load false 1 (t 96)), qg 98 95 true (.len true (t 97)), qg 99 95 true (.bin .leq (t 98) (i 200)), q 100 (.pick (t 95) (t 99) F), m 101 100, qg 102 101 true (.faddr 6 (t 1)), qg 103 101 true (.load false 1 (t 102)), qg 104 101 true (.len false (t 103)), qg 105 101 true (.bin .eql (t 104) (i 0)), q 106 (.pick (t 101) (t 105) F), m 2 106]
 .ret) (s [q 108 (.bin .eql (t 11) (i 4)), m 107 108]
 (.cond (t 107) (s [m 109 3, m 110 109, qg 111 110 true (.faddr 1 (t 1)), qg 112 110 true (.load false 1 (t 111)), qg 113 110 true (.bin .eql (t 112) O), q 114 (.pick (t 110) (t 113) F), m 115 114, qg 116 115 true (.faddr 2 (t 1)), qg 117 115 true (.load false 1 (t 116)), qg 118 115 true (.bin .eql (t 117) O), q 119 (.pick (t 115) (t 118) F), m 120 119, qg 121 120 true (.faddr 5 (t 1)), qg 122 120 true (.load false 1 (t 121)), qg 123 120 true (.bin .eql (t 122) O), q 124 (.pick (t 120) (t 123) F), m 125 124, qg 126 125 true (.faddr 6 (t 1)), qg 127 125 true (.load false 1 (t 126)), qg 128 125 true (.len false (t 127)), qg 129 125 true (.bin .eql (t 128) (i 2)), q 130 (.pick (t 125) (t 129) F), m 131 130, qg 132 131 true (.faddr 6 (t 1)), qg 133 131 true (.load false 1 (t 132)), qg 134 131 true (.iaddr 7 (t 133) (i 0)), qg 135 131 true (.load true 7 (t 134)), qg 136 131 true (k 107 [(t 135)]), q 137 (.pick (t 131) (t 136) F), m 138 137, qg 139 138 true (.faddr 6 (t 1)), qg 140 138 true (.load false 1 (t 139)), qg 141 138 true (.iaddr 7 (t 140) (i 1)), qg 142 138 true (.load true 7 (t 141)), qg 143 138 true (k 107 [(t 142)]), q 144 (.pick (t 138) (t 143) F), m 2 144]
 .ret) .skip))))))))))
 (s [q 2 (.mv F)]
 .ret)))), 145, 8, [.tmp 2], false, .imm, []⟩
theorem ok107 : FnOk Tryz.prog 107 c107 := FnOk.of (H := ⟨[], modesTab, []⟩) (d := 8) (own := false) (m := .imm) Tryz.func107 (by kernel_rfl)
def c108 : FnR := ⟨(s [q 2 (.box (t 0)), q 3 (.box (t 1)), q 4 (.mv E), q 5 (.mv (i 0))]
 (s [q 10 (.load true 11 (t 3)), q 11 (k 173 [(t 10)]), m 9 11, q 12 (.ext (t 9) 0), q 13 (.ext (t 9) 1), m 6 12, m 7 13]
 (.seq (s [m 14 7, q 15 (.bin .neq (t 14) (i 0))]
 (.cond (t 15) (s [m 16 7, q 4 (.mv E), m 5 16]
 .ret) .skip))
 (s [q 18 (.load true 11 (t 2)), q 19 (k 173 [(t 18)]), m 17 19, q 20 (.ext (t 17) 0), q 21 (.ext (t 17) 1), m 8 20, m 7 21]
 (.seq (s [m 22 7, q 23 (.bin .neq (t 22) (i 0))]
 (.cond (t 23) (s [m 24 7, q 4 (.mv E), m 5 24]
 .ret) .skip))
 (s [m 26 8, q 27 (k 60 [(i (-1))]), q 28 (k 43 [(t 26), (t 27)]), m 25 28, q 29 (.ext (t 25) 0), q 30 (.ext (t 25) 1), m 8 29, m 7 30]
 (.seq (s [m 31 7, q 32 (.bin .neq (t 31) (i 0))]
 (.cond (t 32) (s [m 33 7, q 4 (.mv E), m 5 33]
 .ret) .skip))
 (s [m 34 6, m 35 8, q 36 (k 44 [(t 34), (t 35)]), q 37 (.ext (t 36) 0), q 38 (.ext (t 36) 1), m 4 37, m 5 38]
 .ret)))))))), 39, 6, [.tmp 4, .tmp 5], false, .imm, []⟩
theorem ok108 : FnOk Tryz.prog 108 c108 := okF Tryz.func108 (by kernel_rfl)
def c109 : FnR := ⟨(s [q 2 (.box (t 0)), q 3 (.box (t 1)), q 4 (.alloc a7)]
 (.seq (.region true [
  ⟨some 7, none, .load true 7 (t 2), [2], []⟩,
  ⟨some 8, none, k 113 [(t 7)], [], [8]⟩,
  ⟨some 9, none, .load true 7 (t 3), [3], []⟩,
  ⟨some 10, none, k 113 [(t 9)], [], [10]⟩,
  ⟨some 5, none, .alloc a7, [], [5]⟩,
  ⟨some 6, none, .alloc a7, [], [6]⟩,
  ⟨none, none, .store 7 (t 5) (t 8), [5, 8], [5]⟩,
  ⟨none, none, .store 7 (t 6) (t 10), [6, 10], [6]⟩])
 (.seq (.region true [
  q 11 (.faddr 1 (t 5)),
  ⟨some 12, none, .load false 1 (t 11), [5], []⟩,
  q 13 (.faddr 1 (t 6)),
  ⟨some 14, none, .load false 1 (t 13), [6], []⟩,
  ⟨some 15, none, k 174 [(t 12), (t 14)], [8, 10], [15]⟩,
  q 16 (.faddr 2 (t 5)),
  ⟨some 17, none, .load false 1 (t 16), [5], []⟩,
  q 18 (.faddr 2 (t 6)),
  ⟨some 19, none, .load false 1 (t 18), [6], []⟩,
  ⟨some 20, none, k 174 [(t 17), (t 19)], [8, 10], [20]⟩,
  ⟨some 21, none, k 114 [(t 15), (t 20)], [15, 20], [21]⟩,
  ⟨none, none, .store 7 (t 4) (t 21), [4, 21], [4]⟩])
 .ret))), 22, 5, [.cell 4 true 7], false, .imm, []⟩
theorem ok109 : FnOk Tryz.prog 109 c109 := FnOk.of (H := ⟨[], modesTab, [(2, [2]), (3, [3]), (4, [4]), (5, [5]), (6, [6]), (8, [8]), (10, [10]), (11, [5]), (12, [8]), (13, [6]), (14, [10]), (15, [15]), (16, [5]), (17, [8]), (18, [6]), (19, [10]), (20, [20]), (21, [21])]⟩) (d := 5) (own := false) (m := .imm) Tryz.func109 (by kernel_rfl)
def c110 : FnR := ⟨(s [q 2 (.mv E), q 3 (.mv (i 0))]
 (.seq (s [m 4 0, q 5 (k 175 [(t 4)]), q 6 (.un .not (t 5))]
 (.cond (t 6) (s [q 2 (.mv E), q 3 (.mv (i 2))]
 .ret) .skip))
 (s [m 7 0, m 2 7, q 3 (.mv (i 0))]
 .ret))), 8, 4, [.tmp 2, .tmp 3], false, .imm, []⟩
theorem ok110 : FnOk Tryz.prog 110 c110 := FnOk.of (H := ⟨[], modesTab, []⟩) (d := 4) (own := false) (m := .imm) Tryz.func110 (by kernel_rfl)
def c111 : FnR := ⟨(s [q 3 (.box (t 1)), q 4 (.mv E)]
 (.seq (s [q 8 (.faddr 0 (t 3)), q 9 (.load true 7 (t 8)), q 10 (k 41 [(t 9)])]
 (.cond (t 10) (s [m 11 0, m 4 11]
 .ret) .skip))
 (s [q 5 (.mv (i 0))]
 (.seq (.block 0 (.loop (.seq (.seq (.region true [
  m 12 5,
  m 13 0,
  q 14 (.len false (t 13)),
  q 15 (.bin .lss (t 12) (t 14)),
  m 16 15,
  qg 17 16 true (.mv (t 0)),
  qg 18 16 true (.mv (t 5)),
  qg 19 16 true (.iaddr 8 (t 17) (t 18)),
  qg 20 16 true (.load true 8 (t 19)),
  ⟨some 21, some (16, true), .load true 8 (t 3), [3], []⟩,
  ⟨some 22, some (16, true), k 176 [(t 20), (t 21)], [], [22]⟩,
  qg 23 16 true (.bin .lss (t 22) (i 0)),
  q 24 (.pick (t 16) (t 23) F)])
 (.cond (t 24) .skip (.exit 0)))
 (.block 1 (r [m 25 5, q 26 (.bin .add (t 25) (i 1)), m 5 26])))))
 (.seq (.region true [
  m 27 0,
  q 28 (.len false (t 27)),
  q 29 (.bin .add (t 28) (i 1)),
  ⟨some 30, none, .mkslice 120 8 136 a8 (i 0) (t 29), [], [30]⟩,
  m 31 0,
  m 32 5,
  q 33 (.slc 8 (t 31) none (some (t 32))),
  ⟨some 34, none, .append 120 8 136 (t 30) (t 33) false, [30], [34, 30]⟩,
  m 6 34])
 (.seq (.seq (.region true [
  m 35 5,
  m 36 0,
  q 37 (.len false (t 36)),
  q 38 (.bin .lss (t 35) (t 37)),
  m 39 38,
  qg 40 39 true (.mv (t 0)),
  qg 41 39 true (.mv (t 5)),
  qg 42 39 true (.iaddr 8 (t 40) (t 41)),
  qg 43 39 true (.load true 8 (t 42)),
  ⟨some 44, some (39, true), .load true 8 (t 3), [3], []⟩,
  ⟨some 45, some (39, true), k 176 [(t 43), (t 44)], [], [45]⟩,
  qg 46 39 true (.bin .eql (t 45) (i 0)),
  q 47 (.pick (t 39) (t 46) F)])
 (.cond (t 47) (.seq (.region true [
  m 48 0,
  m 49 5,
  q 50 (.iaddr 8 (t 48) (t 49)),
  q 51 (.faddr 0 (t 50)),
  q 52 (.load true 7 (t 51)),
  q 53 (.faddr 0 (t 3)),
  ⟨some 54, none, .load true 7 (t 53), [3], []⟩,
  ⟨some 55, none, k 177 [(t 52), (t 54)], [], [55]⟩,
  ⟨some 7, none, .alloc a7, [], [7]⟩,
  ⟨none, none, .store 7 (t 7) (t 55), [7, 55], [7]⟩])
 (.seq (s [q 56 (.load true 7 (t 7)), q 57 (k 41 [(t 56)]), q 58 (.un .not (t 57))]
 (.cond (t 58) (r [m 59 6, q 60 (.load true 7 (t 7)), q 61 (.faddr 7 (t 3)), q 62 (.load false 1 (t 61)), q 63 (.build a8 [(0, 7, (t 60)), (7, 1, (t 62))]), q 64 (.bslice 120 8 a8 1 [(0, (t 63))] false), q 65 (.append 120 8 136 (t 59) (t 64) false), m 6 65]) .skip))
 (s [m 66 6, m 67 0, m 68 5, q 69 (.bin .add (t 68) (i 1)), q 70 (.slc 8 (t 67) (some (t 69)) none), q 71 (.append 120 8 136 (t 66) (t 70) false), m 4 71]
 .ret))) .skip))
 (.seq (.region true [
  m 72 6,
  ⟨some 73, none, .load true 8 (t 3), [3], []⟩,
  ⟨some 74, none, .bslice 120 8 a8 1 [(0, (t 73))] false, [], [74]⟩,
  ⟨some 75, none, .append 120 8 136 (t 72) (t 74) false, [30, 34, 65, 74], [75, 30, 34, 65]⟩,
  m 76 0,
  m 77 5,
  q 78 (.slc 8 (t 76) (some (t 77)) none),
  ⟨some 79, none, .append 120 8 136 (t 75) (t 78) false, [30, 34, 65, 75], [79, 30, 34, 65, 75]⟩,
  m 4 79])
 .ret))))))), 80, 7, [.tmp 4], false, .imm, []⟩
theorem ok111 : FnOk Tryz.prog 111 c111 := FnOk.of (H := ⟨[], modesTab, [(3, [3]), (7, [7]), (30, [30]), (53, [3]), (55, [55]), (72, [30, 34, 65]), (74, [74]), (75, [30, 34, 65, 75])]⟩) (d := 7) (own := false) (m := .imm) Tryz.func111 (by kernel_rfl)
def c113 : FnR := ⟨(s [q 1 (.box (t 0)), q 2 (.alloc a7)]
 (.seq (s [q 3 (.faddr 0 (t 1)), q 4 (.load false 1 (t 3)), q 5 (.bin .eql (t 4) (i 1))]
 (.cond (t 5) (s [q 6 (.load true 7 (t 1)), qn (.store 7 (t 2) (t 6))]
 .ret) .skip))
 (s [q 7 (k 60 [(i 0)]), qn (.store 7 (t 2) (t 7))]
 .ret))), 8, 4, [.cell 2 true 7], false, .imm, []⟩
theorem ok113 : FnOk Tryz.prog 113 c113 := FnOk.of (H := ⟨[], modesTab, []⟩) (d := 4) (own := false) (m := .imm) Tryz.func113 (by kernel_rfl)
def c114 : FnR := ⟨(s [q 4 (.alloc a7)]
 (s [m 8 0, m 9 1, q 10 (k 170 [(t 8), (t 9)]), m 7 10, q 11 (.ext (t 7) 0), q 12 (.ext (t 7) 1), m 5 11, m 6 12]
 (s [m 13 5, m 14 6, q 15 (.build a7 [(0, 1, (i 1)), (1, 1, (t 13)), (2, 1, (t 14))]), qn (.store 7 (t 4) (t 15))]
 .ret))), 16, 4, [.cell 4 true 7], false, .imm, []⟩
theorem ok114 : FnOk Tryz.prog 114 c114 := FnOk.of (H := ⟨[], modesTab, []⟩) (d := 4) (own := false) (m := .imm) Tryz.func114 (by kernel_rfl)
def c116 : FnR := ⟨(s [q 1 (.box (t 0)), q 2 (.mv E), q 3 (.mv (i 0)), q 4 (.mv F)]
 (s [q 9 (.load true 11 (t 1)), q 10 (k 35 [(t 9)]), m 8 10, q 11 (.ext (t 8) 0), q 12 (.ext (t 8) 1), q 13 (.ext (t 8) 2), m 5 11, m 6 12, m 7 13]
 (s [m 14 5, m 15 6, m 16 7, q 17 (.bin .eql (t 16) (i 0)), m 18 17, qg 19 18 true (.mv (t 6)), qg 20 18 true (.bin .neq (t 19) (i 0)), q 21 (.pick (t 18) (t 20) F), m 2 14, m 3 15, m 4 21]
 .ret))), 22, 5, [.tmp 2, .tmp 3, .tmp 4], false, .imm, []⟩
theorem ok116 : FnOk Tryz.prog 116 c116 := FnOk.of (H := ⟨[], modesTab, []⟩) (d := 5) (own := false) (m := .imm) Tryz.func116 (by kernel_rfl)
def c117 : FnR := ⟨(s [q 2 (.alloc a7), q 3 (.mv F)]
 (.seq (.block 0 (s [m 5 0, q 6 (.len false (t 5)), q 7 (.bin .eql (t 6) (i 0)), m 4 7]
 (.cond (t 4) (s [q 8 (k 37 [(i 0)]), qn (.store 7 (t 2) (t 8)), q 3 (.mv T)]
 .ret) (s [m 10 0, q 11 (.len false (t 10)), q 12 (.bin .eql (t 11) (i 1)), m 13 12, qg 14 13 true (.mv (t 0)), qg 15 13 true (.iaddr 8 (t 14) (i 0)), qg 16 13 true (.faddr 7 (t 15)), qg 17 13 true (.load false 1 (t 16)), qg 18 13 true (.len false (t 17)), qg 19 13 true (.bin .eql (t 18) (i 0)), q 20 (.pick (t 13) (t 19) F), m 9 20]
 (.cond (t 9) (s [m 21 0, q 22 (.iaddr 8 (t 21) (i 0)), q 23 (.faddr 0 (t 22)), q 24 (.load true 7 (t 23)), qn (.store 7 (t 2) (t 24)), q 3 (.mv T)]
 .ret) .skip)))))
 (s [q 25 (.build a7 []), qn (.store 7 (t 2) (t 25)), q 3 (.mv F)]
 .ret))), 26, 5, [.cell 2 true 7, .tmp 3], false, .imm, []⟩
theorem ok117 : FnOk Tryz.prog 117 c117 := FnOk.of (H := ⟨[], modesTab, []⟩) (d := 5) (own := false) (m := .imm) Tryz.func117 (by kernel_rfl)
def c118 : FnR := ⟨(s [q 4 (.mv E), q 5 (.mv (i 0))]
 (s [q 6 (.mv E)]
 (.seq (s [m 12 0, q 13 (.len false (t 12)), q 14 (.mv (i 0))]
 (.block 0 (.loop (s [q 15 (.bin .lss (t 14) (t 13))]
 (.seq (.cond (t 15) .skip (.exit 0))
 (.seq (.block 1 (s [q 16 (.iaddr 8 (t 12) (t 14)), q 17 (.load true 8 (t 16)), q 8 (.alloc a8), qn (.store 8 (t 8) (t 17))]
 (s [m 18 1, q 19 (.len false (t 18)), q 20 (.mv (i 0))]
 (.block 2 (.loop (s [q 21 (.bin .lss (t 20) (t 19))]
 (.seq (.cond (t 21) .skip (.exit 2))
 (.seq (.block 3 (s [q 22 (.iaddr 8 (t 18) (t 20)), q 23 (.load true 8 (t 22)), q 10 (.alloc a8), qn (.store 8 (t 10) (t 23))]
 (s [q 24 (.faddr 7 (t 8)), q 25 (.load false 1 (t 24)), q 26 (.faddr 7 (t 10)), q 27 (.load false 1 (t 26)), q 28 (.bslice 30 1 [(.slice none 0 0)] 2 [(0, (t 25)), (1, (t 27))] false), q 29 (k 181 [(t 28)]), m 11 29]
 (s [m 30 11, q 31 (.call (.func 182) [(t 30), (.func 183)] [.inout])]
 (r [m 32 6, q 33 (.faddr 0 (t 8)), q 34 (.load true 7 (t 33)), q 35 (.faddr 0 (t 10)), q 36 (.load true 7 (t 35)), q 37 (k 160 [(t 34), (t 36)]), m 38 11, q 39 (.build a8 [(0, 7, (t 37)), (7, 1, (t 38))]), q 40 (.bslice 120 8 a8 1 [(0, (t 39))] false), q 41 (.append 120 8 136 (t 32) (t 40) true), m 6 41])))))
 (r [q 42 (.bin .add (t 20) (i 1)), m 20 42])))))))))
 (r [q 43 (.bin .add (t 14) (i 1)), m 14 43])))))))
 (s [m 44 6, q 45 (.call (.func 184) [(t 44)] [.eat]), q 46 (.ext (t 45) 0), q 47 (.ext (t 45) 1), m 4 46, m 5 47]
 .ret)))), 48, 6, [.tmp 4, .tmp 5], false, .imm, []⟩
theorem ok118 : FnOk Tryz.prog 118 c118 := FnOk.of (H := ⟨[29, 41], modesTab, []⟩) (d := 6) (own := false) (m := .imm) Tryz.func118 (by kernel_rfl)
def c119 : FnR := ⟨(s [q 2 (.mv F)]
 (.seq (s [m 5 0, q 6 (.len false (t 5)), q 7 (.mv (i 0))]
 (.block 0 (.loop (s [q 8 (.bin .lss (t 7) (t 6))]
 (.seq (.cond (t 8) .skip (.exit 0))
 (.seq (.block 1 (s [q 9 (.iaddr 8 (t 5) (t 7)), q 10 (.load true 8 (t 9)), q 4 (.alloc a8), qn (.store 8 (t 4) (t 10))]
 (s [q 11 (.faddr 7 (t 4)), q 12 (.load false 1 (t 11)), q 13 (.len false (t 12)), q 14 (.bin .gtr (t 13) (i 4))]
 (.cond (t 14) (s [q 2 (.mv T)]
 .ret) .skip))))
 (r [q 15 (.bin .add (t 7) (i 1)), m 7 15])))))))
 (s [q 2 (.mv F)]
 .ret))), 16, 4, [.tmp 2], false, .imm, []⟩
theorem ok119 : FnOk Tryz.prog 119 c119 := FnOk.of (H := ⟨[], modesTab, []⟩) (d := 4) (own := false) (m := .imm) Tryz.func119 (by kernel_rfl)
def c120 : FnR := ⟨(s [q 2 (.alloc a11)]
 (.seq (s [m 5 0, q 6 (.len false (t 5)), q 7 (.bin .eql (t 6) (i 0))]
 (.cond (t 7) (s [q 8 (k 37 [(i 0)]), q 9 (k 185 [(t 8)]), qn (.store 11 (t 2) (t 9))]
 .ret) .skip))
 (s [m 10 0, m 11 0, q 12 (.len false (t 11)), q 13 (.bin .sub (t 12) (i 1)), q 14 (.iaddr 8 (t 10) (t 13)), q 15 (.load true 8 (t 14)), q 16 (k 186 [(t 15)]), q 3 (.alloc a11), qn (.store 11 (t 3) (t 16))]
 (.seq (s [m 17 0, q 18 (.len false (t 17)), q 19 (.bin .sub (t 18) (i 2)), m 4 19]
 (.block 0 (.loop (.seq (s [m 20 4, q 21 (.bin .geq (t 20) (i 0))]
 (.cond (t 21) .skip (.exit 0)))
 (.seq (.block 1 (.region true [
  m 24 0,
  m 25 4,
  q 26 (.iaddr 8 (t 24) (t 25)),
  q 27 (.load true 8 (t 26)),
  ⟨some 28, none, k 186 [(t 27)], [], [28]⟩,
  ⟨some 29, none, .load true 11 (t 3), [3], []⟩,
  ⟨some 30, none, .bslice 56 11 a11 2 [(0, (t 28)), (1, (t 29))] false, [28, 16, 31], [30]⟩,
  ⟨some 31, none, .call (.func 122) [(.const (.string ⟨#[98, 105, 110, 97, 114, 121, 45, 43]⟩)), (t 30)] i1, [30], [31]⟩,
  ⟨none, none, .store 11 (t 3) (t 31), [3, 31], [3]⟩]))
 (r [m 22 4, q 23 (.bin .sub (t 22) (i 1)), m 4 23]))))))
 (s [q 32 (.load true 11 (t 3)), qn (.store 11 (t 2) (t 32))]
 .ret))))), 33, 6, [.cell 2 true 11], false, .imm, []⟩
theorem ok120 : FnOk Tryz.prog 120 c120 := FnOk.of (H := ⟨[], modesTab, [(3, [3]), (28, [28]), (29, [16, 31]), (30, [30]), (31, [31])]⟩) (d := 6) (own := false) (m := .imm) Tryz.func120 (by kernel_rfl)
def c121 : FnR := ⟨(s [q 1 (.box (t 0)), q 2 (.alloc a11)]
 (s [q 3 (.load true 7 (t 1)), q 4 (k 185 [(t 3)]), qn (.store 11 (t 2) (t 4))]
 .ret)), 5, 4, [.cell 2 true 11], false, .imm, []⟩
theorem ok121 : FnOk Tryz.prog 121 c121 := FnOk.of (H := ⟨[], modesTab, []⟩) (d := 4) (own := false) (m := .imm) Tryz.func121 (by kernel_rfl)
def c122 : FnR := ⟨(s [q 4 (.alloc a11)]
 (s [m 5 0, q 6 (.build [(.string ⟨#[]⟩), (.string ⟨#[]⟩)] [(0, 1, (.const (.string ⟨#[108, 105, 115, 112]⟩))), (1, 1, (t 5))]), m 7 1, q 8 (k 187 [(t 6), (t 7)]), qn (.store 11 (t 4) (t 8))]
 .ret)), 9, 4, [.cell 4 true 11], false, .imm, []⟩
theorem ok122 : FnOk Tryz.prog 122 c122 := FnOk.of (H := ⟨[], modesTab, []⟩) (d := 4) (own := false) (m := .imm) Tryz.func122 (by kernel_rfl)
def c125 : FnR := ⟨(s [q 2 (.mv O)]
 (s [m 3 0, q 4 (k 157 [(t 3)]), m 2 4]
 .ret)), 5, 4, [.tmp 2], false, .imm, []⟩
theorem ok125 : FnOk Tryz.prog 125 c125 := FnOk.of (H := ⟨[], modesTab, []⟩) (d := 4) (own := false) (m := .imm) Tryz.func125 (by kernel_rfl)
def c141 : FnR := ⟨(s [q 1 (.box (t 0)), q 2 (.mv E)]
 (.seq (s [q 3 (.faddr 0 (t 1)), q 4 (.load false 1 (t 3)), q 5 (.bin .neq (t 4) (i 3))]
 (.cond (t 5) (s [q 2 (.mv E)]
 .ret) .skip))
 (s [q 6 (.faddr 10 (t 1)), q 7 (.load false 1 (t 6)), m 2 7]
 .ret))), 8, 4, [.tmp 2], false, .imm, []⟩
theorem ok141 : FnOk Tryz.prog 141 c141 := FnOk.of (H := ⟨[], modesTab, []⟩) (d := 4) (own := false) (m := .imm) Tryz.func141 (by kernel_rfl)
def c154 : FnR := ⟨(s [q 1 (.box (t 0)), q 2 (.mv E), q 3 (.mv (i 0))]
 (.seq (.block 0 (s [q 10 (.faddr 0 (t 1)), q 11 (.load false 1 (t 10)), q 12 (.bin .eql (t 11) (i 2)), m 9 12]
 (.cond (t 9) (s [q 13 (.faddr 3 (t 1)), q 14 (.load true 7 (t 13)), q 15 (k 204 [(t 14)]), q 16 (.ext (t 15) 0), q 17 (.ext (t 15) 1), m 2 16, m 3 17]
 .ret) (.seq (s [q 19 (.load true 11 (t 1)), q 20 (.call (.func 98) [(t 19), (.const (.string ⟨#[98, 105, 110, 97, 114, 121, 45, 43]⟩)), (i 2)] i1), m 18 20]
 (.cond (t 18) .skip (r [q 21 (.load true 11 (t 1)), q 22 (.call (.func 98) [(t 21), (.const (.string ⟨#[98, 105, 110, 97, 114, 121, 45, 42]⟩)), (i 2)] i1), m 18 22])))
 (.cond (t 18) (s [q 24 (.faddr 10 (t 1)), q 25 (.load false 1 (t 24)), q 26 (.iaddr 11 (t 25) (i 0)), q 27 (.load true 11 (t 26)), q 28 (k 154 [(t 27)]), m 23 28, q 29 (.ext (t 23) 0), q 30 (.ext (t 23) 1), m 4 29, m 5 30]
 (.seq (s [m 31 5, q 32 (.bin .neq (t 31) (i 0))]
 (.cond (t 32) (s [m 33 5, q 2 (.mv E), m 3 33]
 .ret) .skip))
 (s [q 35 (.faddr 10 (t 1)), q 36 (.load false 1 (t 35)), q 37 (.iaddr 11 (t 36) (i 1)), q 38 (.load true 11 (t 37)), q 39 (k 154 [(t 38)]), m 34 39, q 40 (.ext (t 34) 0), q 41 (.ext (t 34) 1), m 6 40, m 5 41]
 (.seq (.block 1 (s [m 43 5, q 44 (.bin .neq (t 43) (i 0)), m 42 44]
 (.cond (t 42) (s [m 45 5, q 2 (.mv E), m 3 45]
 .ret) (s [q 47 (.faddr 1 (t 1)), q 48 (.faddr 1 (t 47)), q 49 (.load false 1 (t 48)), q 50 (.bin .eql (t 49) (.const (.string ⟨#[98, 105, 110, 97, 114, 121, 45, 43]⟩))), m 46 50]
 (.cond (t 46) (s [m 51 4, m 52 6, q 53 (k 156 [(t 51), (t 52)]), q 54 (.ext (t 53) 0), q 55 (.ext (t 53) 1), m 2 54, m 3 55]
 .ret) .skip)))))
 (s [m 56 4, m 57 6, q 58 (k 118 [(t 56), (t 57)]), q 59 (.ext (t 58) 0), q 60 (.ext (t 58) 1), m 2 59, m 3 60]
 .ret))))) (s [q 62 (.load true 11 (t 1)), q 63 (.call (.func 98) [(t 62), (.const (.string ⟨#[117, 110, 97, 114, 121, 45, 45]⟩)), (i 1)] i1), m 61 63]
 (.cond (t 61) (s [q 65 (.faddr 10 (t 1)), q 66 (.load false 1 (t 65)), q 67 (.iaddr 11 (t 66) (i 0)), q 68 (.load true 11 (t 67)), q 69 (k 154 [(t 68)]), m 64 69, q 70 (.ext (t 64) 0), q 71 (.ext (t 64) 1), m 7 70, m 8 71]
 (.seq (s [m 72 8, q 73 (.bin .neq (t 72) (i 0))]
 (.cond (t 73) (s [m 74 8, q 2 (.mv E), m 3 74]
 .ret) .skip))
 (s [m 75 7, q 76 (k 37 [(i (-1))]), q 77 (k 155 [(t 75), (t 76)]), q 78 (.ext (t 77) 0), q 79 (.ext (t 77) 1), m 2 78, m 3 79]
 .ret))) (s [q 81 (.load true 11 (t 1)), q 82 (.call (.func 98) [(t 81), (.const (.string ⟨#[117, 110, 97, 114, 121, 45, 47]⟩)), (i 1)] i1), m 83 82, qg 84 83 true (.faddr 10 (t 1)), qg 85 83 true (.load false 1 (t 84)), qg 86 83 true (.iaddr 11 (t 85) (i 0)), qg 87 83 true (.faddr 0 (t 86)), qg 88 83 true (.load false 1 (t 87)), qg 89 83 true (.bin .eql (t 88) (i 2)), q 90 (.pick (t 83) (t 89) F), m 80 90]
 (.cond (t 80) (s [q 91 (.faddr 10 (t 1)), q 92 (.load false 1 (t 91)), q 93 (.iaddr 11 (t 92) (i 0)), q 94 (.faddr 3 (t 93)), q 95 (.load true 7 (t 94)), q 96 (k 165 [(t 95)]), q 97 (k 204 [(t 96)]), q 98 (.ext (t 97) 0), q 99 (.ext (t 97) 1), m 2 98, m 3 99]
 .ret) .skip)))))))))
 (.seq (.region true [
  ⟨some 100, none, k 37 [(i 1)], [], [100]⟩,
  ⟨some 101, none, .load true 11 (t 1), [1], []⟩,
  ⟨some 102, none, .bslice 56 11 a11 1 [(0, (t 101))] false, [], [102]⟩,
  q 103 (.build a8 [(0, 7, (t 100)), (7, 1, (t 102))]),
  ⟨some 104, none, .bslice 120 8 a8 1 [(0, (t 103))] false, [100, 102], [104]⟩,
  m 2 104,
  q 3 (.mv (i 0))])
 .ret))), 105, 7, [.tmp 2, .tmp 3], false, .imm, []⟩
theorem ok154 : FnOk Tryz.prog 154 c154 := FnOk.of (H := ⟨[], modesTab, [(1, [1]), (103, [100, 102])]⟩) (d := 7) (own := false) (m := .imm) Tryz.func154 (by kernel_rfl)
def c155 : FnR := ⟨(s [q 3 (.box (t 1)), q 4 (.mv E), q 5 (.mv (i 0))]
 (s [q 6 (.mv E)]
 (.seq (s [m 9 0, q 10 (.len false (t 9)), q 11 (.mv (i 0))]
 (.block 0 (.loop (s [q 12 (.bin .lss (t 11) (t 10))]
 (.seq (.cond (t 12) .skip (.exit 0))
 (.seq (.block 1 (s [q 13 (.iaddr 8 (t 9) (t 11)), q 14 (.load true 8 (t 13)), q 8 (.alloc a8), qn (.store 8 (t 8) (t 14))]
 (.region true [
  m 15 6,
  q 16 (.faddr 0 (t 8)),
  ⟨some 17, none, .load true 7 (t 16), [8], []⟩,
  ⟨some 18, none, .load true 7 (t 3), [3], []⟩,
  ⟨some 19, none, k 160 [(t 17), (t 18)], [], [19]⟩,
  q 20 (.faddr 7 (t 8)),
  ⟨some 21, none, .load false 1 (t 20), [8], []⟩,
  q 22 (.build a8 [(0, 7, (t 19)), (7, 1, (t 21))]),
  ⟨some 23, none, .bslice 120 8 a8 1 [(0, (t 22))] false, [19], [23]⟩,
  ⟨some 24, none, .append 120 8 136 (t 15) (t 23) true, [24, 23], [24, 24]⟩,
  m 6 24])))
 (r [q 25 (.bin .add (t 11) (i 1)), m 11 25])))))))
 (s [m 26 6, q 27 (.call (.func 184) [(t 26)] [.eat]), q 28 (.ext (t 27) 0), q 29 (.ext (t 27) 1), m 4 28, m 5 29]
 .ret)))), 30, 5, [.tmp 4, .tmp 5], false, .imm, []⟩
theorem ok155 : FnOk Tryz.prog 155 c155 := FnOk.of (H := ⟨[24], modesTab, [(3, [3]), (15, [24]), (16, [8]), (20, [8]), (22, [19]), (23, [23])]⟩) (d := 5) (own := false) (m := .imm) Tryz.func155 (by kernel_rfl)
def c156 : FnR := ⟨(s [q 4 (.mv E), q 5 (.mv (i 0))]
 (s [m 6 0, m 7 1, q 8 (.bslice 98 1 [(.slice none 0 0)] 2 [(0, (t 6)), (1, (t 7))] false), q 9 (k 205 [(t 8)]), q 10 (.call (.func 184) [(t 9)] [.eat]), q 11 (.ext (t 10) 0), q 12 (.ext (t 10) 1), m 4 11, m 5 12]
 .ret)), 13, 4, [.tmp 4, .tmp 5], false, .imm, []⟩
theorem ok156 : FnOk Tryz.prog 156 c156 := FnOk.of (H := ⟨[9], modesTab, []⟩) (d := 4) (own := false) (m := .imm) Tryz.func156 (by kernel_rfl)
def c158 : FnR := ⟨(s [q 1 (.box (t 0)), q 2 (.mv F)]
 (.seq (.region true [
  ⟨some 3, none, .load true 7 (t 1), [1], []⟩,
  ⟨some 4, none, k 36 [], [], [4]⟩,
  ⟨some 5, none, k 207 [(t 3), (t 4)], [4], [5]⟩,
  m 2 5])
 .ret)), 6, 4, [.tmp 2], false, .imm, []⟩
theorem ok158 : FnOk Tryz.prog 158 c158 := FnOk.of (H := ⟨[], modesTab, [(1, [1]), (4, [4])]⟩) (d := 4) (own := false) (m := .imm) Tryz.func158 (by kernel_rfl)
def c159 : FnR := ⟨(s [q 2 (.box (t 0)), q 3 (.box (t 1)), q 4 (.mv F)]
 (.seq (.region true [
  ⟨some 5, none, .load true 7 (t 2), [2], []⟩,
  ⟨some 6, none, k 209 [(t 5)], [], [6]⟩,
  ⟨some 7, none, .load true 7 (t 3), [3], []⟩,
  ⟨some 8, none, k 209 [(t 7)], [], [8]⟩,
  ⟨some 9, none, k 208 [(t 6), (t 8)], [6, 8], [9]⟩,
  q 10 (.bin .lss (t 9) (i 0)),
  m 4 10])
 .ret)), 11, 4, [.tmp 4], false, .imm, []⟩
theorem ok159 : FnOk Tryz.prog 159 c159 := FnOk.of (H := ⟨[], modesTab, [(2, [2]), (3, [3]), (6, [6]), (8, [8])]⟩) (d := 4) (own := false) (m := .imm) Tryz.func159 (by kernel_rfl)
def c160 : FnR := ⟨(s [q 2 (.box (t 0)), q 3 (.box (t 1)), q 4 (.alloc a7)]
 (.seq (.region true [
  ⟨some 5, none, .load true 7 (t 2), [2], []⟩,
  ⟨some 6, none, k 209 [(t 5)], [6], [6]⟩,
  ⟨some 7, none, .load true 7 (t 3), [3], []⟩,
  ⟨some 8, none, k 209 [(t 7)], [8], [8]⟩,
  ⟨none, none, .store 7 (t 2) (t 6), [2, 6], [2]⟩,
  ⟨none, none, .store 7 (t 3) (t 8), [3, 8], [3]⟩])
 (.seq (.region true [
  q 9 (.faddr 1 (t 2)),
  ⟨some 10, none, .load false 1 (t 9), [2], []⟩,
  q 11 (.faddr 1 (t 3)),
  ⟨some 12, none, .load false 1 (t 11), [3], []⟩,
  ⟨some 13, none, k 211 [(t 10), (t 12)], [6, 8], [13]⟩,
  q 14 (.faddr 2 (t 2)),
  ⟨some 15, none, .load false 1 (t 14), [2], []⟩,
  q 16 (.faddr 2 (t 3)),
  ⟨some 17, none, .load false 1 (t 16), [3], []⟩,
  ⟨some 18, none, k 211 [(t 15), (t 17)], [6, 8], [18]⟩,
  ⟨some 19, none, k 210 [(t 13), (t 18)], [13, 18], [19]⟩,
  ⟨none, none, .store 7 (t 4) (t 19), [4, 19], [4]⟩])
 .ret))), 20, 5, [.cell 4 true 7], false, .imm, []⟩
theorem ok160 : FnOk Tryz.prog 160 c160 := FnOk.of (H := ⟨[], modesTab, [(2, [2]), (3, [3]), (4, [4]), (5, [6]), (6, [6]), (7, [8]), (8, [8]), (9, [2]), (10, [6]), (11, [3]), (12, [8]), (13, [13]), (14, [2]), (15, [6]), (16, [3]), (17, [8]), (18, [18]), (19, [19])]⟩) (d := 5) (own := false) (m := .imm) Tryz.func160 (by kernel_rfl)
def c161 : FnR := ⟨(s [q 4 (.mv F)]
 (.seq (s [m 18 1, q 19 (.len false (t 18)), m 20 0, q 21 (.len false (t 20)), q 22 (.bin .neq (t 19) (t 21))]
 (.cond (t 22) (s [q 4 (.mv F)]
 .ret) .skip))
 (.seq (s [m 23 1, q 24 (.len false (t 23)), q 25 (.mv (i 0))]
 (.block 0 (.loop (s [q 26 (.bin .lss (t 25) (t 24))]
 (.seq (.cond (t 26) .skip (.exit 0))
 (.seq (.block 1 (s [q 27 (.iaddr 7 (t 23) (t 25)), q 28 (.load true 7 (t 27)), q 6 (.alloc a7), qn (.store 7 (t 6) (t 28))]
 (s [q 29 (.faddr 0 (t 6)), q 30 (.load false 1 (t 29)), q 31 (.bin .neq (t 30) (i 1)), m 32 31, qg 33 32 false (.load true 7 (t 6)), qg 34 32 false (k 212 [(t 33)]), qg 35 32 false (.un .not (t 34)), q 36 (.pick (t 32) T (t 35))]
 (.cond (t 36) (s [q 4 (.mv F)]
 .ret) .skip))))
 (r [q 37 (.bin .add (t 25) (i 1)), m 25 37])))))))
 (s [q 7 (.mv E)]
 (s [q 8 (.mv F)]
 (.seq (s [m 38 0, q 39 (.len false (t 38)), q 40 (.mv (i 0))]
 (.block 2 (.loop (s [q 41 (.bin .lss (t 40) (t 39))]
 (.seq (.cond (t 41) .skip (.exit 2))
 (.seq (.block 3 (s [m 42 40, q 43 (.iaddr 11 (t 38) (t 40)), q 44 (.load true 11 (t 43)), q 10 (.alloc a11), m 9 42, qn (.store 11 (t 10) (t 44))]
 (s [q 46 (.load true 11 (t 10)), q 47 (k 35 [(t 46)]), m 45 47, q 48 (.ext (t 45) 0), q 49 (.ext (t 45) 1), q 50 (.ext (t 45) 2), m 11 48, m 12 49, m 13 50]
 (s [m 51 1, m 52 9, q 53 (.iaddr 7 (t 51) (t 52)), q 54 (.load true 7 (t 53)), q 14 (.alloc a7), qn (.store 7 (t 14) (t 54))]
 (.seq (.region true [
  ⟨some 55, none, .load true 7 (t 14), [14], []⟩,
  ⟨some 56, none, k 37 [(i 0)], [], [56]⟩,
  ⟨some 57, none, k 159 [(t 55), (t 56)], [56], [57]⟩,
  m 15 57])
 (.seq (s [m 58 13, q 59 (.bin .neq (t 58) (i 0)), m 60 59, qg 61 60 false (.mv (t 12)), qg 62 60 false (.bin .eql (t 61) (i 0)), q 63 (.pick (t 60) T (t 62)), m 64 63, qg 65 64 true (.load true 7 (t 14)), qg 66 64 true (k 213 [(t 65)]), qg 67 64 true (.un .not (t 66)), q 68 (.pick (t 64) (t 67) F), m 69 68, qg 70 69 false (.mv (t 12)), qg 71 69 false (.bin .neq (t 70) (i 3)), qg 72 69 false (.mv (t 71)), qg 73 72 true (.mv (t 15)), qg 74 69 false (.pick (t 72) (t 73) F), q 75 (.pick (t 69) T (t 74))]
 (.cond (t 75) (s [q 4 (.mv F)]
 .ret) .skip))
 (.seq (s [m 76 13, q 77 (.bin .neq (t 76) (i 0))]
 (.cond (t 77) (.exit 3) .skip))
 (s [m 78 8, m 79 78, qg 80 79 false (.mv (t 12)), qg 81 79 false (.bin .eql (t 80) (i 1)), qg 82 79 false (.mv (t 81)), qg 83 82 true (.load true 7 (t 14)), qg 84 82 true (k 213 [(t 83)]), qg 85 82 true (.un .not (t 84)), qg 86 79 false (.pick (t 82) (t 85) F), qg 87 79 false (.mv (t 86)), qg 88 87 true (.mv (t 15)), qg 89 87 true (.un .not (t 88)), qg 90 79 false (.pick (t 87) (t 89) F), q 91 (.pick (t 79) T (t 90)), m 8 91]
 (.seq (s [m 93 11, q 94 (.load true 7 (t 14)), q 95 (k 155 [(t 93), (t 94)]), m 92 95, q 96 (.ext (t 92) 0), q 97 (.ext (t 92) 1), m 11 96, m 13 97]
 (s [m 98 13, q 99 (.bin .neq (t 98) (i 0))]
 (.cond (t 99) (s [q 4 (.mv F)]
 .ret) .skip)))
 (s [m 101 7, m 102 11, q 103 (k 156 [(t 101), (t 102)]), m 100 103, q 104 (.ext (t 100) 0), q 105 (.ext (t 100) 1), m 7 104, m 13 105]
 (s [m 106 13, q 107 (.bin .neq (t 106) (i 0))]
 (.cond (t 107) (s [q 4 (.mv F)]
 .ret) .skip))))))))))))
 (r [q 108 (.bin .add (t 40) (i 1)), m 40 108])))))))
 (s [m 110 7, q 111 (k 117 [(t 110)]), m 109 111, q 112 (.ext (t 109) 0), q 113 (.ext (t 109) 1), q 16 (.alloc a7), qn (.store 7 (t 16) (t 112)), m 17 113]
 (.seq (.region true [
  m 114 17,
  m 115 114,
  ⟨some 116, some (115, true), .load true 7 (t 16), [16], []⟩,
  ⟨some 117, some (115, true), k 37 [(i 0)], [], [117]⟩,
  ⟨some 118, some (115, true), k 159 [(t 116), (t 117)], [111, 117], [118]⟩,
  qg 119 115 true (.mv (t 118)),
  qg 120 119 false (.mv (t 8)),
  qg 121 119 false (.mv (t 120)),
  ⟨some 122, some (121, true), .load true 7 (t 16), [16], []⟩,
  ⟨some 123, some (121, true), k 213 [(t 122)], [111], [123]⟩,
  qg 124 119 false (.pick (t 121) (t 123) F),
  qg 125 115 true (.pick (t 119) T (t 124)),
  q 126 (.pick (t 115) (t 125) F),
  m 4 126])
 .ret)))))))), 127, 7, [.tmp 4], false, .imm, []⟩
theorem ok161 : FnOk Tryz.prog 161 c161 := FnOk.of (H := ⟨[], modesTab, [(14, [14]), (16, [16]), (56, [56]), (116, [111]), (117, [117]), (122, [111])]⟩) (d := 7) (own := false) (m := .imm) Tryz.func161 (by kernel_rfl)
def c162 : FnR := ⟨(s [q 4 (.alloc a7)]
 (.seq (s [m 7 0, q 8 (.len false (t 7)), q 9 (.mv (i 0))]
 (.block 0 (.loop (s [q 10 (.bin .lss (t 9) (t 8))]
 (.seq (.cond (t 10) .skip (.exit 0))
 (.seq (.block 1 (s [q 11 (.iaddr 8 (t 7) (t 9)), q 12 (.load true 8 (t 11)), q 6 (.alloc a8), qn (.store 8 (t 6) (t 12))]
 (s [q 13 (.faddr 7 (t 6)), q 14 (.load false 1 (t 13)), m 15 1, q 16 (k 214 [(t 14), (t 15)])]
 (.cond (t 16) (s [q 17 (.faddr 0 (t 6)), q 18 (.load true 7 (t 17)), qn (.store 7 (t 4) (t 18))]
 .ret) .skip))))
 (r [q 19 (.bin .add (t 9) (i 1)), m 9 19])))))))
 (s [q 20 (k 36 []), qn (.store 7 (t 4) (t 20))]
 .ret))), 21, 5, [.cell 4 true 7], false, .imm, []⟩
theorem ok162 : FnOk Tryz.prog 162 c162 := FnOk.of (H := ⟨[], modesTab, []⟩) (d := 5) (own := false) (m := .imm) Tryz.func162 (by kernel_rfl)
def c163 : FnR := ⟨(s [q 4 (.box (t 0)), q 5 (.box (t 1)), q 6 (.box (t 2)), q 7 (.box (t 3)), q 8 (.alloc [(.slice none 0 0), (.bool false), (.slice none 0 0), (.slice none 0 0)]), q 9 (.mv F)]
 (s [q 18 (.faddr 0 (t 5)), q 19 (.load false 1 (t 18)), q 20 (.load true 7 (t 4)), q 21 (k 155 [(t 19), (t 20)]), m 17 21, q 22 (.ext (t 17) 0), q 23 (.ext (t 17) 1), m 10 22, m 11 23]
 (.seq (s [m 24 11, q 25 (.bin .neq (t 24) (i 0))]
 (.cond (t 25) (s [q 26 (.build [(.slice none 0 0), (.bool false), (.slice none 0 0), (.slice none 0 0)] []), qn (.store 4 (t 8) (t 26)), q 9 (.mv F)]
 .ret) .skip))
 (s [q 28 (.faddr 0 (t 7)), q 29 (.load false 1 (t 28)), q 30 (.load true 7 (t 6)), q 31 (k 155 [(t 29), (t 30)]), m 27 31, q 32 (.ext (t 27) 0), q 33 (.ext (t 27) 1), m 12 32, m 11 33]
 (.seq (s [m 34 11, q 35 (.bin .neq (t 34) (i 0))]
 (.cond (t 35) (s [q 36 (.build [(.slice none 0 0), (.bool false), (.slice none 0 0), (.slice none 0 0)] []), qn (.store 4 (t 8) (t 36)), q 9 (.mv F)]
 .ret) .skip))
 (s [m 38 10, m 39 12, q 40 (k 156 [(t 38), (t 39)]), m 37 40, q 41 (.ext (t 37) 0), q 42 (.ext (t 37) 1), m 13 41, m 11 42]
 (.seq (s [m 43 11, q 44 (.bin .neq (t 43) (i 0))]
 (.cond (t 44) (s [q 45 (.build [(.slice none 0 0), (.bool false), (.slice none 0 0), (.slice none 0 0)] []), qn (.store 4 (t 8) (t 45)), q 9 (.mv F)]
 .ret) .skip))
 (s [m 46 13, q 47 (.faddr 1 (t 5)), q 48 (.load false 1 (t 47)), m 49 48, qg 50 49 false (.faddr 1 (t 7)), qg 51 49 false (.load false 1 (t 50)), q 52 (.pick (t 49) T (t 51)), q 53 (.build [(.slice none 0 0), (.bool false), (.slice none 0 0), (.slice none 0 0)] [(0, 1, (t 46)), (1, 1, (t 52))]), q 14 (.alloc [(.slice none 0 0), (.bool false), (.slice none 0 0), (.slice none 0 0)]), qn (.store 4 (t 14) (t 53))]
 (.seq (s [q 54 (.faddr 2 (t 5)), q 55 (.load false 1 (t 54)), q 56 (.len false (t 55)), q 57 (.mv (i 0))]
 (.block 0 (.loop (s [q 58 (.bin .lss (t 57) (t 56))]
 (.seq (.cond (t 58) .skip (.exit 0))
 (.seq (.block 1 (s [m 59 57, m 15 59]
 (.seq (.region true [
  ⟨some 60, none, .load true 7 (t 4), [4], []⟩,
  q 61 (.faddr 2 (t 5)),
  ⟨some 62, none, .load false 1 (t 61), [5], []⟩,
  m 63 15,
  q 64 (.iaddr 7 (t 62) (t 63)),
  q 65 (.load true 7 (t 64)),
  ⟨some 66, none, k 160 [(t 60), (t 65)], [], [66]⟩,
  ⟨some 67, none, .load true 7 (t 6), [6], []⟩,
  q 68 (.faddr 2 (t 7)),
  ⟨some 69, none, .load false 1 (t 68), [7], []⟩,
  m 70 15,
  q 71 (.iaddr 7 (t 69) (t 70)),
  q 72 (.load true 7 (t 71)),
  ⟨some 73, none, k 160 [(t 67), (t 72)], [], [73]⟩,
  ⟨some 74, none, k 215 [(t 66), (t 73)], [66, 73], [74]⟩,
  ⟨some 16, none, .alloc a7, [], [16]⟩,
  ⟨none, none, .store 7 (t 16) (t 74), [16, 74], [16]⟩])
 (.seq (s [q 75 (.load true 7 (t 16)), q 76 (k 212 [(t 75)]), q 77 (.un .not (t 76))]
 (.cond (t 77) (s [q 78 (.build [(.slice none 0 0), (.bool false), (.slice none 0 0), (.slice none 0 0)] []), qn (.store 4 (t 8) (t 78)), q 9 (.mv F)]
 .ret) .skip))
 (s [q 79 (.faddr 2 (t 14)), q 80 (.load false 1 (t 79)), q 81 (.load true 7 (t 16)), q 82 (.bslice 54 7 a7 1 [(0, (t 81))] false), q 83 (.append 54 7 112 (t 80) (t 82) false), q 84 (.faddr 2 (t 14)), qn (.store 1 (t 84) (t 83))]
 (.region true [
  q 85 (.faddr 3 (t 14)),
  ⟨some 86, none, .load false 1 (t 85), [14], []⟩,
  q 87 (.faddr 3 (t 5)),
  ⟨some 88, none, .load false 1 (t 87), [5], []⟩,
  m 89 15,
  q 90 (.iaddr 1 (t 88) (t 89)),
  q 91 (.load false 1 (t 90)),
  m 92 91,
  qg 93 92 false (.faddr 3 (t 7)),
  ⟨some 94, some (92, false), .load false 1 (t 93), [7], []⟩,
  qg 95 92 false (.mv (t 15)),
  qg 96 92 false (.iaddr 1 (t 94) (t 95)),
  qg 97 92 false (.load false 1 (t 96)),
  q 98 (.pick (t 92) T (t 97)),
  ⟨some 99, none, .bslice 4 1 [(.bool false)] 1 [(0, (t 98))] false, [], [99]⟩,
  ⟨some 100, none, .append 4 1 1 (t 86) (t 99) false, [40, 83, 100, 99], [100, 40, 83, 100]⟩,
  q 101 (.faddr 3 (t 14)),
  ⟨none, none, .store 1 (t 101) (t 100), [14, 40, 83, 100], [14]⟩]))))))
 (r [q 102 (.bin .add (t 57) (i 1)), m 57 102])))))))
 (s [q 103 (.load true 4 (t 14)), qn (.store 4 (t 8) (t 103)), q 9 (.mv T)]
 .ret)))))))))), 104, 7, [.cell 8 true 4, .tmp 9], false, .imm, []⟩
theorem ok163 : FnOk Tryz.prog 163 c163 := FnOk.of (H := ⟨[], modesTab, [(4, [4]), (6, [6]), (16, [16]), (61, [5]), (66, [66]), (68, [7]), (73, [73]), (74, [74]), (85, [14]), (86, [40, 83, 100]), (87, [5]), (93, [7]), (99, [99]), (100, [40, 83, 100]), (101, [14])]⟩) (d := 7) (own := false) (m := .imm) Tryz.func163 (by kernel_rfl)
def c164 : FnR := ⟨(s [q 1 (.box (t 0)), q 2 (.alloc a7)]
 (s [q 3 (.load true 7 (t 1)), q 4 (k 209 [(t 3)]), qn (.store 7 (t 1) (t 4))]
 (s [q 5 (.faddr 1 (t 1)), q 6 (.load false 1 (t 5)), q 7 (k 216 [(t 6)]), q 8 (.faddr 1 (t 1)), qn (.store 1 (t 8) (t 7))]
 (s [q 9 (.load true 7 (t 1)), qn (.store 7 (t 2) (t 9))]
 .ret)))), 10, 4, [.cell 2 true 7], false, .imm, []⟩
theorem ok164 : FnOk Tryz.prog 164 c164 := FnOk.of (H := ⟨[], modesTab, []⟩) (d := 4) (own := false) (m := .imm) Tryz.func164 (by kernel_rfl)
def c165 : FnR := ⟨(s [q 1 (.box (t 0)), q 2 (.alloc a7)]
 (s [q 3 (.load true 7 (t 1)), q 4 (k 209 [(t 3)]), qn (.store 7 (t 1) (t 4))]
 (s [q 5 (.faddr 2 (t 1)), q 6 (.load false 1 (t 5)), q 7 (.faddr 1 (t 1)), q 8 (.load false 1 (t 7)), q 9 (k 210 [(t 6), (t 8)]), qn (.store 7 (t 2) (t 9))]
 .ret))), 10, 4, [.cell 2 true 7], false, .imm, []⟩
theorem ok165 : FnOk Tryz.prog 165 c165 := FnOk.of (H := ⟨[], modesTab, []⟩) (d := 4) (own := false) (m := .imm) Tryz.func165 (by kernel_rfl)
def c166 : FnR := ⟨(s [q 4 (.mv E), q 5 (.mv F)]
 (.seq (s [m 10 1, q 11 (.len false (t 10)), q 12 (.mv (i 0))]
 (.block 0 (.loop (s [q 13 (.bin .lss (t 12) (t 11))]
 (.seq (.cond (t 13) .skip (.exit 0))
 (.seq (.block 1 (s [q 14 (.iaddr 4 (t 10) (t 12)), q 15 (.load true 4 (t 14)), q 7 (.alloc [(.slice none 0 0), (.bool false), (.slice none 0 0), (.slice none 0 0)]), qn (.store 4 (t 7) (t 15))]
 (s [q 17 (.faddr 0 (t 7)), q 18 (.load false 1 (t 17)), q 19 (k 117 [(t 18)]), m 16 19, q 20 (.ext (t 16) 0), q 21 (.ext (t 16) 1), q 8 (.alloc a7), qn (.store 7 (t 8) (t 20)), m 9 21]
 (.seq (s [m 22 9, q 23 (.un .not (t 22))]
 (.cond (t 23) (.exit 1) .skip))
 (.seq (.region true [
  ⟨some 24, none, .load true 7 (t 8), [8], []⟩,
  ⟨some 25, none, k 36 [], [], [25]⟩,
  ⟨some 26, none, k 159 [(t 24), (t 25)], [19, 25], [26]⟩,
  m 27 26,
  ⟨some 28, some (27, false), .load true 7 (t 8), [8], []⟩,
  ⟨some 29, some (27, false), k 158 [(t 28)], [19], [29]⟩,
  qg 30 27 false (.mv (t 29)),
  qg 31 30 true (.faddr 1 (t 7)),
  ⟨some 32, some (30, true), .load false 1 (t 31), [7], []⟩,
  qg 33 27 false (.pick (t 30) (t 32) F),
  q 34 (.pick (t 27) T (t 33)),
  m 35 34,
  qg 36 35 true (.mv (t 0)),
  qg 37 35 true (.faddr 2 (t 7)),
  ⟨some 38, some (35, true), .load false 1 (t 37), [7], []⟩,
  ⟨some 39, some (35, true), k 161 [(t 36), (t 38)], [], [39]⟩,
  q 40 (.pick (t 35) (t 39) F)])
 (.cond (t 40) (s [q 41 (.faddr 2 (t 7)), q 42 (.load false 1 (t 41)), m 4 42, q 5 (.mv T)]
 .ret) .skip))))))
 (r [q 43 (.bin .add (t 12) (i 1)), m 12 43])))))))
 (s [q 4 (.mv E), q 5 (.mv F)]
 .ret))), 44, 6, [.tmp 4, .tmp 5], false, .imm, []⟩
theorem ok166 : FnOk Tryz.prog 166 c166 := FnOk.of (H := ⟨[], modesTab, [(8, [8]), (24, [19]), (25, [25]), (28, [19]), (31, [7]), (37, [7])]⟩) (d := 6) (own := false) (m := .imm) Tryz.func166 (by kernel_rfl)
def c167 : FnR := ⟨(s [q 2 (.mv E)]
 (s [q 3 (.mv E)]
 (.seq (s [m 11 0, q 12 (.len false (t 11)), q 13 (.mv (i 0))]
 (.block 0 (.loop (s [q 14 (.bin .lss (t 13) (t 12))]
 (.seq (.cond (t 14) .skip (.exit 0))
 (.seq (.block 1 (s [q 15 (.iaddr 4 (t 11) (t 13)), q 16 (.load true 4 (t 15)), q 5 (.alloc [(.slice none 0 0), (.bool false), (.slice none 0 0), (.slice none 0 0)]), qn (.store 4 (t 5) (t 16))]
 (s [q 17 (.faddr 0 (t 5)), q 18 (.load false 1 (t 17)), q 19 (.len false (t 18)), q 20 (.mv (i 0))]
 (.block 2 (.loop (s [q 21 (.bin .lss (t 20) (t 19))]
 (.seq (.cond (t 21) .skip (.exit 2))
 (.seq (.block 3 (s [q 22 (.iaddr 8 (t 18) (t 20)), q 23 (.load true 8 (t 22)), q 7 (.alloc a8), qn (.store 8 (t 7) (t 23))]
 (.seq (s [q 24 (.faddr 7 (t 7)), q 25 (.load false 1 (t 24)), q 26 (.len false (t 25)), q 27 (.bin .eql (t 26) (i 0))]
 (.cond (t 27) (.exit 3) .skip))
 (s [q 8 (.mv F)]
 (.seq (s [m 28 3, q 29 (.len false (t 28)), q 30 (.mv (i 0))]
 (.block 4 (.loop (s [q 31 (.bin .lss (t 30) (t 29))]
 (.seq (.cond (t 31) .skip (.exit 4))
 (.seq (.block 5 (s [q 32 (.iaddr 1 (t 28) (t 30)), q 33 (.load false 1 (t 32)), m 10 33]
 (r [m 34 8, m 35 34, qg 36 35 false (.mv (t 10)), qg 37 35 false (.faddr 7 (t 7)), qg 38 35 false (.load false 1 (t 37)), qg 39 35 false (k 214 [(t 36), (t 38)]), q 40 (.pick (t 35) T (t 39)), m 8 40])))
 (r [q 41 (.bin .add (t 30) (i 1)), m 30 41])))))))
 (s [m 42 8, q 43 (.un .not (t 42))]
 (.cond (t 43) (r [m 44 3, q 45 (.faddr 7 (t 7)), q 46 (.load false 1 (t 45)), q 47 (.bslice 30 1 [(.slice none 0 0)] 1 [(0, (t 46))] false), q 48 (.append 30 1 24 (t 44) (t 47) false), m 3 48]) .skip)))))))
 (r [q 49 (.bin .add (t 20) (i 1)), m 20 49])))))))))
 (r [q 50 (.bin .add (t 13) (i 1)), m 13 50])))))))
 (s [m 51 3, m 2 51]
 .ret)))), 52, 6, [.tmp 2], false, .imm, []⟩
theorem ok167 : FnOk Tryz.prog 167 c167 := okF Tryz.func167 (by kernel_rfl)
def c168 : FnR := ⟨(s [q 4 (.mv E), q 5 (.mv F)]
 (s [q 6 (.mv E), q 7 (.mv E), q 8 (.mv E)]
 (.seq (s [m 24 0, q 25 (.len false (t 24)), q 26 (.mv (i 0))]
 (.block 0 (.loop (s [q 27 (.bin .lss (t 26) (t 25))]
 (.seq (.cond (t 27) .skip (.exit 0))
 (.seq (.block 1 (s [q 28 (.iaddr 4 (t 24) (t 26)), q 29 (.load true 4 (t 28)), q 10 (.alloc [(.slice none 0 0), (.bool false), (.slice none 0 0), (.slice none 0 0)]), qn (.store 4 (t 10) (t 29))]
 (s [q 30 (.faddr 0 (t 10)), q 31 (.load false 1 (t 30)), m 32 1, q 33 (k 162 [(t 31), (t 32)]), q 11 (.alloc a7), qn (.store 7 (t 11) (t 33))]
 (.block 2 (.seq (.region true [
  ⟨some 39, none, k 36 [], [], [39]⟩,
  ⟨some 40, none, .load true 7 (t 11), [11], []⟩,
  ⟨some 41, none, k 159 [(t 39), (t 40)], [39, 33], [41]⟩,
  m 38 41])
 (.cond (t 38) (r [m 42 6, q 43 (.load true 4 (t 10)), q 44 (.bslice 104 4 [(.slice none 0 0), (.bool false), (.slice none 0 0), (.slice none 0 0)] 1 [(0, (t 43))] false), q 45 (.append 104 4 80 (t 42) (t 44) false), m 6 45]) (.seq (.region true [
  ⟨some 47, none, .load true 7 (t 11), [11], []⟩,
  ⟨some 48, none, k 36 [], [], [48]⟩,
  ⟨some 49, none, k 159 [(t 47), (t 48)], [33, 48], [49]⟩,
  m 46 49])
 (.cond (t 46) (r [m 50 7, q 51 (.load true 4 (t 10)), q 52 (.bslice 104 4 [(.slice none 0 0), (.bool false), (.slice none 0 0), (.slice none 0 0)] 1 [(0, (t 51))] false), q 53 (.append 104 4 80 (t 50) (t 52) false), m 7 53]) (r [m 34 8, q 35 (.load true 4 (t 10)), q 36 (.bslice 104 4 [(.slice none 0 0), (.bool false), (.slice none 0 0), (.slice none 0 0)] 1 [(0, (t 35))] false), q 37 (.append 104 4 80 (t 34) (t 36) false), m 8 37])))))))))
 (r [q 54 (.bin .add (t 26) (i 1)), m 26 54])))))))
 (.seq (s [m 55 6, q 56 (.len false (t 55)), q 57 (.mv (i 0))]
 (.block 3 (.loop (s [q 58 (.bin .lss (t 57) (t 56))]
 (.seq (.cond (t 58) .skip (.exit 3))
 (.seq (.block 4 (s [q 59 (.iaddr 4 (t 55) (t 57)), q 60 (.load true 4 (t 59)), q 13 (.alloc [(.slice none 0 0), (.bool false), (.slice none 0 0), (.slice none 0 0)]), qn (.store 4 (t 13) (t 60))]
 (s [m 61 7, q 62 (.len false (t 61)), q 63 (.mv (i 0))]
 (.block 5 (.loop (s [q 64 (.bin .lss (t 63) (t 62))]
 (.seq (.cond (t 64) .skip (.exit 5))
 (.seq (.block 6 (s [q 65 (.iaddr 4 (t 61) (t 63)), q 66 (.load true 4 (t 65)), q 15 (.alloc [(.slice none 0 0), (.bool false), (.slice none 0 0), (.slice none 0 0)]), qn (.store 4 (t 15) (t 66))]
 (.seq (.region true [
  q 68 (.faddr 0 (t 15)),
  ⟨some 69, none, .load false 1 (t 68), [15], []⟩,
  m 70 1,
  ⟨some 71, none, k 162 [(t 69), (t 70)], [], [71]⟩,
  ⟨some 72, none, k 164 [(t 71)], [71], [72]⟩,
  ⟨some 73, none, .load true 4 (t 13), [13], []⟩,
  q 74 (.faddr 0 (t 13)),
  ⟨some 75, none, .load false 1 (t 74), [13], []⟩,
  m 76 1,
  ⟨some 77, none, k 162 [(t 75), (t 76)], [], [77]⟩,
  ⟨some 78, none, .load true 4 (t 15), [15], []⟩,
  ⟨some 79, none, k 163 [(t 72), (t 73), (t 77), (t 78)], [72, 77], [79]⟩,
  m 67 79,
  q 80 (.ext (t 67) 0),
  q 81 (.ext (t 67) 1),
  ⟨some 16, none, .alloc [(.slice none 0 0), (.bool false), (.slice none 0 0), (.slice none 0 0)], [], [16]⟩,
  ⟨none, none, .store 4 (t 16) (t 80), [16, 79], [16]⟩,
  m 17 81])
 (.seq (s [m 82 17, q 83 (.un .not (t 82))]
 (.cond (t 83) (s [q 4 (.mv E), q 5 (.mv F)]
 .ret) .skip))
 (.seq (s [q 85 (.load true 4 (t 16)), q 86 (k 217 [(t 85)]), m 84 86, q 87 (.ext (t 84) 0), q 88 (.ext (t 84) 1), qn (.store 4 (t 16) (t 87)), m 17 88]
 (s [m 89 17, q 90 (.un .not (t 89))]
 (.cond (t 90) (s [q 4 (.mv E), q 5 (.mv F)]
 .ret) .skip)))
 (s [m 91 8, q 92 (.load true 4 (t 16)), q 93 (.bslice 104 4 [(.slice none 0 0), (.bool false), (.slice none 0 0), (.slice none 0 0)] 1 [(0, (t 92))] false), q 94 (.append 104 4 80 (t 91) (t 93) false), m 8 94]
 (s [m 95 8, q 96 (.len false (t 95)), q 97 (.bin .gtr (t 96) (i 1600))]
 (.cond (t 97) (s [q 4 (.mv E), q 5 (.mv F)]
 .ret) .skip))))))))
 (r [q 98 (.bin .add (t 63) (i 1)), m 63 98])))))))))
 (r [q 99 (.bin .add (t 57) (i 1)), m 57 99])))))))
 (s [q 18 (.mv E)]
 (.seq (s [m 100 8, q 101 (.len false (t 100)), q 102 (.mv (i 0))]
 (.block 7 (.loop (s [q 103 (.bin .lss (t 102) (t 101))]
 (.seq (.cond (t 103) .skip (.exit 7))
 (.seq (.block 8 (s [m 104 102, q 105 (.iaddr 4 (t 100) (t 102)), q 106 (.load true 4 (t 105)), q 20 (.alloc [(.slice none 0 0), (.bool false), (.slice none 0 0), (.slice none 0 0)]), m 19 104, qn (.store 4 (t 20) (t 106))]
 (s [q 21 (.mv F)]
 (.seq (s [m 107 8, q 108 (.len false (t 107)), q 109 (.mv (i 0))]
 (.block 9 (.loop (s [q 110 (.bin .lss (t 109) (t 108))]
 (.seq (.cond (t 110) .skip (.exit 9))
 (.seq (.block 10 (s [m 111 109, q 112 (.iaddr 4 (t 107) (t 109)), q 113 (.load true 4 (t 112)), q 23 (.alloc [(.slice none 0 0), (.bool false), (.slice none 0 0), (.slice none 0 0)]), m 22 111, qn (.store 4 (t 23) (t 113))]
 (s [m 114 22, m 115 19, q 116 (.bin .neq (t 114) (t 115)), m 117 116, qg 118 117 true (.faddr 3 (t 23)), qg 119 117 true (.load false 1 (t 118)), qg 120 117 true (.faddr 3 (t 20)), qg 121 117 true (.load false 1 (t 120)), qg 122 117 true (k 218 [(t 119), (t 121)]), q 123 (.pick (t 117) (t 122) F), m 124 123, qg 125 124 true (.faddr 3 (t 20)), qg 126 124 true (.load false 1 (t 125)), qg 127 124 true (.faddr 3 (t 23)), qg 128 124 true (.load false 1 (t 127)), qg 129 124 true (k 218 [(t 126), (t 128)]), qg 130 124 true (.un .not (t 129)), qg 131 124 true (.mv (t 130)), qg 132 131 false (.mv (t 22)), qg 133 131 false (.mv (t 19)), qg 134 131 false (.bin .lss (t 132) (t 133)), qg 135 124 true (.pick (t 131) T (t 134)), q 136 (.pick (t 124) (t 135) F)]
 (.cond (t 136) (s [q 21 (.mv T)]
 (.exit 9)) .skip))))
 (r [q 137 (.bin .add (t 109) (i 1)), m 109 137])))))))
 (s [m 138 21, q 139 (.un .not (t 138))]
 (.cond (t 139) (r [m 140 18, q 141 (.load true 4 (t 20)), q 142 (.bslice 104 4 [(.slice none 0 0), (.bool false), (.slice none 0 0), (.slice none 0 0)] 1 [(0, (t 141))] false), q 143 (.append 104 4 80 (t 140) (t 142) false), m 18 143]) .skip))))))
 (r [q 144 (.bin .add (t 102) (i 1)), m 102 144])))))))
 (s [m 145 18, m 4 145, q 5 (.mv T)]
 .ret))))))), 146, 8, [.tmp 4, .tmp 5], false, .imm, []⟩
theorem ok168 : FnOk Tryz.prog 168 c168 := FnOk.of (H := ⟨[], modesTab, [(11, [11]), (13, [13]), (15, [15]), (16, [16]), (39, [39]), (40, [33]), (47, [33]), (48, [48]), (68, [15]), (71, [71]), (72, [72]), (74, [13]), (77, [77]), (80, [79])]⟩) (d := 8) (own := false) (m := .imm) Tryz.func168 (by kernel_rfl)
def c169 : FnR := ⟨(s [q 2 (.box (t 0)), q 4 (.mv (i 0))]
 (.seq (s [q 6 (.faddr 6 (t 2)), q 7 (.load false 1 (t 6)), q 8 (.len false (t 7)), q 9 (.bin .neq (t 8) (i 2)), m 10 9, qg 11 10 false (.mv (t 1)), qg 12 10 false (.bin .leq (t 11) (i 1)), q 13 (.pick (t 10) T (t 12))]
 (.cond (t 13) (s [q 4 (.mv (i 1))]
 .ret) .skip))
 (s [q 14 (.faddr 6 (t 2)), q 15 (.load false 1 (t 14)), q 16 (.iaddr 7 (t 15) (i 0)), q 17 (.load true 7 (t 16)), m 18 1, q 19 (.bin .sub (t 18) (i 1)), q 20 (k 169 [(t 17), (t 19)]), q 21 (.bin .add (i 1) (t 20)), m 5 21]
 (.seq (s [m 22 5, m 23 1, q 24 (.bin .geq (t 22) (t 23))]
 (.cond (t 24) (s [m 25 1, m 4 25]
 .ret) .skip))
 (s [m 26 5, q 27 (.faddr 6 (t 2)), q 28 (.load false 1 (t 27)), q 29 (.iaddr 7 (t 28) (i 1)), q 30 (.load true 7 (t 29)), m 31 1, m 32 5, q 33 (.bin .sub (t 31) (t 32)), q 34 (k 169 [(t 30), (t 33)]), q 35 (.bin .add (t 26) (t 34)), m 4 35]
 .ret))))), 36, 6, [.tmp 4], false, .imm, []⟩
theorem ok169 : FnOk Tryz.prog 169 c169 := okF Tryz.func169 (by kernel_rfl)
def c170 : FnR := ⟨(s [q 4 (.mv O), q 5 (.mv O)]
 (s [m 13 1, q 14 (k 179 [(t 13)]), m 12 14, q 15 (.ext (t 12) 0), q 16 (.ext (t 12) 1), m 6 15, m 7 16]
 (.seq (s [m 17 7, q 18 (.len false (t 17)), q 19 (.bin .eql (t 18) (i 0))]
 (.cond (t 19) (s [q 4 (.mv (.const (.string ⟨#[48]⟩))), q 5 (.mv (.const (.string ⟨#[49]⟩)))]
 .ret) .skip))
 (s [m 21 0, q 22 (k 179 [(t 21)]), m 20 22, q 23 (.ext (t 20) 0), q 24 (.ext (t 20) 1), m 8 23, m 9 24]
 (s [m 26 0, m 27 1, q 28 (k 219 [(t 26), (t 27)]), q 29 (k 179 [(t 28)]), m 25 29, q 30 (.ext (t 25) 0), q 31 (.ext (t 25) 1), m 10 30, m 11 31]
 (s [m 33 9, m 34 11, q 35 (k 220 [(t 33), (t 34)]), m 32 35, q 36 (.ext (t 32) 0), q 37 (.ext (t 32) 1), m 9 36]
 (s [m 39 7, m 40 11, q 41 (k 220 [(t 39), (t 40)]), m 38 41, q 42 (.ext (t 38) 0), q 43 (.ext (t 38) 1), m 7 42]
 (s [m 44 8, m 45 6, q 46 (.binb true (t 44) (t 45)), m 47 9, q 48 (k 180 [(t 46), (t 47)]), m 49 7, q 50 (k 180 [F, (t 49)]), m 4 48, m 5 50]
 .ret)))))))), 51, 6, [.tmp 4, .tmp 5], false, .imm, []⟩
theorem ok170 : FnOk Tryz.prog 170 c170 := okF Tryz.func170 (by kernel_rfl)
def c171 : FnR := ⟨(s [q 2 (.mv (i 0))]
 (s [m 6 0, q 7 (k 179 [(t 6)]), m 5 7, q 8 (.ext (t 5) 0), q 9 (.ext (t 5) 1), m 3 8, m 4 9]
 (s [m 10 4, q 11 (.len false (t 10)), q 12 (.mx true (i 1) (t 11)), m 2 12]
 .ret))), 13, 4, [.tmp 2], false, .imm, []⟩
theorem ok171 : FnOk Tryz.prog 171 c171 := FnOk.of (H := ⟨[], modesTab, []⟩) (d := 4) (own := false) (m := .imm) Tryz.func171 (by kernel_rfl)
def c172 : FnR := ⟨(s [q 1 (.box (t 0)), q 2 (.mv F)]
 (s [q 3 (.faddr 0 (t 1)), q 4 (.load false 1 (t 3)), q 5 (k 221 [(t 4)]), m 6 5, qg 7 6 true (.faddr 1 (t 1)), qg 8 6 true (.load false 1 (t 7)), qg 9 6 true (.len true (t 8)), qg 10 6 true (.bin .geq (t 9) (i 1)), q 11 (.pick (t 6) (t 10) F), m 12 11, qg 13 12 true (.faddr 1 (t 1)), qg 14 12 true (.load false 1 (t 13)), qg 15 12 true (.len true (t 14)), qg 16 12 true (.bin .leq (t 15) (i 40)), q 17 (.pick (t 12) (t 16) F), m 2 17]
 .ret)), 18, 5, [.tmp 2], false, .imm, []⟩
theorem ok172 : FnOk Tryz.prog 172 c172 := FnOk.of (H := ⟨[], modesTab, []⟩) (d := 5) (own := false) (m := .imm) Tryz.func172 (by kernel_rfl)
def c173 : FnR := ⟨(s [q 1 (.box (t 0)), q 2 (.mv E), q 3 (.mv (i 0))]
 (.seq (s [q 9 (.faddr 0 (t 1)), q 10 (.load false 1 (t 9)), q 11 (.bin .eql (t 10) (i 2))]
 (.cond (t 11) (s [q 12 (.faddr 3 (t 1)), q 13 (.load true 7 (t 12)), q 14 (k 222 [(t 13)]), q 15 (.ext (t 14) 0), q 16 (.ext (t 14) 1), m 2 15, m 3 16]
 .ret) .skip))
 (.seq (.block 0 (.seq (s [q 18 (.load true 11 (t 1)), q 19 (.call (.func 85) [(t 18), (.const (.string ⟨#[98, 105, 110, 97, 114, 121, 45, 43]⟩)), (i 2)] i1), m 17 19]
 (.cond (t 17) .skip (r [q 20 (.load true 11 (t 1)), q 21 (.call (.func 85) [(t 20), (.const (.string ⟨#[98, 105, 110, 97, 114, 121, 45, 42]⟩)), (i 2)] i1), m 17 21])))
 (.cond (t 17) (s [q 23 (.faddr 10 (t 1)), q 24 (.load false 1 (t 23)), q 25 (.iaddr 11 (t 24) (i 0)), q 26 (.load true 11 (t 25)), q 27 (k 173 [(t 26)]), m 22 27, q 28 (.ext (t 22) 0), q 29 (.ext (t 22) 1), m 4 28, m 5 29]
 (.seq (s [m 30 5, q 31 (.bin .neq (t 30) (i 0))]
 (.cond (t 31) (s [m 32 5, q 2 (.mv E), m 3 32]
 .ret) .skip))
 (s [q 34 (.faddr 10 (t 1)), q 35 (.load false 1 (t 34)), q 36 (.iaddr 11 (t 35) (i 1)), q 37 (.load true 11 (t 36)), q 38 (k 173 [(t 37)]), m 33 38, q 39 (.ext (t 33) 0), q 40 (.ext (t 33) 1), m 6 39, m 5 40]
 (.seq (s [m 41 5, q 42 (.bin .neq (t 41) (i 0))]
 (.cond (t 42) (s [m 43 5, q 2 (.mv E), m 3 43]
 .ret) .skip))
 (.seq (s [q 44 (.faddr 1 (t 1)), q 45 (.faddr 1 (t 44)), q 46 (.load false 1 (t 45)), q 47 (.bin .eql (t 46) (.const (.string ⟨#[98, 105, 110, 97, 114, 121, 45, 43]⟩)))]
 (.cond (t 47) (s [m 48 4, m 49 6, q 50 (k 44 [(t 48), (t 49)]), q 51 (.ext (t 50) 0), q 52 (.ext (t 50) 1), m 2 51, m 3 52]
 .ret) .skip))
 (s [m 53 4, m 54 6, q 55 (k 58 [(t 53), (t 54)]), q 56 (.ext (t 55) 0), q 57 (.ext (t 55) 1), m 2 56, m 3 57]
 .ret)))))) (s [q 59 (.load true 11 (t 1)), q 60 (.call (.func 85) [(t 59), (.const (.string ⟨#[117, 110, 97, 114, 121, 45, 45]⟩)), (i 1)] i1), m 58 60]
 (.cond (t 58) (s [q 62 (.faddr 10 (t 1)), q 63 (.load false 1 (t 62)), q 64 (.iaddr 11 (t 63) (i 0)), q 65 (.load true 11 (t 64)), q 66 (k 173 [(t 65)]), m 61 66, q 67 (.ext (t 61) 0), q 68 (.ext (t 61) 1), m 7 67, m 8 68]
 (.seq (s [m 69 8, q 70 (.bin .neq (t 69) (i 0))]
 (.cond (t 70) (s [m 71 8, q 2 (.mv E), m 3 71]
 .ret) .skip))
 (s [m 72 7, q 73 (k 60 [(i (-1))]), q 74 (k 43 [(t 72), (t 73)]), q 75 (.ext (t 74) 0), q 76 (.ext (t 74) 1), m 2 75, m 3 76]
 .ret))) (s [q 78 (.load true 11 (t 1)), q 79 (.call (.func 85) [(t 78), (.const (.string ⟨#[117, 110, 97, 114, 121, 45, 47]⟩)), (i 1)] i1), m 80 79, qg 81 80 true (.faddr 10 (t 1)), qg 82 80 true (.load false 1 (t 81)), qg 83 80 true (.iaddr 11 (t 82) (i 0)), qg 84 80 true (.faddr 0 (t 83)), qg 85 80 true (.load false 1 (t 84)), qg 86 80 true (.bin .eql (t 85) (i 2)), q 87 (.pick (t 80) (t 86) F), m 77 87]
 (.cond (t 77) (s [q 88 (.faddr 10 (t 1)), q 89 (.load false 1 (t 88)), q 90 (.iaddr 11 (t 89) (i 0)), q 91 (.faddr 3 (t 90)), q 92 (.load true 7 (t 91)), q 93 (k 55 [(t 92)]), q 94 (k 222 [(t 93)]), q 95 (.ext (t 94) 0), q 96 (.ext (t 94) 1), m 2 95, m 3 96]
 .ret) .skip)))))))
 (.seq (.region true [
  ⟨some 97, none, k 60 [(i 1)], [], [97]⟩,
  ⟨some 98, none, .load true 11 (t 1), [1], []⟩,
  ⟨some 99, none, .bslice 56 11 a11 1 [(0, (t 98))] false, [], [99]⟩,
  q 100 (.build a8 [(0, 7, (t 97)), (7, 1, (t 99))]),
  ⟨some 101, none, .bslice 120 8 a8 1 [(0, (t 100))] false, [97, 99], [101]⟩,
  ⟨some 102, none, k 110 [(t 101)], [101], [102]⟩,
  q 103 (.ext (t 102) 0),
  q 104 (.ext (t 102) 1),
  m 2 103,
  m 3 104])
 .ret)))), 105, 7, [.tmp 2, .tmp 3], false, .imm, []⟩
theorem ok173 : FnOk Tryz.prog 173 c173 := FnOk.of (H := ⟨[], modesTab, [(1, [1]), (100, [97, 99]), (101, [101])]⟩) (d := 7) (own := false) (m := .imm) Tryz.func173 (by kernel_rfl)
def c174 : FnR := ⟨(s [q 4 (.mv O)]
 (s [m 10 0, q 11 (k 179 [(t 10)]), m 9 11, q 12 (.ext (t 9) 0), q 13 (.ext (t 9) 1), m 5 12, m 6 13]
 (s [m 15 1, q 16 (k 179 [(t 15)]), m 14 16, q 17 (.ext (t 14) 0), q 18 (.ext (t 14) 1), m 7 17, m 8 18]
 (s [m 19 5, m 20 7, q 21 (.binb true (t 19) (t 20)), m 22 6, m 23 8, q 24 (k 223 [(t 22), (t 23)]), q 25 (k 180 [(t 21), (t 24)]), m 4 25]
 .ret)))), 26, 5, [.tmp 4], false, .imm, []⟩
theorem ok174 : FnOk Tryz.prog 174 c174 := FnOk.of (H := ⟨[], modesTab, []⟩) (d := 5) (own := false) (m := .imm) Tryz.func174 (by kernel_rfl)
def c175 : FnR := ⟨(s [q 2 (.mv F)]
 (.seq (s [m 6 0, q 7 (.len false (t 6)), q 8 (.bin .gtr (t 7) (i 60))]
 (.cond (t 8) (s [q 2 (.mv F)]
 .ret) .skip))
 (.seq (s [q 3 (.mv (i 0))]
 (.block 0 (.loop (.seq (s [m 9 3, m 10 0, q 11 (.len false (t 10)), q 12 (.bin .lss (t 9) (t 11))]
 (.cond (t 12) .skip (.exit 0)))
 (.seq (.block 1 (s [m 15 0, m 16 3, q 17 (.iaddr 8 (t 15) (t 16)), q 18 (.load true 8 (t 17)), q 4 (.alloc a8), qn (.store 8 (t 4) (t 18))]
 (.seq (s [q 19 (.faddr 0 (t 4)), q 20 (.load true 7 (t 19)), q 21 (k 39 [(t 20)]), q 22 (.un .not (t 21)), m 23 22, qg 24 23 false (.faddr 0 (t 4)), qg 25 23 false (.load true 7 (t 24)), qg 26 23 false (k 41 [(t 25)]), q 27 (.pick (t 23) T (t 26)), m 28 27, qg 29 28 false (.faddr 7 (t 4)), qg 30 28 false (.load false 1 (t 29)), qg 31 28 false (.len false (t 30)), qg 32 28 false (.bin .gtr (t 31) (i 8)), q 33 (.pick (t 28) T (t 32))]
 (.cond (t 33) (s [q 2 (.mv F)]
 .ret) .skip))
 (.seq (s [q 5 (.mv (i 0))]
 (.block 2 (.loop (.seq (s [m 34 5, q 35 (.faddr 7 (t 4)), q 36 (.load false 1 (t 35)), q 37 (.len false (t 36)), q 38 (.bin .lss (t 34) (t 37))]
 (.cond (t 38) .skip (.exit 2)))
 (.seq (.block 3 (.seq (.region true [
  q 41 (.faddr 7 (t 4)),
  ⟨some 42, none, .load false 1 (t 41), [4], []⟩,
  m 43 5,
  q 44 (.iaddr 11 (t 42) (t 43)),
  q 45 (.load true 11 (t 44)),
  ⟨some 46, none, k 199 [(t 45)], [], [46]⟩,
  q 47 (.un .not (t 46)),
  m 48 47,
  qg 49 48 false (.mv (t 5)),
  qg 50 48 false (.bin .gtr (t 49) (i 0)),
  qg 51 48 false (.mv (t 50)),
  qg 52 51 true (.faddr 7 (t 4)),
  ⟨some 53, some (51, true), .load false 1 (t 52), [4], []⟩,
  qg 54 51 true (.mv (t 5)),
  qg 55 51 true (.bin .sub (t 54) (i 1)),
  qg 56 51 true (.iaddr 11 (t 53) (t 55)),
  qg 57 51 true (.load true 11 (t 56)),
  qg 58 51 true (.faddr 7 (t 4)),
  ⟨some 59, some (51, true), .load false 1 (t 58), [4], []⟩,
  qg 60 51 true (.mv (t 5)),
  qg 61 51 true (.iaddr 11 (t 59) (t 60)),
  qg 62 51 true (.load true 11 (t 61)),
  ⟨some 63, some (51, true), k 188 [(t 57), (t 62)], [], [63]⟩,
  qg 64 51 true (.bin .gtr (t 63) (i 0)),
  qg 65 48 false (.pick (t 51) (t 64) F),
  q 66 (.pick (t 48) T (t 65))])
 (.cond (t 66) (s [q 2 (.mv F)]
 .ret) .skip)))
 (r [m 39 5, q 40 (.bin .add (t 39) (i 1)), m 5 40]))))))
 (.seq (.region true [
  m 67 3,
  q 68 (.bin .gtr (t 67) (i 0)),
  m 69 68,
  qg 70 69 true (.mv (t 0)),
  qg 71 69 true (.mv (t 3)),
  qg 72 69 true (.bin .sub (t 71) (i 1)),
  qg 73 69 true (.iaddr 8 (t 70) (t 72)),
  qg 74 69 true (.load true 8 (t 73)),
  ⟨some 75, some (69, true), .load true 8 (t 4), [4], []⟩,
  ⟨some 76, some (69, true), k 176 [(t 74), (t 75)], [], [76]⟩,
  qg 77 69 true (.bin .geq (t 76) (i 0)),
  q 78 (.pick (t 69) (t 77) F)])
 (.cond (t 78) (s [q 2 (.mv F)]
 .ret) .skip))))))
 (r [m 13 3, q 14 (.bin .add (t 13) (i 1)), m 3 14]))))))
 (s [q 2 (.mv T)]
 .ret)))), 79, 7, [.tmp 2], false, .imm, []⟩
theorem ok175 : FnOk Tryz.prog 175 c175 := FnOk.of (H := ⟨[], modesTab, [(4, [4]), (41, [4]), (52, [4]), (58, [4])]⟩) (d := 7) (own := false) (m := .imm) Tryz.func175 (by kernel_rfl)
def c176 : FnR := ⟨(s [q 2 (.box (t 0)), q 3 (.box (t 1)), q 4 (.mv (i 0))]
 (.seq (s [q 7 (.faddr 7 (t 2)), q 8 (.load false 1 (t 7)), q 9 (.len false (t 8)), q 10 (.faddr 7 (t 3)), q 11 (.load false 1 (t 10)), q 12 (.len false (t 11)), q 13 (.bin .neq (t 9) (t 12))]
 (.cond (t 13) (.seq (s [q 14 (.faddr 7 (t 2)), q 15 (.load false 1 (t 14)), q 16 (.len false (t 15)), q 17 (.faddr 7 (t 3)), q 18 (.load false 1 (t 17)), q 19 (.len false (t 18)), q 20 (.bin .lss (t 16) (t 19))]
 (.cond (t 20) (s [q 4 (.mv (i (-1)))]
 .ret) .skip))
 (s [q 4 (.mv (i 1))]
 .ret)) .skip))
 (.seq (s [q 5 (.mv (i 0))]
 (.block 0 (.loop (.seq (s [m 21 5, q 22 (.faddr 7 (t 2)), q 23 (.load false 1 (t 22)), q 24 (.len false (t 23)), q 25 (.bin .lss (t 21) (t 24))]
 (.cond (t 25) .skip (.exit 0)))
 (.seq (.block 1 (.seq (.region true [
  q 28 (.faddr 7 (t 2)),
  ⟨some 29, none, .load false 1 (t 28), [2], []⟩,
  m 30 5,
  q 31 (.iaddr 11 (t 29) (t 30)),
  q 32 (.load true 11 (t 31)),
  q 33 (.faddr 7 (t 3)),
  ⟨some 34, none, .load false 1 (t 33), [3], []⟩,
  m 35 5,
  q 36 (.iaddr 11 (t 34) (t 35)),
  q 37 (.load true 11 (t 36)),
  ⟨some 38, none, k 188 [(t 32), (t 37)], [], [38]⟩,
  m 6 38])
 (s [m 39 6, q 40 (.bin .neq (t 39) (i 0))]
 (.cond (t 40) (s [m 41 6, m 4 41]
 .ret) .skip))))
 (r [m 26 5, q 27 (.bin .add (t 26) (i 1)), m 5 27]))))))
 (s [q 4 (.mv (i 0))]
 .ret)))), 42, 6, [.tmp 4], false, .imm, []⟩
theorem ok176 : FnOk Tryz.prog 176 c176 := FnOk.of (H := ⟨[], modesTab, [(28, [2]), (33, [3])]⟩) (d := 6) (own := false) (m := .imm) Tryz.func176 (by kernel_rfl)
def c177 : FnR := ⟨(s [q 2 (.box (t 0)), q 3 (.box (t 1)), q 4 (.alloc a7)]
 (.seq (.region true [
  ⟨some 7, none, .load true 7 (t 2), [2], []⟩,
  ⟨some 8, none, k 113 [(t 7)], [], [8]⟩,
  ⟨some 9, none, .load true 7 (t 3), [3], []⟩,
  ⟨some 10, none, k 113 [(t 9)], [], [10]⟩,
  ⟨some 5, none, .alloc a7, [], [5]⟩,
  ⟨some 6, none, .alloc a7, [], [6]⟩,
  ⟨none, none, .store 7 (t 5) (t 8), [5, 8], [5]⟩,
  ⟨none, none, .store 7 (t 6) (t 10), [6, 10], [6]⟩])
 (.seq (.region true [
  q 11 (.faddr 1 (t 5)),
  ⟨some 12, none, .load false 1 (t 11), [5], []⟩,
  q 13 (.faddr 2 (t 6)),
  ⟨some 14, none, .load false 1 (t 13), [6], []⟩,
  ⟨some 15, none, k 174 [(t 12), (t 14)], [8, 10], [15]⟩,
  q 16 (.faddr 1 (t 6)),
  ⟨some 17, none, .load false 1 (t 16), [6], []⟩,
  q 18 (.faddr 2 (t 5)),
  ⟨some 19, none, .load false 1 (t 18), [5], []⟩,
  ⟨some 20, none, k 174 [(t 17), (t 19)], [10, 8], [20]⟩,
  ⟨some 21, none, k 224 [(t 15), (t 20)], [15, 20], [21]⟩,
  q 22 (.faddr 2 (t 5)),
  ⟨some 23, none, .load false 1 (t 22), [5], []⟩,
  q 24 (.faddr 2 (t 6)),
  ⟨some 25, none, .load false 1 (t 24), [6], []⟩,
  ⟨some 26, none, k 174 [(t 23), (t 25)], [8, 10], [26]⟩,
  ⟨some 27, none, k 114 [(t 21), (t 26)], [21, 26], [27]⟩,
  ⟨none, none, .store 7 (t 4) (t 27), [4, 27], [4]⟩])
 .ret))), 28, 5, [.cell 4 true 7], false, .imm, []⟩
theorem ok177 : FnOk Tryz.prog 177 c177 := FnOk.of (H := ⟨[], modesTab, [(2, [2]), (3, [3]), (4, [4]), (5, [5]), (6, [6]), (8, [8]), (10, [10]), (11, [5]), (12, [8]), (13, [6]), (14, [10]), (15, [15]), (16, [6]), (17, [10]), (18, [5]), (19, [8]), (20, [20]), (21, [21]), (22, [5]), (23, [8]), (24, [6]), (25, [10]), (26, [26]), (27, [27])]⟩) (d := 5) (own := false) (m := .imm) Tryz.func177 (by kernel_rfl)
def c179 : FnR := ⟨(s [q 2 (.mv F), q 3 (.mv E)]
 (.seq (s [m 8 0, q 9 (k 229 [(t 8)]), q 10 (.un .not (t 9)), m 11 10, qg 12 11 false (.mv (t 0)), qg 13 11 false (.bin .eql (t 12) (.const (.string ⟨#[48]⟩))), q 14 (.pick (t 11) T (t 13))]
 (.cond (t 14) (s [q 2 (.mv F), q 3 (.mv E)]
 .ret) .skip))
 (s [m 15 0, q 16 (.sidx (t 15) (i 0)), q 17 (.bin .eql (t 16) (.const (.int .u8 45))), m 4 17]
 (s [q 5 (.mv (i 0))]
 (.seq (s [m 18 4]
 (.cond (t 18) (r [q 5 (.mv (i 1))]) .skip))
 (s [q 6 (.mv E)]
 (.seq (s [m 19 0, q 20 (.len true (t 19)), q 21 (.bin .sub (t 20) (i 1)), m 7 21]
 (.block 0 (.loop (.seq (s [m 22 7, m 23 5, q 24 (.bin .geq (t 22) (t 23))]
 (.cond (t 24) .skip (.exit 0)))
 (.seq (.block 1 (r [m 27 6, m 28 0, m 29 7, q 30 (.sidx (t 28) (t 29)), q 31 (.bin .sub (t 30) (.const (.int .u8 48))), q 32 (.cint .i64 (t 31)), q 33 (.bslice 3 1 [(.int .i64 0)] 1 [(0, (t 32))] false), q 34 (.append 3 1 8 (t 27) (t 33) false), m 6 34]))
 (r [m 25 7, q 26 (.bin .sub (t 25) (i 1)), m 7 26]))))))
 (s [m 35 4, m 36 6, m 2 35, m 3 36]
 .ret)))))))), 37, 6, [.tmp 2, .tmp 3], false, .imm, []⟩
theorem ok179 : FnOk Tryz.prog 179 c179 := okF Tryz.func179 (by kernel_rfl)
def c180 : FnR := ⟨(s [q 4 (.mv O)]
 (s [m 7 1, q 8 (k 230 [(t 7)]), m 1 8]
 (.seq (s [m 9 1, q 10 (.len false (t 9)), q 11 (.bin .eql (t 10) (i 0))]
 (.cond (t 11) (s [q 4 (.mv (.const (.string ⟨#[48]⟩)))]
 .ret) .skip))
 (s [q 5 (.mv E)]
 (.seq (s [m 12 0]
 (.cond (t 12) (r [m 13 5, q 14 (.bslice 5 1 [(.int .u8 0)] 1 [(0, (.const (.int .u8 45)))] false), q 15 (.append 5 1 1 (t 13) (t 14) false), m 5 15]) .skip))
 (.seq (s [m 16 1, q 17 (.len false (t 16)), q 18 (.bin .sub (t 17) (i 1)), m 6 18]
 (.block 0 (.loop (.seq (s [m 19 6, q 20 (.bin .geq (t 19) (i 0))]
 (.cond (t 20) .skip (.exit 0)))
 (.seq (.block 1 (r [m 23 5, m 24 1, m 25 6, q 26 (.iaddr 1 (t 24) (t 25)), q 27 (.load false 1 (t 26)), q 28 (.bin .add (i 48) (t 27)), q 29 (.cint .u8 (t 28)), q 30 (.bslice 5 1 [(.int .u8 0)] 1 [(0, (t 29))] false), q 31 (.append 5 1 1 (t 23) (t 30) false), m 5 31]))
 (r [m 21 6, q 22 (.bin .sub (t 21) (i 1)), m 6 22]))))))
 (s [m 32 5, q 33 (.b2s (t 32)), m 4 33]
 .ret))))))), 34, 6, [.tmp 4], false, .imm, []⟩
theorem ok180 : FnOk Tryz.prog 180 c180 := okF Tryz.func180 (by kernel_rfl)
def c181 : FnR := ⟨(s [q 2 (.mv E)]
 (s [q 3 (.mv (i 0))]
 (.seq (s [m 9 0, q 10 (.len false (t 9)), q 11 (.mv (i 0))]
 (.block 0 (.loop (s [q 12 (.bin .lss (t 11) (t 10))]
 (.seq (.cond (t 12) .skip (.exit 0))
 (.seq (.block 1 (s [q 13 (.iaddr 1 (t 9) (t 11)), q 14 (.load false 1 (t 13)), m 5 14]
 (s [m 15 3, m 16 5, q 17 (.len false (t 16)), q 18 (.bin .add (t 15) (t 17)), m 3 18]
 (s [m 19 3, q 20 (.bin .lss (t 19) (i 0))]
 (.cond (t 20) (r [q 21 (.bad), qn (.bad)]) .skip)))))
 (r [q 22 (.bin .add (t 11) (i 1)), m 11 22])))))))
 (s [m 23 3, q 24 (k 231 [E, (t 23)]), m 6 24]
 (.seq (s [m 25 0, q 26 (.len false (t 25)), q 27 (.mv (i 0))]
 (.block 2 (.loop (s [q 28 (.bin .lss (t 27) (t 26))]
 (.seq (.cond (t 28) .skip (.exit 2))
 (.seq (.block 3 (s [q 29 (.iaddr 1 (t 25) (t 27)), q 30 (.load false 1 (t 29)), m 8 30]
 (r [m 31 6, m 32 8, q 33 (.append 56 11 176 (t 31) (t 32) true), m 6 33])))
 (r [q 34 (.bin .add (t 27) (i 1)), m 27 34])))))))
 (s [m 35 6, m 2 35]
 .ret)))))), 36, 6, [.tmp 2], true, .imm, []⟩
theorem ok181 : FnOk Tryz.prog 181 c181 := FnOk.of (H := ⟨[24, 33], modesTab, []⟩) (d := 6) (own := true) (m := .imm) Tryz.func181 (by kernel_rfl)
end Go.Proofs.YthiipifjdfmblaaGreatDoor

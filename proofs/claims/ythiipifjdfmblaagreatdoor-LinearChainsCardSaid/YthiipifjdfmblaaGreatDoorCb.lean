/- Compiled code, part b: compiled forms of functions of the program, made by a program; each is shown to be the function's own. -/
import Derived.Test.YthiipifjdfmblaaGreatDoorCa
import Derived.Test.YthiipifjdfmblaaGreatDoorProg
import Derived.KernelRfl
set_option linter.unusedVariables false
set_option linter.unusedSimpArgs false
namespace Go.Proofs.YthiipifjdfmblaaGreatDoor
open Go Go.Pf
set_option maxRecDepth 100000
open W

def c182 : FnR := ⟨(r [m 4 0, m 5 0, q 6 (.len false (t 5)), m 7 1, q 8 (.call (.func 232) [(t 4), (t 6), (t 7)] [.inout])]), 9, 4, [], false, .inout, []⟩
theorem ok182 : FnOk Tryz.prog 182 c182 := FnOk.of (H := ⟨[0], modesTab, []⟩) (d := 4) (own := false) (m := .inout) Tryz.func182 (by kernel_rfl)
def c183 : FnR := ⟨(s [q 2 (.box (t 0)), q 3 (.box (t 1)), q 4 (.mv (i 0))]
 (.seq (.region true [
  ⟨some 8, none, .load true 11 (t 2), [2], []⟩,
  q 9 (.build [(.int .i64 0), (.int .i64 0), (.int .i64 0)] []),
  ⟨some 10, none, k 233 [(t 8), (t 9)], [], [10]⟩,
  ⟨some 11, none, .load true 11 (t 3), [3], []⟩,
  q 12 (.build [(.int .i64 0), (.int .i64 0), (.int .i64 0)] []),
  ⟨some 13, none, k 233 [(t 11), (t 12)], [], [13]⟩,
  ⟨some 5, none, .alloc [(.int .i64 0), (.int .i64 0), (.int .i64 0)], [], [5]⟩,
  ⟨some 6, none, .alloc [(.int .i64 0), (.int .i64 0), (.int .i64 0)], [], [6]⟩,
  ⟨none, none, .store 3 (t 5) (t 10), [5, 10], [5]⟩,
  ⟨none, none, .store 3 (t 6) (t 13), [6, 13], [6]⟩])
 (.seq (.seq (.region true [
  ⟨some 14, none, .aslc 3 (t 5), [5], [5]⟩,
  ⟨some 15, none, .aslc 3 (t 6), [6], [6]⟩,
  ⟨some 16, none, k 234 [(t 14), (t 15)], [], [16]⟩,
  m 7 16])
 (s [m 17 7, q 18 (.bin .neq (t 17) (i 0))]
 (.cond (t 18) (s [m 19 7, m 4 19]
 .ret) .skip)))
 (s [q 20 (.load true 11 (t 2)), q 21 (.load true 11 (t 3)), q 22 (k 235 [(t 20), (t 21)]), m 4 22]
 .ret)))), 23, 5, [.tmp 4], false, .imm, []⟩
theorem ok183 : FnOk Tryz.prog 183 c183 := FnOk.of (H := ⟨[], modesTab, [(2, [2]), (3, [3]), (5, [5]), (6, [6]), (10, [10]), (13, [13])]⟩) (d := 5) (own := false) (m := .imm) Tryz.func183 (by kernel_rfl)
def c184 : FnR := ⟨(s [q 2 (.mv E), q 3 (.mv (i 0))]
 (s [m 10 0, q 11 (.call (.func 236) [(t 10), (.func 237)] [.inout])]
 (s [q 4 (.mv E)]
 (.seq (s [m 12 0, q 13 (.len false (t 12)), q 14 (.mv (i 0))]
 (.block 0 (.loop (s [q 15 (.bin .lss (t 14) (t 13))]
 (.seq (.cond (t 15) .skip (.exit 0))
 (.seq (.block 1 (s [q 16 (.iaddr 8 (t 12) (t 14)), q 17 (.load true 8 (t 16)), q 6 (.alloc a8), qn (.store 8 (t 6) (t 17))]
 (s [m 18 4, q 19 (.len false (t 18)), q 20 (.bin .sub (t 19) (i 1)), m 7 20]
 (.seq (.region true [
  m 21 7,
  q 22 (.bin .geq (t 21) (i 0)),
  m 23 22,
  qg 24 23 true (.mv (t 4)),
  qg 25 23 true (.mv (t 7)),
  ⟨some 26, some (23, true), .iaddr 8 (t 24) (t 25), [47, 50], []⟩,
  ⟨some 27, some (23, true), .load true 8 (t 26), [47, 50], []⟩,
  ⟨some 28, some (23, true), .load true 8 (t 6), [6], []⟩,
  ⟨some 29, some (23, true), k 237 [(t 27), (t 28)], [41], [29]⟩,
  qg 30 23 true (.bin .eql (t 29) (i 0)),
  q 31 (.pick (t 23) (t 30) F)])
 (.cond (t 31) (.region true [
  m 32 4,
  m 33 7,
  m 34 4,
  m 35 7,
  ⟨some 36, none, .iaddr 8 (t 34) (t 35), [47, 50], []⟩,
  q 37 (.faddr 0 (t 36)),
  ⟨some 38, none, .load true 7 (t 37), [47, 50], []⟩,
  q 39 (.faddr 0 (t 6)),
  ⟨some 40, none, .load true 7 (t 39), [6], []⟩,
  ⟨some 41, none, k 215 [(t 38), (t 40)], [41], [41]⟩,
  ⟨some 42, none, .iaddr 8 (t 32) (t 33), [47, 50], []⟩,
  q 43 (.faddr 0 (t 42)),
  ⟨none, none, .store 7 (t 43) (t 41), [47, 50, 41], [47, 50]⟩]) (r [m 44 4, q 45 (.load true 8 (t 6)), q 46 (.bslice 120 8 a8 1 [(0, (t 45))] false), q 47 (.append 120 8 136 (t 44) (t 46) true), m 4 47]))))))
 (r [q 48 (.bin .add (t 14) (i 1)), m 14 48])))))))
 (s [m 49 4, q 50 (.call (.func 238) [(t 49), (.func 239)] [.eat]), m 4 50]
 (.seq (s [m 51 4, q 52 (.len false (t 51)), q 53 (.bin .gtr (t 52) (i 60))]
 (.cond (t 53) (s [q 2 (.mv E), q 3 (.mv (i 2))]
 .ret) .skip))
 (.seq (s [m 54 4, q 55 (.len false (t 54)), q 56 (.mv (i 0))]
 (.block 2 (.loop (s [q 57 (.bin .lss (t 56) (t 55))]
 (.seq (.cond (t 57) .skip (.exit 2))
 (.seq (.block 3 (s [q 58 (.iaddr 8 (t 54) (t 56)), q 59 (.load true 8 (t 58)), q 9 (.alloc a8), qn (.store 8 (t 9) (t 59))]
 (s [q 60 (.faddr 7 (t 9)), q 61 (.load false 1 (t 60)), q 62 (.len false (t 61)), q 63 (.bin .gtr (t 62) (i 8)), m 64 63, qg 65 64 false (.faddr 0 (t 9)), qg 66 64 false (.load true 7 (t 65)), qg 67 64 false (k 212 [(t 66)]), qg 68 64 false (.un .not (t 67)), q 69 (.pick (t 64) T (t 68))]
 (.cond (t 69) (s [q 2 (.mv E), q 3 (.mv (i 2))]
 .ret) .skip))))
 (r [q 70 (.bin .add (t 56) (i 1)), m 56 70])))))))
 (s [m 71 4, m 2 71, q 3 (.mv (i 0))]
 .ret)))))))), 72, 7, [.tmp 2, .tmp 3], false, .eat, []⟩
theorem ok184 : FnOk Tryz.prog 184 c184 := FnOk.of (H := ⟨[0, 47, 50], modesTab, [(6, [6]), (24, [47, 50]), (26, [47, 50]), (27, [41]), (32, [47, 50]), (34, [47, 50]), (37, [47, 50]), (38, [41]), (39, [6]), (41, [41]), (43, [47, 50])]⟩) (d := 7) (own := false) (m := .eat) Tryz.func184 (by kernel_rfl)
def c185 : FnR := ⟨(s [q 1 (.box (t 0)), q 2 (.alloc a11)]
 (s [q 3 (.load true 7 (t 1)), q 4 (.build a11 [(0, 1, (i 2)), (3, 7, (t 3))]), qn (.store 11 (t 2) (t 4))]
 .ret)), 5, 4, [.cell 2 true 11], false, .imm, []⟩
theorem ok185 : FnOk Tryz.prog 185 c185 := FnOk.of (H := ⟨[], modesTab, []⟩) (d := 4) (own := false) (m := .imm) Tryz.func185 (by kernel_rfl)
def c186 : FnR := ⟨(s [q 1 (.box (t 0)), q 2 (.alloc a11)]
 (s [q 4 (.faddr 7 (t 1)), q 5 (.load false 1 (t 4)), q 6 (k 240 [(t 5)]), m 3 6]
 (.seq (.seq (.region true [
  m 7 3,
  q 8 (.len false (t 7)),
  q 9 (.bin .eql (t 8) (i 0)),
  m 10 9,
  qg 11 10 false (.faddr 0 (t 1)),
  ⟨some 12, some (10, false), .load true 7 (t 11), [1], []⟩,
  ⟨some 13, some (10, false), k 37 [(i 1)], [], [13]⟩,
  ⟨some 14, some (10, false), k 207 [(t 12), (t 13)], [13], [14]⟩,
  qg 15 10 false (.un .not (t 14)),
  q 16 (.pick (t 10) T (t 15))])
 (.cond (t 16) (r [q 17 (.faddr 0 (t 1)), q 18 (.load true 7 (t 17)), q 19 (k 185 [(t 18)]), q 20 (.bslice 56 11 a11 1 [(0, (t 19))] false), m 21 3, q 22 (.append 56 11 176 (t 20) (t 21) false), m 3 22]) .skip))
 (s [m 23 3, q 24 (k 241 [(t 23)]), qn (.store 11 (t 2) (t 24))]
 .ret)))), 25, 5, [.cell 2 true 11], false, .imm, []⟩
theorem ok186 : FnOk Tryz.prog 186 c186 := FnOk.of (H := ⟨[], modesTab, [(11, [1]), (13, [13])]⟩) (d := 5) (own := false) (m := .imm) Tryz.func186 (by kernel_rfl)
def c187 : FnR := ⟨(s [q 2 (.box (t 0)), q 4 (.alloc a11)]
 (s [q 5 (.load true 2 (t 2)), m 6 1, q 7 (.build a11 [(0, 1, (i 3)), (1, 2, (t 5)), (10, 1, (t 6))]), qn (.store 11 (t 4) (t 7))]
 .ret)), 8, 4, [.cell 4 true 11], false, .imm, []⟩
theorem ok187 : FnOk Tryz.prog 187 c187 := FnOk.of (H := ⟨[], modesTab, []⟩) (d := 4) (own := false) (m := .imm) Tryz.func187 (by kernel_rfl)
def c188 : FnR := ⟨(s [q 2 (.box (t 0)), q 3 (.box (t 1)), q 4 (.mv (i 0))]
 (s [q 12 (.load true 11 (t 2)), q 13 (k 242 [(t 12)]), m 11 13, q 14 (.ext (t 11) 0), q 15 (.ext (t 11) 1), q 16 (.ext (t 11) 2), m 5 14, m 6 15, m 7 16]
 (s [q 18 (.load true 11 (t 3)), q 19 (k 242 [(t 18)]), m 17 19, q 20 (.ext (t 17) 0), q 21 (.ext (t 17) 1), q 22 (.ext (t 17) 2), m 8 20, m 9 21, m 10 22]
 (.seq (.block 0 (s [m 24 5, m 25 8, q 26 (.bin .neq (t 24) (t 25)), m 23 26]
 (.cond (t 23) (s [m 27 5, m 28 8, q 29 (k 243 [(t 27), (t 28)]), m 4 29]
 .ret) (s [m 31 6, m 32 9, q 33 (.bin .neq (t 31) (t 32)), m 30 33]
 (.cond (t 30) (s [m 34 6, m 35 9, q 36 (k 243 [(t 34), (t 35)]), m 4 36]
 .ret) (s [m 38 7, m 39 10, q 40 (.bin .neq (t 38) (t 39)), m 37 40]
 (.cond (t 37) (s [m 41 7, m 42 10, q 43 (k 243 [(t 41), (t 42)]), m 4 43]
 .ret) .skip)))))))
 (s [q 44 (.load true 11 (t 2)), q 45 (.load true 11 (t 3)), q 46 (k 244 [(t 44), (t 45)]), m 4 46]
 .ret))))), 47, 6, [.tmp 4], false, .imm, []⟩
theorem ok188 : FnOk Tryz.prog 188 c188 := okF Tryz.func188 (by kernel_rfl)
def c199 : FnR := ⟨(s [q 1 (.box (t 0)), q 2 (.mv F)]
 (s [q 3 (.load true 11 (t 1)), q 4 (k 259 [(t 3)]), q 5 (.bin .leq (t 4) (i 3000)), m 6 5, qg 7 6 true (.load true 11 (t 1)), qg 8 6 true (k 260 [(t 7)]), qg 9 6 true (.bin .leq (t 8) (i 200)), q 10 (.pick (t 6) (t 9) F), m 11 10, qg 12 11 true (.load true 11 (t 1)), qg 13 11 true (k 261 [(t 12)]), q 14 (.pick (t 11) (t 13) F), m 2 14]
 .ret)), 15, 4, [.tmp 2], false, .imm, []⟩
theorem ok199 : FnOk Tryz.prog 199 c199 := FnOk.of (H := ⟨[], modesTab, []⟩) (d := 4) (own := false) (m := .imm) Tryz.func199 (by kernel_rfl)
def c204 : FnR := ⟨(s [q 1 (.box (t 0)), q 2 (.mv E), q 3 (.mv (i 0))]
 (.seq (s [q 4 (.faddr 0 (t 1)), q 5 (.load false 1 (t 4)), q 6 (.bin .neq (t 5) (i 1))]
 (.cond (t 6) (s [q 2 (.mv E), q 3 (.mv (i 0))]
 .ret) .skip))
 (s [q 7 (.load true 7 (t 1)), q 8 (.build a8 [(0, 7, (t 7))]), q 9 (.bslice 120 8 a8 1 [(0, (t 8))] true), q 10 (.call (.func 184) [(t 9)] [.eat]), q 11 (.ext (t 10) 0), q 12 (.ext (t 10) 1), m 2 11, m 3 12]
 .ret))), 13, 4, [.tmp 2, .tmp 3], false, .imm, []⟩
theorem ok204 : FnOk Tryz.prog 204 c204 := FnOk.of (H := ⟨[9], modesTab, []⟩) (d := 4) (own := false) (m := .imm) Tryz.func204 (by kernel_rfl)
def c205 : FnR := ⟨(s [q 2 (.mv E)]
 (s [q 3 (.mv (i 0))]
 (.seq (s [m 9 0, q 10 (.len false (t 9)), q 11 (.mv (i 0))]
 (.block 0 (.loop (s [q 12 (.bin .lss (t 11) (t 10))]
 (.seq (.cond (t 12) .skip (.exit 0))
 (.seq (.block 1 (s [q 13 (.iaddr 1 (t 9) (t 11)), q 14 (.load false 1 (t 13)), m 5 14]
 (s [m 15 3, m 16 5, q 17 (.len false (t 16)), q 18 (.bin .add (t 15) (t 17)), m 3 18]
 (s [m 19 3, q 20 (.bin .lss (t 19) (i 0))]
 (.cond (t 20) (r [q 21 (.bad), qn (.bad)]) .skip)))))
 (r [q 22 (.bin .add (t 11) (i 1)), m 11 22])))))))
 (s [m 23 3, q 24 (k 262 [E, (t 23)]), m 6 24]
 (.seq (s [m 25 0, q 26 (.len false (t 25)), q 27 (.mv (i 0))]
 (.block 2 (.loop (s [q 28 (.bin .lss (t 27) (t 26))]
 (.seq (.cond (t 28) .skip (.exit 2))
 (.seq (.block 3 (s [q 29 (.iaddr 1 (t 25) (t 27)), q 30 (.load false 1 (t 29)), m 8 30]
 (r [m 31 6, m 32 8, q 33 (.append 120 8 136 (t 31) (t 32) true), m 6 33])))
 (r [q 34 (.bin .add (t 27) (i 1)), m 27 34])))))))
 (s [m 35 6, m 2 35]
 .ret)))))), 36, 6, [.tmp 2], true, .imm, []⟩
theorem ok205 : FnOk Tryz.prog 205 c205 := FnOk.of (H := ⟨[24, 33], modesTab, []⟩) (d := 6) (own := true) (m := .imm) Tryz.func205 (by kernel_rfl)
def c207 : FnR := ⟨(s [q 2 (.box (t 0)), q 3 (.box (t 1)), q 4 (.mv F)]
 (.block 0 (.loop (.block 1 (.seq (s [q 7 (.faddr 0 (t 2)), q 8 (.load false 1 (t 7)), q 9 (.faddr 0 (t 3)), q 10 (.load false 1 (t 9)), q 11 (.bin .neq (t 8) (t 10)), m 12 11, qg 13 12 false (.faddr 1 (t 2)), qg 14 12 false (.load false 1 (t 13)), qg 15 12 false (.faddr 1 (t 3)), qg 16 12 false (.load false 1 (t 15)), qg 17 12 false (.bin .neq (t 14) (t 16)), q 18 (.pick (t 12) T (t 17)), m 19 18, qg 20 19 false (.faddr 2 (t 2)), qg 21 19 false (.load false 1 (t 20)), qg 22 19 false (.faddr 2 (t 3)), qg 23 19 false (.load false 1 (t 22)), qg 24 19 false (.bin .neq (t 21) (t 23)), q 25 (.pick (t 19) T (t 24)), m 26 25, qg 27 26 false (.faddr 3 (t 2)), qg 28 26 false (.load true 2 (t 27)), qg 29 26 false (.faddr 3 (t 3)), qg 30 26 false (.load true 2 (t 29)), qg 31 26 false (.eqs true (t 28) (t 30)), q 32 (.pick (t 26) T (t 31)), m 33 32, qg 34 33 false (.faddr 5 (t 2)), qg 35 33 false (.load false 1 (t 34)), qg 36 33 false (.faddr 5 (t 3)), qg 37 33 false (.load false 1 (t 36)), qg 38 33 false (.bin .neq (t 35) (t 37)), q 39 (.pick (t 33) T (t 38)), m 40 39, qg 41 40 false (.faddr 6 (t 2)), qg 42 40 false (.load false 1 (t 41)), qg 43 40 false (.len false (t 42)), qg 44 40 false (.faddr 6 (t 3)), qg 45 40 false (.load false 1 (t 44)), qg 46 40 false (.len false (t 45)), qg 47 40 false (.bin .neq (t 43) (t 46)), q 48 (.pick (t 40) T (t 47))]
 (.cond (t 48) (s [q 4 (.mv F)]
 .ret) .skip))
 (s [q 49 (.faddr 6 (t 2)), q 50 (.load false 1 (t 49)), q 51 (.len false (t 50)), m 5 51]
 (.seq (s [m 52 5, q 53 (.bin .eql (t 52) (i 0))]
 (.cond (t 53) (s [q 4 (.mv T)]
 .ret) .skip))
 (.seq (s [m 54 5, q 55 (.bin .sub (t 54) (i 1)), q 56 (.mv (i 0))]
 (.block 2 (.loop (s [q 57 (.bin .lss (t 56) (t 55))]
 (.seq (.cond (t 57) .skip (.exit 2))
 (.seq (.block 3 (s [m 58 56, m 6 58]
 (.seq (.region true [
  q 59 (.faddr 6 (t 2)),
  ⟨some 60, none, .load false 1 (t 59), [2], []⟩,
  m 61 6,
  q 62 (.iaddr 7 (t 60) (t 61)),
  q 63 (.load true 7 (t 62)),
  q 64 (.faddr 6 (t 3)),
  ⟨some 65, none, .load false 1 (t 64), [3], []⟩,
  m 66 6,
  q 67 (.iaddr 7 (t 65) (t 66)),
  q 68 (.load true 7 (t 67)),
  ⟨some 69, none, k 207 [(t 63), (t 68)], [], [69]⟩,
  q 70 (.un .not (t 69))])
 (.cond (t 70) (s [q 4 (.mv F)]
 .ret) .skip))))
 (r [q 71 (.bin .add (t 56) (i 1)), m 56 71])))))))
 (.region true [
  q 72 (.faddr 6 (t 2)),
  ⟨some 73, none, .load false 1 (t 72), [2], []⟩,
  m 74 5,
  q 75 (.bin .sub (t 74) (i 1)),
  q 76 (.iaddr 7 (t 73) (t 75)),
  q 77 (.load true 7 (t 76)),
  q 78 (.faddr 6 (t 3)),
  ⟨some 79, none, .load false 1 (t 78), [3], []⟩,
  m 80 5,
  q 81 (.bin .sub (t 80) (i 1)),
  q 82 (.iaddr 7 (t 79) (t 81)),
  q 83 (.load true 7 (t 82)),
  ⟨none, none, .store 7 (t 2) (t 77), [2], [2]⟩,
  ⟨none, none, .store 7 (t 3) (t 83), [3], [3]⟩]))))))))), 84, 7, [.tmp 4], false, .imm, []⟩
theorem ok207 : FnOk Tryz.prog 207 c207 := FnOk.of (H := ⟨[], modesTab, [(2, [2]), (3, [3]), (59, [2]), (64, [3]), (72, [2]), (78, [3])]⟩) (d := 7) (own := false) (m := .imm) Tryz.func207 (by kernel_rfl)
def c208 : FnR := ⟨(s [q 2 (.box (t 0)), q 3 (.box (t 1)), q 4 (.mv (i 0))]
 (.seq (s [q 5 (.faddr 2 (t 2)), q 6 (.load false 1 (t 5)), q 7 (.faddr 2 (t 3)), q 8 (.load false 1 (t 7)), q 9 (.bin .eql (t 6) (t 8))]
 (.cond (t 9) (s [q 10 (.faddr 1 (t 2)), q 11 (.load false 1 (t 10)), q 12 (.faddr 1 (t 3)), q 13 (.load false 1 (t 12)), q 14 (k 264 [(t 11), (t 13)]), m 4 14]
 .ret) .skip))
 (.seq (.region true [
  q 15 (.faddr 1 (t 2)),
  ⟨some 16, none, .load false 1 (t 15), [2], []⟩,
  q 17 (.faddr 2 (t 3)),
  ⟨some 18, none, .load false 1 (t 17), [3], []⟩,
  ⟨some 19, none, k 211 [(t 16), (t 18)], [], [19]⟩,
  q 20 (.faddr 1 (t 3)),
  ⟨some 21, none, .load false 1 (t 20), [3], []⟩,
  q 22 (.faddr 2 (t 2)),
  ⟨some 23, none, .load false 1 (t 22), [2], []⟩,
  ⟨some 24, none, k 211 [(t 21), (t 23)], [], [24]⟩,
  ⟨some 25, none, k 264 [(t 19), (t 24)], [19, 24], [25]⟩,
  m 4 25])
 .ret))), 26, 5, [.tmp 4], false, .imm, []⟩
theorem ok208 : FnOk Tryz.prog 208 c208 := FnOk.of (H := ⟨[], modesTab, [(15, [2]), (17, [3]), (19, [19]), (20, [3]), (22, [2]), (24, [24])]⟩) (d := 5) (own := false) (m := .imm) Tryz.func208 (by kernel_rfl)
def c209 : FnR := ⟨(s [q 1 (.box (t 0)), q 2 (.alloc a7)]
 (.seq (s [q 3 (.faddr 0 (t 1)), q 4 (.load false 1 (t 3)), q 5 (.bin .eql (t 4) (i 1))]
 (.cond (t 5) (s [q 6 (.load true 7 (t 1)), qn (.store 7 (t 2) (t 6))]
 .ret) .skip))
 (s [q 7 (k 37 [(i 0)]), qn (.store 7 (t 2) (t 7))]
 .ret))), 8, 4, [.cell 2 true 7], false, .imm, []⟩
theorem ok209 : FnOk Tryz.prog 209 c209 := FnOk.of (H := ⟨[], modesTab, []⟩) (d := 4) (own := false) (m := .imm) Tryz.func209 (by kernel_rfl)
def c210 : FnR := ⟨(s [q 4 (.alloc a7)]
 (s [m 8 0, m 9 1, q 10 (k 265 [(t 8), (t 9)]), m 7 10, q 11 (.ext (t 7) 0), q 12 (.ext (t 7) 1), m 5 11, m 6 12]
 (s [m 13 5, m 14 6, q 15 (.build a7 [(0, 1, (i 1)), (1, 1, (t 13)), (2, 1, (t 14))]), qn (.store 7 (t 4) (t 15))]
 .ret))), 16, 4, [.cell 4 true 7], false, .imm, []⟩
theorem ok210 : FnOk Tryz.prog 210 c210 := FnOk.of (H := ⟨[], modesTab, []⟩) (d := 4) (own := false) (m := .imm) Tryz.func210 (by kernel_rfl)
def c211 : FnR := ⟨(s [q 4 (.mv O)]
 (.seq (s [m 11 0, m 12 1, q 13 (k 266 [(t 11), (t 12), (i 9)]), m 10 13, q 14 (.ext (t 10) 0), q 15 (.ext (t 10) 1), q 16 (.ext (t 10) 2), m 5 14, m 6 15, m 7 16]
 (s [m 17 7]
 (.cond (t 17) (s [m 18 5, m 19 6, q 20 (.bin .mul (t 18) (t 19)), q 21 (k 267 [(t 20), (i 10)]), m 4 21]
 .ret) .skip)))
 (s [m 22 0, q 23 (k 268 [(t 22)]), m 24 1, q 25 (k 268 [(t 24)]), q 8 (.alloc [(.bool false), (.slice none 0 0)]), q 9 (.alloc [(.bool false), (.slice none 0 0)]), qn (.store 2 (t 8) (t 23)), qn (.store 2 (t 9) (t 25))]
 (.seq (.region true [
  q 26 (.faddr 0 (t 8)),
  ⟨some 27, none, .load false 1 (t 26), [8], []⟩,
  q 28 (.faddr 0 (t 9)),
  ⟨some 29, none, .load false 1 (t 28), [9], []⟩,
  q 30 (.binb true (t 27) (t 29)),
  q 31 (.faddr 1 (t 8)),
  ⟨some 32, none, .load false 1 (t 31), [8], []⟩,
  q 33 (.faddr 1 (t 9)),
  ⟨some 34, none, .load false 1 (t 33), [9], []⟩,
  ⟨some 35, none, k 269 [(t 32), (t 34)], [23, 25], [35]⟩,
  q 36 (.build [(.bool false), (.slice none 0 0)] [(0, 1, (t 30)), (1, 1, (t 35))]),
  ⟨some 37, none, k 270 [(t 36)], [35], [37]⟩,
  m 4 37])
 .ret)))), 38, 6, [.tmp 4], false, .imm, []⟩
theorem ok211 : FnOk Tryz.prog 211 c211 := FnOk.of (H := ⟨[], modesTab, [(26, [8]), (28, [9]), (31, [8]), (32, [23]), (33, [9]), (34, [25]), (36, [35])]⟩) (d := 6) (own := false) (m := .imm) Tryz.func211 (by kernel_rfl)
def c212 : FnR := ⟨(s [q 1 (.box (t 0)), q 2 (.mv F)]
 (s [q 3 (.load true 7 (t 1)), q 4 (k 271 [(t 3)]), q 5 (.bin .leq (t 4) (i 3000)), m 6 5, qg 7 6 true (.load true 7 (t 1)), qg 8 6 true (k 272 [(t 7)]), q 9 (.pick (t 6) (t 8) F), m 2 9]
 .ret)), 10, 4, [.tmp 2], false, .imm, []⟩
theorem ok212 : FnOk Tryz.prog 212 c212 := FnOk.of (H := ⟨[], modesTab, []⟩) (d := 4) (own := false) (m := .imm) Tryz.func212 (by kernel_rfl)
def c213 : FnR := ⟨(s [q 1 (.box (t 0)), q 2 (.mv F)]
 (s [q 3 (.faddr 1 (t 1)), q 4 (.load false 1 (t 3)), q 5 (.bin .eql (t 4) (.const (.string ⟨#[48]⟩))), m 2 5]
 .ret)), 6, 4, [.tmp 2], false, .imm, []⟩
theorem ok213 : FnOk Tryz.prog 213 c213 := FnOk.of (H := ⟨[], modesTab, []⟩) (d := 4) (own := false) (m := .imm) Tryz.func213 (by kernel_rfl)
def c214 : FnR := ⟨(s [q 4 (.mv F)]
 (.seq (s [m 6 0, q 7 (.len false (t 6)), m 8 1, q 9 (.len false (t 8)), q 10 (.bin .neq (t 7) (t 9))]
 (.cond (t 10) (s [q 4 (.mv F)]
 .ret) .skip))
 (.seq (s [m 11 0, q 12 (.len false (t 11)), q 13 (.mv (i 0))]
 (.block 0 (.loop (s [q 14 (.bin .lss (t 13) (t 12))]
 (.seq (.cond (t 14) .skip (.exit 0))
 (.seq (.block 1 (s [m 15 13, m 5 15]
 (.seq (.region true [
  m 16 0,
  m 17 5,
  q 18 (.iaddr 11 (t 16) (t 17)),
  q 19 (.load true 11 (t 18)),
  m 20 1,
  m 21 5,
  q 22 (.iaddr 11 (t 20) (t 21)),
  q 23 (.load true 11 (t 22)),
  ⟨some 24, none, k 273 [(t 19), (t 23)], [], [24]⟩,
  q 25 (.un .not (t 24))])
 (.cond (t 25) (s [q 4 (.mv F)]
 .ret) .skip))))
 (r [q 26 (.bin .add (t 13) (i 1)), m 13 26])))))))
 (s [q 4 (.mv T)]
 .ret)))), 27, 5, [.tmp 4], false, .imm, []⟩
theorem ok214 : FnOk Tryz.prog 214 c214 := FnOk.of (H := ⟨[], modesTab, []⟩) (d := 5) (own := false) (m := .imm) Tryz.func214 (by kernel_rfl)
def c215 : FnR := ⟨(s [q 2 (.box (t 0)), q 3 (.box (t 1)), q 4 (.alloc a7)]
 (.seq (.region true [
  ⟨some 5, none, .load true 7 (t 2), [2], []⟩,
  ⟨some 6, none, k 209 [(t 5)], [6], [6]⟩,
  ⟨some 7, none, .load true 7 (t 3), [3], []⟩,
  ⟨some 8, none, k 209 [(t 7)], [8], [8]⟩,
  ⟨none, none, .store 7 (t 2) (t 6), [2, 6], [2]⟩,
  ⟨none, none, .store 7 (t 3) (t 8), [3, 8], [3]⟩])
 (.seq (s [q 9 (.faddr 2 (t 2)), q 10 (.load false 1 (t 9)), q 11 (.bin .eql (t 10) (.const (.string ⟨#[49]⟩))), m 12 11, qg 13 12 true (.faddr 2 (t 3)), qg 14 12 true (.load false 1 (t 13)), qg 15 12 true (.bin .eql (t 14) (.const (.string ⟨#[49]⟩))), q 16 (.pick (t 12) (t 15) F)]
 (.cond (t 16) (s [q 17 (.faddr 1 (t 2)), q 18 (.load false 1 (t 17)), q 19 (.faddr 1 (t 3)), q 20 (.load false 1 (t 19)), q 21 (k 274 [(t 18), (t 20)]), q 22 (k 100 [(t 21)]), qn (.store 7 (t 4) (t 22))]
 .ret) .skip))
 (.seq (.region true [
  q 23 (.faddr 1 (t 2)),
  ⟨some 24, none, .load false 1 (t 23), [2], []⟩,
  q 25 (.faddr 2 (t 3)),
  ⟨some 26, none, .load false 1 (t 25), [3], []⟩,
  ⟨some 27, none, k 211 [(t 24), (t 26)], [6, 8], [27]⟩,
  q 28 (.faddr 1 (t 3)),
  ⟨some 29, none, .load false 1 (t 28), [3], []⟩,
  q 30 (.faddr 2 (t 2)),
  ⟨some 31, none, .load false 1 (t 30), [2], []⟩,
  ⟨some 32, none, k 211 [(t 29), (t 31)], [8, 6], [32]⟩,
  ⟨some 33, none, k 274 [(t 27), (t 32)], [27, 32], [33]⟩,
  q 34 (.faddr 2 (t 2)),
  ⟨some 35, none, .load false 1 (t 34), [2], []⟩,
  q 36 (.faddr 2 (t 3)),
  ⟨some 37, none, .load false 1 (t 36), [3], []⟩,
  ⟨some 38, none, k 211 [(t 35), (t 37)], [6, 8], [38]⟩,
  ⟨some 39, none, k 210 [(t 33), (t 38)], [33, 38], [39]⟩,
  ⟨none, none, .store 7 (t 4) (t 39), [4, 39], [4]⟩])
 .ret)))), 40, 6, [.cell 4 true 7], false, .imm, []⟩
theorem ok215 : FnOk Tryz.prog 215 c215 := FnOk.of (H := ⟨[], modesTab, [(2, [2]), (3, [3]), (4, [4]), (5, [6]), (6, [6]), (7, [8]), (8, [8]), (23, [2]), (24, [6]), (25, [3]), (26, [8]), (27, [27]), (28, [3]), (29, [8]), (30, [2]), (31, [6]), (32, [32]), (33, [33]), (34, [2]), (35, [6]), (36, [3]), (37, [8]), (38, [38]), (39, [39])]⟩) (d := 6) (own := false) (m := .imm) Tryz.func215 (by kernel_rfl)
def c216 : FnR := ⟨(s [q 2 (.mv O)]
 (s [m 3 0, q 4 (k 275 [(t 3)]), m 0 4]
 (.seq (.block 0 (s [m 6 0, q 7 (.bin .eql (t 6) (.const (.string ⟨#[48]⟩))), m 5 7]
 (.cond (t 5) (s [m 8 0, m 2 8]
 .ret) (s [m 10 0, q 11 (.sidx (t 10) (i 0)), q 12 (.bin .eql (t 11) (.const (.int .u8 45))), m 9 12]
 (.cond (t 9) (s [m 13 0, q 14 (.sslice (t 13) (some (i 1)) none), m 2 14]
 .ret) .skip)))))
 (s [m 15 0, q 16 (.bin .add (.const (.string ⟨#[45]⟩)) (t 15)), m 2 16]
 .ret)))), 17, 5, [.tmp 2], false, .imm, []⟩
theorem ok216 : FnOk Tryz.prog 216 c216 := FnOk.of (H := ⟨[], modesTab, []⟩) (d := 5) (own := false) (m := .imm) Tryz.func216 (by kernel_rfl)
def c217 : FnR := ⟨(s [q 1 (.box (t 0)), q 2 (.alloc [(.slice none 0 0), (.bool false), (.slice none 0 0), (.slice none 0 0)]), q 3 (.mv F)]
 (.seq (s [q 11 (.faddr 3 (t 1)), q 12 (.load false 1 (t 11)), q 13 (.len false (t 12)), q 14 (.mv (i 0))]
 (.block 0 (.loop (s [q 15 (.bin .lss (t 14) (t 13))]
 (.seq (.cond (t 15) .skip (.exit 0))
 (.seq (.block 1 (s [m 16 14, q 17 (.iaddr 1 (t 12) (t 14)), q 18 (.load false 1 (t 17)), m 4 16, m 5 18]
 (.seq (s [m 19 5, q 20 (.un .not (t 19)), m 21 20, qg 22 21 false (.faddr 2 (t 1)), qg 23 21 false (.load false 1 (t 22)), qg 24 21 false (.mv (t 4)), qg 25 21 false (.iaddr 7 (t 23) (t 24)), qg 26 21 false (.load true 7 (t 25)), qg 27 21 false (k 158 [(t 26)]), q 28 (.pick (t 21) T (t 27))]
 (.cond (t 28) (.exit 1) .skip))
 (s [q 29 (.faddr 2 (t 1)), q 30 (.load false 1 (t 29)), m 31 4, q 32 (.iaddr 7 (t 30) (t 31)), q 33 (.load true 7 (t 32)), q 34 (k 165 [(t 33)]), q 6 (.alloc a7), qn (.store 7 (t 6) (t 34))]
 (s [q 36 (.faddr 0 (t 1)), q 37 (.load false 1 (t 36)), q 38 (.load true 7 (t 6)), q 39 (k 155 [(t 37), (t 38)]), m 35 39, q 40 (.ext (t 35) 0), q 41 (.ext (t 35) 1), m 7 40, m 8 41]
 (.seq (s [m 42 8, q 43 (.bin .neq (t 42) (i 0))]
 (.cond (t 43) (s [q 44 (.load true 4 (t 1)), qn (.store 4 (t 2) (t 44)), q 3 (.mv F)]
 .ret) .skip))
 (s [m 45 7, q 46 (.faddr 0 (t 1)), qn (.store 1 (t 46) (t 45))]
 (s [q 47 (.faddr 2 (t 1)), q 48 (.load false 1 (t 47)), q 49 (.len false (t 48)), q 50 (.mkslice 54 7 112 a7 (t 49) (t 49)), m 9 50]
 (.seq (s [m 51 9, q 52 (.len false (t 51)), q 53 (.mv (i 0))]
 (.block 2 (.loop (s [q 54 (.bin .lss (t 53) (t 52))]
 (.seq (.cond (t 54) .skip (.exit 2))
 (.seq (.block 3 (s [m 55 53, m 10 55]
 (.region true [
  m 56 9,
  m 57 10,
  ⟨some 58, none, .load true 7 (t 6), [6], []⟩,
  q 59 (.faddr 2 (t 1)),
  ⟨some 60, none, .load false 1 (t 59), [1], []⟩,
  m 61 10,
  ⟨some 62, none, .iaddr 7 (t 60) (t 61), [39, 50], []⟩,
  ⟨some 63, none, .load true 7 (t 62), [39, 50], []⟩,
  ⟨some 64, none, k 160 [(t 58), (t 63)], [34, 64], [64]⟩,
  ⟨some 65, none, .iaddr 7 (t 56) (t 57), [50], []⟩,
  ⟨none, none, .store 7 (t 65) (t 64), [50, 64], [50]⟩])))
 (r [q 66 (.bin .add (t 53) (i 1)), m 53 66])))))))
 (s [m 67 9, q 68 (.faddr 2 (t 1)), qn (.store 1 (t 68) (t 67))]
 (.exit 0)))))))))))
 (r [q 69 (.bin .add (t 14) (i 1)), m 14 69])))))))
 (s [q 70 (.load true 4 (t 1)), qn (.store 4 (t 2) (t 70)), q 3 (.mv T)]
 .ret))), 71, 7, [.cell 2 true 4, .tmp 3], false, .imm, []⟩
theorem ok217 : FnOk Tryz.prog 217 c217 := FnOk.of (H := ⟨[50], modesTab, [(6, [6]), (56, [50]), (58, [34]), (59, [1]), (60, [39, 50]), (62, [39, 50]), (63, [64]), (64, [64]), (65, [50])]⟩) (d := 7) (own := false) (m := .imm) Tryz.func217 (by kernel_rfl)
def c218 : FnR := ⟨(s [q 4 (.mv F)]
 (.seq (s [m 6 0, q 7 (.len false (t 6)), q 8 (.mv (i 0))]
 (.block 0 (.loop (s [q 9 (.bin .lss (t 8) (t 7))]
 (.seq (.cond (t 9) .skip (.exit 0))
 (.seq (.block 1 (s [m 10 8, m 5 10]
 (s [m 11 0, m 12 5, q 13 (.iaddr 1 (t 11) (t 12)), q 14 (.load false 1 (t 13)), m 15 14, qg 16 15 true (.mv (t 1)), qg 17 15 true (.mv (t 5)), qg 18 15 true (.iaddr 1 (t 16) (t 17)), qg 19 15 true (.load false 1 (t 18)), qg 20 15 true (.un .not (t 19)), q 21 (.pick (t 15) (t 20) F)]
 (.cond (t 21) (s [q 4 (.mv F)]
 .ret) .skip))))
 (r [q 22 (.bin .add (t 8) (i 1)), m 8 22])))))))
 (s [q 4 (.mv T)]
 .ret))), 23, 5, [.tmp 4], false, .imm, []⟩
theorem ok218 : FnOk Tryz.prog 218 c218 := FnOk.of (H := ⟨[], modesTab, []⟩) (d := 5) (own := false) (m := .imm) Tryz.func218 (by kernel_rfl)
def c219 : FnR := ⟨(s [q 4 (.mv O)]
 (s [m 12 0, q 13 (k 179 [(t 12)]), m 11 13, q 14 (.ext (t 11) 0), q 15 (.ext (t 11) 1), m 5 14, m 6 15]
 (s [m 17 1, q 18 (k 179 [(t 17)]), m 16 18, q 19 (.ext (t 16) 0), q 20 (.ext (t 16) 1), m 7 19, m 8 20]
 (.seq (.block 0 (.loop (.seq (s [m 21 8, q 22 (.len false (t 21)), q 23 (.bin .gtr (t 22) (i 0))]
 (.cond (t 23) .skip (.exit 0)))
 (.block 1 (s [m 25 6, m 26 8, q 27 (k 220 [(t 25), (t 26)]), m 24 27, q 28 (.ext (t 24) 0), q 29 (.ext (t 24) 1), m 9 28, m 10 29]
 (r [m 30 8, m 31 10, m 6 30, m 8 31]))))))
 (s [m 32 6, q 33 (k 180 [F, (t 32)]), m 4 33]
 .ret))))), 34, 6, [.tmp 4], false, .imm, []⟩
theorem ok219 : FnOk Tryz.prog 219 c219 := okF Tryz.func219 (by kernel_rfl)
def c220 : FnR := ⟨(s [q 4 (.mv E), q 5 (.mv E)]
 (s [m 9 0, q 10 (.len false (t 9)), q 11 (.mkslice 3 1 8 [(.int .i64 0)] (t 10) (t 10)), m 6 11]
 (s [q 7 (.mv E)]
 (.seq (s [m 12 0, q 13 (.len false (t 12)), q 14 (.bin .sub (t 13) (i 1)), m 8 14]
 (.block 0 (.loop (.seq (s [m 15 8, q 16 (.bin .geq (t 15) (i 0))]
 (.cond (t 16) .skip (.exit 0)))
 (.seq (.block 1 (s [m 19 0, m 20 8, q 21 (.iaddr 1 (t 19) (t 20)), q 22 (.load false 1 (t 21)), q 23 (.bslice 3 1 [(.int .i64 0)] 1 [(0, (t 22))] false), m 24 7, q 25 (.append 3 1 8 (t 23) (t 24) false), q 26 (k 230 [(t 25)]), m 7 26]
 (.block 2 (.loop (.seq (s [m 27 7, m 28 1, q 29 (k 276 [(t 27), (t 28)]), q 30 (.bin .geq (t 29) (i 0))]
 (.cond (t 30) .skip (.exit 2)))
 (.block 3 (s [m 31 7, m 32 1, q 33 (k 277 [(t 31), (t 32)]), m 7 33]
 (r [m 34 6, m 35 8, q 36 (.iaddr 1 (t 34) (t 35)), q 37 (.load false 1 (t 36)), q 38 (.bin .add (t 37) (i 1)), q 39 (.iaddr 1 (t 34) (t 35)), qn (.store 1 (t 39) (t 38))]))))))))
 (r [m 17 8, q 18 (.bin .sub (t 17) (i 1)), m 8 18]))))))
 (s [m 40 6, q 41 (k 230 [(t 40)]), m 42 7, m 4 41, m 5 42]
 .ret))))), 43, 6, [.tmp 4, .tmp 5], false, .imm, []⟩
theorem ok220 : FnOk Tryz.prog 220 c220 := FnOk.of (H := ⟨[11], modesTab, []⟩) (d := 6) (own := false) (m := .imm) Tryz.func220 (by kernel_rfl)
def c221 : FnR := ⟨(s [q 2 (.mv F)]
 (.seq (s [m 5 0, q 6 (.len true (t 5)), q 7 (.bin .lss (t 6) (i 1)), m 8 7, qg 9 8 false (.mv (t 0)), qg 10 8 false (.len true (t 9)), qg 11 8 false (.bin .gtr (t 10) (i 40)), q 12 (.pick (t 8) T (t 11)), m 13 12, qg 14 13 false (.mv (t 0)), qg 15 13 false (.sidx (t 14) (i 0)), qg 16 13 false (.bin .lss (t 15) (.const (.int .u8 97))), q 17 (.pick (t 13) T (t 16)), m 18 17, qg 19 18 false (.mv (t 0)), qg 20 18 false (.sidx (t 19) (i 0)), qg 21 18 false (.bin .gtr (t 20) (.const (.int .u8 122))), q 22 (.pick (t 18) T (t 21))]
 (.cond (t 22) (s [q 2 (.mv F)]
 .ret) .skip))
 (.seq (s [q 3 (.mv (i 0))]
 (.block 0 (.loop (.seq (s [m 23 3, m 24 0, q 25 (.len true (t 24)), q 26 (.bin .lss (t 23) (t 25))]
 (.cond (t 26) .skip (.exit 0)))
 (.seq (.block 1 (s [m 29 0, m 30 3, q 31 (.sidx (t 29) (t 30)), m 4 31]
 (s [m 32 4, q 33 (.bin .lss (t 32) (.const (.int .u8 97))), m 34 33, qg 35 34 false (.mv (t 4)), qg 36 34 false (.bin .gtr (t 35) (.const (.int .u8 122))), q 37 (.pick (t 34) T (t 36)), m 38 37, qg 39 38 true (.mv (t 4)), qg 40 38 true (.bin .lss (t 39) (.const (.int .u8 48))), qg 41 38 true (.mv (t 40)), qg 42 41 false (.mv (t 4)), qg 43 41 false (.bin .gtr (t 42) (.const (.int .u8 57))), qg 44 38 true (.pick (t 41) T (t 43)), q 45 (.pick (t 38) (t 44) F), m 46 45, qg 47 46 true (.mv (t 4)), qg 48 46 true (.bin .neq (t 47) (.const (.int .u8 45))), q 49 (.pick (t 46) (t 48) F)]
 (.cond (t 49) (s [q 2 (.mv F)]
 .ret) .skip))))
 (r [m 27 3, q 28 (.bin .add (t 27) (i 1)), m 3 28]))))))
 (s [q 2 (.mv T)]
 .ret)))), 50, 6, [.tmp 2], false, .imm, []⟩
theorem ok221 : FnOk Tryz.prog 221 c221 := okF Tryz.func221 (by kernel_rfl)
def c222 : FnR := ⟨(s [q 1 (.box (t 0)), q 2 (.mv E), q 3 (.mv (i 0))]
 (.seq (s [q 4 (.load true 7 (t 1)), q 5 (k 41 [(t 4)])]
 (.cond (t 5) (s [q 2 (.mv E), q 3 (.mv (i 0))]
 .ret) .skip))
 (s [q 6 (.load true 7 (t 1)), q 7 (.build a8 [(0, 7, (t 6))]), q 8 (.bslice 120 8 a8 1 [(0, (t 7))] false), q 9 (k 110 [(t 8)]), q 10 (.ext (t 9) 0), q 11 (.ext (t 9) 1), m 2 10, m 3 11]
 .ret))), 12, 4, [.tmp 2, .tmp 3], false, .imm, []⟩
theorem ok222 : FnOk Tryz.prog 222 c222 := FnOk.of (H := ⟨[], modesTab, []⟩) (d := 4) (own := false) (m := .imm) Tryz.func222 (by kernel_rfl)
def c223 : FnR := ⟨(s [q 4 (.mv E)]
 (s [m 10 0, q 11 (.len false (t 10)), m 12 1, q 13 (.len false (t 12)), q 14 (.bin .add (t 11) (t 13)), q 15 (.bin .add (t 14) (i 1)), q 16 (.mkslice 3 1 8 [(.int .i64 0)] (t 15) (t 15)), m 5 16]
 (.seq (s [q 6 (.mv (i 0))]
 (.block 0 (.loop (.seq (s [m 17 6, m 18 0, q 19 (.len false (t 18)), q 20 (.bin .lss (t 17) (t 19))]
 (.cond (t 20) .skip (.exit 0)))
 (.seq (.block 1 (s [q 7 (.mv (i 0))]
 (s [q 8 (.mv (i 0))]
 (.block 2 (.loop (.seq (s [m 23 8, m 24 1, q 25 (.len false (t 24)), q 26 (.bin .lss (t 23) (t 25)), m 27 26, qg 28 27 false (.mv (t 7)), qg 29 27 false (.bin .gtr (t 28) (i 0)), q 30 (.pick (t 27) T (t 29))]
 (.cond (t 30) .skip (.exit 2)))
 (.seq (.block 3 (s [m 33 5, m 34 6, m 35 8, q 36 (.bin .add (t 34) (t 35)), q 37 (.iaddr 1 (t 33) (t 36)), q 38 (.load false 1 (t 37)), m 39 7, q 40 (.bin .add (t 38) (t 39)), m 9 40]
 (.seq (s [m 41 8, m 42 1, q 43 (.len false (t 42)), q 44 (.bin .lss (t 41) (t 43))]
 (.cond (t 44) (.region true [
  m 45 9,
  m 46 0,
  m 47 6,
  q 48 (.iaddr 1 (t 46) (t 47)),
  q 49 (.load false 1 (t 48)),
  m 50 1,
  m 51 8,
  q 52 (.iaddr 1 (t 50) (t 51)),
  q 53 (.load false 1 (t 52)),
  q 54 (.bin .mul (t 49) (t 53)),
  q 55 (.bin .add (t 45) (t 54)),
  m 9 55]) .skip))
 (s [m 56 5, m 57 6, m 58 8, q 59 (.bin .add (t 57) (t 58)), m 60 9, q 61 (.bin .rem (t 60) (i 10)), q 62 (.iaddr 1 (t 56) (t 59)), qn (.store 1 (t 62) (t 61))]
 (r [m 63 9, q 64 (.bin .quo (t 63) (i 10)), m 7 64])))))
 (r [m 31 8, q 32 (.bin .add (t 31) (i 1)), m 8 32]))))))))
 (r [m 21 6, q 22 (.bin .add (t 21) (i 1)), m 6 22]))))))
 (s [m 65 5, q 66 (k 230 [(t 65)]), m 4 66]
 .ret)))), 67, 7, [.tmp 4], false, .imm, []⟩
theorem ok223 : FnOk Tryz.prog 223 c223 := FnOk.of (H := ⟨[16], modesTab, []⟩) (d := 7) (own := false) (m := .imm) Tryz.func223 (by kernel_rfl)
def c224 : FnR := ⟨(s [q 4 (.mv O)]
 (s [m 10 0, q 11 (k 179 [(t 10)]), m 9 11, q 12 (.ext (t 9) 0), q 13 (.ext (t 9) 1), m 5 12, m 6 13]
 (s [m 15 1, q 16 (k 179 [(t 15)]), m 14 16, q 17 (.ext (t 14) 0), q 18 (.ext (t 14) 1), m 7 17, m 8 18]
 (.seq (s [m 19 5, m 20 7, q 21 (.binb false (t 19) (t 20))]
 (.cond (t 21) (s [m 22 5, m 23 6, m 24 8, q 25 (k 278 [(t 23), (t 24)]), q 26 (k 180 [(t 22), (t 25)]), m 4 26]
 .ret) .skip))
 (.seq (s [m 27 6, m 28 8, q 29 (k 276 [(t 27), (t 28)]), q 30 (.bin .geq (t 29) (i 0))]
 (.cond (t 30) (s [m 31 5, m 32 6, m 33 8, q 34 (k 277 [(t 32), (t 33)]), q 35 (k 180 [(t 31), (t 34)]), m 4 35]
 .ret) .skip))
 (s [m 36 7, m 37 8, m 38 6, q 39 (k 277 [(t 37), (t 38)]), q 40 (k 180 [(t 36), (t 39)]), m 4 40]
 .ret)))))), 41, 6, [.tmp 4], false, .imm, []⟩
theorem ok224 : FnOk Tryz.prog 224 c224 := okF Tryz.func224 (by kernel_rfl)
def c227 : FnR := ⟨(s [q 4 (.mv (i 0))]
 (.seq (.block 0 (s [m 6 0, m 7 1, q 8 (.bin .lss (t 6) (t 7)), m 5 8]
 (.cond (t 5) (s [q 4 (.mv (i (-1)))]
 .ret) (s [m 10 0, m 11 1, q 12 (.bin .gtr (t 10) (t 11)), m 9 12]
 (.cond (t 9) (s [q 4 (.mv (i 1))]
 .ret) .skip)))))
 (s [q 4 (.mv (i 0))]
 .ret))), 13, 4, [.tmp 4], false, .imm, []⟩
theorem ok227 : FnOk Tryz.prog 227 c227 := FnOk.of (H := ⟨[], modesTab, []⟩) (d := 4) (own := false) (m := .imm) Tryz.func227 (by kernel_rfl)
def c228 : FnR := ⟨(s [q 2 (.box (t 0)), q 3 (.box (t 1)), q 4 (.mv (i 0))]
 (.seq (s [q 5 (.faddr 1 (t 2)), q 6 (.load false 1 (t 5)), q 7 (.faddr 1 (t 3)), q 8 (.load false 1 (t 7)), q 9 (.bin .neq (t 6) (t 8))]
 (.cond (t 9) (s [q 10 (.faddr 1 (t 2)), q 11 (.load false 1 (t 10)), q 12 (.faddr 1 (t 3)), q 13 (.load false 1 (t 12)), q 14 (k 227 [(t 11), (t 13)]), m 4 14]
 .ret) .skip))
 (s [q 15 (.faddr 0 (t 2)), q 16 (.load false 1 (t 15)), q 17 (.faddr 0 (t 3)), q 18 (.load false 1 (t 17)), q 19 (k 227 [(t 16), (t 18)]), m 4 19]
 .ret))), 20, 5, [.tmp 4], false, .imm, []⟩
theorem ok228 : FnOk Tryz.prog 228 c228 := FnOk.of (H := ⟨[], modesTab, []⟩) (d := 5) (own := false) (m := .imm) Tryz.func228 (by kernel_rfl)
def c229 : FnR := ⟨(s [q 2 (.mv F)]
 (.seq (s [m 5 0, q 6 (.bin .eql (t 5) (.const (.string ⟨#[48]⟩)))]
 (.cond (t 6) (s [q 2 (.mv T)]
 .ret) .skip))
 (s [q 3 (.mv (i 0))]
 (.seq (s [m 7 0, q 8 (.len true (t 7)), q 9 (.bin .gtr (t 8) (i 0)), m 10 9, qg 11 10 true (.mv (t 0)), qg 12 10 true (.sidx (t 11) (i 0)), qg 13 10 true (.bin .eql (t 12) (.const (.int .u8 45))), q 14 (.pick (t 10) (t 13) F)]
 (.cond (t 14) (r [q 3 (.mv (i 1))]) .skip))
 (.seq (s [m 15 0, q 16 (.len true (t 15)), m 17 3, q 18 (.bin .leq (t 16) (t 17)), m 19 18, qg 20 19 false (.mv (t 0)), qg 21 19 false (.mv (t 3)), qg 22 19 false (.sidx (t 20) (t 21)), qg 23 19 false (.bin .eql (t 22) (.const (.int .u8 48))), q 24 (.pick (t 19) T (t 23))]
 (.cond (t 24) (s [q 2 (.mv F)]
 .ret) .skip))
 (.seq (s [m 25 3, m 4 25]
 (.block 0 (.loop (.seq (s [m 26 4, m 27 0, q 28 (.len true (t 27)), q 29 (.bin .lss (t 26) (t 28))]
 (.cond (t 29) .skip (.exit 0)))
 (.seq (.block 1 (s [m 32 0, m 33 4, q 34 (.sidx (t 32) (t 33)), q 35 (.bin .lss (t 34) (.const (.int .u8 48))), m 36 35, qg 37 36 false (.mv (t 0)), qg 38 36 false (.mv (t 4)), qg 39 36 false (.sidx (t 37) (t 38)), qg 40 36 false (.bin .gtr (t 39) (.const (.int .u8 57))), q 41 (.pick (t 36) T (t 40))]
 (.cond (t 41) (s [q 2 (.mv F)]
 .ret) .skip)))
 (r [m 30 4, q 31 (.bin .add (t 30) (i 1)), m 4 31]))))))
 (s [q 2 (.mv T)]
 .ret))))))), 42, 6, [.tmp 2], false, .imm, []⟩
theorem ok229 : FnOk Tryz.prog 229 c229 := okF Tryz.func229 (by kernel_rfl)
def c230 : FnR := ⟨(s [q 2 (.mv E)]
 (s [m 4 0, q 5 (.len false (t 4)), m 3 5]
 (.seq (.block 0 (.loop (.seq (s [m 6 3, q 7 (.bin .gtr (t 6) (i 0)), m 8 7, qg 9 8 true (.mv (t 0)), qg 10 8 true (.mv (t 3)), qg 11 8 true (.bin .sub (t 10) (i 1)), qg 12 8 true (.iaddr 1 (t 9) (t 11)), qg 13 8 true (.load false 1 (t 12)), qg 14 8 true (.bin .eql (t 13) (i 0)), q 15 (.pick (t 8) (t 14) F)]
 (.cond (t 15) .skip (.exit 0)))
 (.block 1 (r [m 16 3, q 17 (.bin .sub (t 16) (i 1)), m 3 17])))))
 (s [m 18 0, m 19 3, q 20 (.slc 1 (t 18) none (some (t 19))), m 2 20]
 .ret)))), 21, 5, [.tmp 2], false, .imm, []⟩
theorem ok230 : FnOk Tryz.prog 230 c230 := FnOk.of (H := ⟨[], modesTab, []⟩) (d := 5) (own := false) (m := .imm) Tryz.func230 (by kernel_rfl)
def c231 : FnR := ⟨(s [q 4 (.mv E)]
 (.seq (s [m 5 1, q 6 (.bin .lss (t 5) (i 0))]
 (.cond (t 6) (r [q 7 (.bad), qn (.bad)]) .skip))
 (.seq (s [m 8 1, m 9 0, q 10 (.cap0 (t 9)), m 11 0, q 12 (.len false (t 11)), q 13 (.bin .sub (t 10) (t 12)), q 14 (.bin .sub (t 8) (t 13)), m 1 14]
 (s [m 15 1, q 16 (.bin .gtr (t 15) (i 0))]
 (.cond (t 16) (r [m 17 0, m 18 0, q 19 (.cap0 (t 18)), q 20 (.slc 11 (t 17) none (some (t 19))), m 21 1, q 22 (.appz 56 11 176 a11 (t 20) (t 21) true), m 23 0, q 24 (.len false (t 23)), q 25 (.slc 11 (t 22) none (some (t 24))), m 0 25]) .skip)))
 (s [m 26 0, m 4 26]
 .ret)))), 27, 5, [.tmp 4], true, .imm, []⟩
theorem ok231 : FnOk Tryz.prog 231 c231 := FnOk.of (H := ⟨[22], modesTab, []⟩) (d := 5) (own := true) (m := .imm) Tryz.func231 (by kernel_rfl)
def c232 : FnR := ⟨(s [q 6 (.mv (i 20))]
 (s [m 10 6, q 7 (.mv (i 0)), m 8 10]
 (.seq (.block 0 (.loop (.seq (s [m 11 8, m 12 1, q 13 (.bin .leq (t 11) (t 12))]
 (.cond (t 13) .skip (.exit 0)))
 (.block 1 (s [m 14 0, m 15 7, m 16 8, m 17 2, q 18 (.call (.func 279) [(t 14), (t 15), (t 16), (t 17)] [.inout])]
 (s [m 19 8, m 7 19]
 (r [m 20 8, m 21 6, q 22 (.bin .add (t 20) (t 21)), m 8 22])))))))
 (s [m 23 0, m 24 7, m 25 1, m 26 2, q 27 (.call (.func 279) [(t 23), (t 24), (t 25), (t 26)] [.inout])]
 (.block 2 (.loop (.seq (s [m 28 6, m 29 1, q 30 (.bin .lss (t 28) (t 29))]
 (.cond (t 30) .skip (.exit 2)))
 (.block 3 (s [m 31 6, q 32 (.bin .mul (i 2) (t 31)), q 7 (.mv (i 0)), m 8 32]
 (.seq (.block 4 (.loop (.seq (s [m 33 8, m 34 1, q 35 (.bin .leq (t 33) (t 34))]
 (.cond (t 35) .skip (.exit 4)))
 (.block 5 (s [m 36 0, m 37 7, m 38 7, m 39 6, q 40 (.bin .add (t 38) (t 39)), m 41 8, m 42 2, q 43 (.call (.func 280) [(t 36), (t 37), (t 40), (t 41), (t 42)] [.inout])]
 (s [m 44 8, m 7 44]
 (r [m 45 8, m 46 6, q 47 (.bin .mul (i 2) (t 46)), q 48 (.bin .add (t 45) (t 47)), m 8 48])))))))
 (.seq (s [m 49 7, m 50 6, q 51 (.bin .add (t 49) (t 50)), m 9 51]
 (s [m 52 9, m 53 1, q 54 (.bin .lss (t 52) (t 53))]
 (.cond (t 54) (r [m 55 0, m 56 7, m 57 9, m 58 1, m 59 2, q 60 (.call (.func 280) [(t 55), (t 56), (t 57), (t 58), (t 59)] [.inout])]) .skip)))
 (r [m 61 6, q 62 (.bin .mul (t 61) (i 2)), m 6 62])))))))))))), 63, 6, [], false, .inout, []⟩
theorem ok232 : FnOk Tryz.prog 232 c232 := FnOk.of (H := ⟨[0], modesTab, []⟩) (d := 6) (own := false) (m := .inout) Tryz.func232 (by kernel_rfl)
def c233 : FnR := ⟨(s [q 2 (.box (t 0)), q 3 (.box (t 1)), q 4 (.alloc [(.int .i64 0), (.int .i64 0), (.int .i64 0)])]
 (.seq (s [q 7 (.faddr 0 (t 2)), q 8 (.load false 1 (t 7))]
 (.block 0 (s [q 10 (.bin .eql (t 8) (i 1)), m 9 10]
 (.cond (t 9) (r [q 11 (.aaddr 3 1 (t 3) (i 0)), q 12 (.load false 1 (t 11)), q 13 (.bin .add (t 12) (i 1)), q 14 (.aaddr 3 1 (t 3) (i 0)), qn (.store 1 (t 14) (t 13))]) (s [q 16 (.bin .eql (t 8) (i 2)), m 15 16]
 (.cond (t 15) (.region true [
  q 17 (.aaddr 3 1 (t 3) (i 2)),
  ⟨some 18, none, .load false 1 (t 17), [3], []⟩,
  q 19 (.faddr 3 (t 2)),
  ⟨some 20, none, .load true 7 (t 19), [2], []⟩,
  ⟨some 21, none, k 271 [(t 20)], [], [21]⟩,
  q 22 (.bin .add (t 18) (t 21)),
  q 23 (.aaddr 3 1 (t 3) (i 2)),
  ⟨none, none, .store 1 (t 23) (t 22), [3], [3]⟩]) (s [q 25 (.bin .eql (t 8) (i 3)), m 24 25]
 (.cond (t 24) (s [q 26 (.aaddr 3 1 (t 3) (i 1)), q 27 (.load false 1 (t 26)), q 28 (.bin .add (t 27) (i 1)), q 29 (.aaddr 3 1 (t 3) (i 1)), qn (.store 1 (t 29) (t 28))]
 (s [q 30 (.faddr 10 (t 2)), q 31 (.load false 1 (t 30)), q 32 (.len false (t 31)), q 33 (.mv (i 0))]
 (.block 1 (.loop (s [q 34 (.bin .lss (t 33) (t 32))]
 (.seq (.cond (t 34) .skip (.exit 1))
 (.seq (.block 2 (s [q 35 (.iaddr 11 (t 31) (t 33)), q 36 (.load true 11 (t 35)), q 6 (.alloc a11), qn (.store 11 (t 6) (t 36))]
 (r [q 37 (.load true 11 (t 6)), q 38 (.load true 3 (t 3)), q 39 (k 233 [(t 37), (t 38)]), qn (.store 3 (t 3) (t 39))])))
 (r [q 40 (.bin .add (t 33) (i 1)), m 33 40])))))))) .skip))))))))
 (s [q 41 (.load true 3 (t 3)), qn (.store 3 (t 4) (t 41))]
 .ret))), 42, 6, [.cell 4 true 3], false, .imm, []⟩
theorem ok233 : FnOk Tryz.prog 233 c233 := FnOk.of (H := ⟨[], modesTab, [(17, [3]), (19, [2]), (23, [3])]⟩) (d := 6) (own := false) (m := .imm) Tryz.func233 (by kernel_rfl)
def c234 : FnR := ⟨(s [q 4 (.mv (i 0))]
 (.seq (s [m 9 0, q 10 (.len false (t 9)), q 11 (.mv (i 0))]
 (.block 0 (.loop (s [q 12 (.bin .lss (t 11) (t 10))]
 (.seq (.cond (t 12) .skip (.exit 0))
 (.seq (.block 1 (s [m 13 11, q 14 (.iaddr 1 (t 9) (t 11)), q 15 (.load false 1 (t 14)), m 5 13, m 6 15]
 (.seq (s [m 16 5, m 17 1, q 18 (.len false (t 17)), q 19 (.bin .geq (t 16) (t 18))]
 (.cond (t 19) (s [q 4 (.mv (i 1))]
 .ret) .skip))
 (s [m 20 1, m 21 5, q 22 (.iaddr 1 (t 20) (t 21)), q 23 (.load false 1 (t 22)), m 7 23]
 (s [m 24 6, m 25 7, q 26 (k 281 [(t 24), (t 25)]), m 8 26]
 (s [m 27 8, q 28 (.bin .neq (t 27) (i 0))]
 (.cond (t 28) (s [m 29 8, m 4 29]
 .ret) .skip)))))))
 (r [q 30 (.bin .add (t 11) (i 1)), m 11 30])))))))
 (.seq (s [m 31 0, q 32 (.len false (t 31)), m 33 1, q 34 (.len false (t 33)), q 35 (.bin .lss (t 32) (t 34))]
 (.cond (t 35) (s [q 4 (.mv (i (-1)))]
 .ret) .skip))
 (s [q 4 (.mv (i 0))]
 .ret)))), 36, 6, [.tmp 4], false, .imm, []⟩
theorem ok234 : FnOk Tryz.prog 234 c234 := okF Tryz.func234 (by kernel_rfl)
def c235 : FnR := ⟨(s [q 2 (.box (t 0)), q 3 (.box (t 1)), q 4 (.mv (i 0))]
 (.seq (s [q 9 (.faddr 0 (t 2)), q 10 (.load false 1 (t 9)), q 11 (.faddr 0 (t 3)), q 12 (.load false 1 (t 11)), q 13 (.bin .neq (t 10) (t 12))]
 (.cond (t 13) (.seq (s [q 14 (.faddr 0 (t 2)), q 15 (.load false 1 (t 14)), q 16 (.faddr 0 (t 3)), q 17 (.load false 1 (t 16)), q 18 (.bin .lss (t 15) (t 17))]
 (.cond (t 18) (s [q 4 (.mv (i (-1)))]
 .ret) .skip))
 (s [q 4 (.mv (i 1))]
 .ret)) .skip))
 (.seq (s [q 19 (.faddr 0 (t 2)), q 20 (.load false 1 (t 19)), q 21 (.bin .eql (t 20) (i 2))]
 (.cond (t 21) (s [q 22 (.faddr 3 (t 2)), q 23 (.load true 7 (t 22)), q 24 (.faddr 3 (t 3)), q 25 (.load true 7 (t 24)), q 26 (k 282 [(t 23), (t 25)]), m 4 26]
 .ret) .skip))
 (.seq (s [q 27 (.faddr 1 (t 2)), q 28 (.load true 2 (t 27)), q 29 (.faddr 1 (t 3)), q 30 (.load true 2 (t 29)), q 31 (k 283 [(t 28), (t 30)]), m 5 31]
 (s [m 32 5, q 33 (.bin .neq (t 32) (i 0))]
 (.cond (t 33) (s [m 34 5, m 4 34]
 .ret) .skip)))
 (.seq (s [q 35 (.faddr 10 (t 2)), q 36 (.load false 1 (t 35)), q 37 (.len false (t 36)), q 38 (.faddr 10 (t 3)), q 39 (.load false 1 (t 38)), q 40 (.len false (t 39)), q 41 (.bin .neq (t 37) (t 40))]
 (.cond (t 41) (.seq (s [q 42 (.faddr 10 (t 2)), q 43 (.load false 1 (t 42)), q 44 (.len false (t 43)), q 45 (.faddr 10 (t 3)), q 46 (.load false 1 (t 45)), q 47 (.len false (t 46)), q 48 (.bin .lss (t 44) (t 47))]
 (.cond (t 48) (s [q 4 (.mv (i (-1)))]
 .ret) .skip))
 (s [q 4 (.mv (i 1))]
 .ret)) .skip))
 (.seq (s [q 49 (.faddr 10 (t 2)), q 50 (.load false 1 (t 49)), q 51 (.len false (t 50)), q 52 (.mv (i 0))]
 (.block 0 (.loop (s [q 53 (.bin .lss (t 52) (t 51))]
 (.seq (.cond (t 53) .skip (.exit 0))
 (.seq (.block 1 (s [m 54 52, q 55 (.iaddr 11 (t 50) (t 52)), q 56 (.load true 11 (t 55)), q 7 (.alloc a11), m 6 54, qn (.store 11 (t 7) (t 56))]
 (.seq (.region true [
  ⟨some 57, none, .load true 11 (t 7), [7], []⟩,
  q 58 (.faddr 10 (t 3)),
  ⟨some 59, none, .load false 1 (t 58), [3], []⟩,
  m 60 6,
  q 61 (.iaddr 11 (t 59) (t 60)),
  q 62 (.load true 11 (t 61)),
  ⟨some 63, none, k 235 [(t 57), (t 62)], [], [63]⟩,
  m 8 63])
 (s [m 64 8, q 65 (.bin .neq (t 64) (i 0))]
 (.cond (t 65) (s [m 66 8, m 4 66]
 .ret) .skip)))))
 (r [q 67 (.bin .add (t 52) (i 1)), m 52 67])))))))
 (s [q 4 (.mv (i 0))]
 .ret))))))), 68, 7, [.tmp 4], false, .imm, []⟩
theorem ok235 : FnOk Tryz.prog 235 c235 := FnOk.of (H := ⟨[], modesTab, [(7, [7]), (58, [3])]⟩) (d := 7) (own := false) (m := .imm) Tryz.func235 (by kernel_rfl)
def c236 : FnR := ⟨(r [m 4 0, m 5 0, q 6 (.len false (t 5)), m 7 1, q 8 (.call (.func 284) [(t 4), (t 6), (t 7)] [.inout])]), 9, 4, [], false, .inout, []⟩
theorem ok236 : FnOk Tryz.prog 236 c236 := FnOk.of (H := ⟨[0], modesTab, []⟩) (d := 4) (own := false) (m := .inout) Tryz.func236 (by kernel_rfl)
def c237 : FnR := ⟨(s [q 2 (.box (t 0)), q 3 (.box (t 1)), q 4 (.mv (i 0))]
 (.seq (s [q 5 (.faddr 7 (t 2)), q 6 (.load false 1 (t 5)), q 7 (.len false (t 6)), q 8 (.faddr 7 (t 3)), q 9 (.load false 1 (t 8)), q 10 (.len false (t 9)), q 11 (.bin .neq (t 7) (t 10))]
 (.cond (t 11) (.seq (s [q 12 (.faddr 7 (t 2)), q 13 (.load false 1 (t 12)), q 14 (.len false (t 13)), q 15 (.faddr 7 (t 3)), q 16 (.load false 1 (t 15)), q 17 (.len false (t 16)), q 18 (.bin .lss (t 14) (t 17))]
 (.cond (t 18) (s [q 4 (.mv (i (-1)))]
 .ret) .skip))
 (s [q 4 (.mv (i 1))]
 .ret)) .skip))
 (s [q 19 (.faddr 7 (t 2)), q 20 (.load false 1 (t 19)), q 21 (.faddr 7 (t 3)), q 22 (.load false 1 (t 21)), q 23 (k 285 [(t 20), (t 22), (.func 183)]), m 4 23]
 .ret))), 24, 5, [.tmp 4], false, .imm, []⟩
theorem ok237 : FnOk Tryz.prog 237 c237 := FnOk.of (H := ⟨[], modesTab, []⟩) (d := 5) (own := false) (m := .imm) Tryz.func237 (by kernel_rfl)
def c238 : FnR := ⟨(s [q 4 (.mv E)]
 (s [m 8 0, m 9 1, q 10 (.call (.func 286) [(t 8), (t 9)] [.inout]), m 5 10]
 (.seq (s [m 11 5, q 12 (.bin .eql (t 11) (i (-1)))]
 (.cond (t 12) (s [m 13 0, m 4 13]
 .ret) .skip))
 (.seq (s [m 14 5, q 15 (.bin .add (t 14) (i 1)), m 6 15]
 (.block 0 (.loop (.seq (s [m 16 6, m 17 0, q 18 (.len false (t 17)), q 19 (.bin .lss (t 16) (t 18))]
 (.cond (t 19) .skip (.exit 0)))
 (.seq (.block 1 (s [m 22 0, m 23 6, q 24 (.iaddr 8 (t 22) (t 23)), q 25 (.load true 8 (t 24)), q 7 (.alloc a8), qn (.store 8 (t 7) (t 25))]
 (s [m 26 1, q 27 (.load true 8 (t 7)), q 28 (.call (t 26) [(t 27)] i1), q 29 (.un .not (t 28))]
 (.cond (t 29) (s [m 30 0, m 31 5, q 32 (.load true 8 (t 7)), q 33 (.iaddr 8 (t 30) (t 31)), qn (.store 8 (t 33) (t 32))]
 (r [m 34 5, q 35 (.bin .add (t 34) (i 1)), m 5 35])) .skip))))
 (r [m 20 6, q 21 (.bin .add (t 20) (i 1)), m 6 21]))))))
 (s [m 36 0, m 37 5, q 38 (.slc 8 (t 36) (some (t 37)) none), qn (.clr 120 8 a8 (t 38))]
 (s [m 39 0, m 40 5, q 41 (.slc 8 (t 39) none (some (t 40))), m 4 41]
 .ret)))))), 42, 6, [.tmp 4], false, .eat, []⟩
theorem ok238 : FnOk Tryz.prog 238 c238 := FnOk.of (H := ⟨[0], modesTab, []⟩) (d := 6) (own := false) (m := .eat) Tryz.func238 (by kernel_rfl)
def c239 : FnR := ⟨(s [q 1 (.box (t 0)), q 2 (.mv F)]
 (s [q 3 (.faddr 0 (t 1)), q 4 (.load true 7 (t 3)), q 5 (k 213 [(t 4)]), m 2 5]
 .ret)), 6, 4, [.tmp 2], false, .imm, []⟩
theorem ok239 : FnOk Tryz.prog 239 c239 := FnOk.of (H := ⟨[], modesTab, []⟩) (d := 4) (own := false) (m := .imm) Tryz.func239 (by kernel_rfl)
def c240 : FnR := ⟨(s [q 2 (.mv E)]
 (.seq (s [m 3 0, q 4 (.isnil false (t 3))]
 (.cond (t 4) (s [q 2 (.mv E)]
 .ret) .skip))
 (s [q 5 (.bslice 56 11 a11 0 [] false), m 6 0, q 7 (.append 56 11 176 (t 5) (t 6) false), m 2 7]
 .ret))), 8, 4, [.tmp 2], false, .imm, []⟩
theorem ok240 : FnOk Tryz.prog 240 c240 := FnOk.of (H := ⟨[], modesTab, []⟩) (d := 4) (own := false) (m := .imm) Tryz.func240 (by kernel_rfl)
def c241 : FnR := ⟨(s [q 2 (.alloc a11)]
 (s [m 5 0, m 6 0, q 7 (.len false (t 6)), q 8 (.bin .sub (t 7) (i 1)), q 9 (.iaddr 11 (t 5) (t 8)), q 10 (.load true 11 (t 9)), q 3 (.alloc a11), qn (.store 11 (t 3) (t 10))]
 (.seq (s [m 11 0, q 12 (.len false (t 11)), q 13 (.bin .sub (t 12) (i 2)), m 4 13]
 (.block 0 (.loop (.seq (s [m 14 4, q 15 (.bin .geq (t 14) (i 0))]
 (.cond (t 15) .skip (.exit 0)))
 (.seq (.block 1 (.region true [
  m 18 0,
  m 19 4,
  q 20 (.iaddr 11 (t 18) (t 19)),
  q 21 (.load true 11 (t 20)),
  ⟨some 22, none, .load true 11 (t 3), [3], []⟩,
  ⟨some 23, none, .bslice 56 11 a11 2 [(0, (t 21)), (1, (t 22))] false, [24], [23]⟩,
  ⟨some 24, none, .call (.func 122) [(.const (.string ⟨#[98, 105, 110, 97, 114, 121, 45, 42]⟩)), (t 23)] i1, [23], [24]⟩,
  ⟨none, none, .store 11 (t 3) (t 24), [3, 24], [3]⟩]))
 (r [m 16 4, q 17 (.bin .sub (t 16) (i 1)), m 4 17]))))))
 (s [q 25 (.load true 11 (t 3)), qn (.store 11 (t 2) (t 25))]
 .ret)))), 26, 5, [.cell 2 true 11], false, .imm, []⟩
theorem ok241 : FnOk Tryz.prog 241 c241 := FnOk.of (H := ⟨[], modesTab, [(3, [3]), (22, [24]), (23, [23]), (24, [24])]⟩) (d := 5) (own := false) (m := .imm) Tryz.func241 (by kernel_rfl)
def c242 : FnR := ⟨(s [q 1 (.box (t 0)), q 2 (.mv (i 0)), q 3 (.mv (i 0)), q 4 (.mv (i 0))]
 (.seq (s [q 12 (.faddr 0 (t 1)), q 13 (.load false 1 (t 12))]
 (.block 0 (s [q 15 (.bin .eql (t 13) (i 1)), m 14 15]
 (.cond (t 14) (s [q 2 (.mv (i 1)), q 3 (.mv (i 0)), q 4 (.mv (i 0))]
 .ret) (s [q 17 (.bin .eql (t 13) (i 2)), m 16 17]
 (.cond (t 16) (s [q 18 (.faddr 3 (t 1)), q 19 (.load true 7 (t 18)), q 20 (k 106 [(t 19)]), q 2 (.mv (i 0)), q 3 (.mv (i 0)), m 4 20]
 .ret) .skip))))))
 (s [q 5 (.mv (i 0)), q 6 (.mv (i 1)), q 7 (.mv (i 0))]
 (.seq (s [q 8 (.mv (i 0))]
 (.block 1 (.loop (.seq (s [m 21 8, q 22 (.faddr 10 (t 1)), q 23 (.load false 1 (t 22)), q 24 (.len false (t 23)), q 25 (.bin .lss (t 21) (t 24))]
 (.cond (t 25) .skip (.exit 1)))
 (.seq (.block 2 (s [q 29 (.faddr 10 (t 1)), q 30 (.load false 1 (t 29)), m 31 8, q 32 (.iaddr 11 (t 30) (t 31)), q 33 (.load true 11 (t 32)), q 34 (k 242 [(t 33)]), m 28 34, q 35 (.ext (t 28) 0), q 36 (.ext (t 28) 1), q 37 (.ext (t 28) 2), m 9 35, m 10 36, m 11 37]
 (r [m 38 5, m 39 9, q 40 (.bin .add (t 38) (t 39)), m 41 6, m 42 10, q 43 (.bin .add (t 41) (t 42)), m 44 7, m 45 11, q 46 (.bin .add (t 44) (t 45)), m 5 40, m 6 43, m 7 46])))
 (r [m 26 8, q 27 (.bin .add (t 26) (i 1)), m 8 27]))))))
 (s [m 47 5, m 48 6, m 49 7, m 2 47, m 3 48, m 4 49]
 .ret))))), 50, 6, [.tmp 2, .tmp 3, .tmp 4], false, .imm, []⟩
theorem ok242 : FnOk Tryz.prog 242 c242 := okF Tryz.func242 (by kernel_rfl)
def c243 : FnR := ⟨(s [q 4 (.mv (i 0))]
 (.seq (.block 0 (s [m 6 0, m 7 1, q 8 (.bin .lss (t 6) (t 7)), m 5 8]
 (.cond (t 5) (s [q 4 (.mv (i (-1)))]
 .ret) (s [m 10 0, m 11 1, q 12 (.bin .gtr (t 10) (t 11)), m 9 12]
 (.cond (t 9) (s [q 4 (.mv (i 1))]
 .ret) .skip)))))
 (s [q 4 (.mv (i 0))]
 .ret))), 13, 4, [.tmp 4], false, .imm, []⟩
theorem ok243 : FnOk Tryz.prog 243 c243 := FnOk.of (H := ⟨[], modesTab, []⟩) (d := 4) (own := false) (m := .imm) Tryz.func243 (by kernel_rfl)
def c244 : FnR := ⟨(s [q 2 (.box (t 0)), q 3 (.box (t 1)), q 4 (.mv (i 0))]
 (s [q 7 (.faddr 0 (t 2)), q 8 (.load false 1 (t 7)), q 9 (.faddr 0 (t 3)), q 10 (.load false 1 (t 9)), q 11 (k 243 [(t 8), (t 10)]), m 5 11]
 (.seq (s [m 12 5, q 13 (.bin .neq (t 12) (i 0))]
 (.cond (t 13) (s [m 14 5, m 4 14]
 .ret) .skip))
 (.seq (s [q 15 (.faddr 0 (t 2)), q 16 (.load false 1 (t 15))]
 (.block 0 (s [q 18 (.bin .eql (t 16) (i 1)), m 17 18]
 (.cond (t 17) (s [q 19 (.faddr 1 (t 2)), q 20 (.load true 2 (t 19)), q 21 (.faddr 1 (t 3)), q 22 (.load true 2 (t 21)), q 23 (k 228 [(t 20), (t 22)]), m 4 23]
 .ret) (s [q 25 (.bin .eql (t 16) (i 2)), m 24 25]
 (.cond (t 24) (s [q 26 (.faddr 3 (t 2)), q 27 (.load true 7 (t 26)), q 28 (.faddr 3 (t 3)), q 29 (.load true 7 (t 28)), q 30 (k 178 [(t 27), (t 29)]), m 4 30]
 .ret) .skip))))))
 (s [q 31 (.faddr 1 (t 2)), q 32 (.load true 2 (t 31)), q 33 (.faddr 1 (t 3)), q 34 (.load true 2 (t 33)), q 35 (k 228 [(t 32), (t 34)]), m 5 35]
 (.seq (s [m 36 5, q 37 (.bin .eql (t 36) (i 0))]
 (.cond (t 37) (r [q 38 (.faddr 10 (t 2)), q 39 (.load false 1 (t 38)), q 40 (.len false (t 39)), q 41 (.faddr 10 (t 3)), q 42 (.load false 1 (t 41)), q 43 (.len false (t 42)), q 44 (k 243 [(t 40), (t 43)]), m 5 44]) .skip))
 (.seq (s [q 6 (.mv (i 0))]
 (.block 1 (.loop (.seq (s [m 45 6, q 46 (.faddr 10 (t 2)), q 47 (.load false 1 (t 46)), q 48 (.len false (t 47)), q 49 (.bin .lss (t 45) (t 48)), m 50 49, qg 51 50 true (.mv (t 6)), qg 52 50 true (.faddr 10 (t 3)), qg 53 50 true (.load false 1 (t 52)), qg 54 50 true (.len false (t 53)), qg 55 50 true (.bin .lss (t 51) (t 54)), q 56 (.pick (t 50) (t 55) F), m 57 56, qg 58 57 true (.mv (t 5)), qg 59 57 true (.bin .eql (t 58) (i 0)), q 60 (.pick (t 57) (t 59) F)]
 (.cond (t 60) .skip (.exit 1)))
 (.seq (.block 2 (.region true [
  q 63 (.faddr 10 (t 2)),
  ⟨some 64, none, .load false 1 (t 63), [2], []⟩,
  m 65 6,
  q 66 (.iaddr 11 (t 64) (t 65)),
  q 67 (.load true 11 (t 66)),
  q 68 (.faddr 10 (t 3)),
  ⟨some 69, none, .load false 1 (t 68), [3], []⟩,
  m 70 6,
  q 71 (.iaddr 11 (t 69) (t 70)),
  q 72 (.load true 11 (t 71)),
  ⟨some 73, none, k 244 [(t 67), (t 72)], [], [73]⟩,
  m 5 73]))
 (r [m 61 6, q 62 (.bin .add (t 61) (i 1)), m 6 62]))))))
 (s [m 74 5, m 4 74]
 .ret)))))))), 75, 7, [.tmp 4], false, .imm, []⟩
theorem ok244 : FnOk Tryz.prog 244 c244 := FnOk.of (H := ⟨[], modesTab, [(63, [2]), (68, [3])]⟩) (d := 7) (own := false) (m := .imm) Tryz.func244 (by kernel_rfl)
def c251 : FnR := ⟨(s [q 1 (.box (t 0)), q 2 (.mv F)]
 (.seq (.region true [
  ⟨some 3, none, .load true 2 (t 1), [1], []⟩,
  ⟨some 4, none, k 292 [(t 3)], [], [4]⟩,
  m 5 4,
  ⟨some 6, some (5, true), .load true 2 (t 1), [1], []⟩,
  ⟨some 7, some (5, true), .call (.func 71) [(.const (.string ⟨#[110, 105, 108]⟩))] i1, [], [7]⟩,
  qg 8 5 true (.eqs true (t 6) (t 7)),
  q 9 (.pick (t 5) (t 8) F),
  m 10 9,
  ⟨some 11, some (10, true), .load true 2 (t 1), [1], []⟩,
  ⟨some 12, some (10, true), .call (.func 71) [(.const (.string ⟨#[116]⟩))] i1, [], [12]⟩,
  qg 13 10 true (.eqs true (t 11) (t 12)),
  q 14 (.pick (t 10) (t 13) F),
  m 2 14])
 .ret)), 15, 4, [.tmp 2], false, .imm, []⟩
theorem ok251 : FnOk Tryz.prog 251 c251 := FnOk.of (H := ⟨[], modesTab, [(1, [1])]⟩) (d := 4) (own := false) (m := .imm) Tryz.func251 (by kernel_rfl)
def c259 : FnR := ⟨(s [q 1 (.box (t 0)), q 2 (.mv (i 0))]
 (s [q 3 (.load true 11 (t 1)), q 4 (k 307 [(t 3), (i 3001)]), m 2 4]
 .ret)), 5, 4, [.tmp 2], false, .imm, []⟩
theorem ok259 : FnOk Tryz.prog 259 c259 := FnOk.of (H := ⟨[], modesTab, []⟩) (d := 4) (own := false) (m := .imm) Tryz.func259 (by kernel_rfl)
def c260 : FnR := ⟨(s [q 1 (.box (t 0)), q 2 (.mv (i 0))]
 (s [q 3 (.load true 11 (t 1)), q 4 (k 308 [(t 3), (i 201)]), m 2 4]
 .ret)), 5, 4, [.tmp 2], false, .imm, []⟩
theorem ok260 : FnOk Tryz.prog 260 c260 := FnOk.of (H := ⟨[], modesTab, []⟩) (d := 4) (own := false) (m := .imm) Tryz.func260 (by kernel_rfl)
def c261 : FnR := ⟨(s [q 1 (.box (t 0)), q 2 (.mv F)]
 (s [q 5 (.faddr 3 (t 1)), q 6 (.load true 7 (t 5)), q 7 (.build a7 []), q 8 (k 65 [(t 6), (t 7)]), m 3 8]
 (.seq (s [q 9 (.faddr 0 (t 1)), q 10 (.load false 1 (t 9))]
 (.block 0 (s [q 12 (.bin .eql (t 10) (i 1)), m 11 12]
 (.cond (t 11) (s [m 13 3, m 14 13, qg 15 14 true (.faddr 1 (t 1)), qg 16 14 true (.load true 2 (t 15)), qg 17 14 true (k 251 [(t 16)]), q 18 (.pick (t 14) (t 17) F), m 19 18, qg 20 19 true (.faddr 10 (t 1)), qg 21 19 true (.load false 1 (t 20)), qg 22 19 true (.len false (t 21)), qg 23 19 true (.bin .eql (t 22) (i 0)), q 24 (.pick (t 19) (t 23) F), m 2 24]
 .ret) (s [q 26 (.bin .eql (t 10) (i 2)), m 25 26]
 (.cond (t 25) (s [q 27 (.faddr 1 (t 1)), q 28 (.load true 2 (t 27)), q 29 (.build [(.string ⟨#[]⟩), (.string ⟨#[]⟩)] []), q 30 (.eqs false (t 28) (t 29)), m 31 30, qg 32 31 true (.faddr 3 (t 1)), qg 33 31 true (.load true 7 (t 32)), qg 34 31 true (k 39 [(t 33)]), q 35 (.pick (t 31) (t 34) F), m 36 35, qg 37 36 true (.faddr 10 (t 1)), qg 38 36 true (.load false 1 (t 37)), qg 39 36 true (.len false (t 38)), qg 40 36 true (.bin .eql (t 39) (i 0)), q 41 (.pick (t 36) (t 40) F), m 2 41]
 .ret) (s [q 43 (.bin .eql (t 10) (i 3)), m 42 43]
 (.cond (t 42) (.seq (s [m 44 3, q 45 (.un .not (t 44)), m 46 45, qg 47 46 false (.faddr 1 (t 1)), qg 48 46 false (.load true 2 (t 47)), qg 49 46 false (k 292 [(t 48)]), qg 50 46 false (.un .not (t 49)), q 51 (.pick (t 46) T (t 50)), m 52 51, qg 53 52 false (.faddr 10 (t 1)), qg 54 52 false (.load false 1 (t 53)), qg 55 52 false (.len false (t 54)), qg 56 52 false (.bin .gtr (t 55) (i 8)), q 57 (.pick (t 52) T (t 56))]
 (.cond (t 57) (s [q 2 (.mv F)]
 .ret) .skip))
 (.seq (s [q 4 (.mv (i 0))]
 (.block 1 (.loop (.seq (s [m 58 4, q 59 (.faddr 10 (t 1)), q 60 (.load false 1 (t 59)), q 61 (.len false (t 60)), q 62 (.bin .lss (t 58) (t 61))]
 (.cond (t 62) .skip (.exit 1)))
 (.seq (.block 2 (s [q 65 (.faddr 10 (t 1)), q 66 (.load false 1 (t 65)), m 67 4, q 68 (.iaddr 11 (t 66) (t 67)), q 69 (.load true 11 (t 68)), q 70 (k 261 [(t 69)]), q 71 (.un .not (t 70))]
 (.cond (t 71) (s [q 2 (.mv F)]
 .ret) .skip)))
 (r [m 63 4, q 64 (.bin .add (t 63) (i 1)), m 4 64]))))))
 (s [q 2 (.mv T)]
 .ret))) .skip))))))))
 (s [q 2 (.mv F)]
 .ret)))), 72, 7, [.tmp 2], false, .imm, []⟩
theorem ok261 : FnOk Tryz.prog 261 c261 := FnOk.of (H := ⟨[], modesTab, []⟩) (d := 7) (own := false) (m := .imm) Tryz.func261 (by kernel_rfl)
def c262 : FnR := ⟨(s [q 4 (.mv E)]
 (.seq (s [m 5 1, q 6 (.bin .lss (t 5) (i 0))]
 (.cond (t 6) (r [q 7 (.bad), qn (.bad)]) .skip))
 (.seq (s [m 8 1, m 9 0, q 10 (.cap0 (t 9)), m 11 0, q 12 (.len false (t 11)), q 13 (.bin .sub (t 10) (t 12)), q 14 (.bin .sub (t 8) (t 13)), m 1 14]
 (s [m 15 1, q 16 (.bin .gtr (t 15) (i 0))]
 (.cond (t 16) (r [m 17 0, m 18 0, q 19 (.cap0 (t 18)), q 20 (.slc 8 (t 17) none (some (t 19))), m 21 1, q 22 (.appz 120 8 136 a8 (t 20) (t 21) true), m 23 0, q 24 (.len false (t 23)), q 25 (.slc 8 (t 22) none (some (t 24))), m 0 25]) .skip)))
 (s [m 26 0, m 4 26]
 .ret)))), 27, 5, [.tmp 4], true, .imm, []⟩
theorem ok262 : FnOk Tryz.prog 262 c262 := FnOk.of (H := ⟨[22], modesTab, []⟩) (d := 5) (own := true) (m := .imm) Tryz.func262 (by kernel_rfl)
def c264 : FnR := ⟨(s [q 4 (.mv (i 0))]
 (s [m 7 0, q 8 (k 268 [(t 7)]), m 9 1, q 10 (k 268 [(t 9)]), q 5 (.alloc [(.bool false), (.slice none 0 0)]), q 6 (.alloc [(.bool false), (.slice none 0 0)]), qn (.store 2 (t 5) (t 8)), qn (.store 2 (t 6) (t 10))]
 (.seq (.block 0 (s [q 12 (.faddr 0 (t 5)), q 13 (.load false 1 (t 12)), m 14 13, qg 15 14 true (.faddr 0 (t 6)), qg 16 14 true (.load false 1 (t 15)), qg 17 14 true (.un .not (t 16)), q 18 (.pick (t 14) (t 17) F), m 11 18]
 (.cond (t 11) (s [q 4 (.mv (i (-1)))]
 .ret) (s [q 20 (.faddr 0 (t 5)), q 21 (.load false 1 (t 20)), q 22 (.un .not (t 21)), m 23 22, qg 24 23 true (.faddr 0 (t 6)), qg 25 23 true (.load false 1 (t 24)), q 26 (.pick (t 23) (t 25) F), m 19 26]
 (.cond (t 19) (s [q 4 (.mv (i 1))]
 .ret) (s [q 28 (.faddr 0 (t 5)), q 29 (.load false 1 (t 28)), m 27 29]
 (.cond (t 27) (s [q 30 (.faddr 1 (t 6)), q 31 (.load false 1 (t 30)), q 32 (.faddr 1 (t 5)), q 33 (.load false 1 (t 32)), q 34 (k 313 [(t 31), (t 33)]), m 4 34]
 .ret) .skip)))))))
 (s [q 35 (.faddr 1 (t 5)), q 36 (.load false 1 (t 35)), q 37 (.faddr 1 (t 6)), q 38 (.load false 1 (t 37)), q 39 (k 313 [(t 36), (t 38)]), m 4 39]
 .ret)))), 40, 6, [.tmp 4], false, .imm, []⟩
theorem ok264 : FnOk Tryz.prog 264 c264 := okF Tryz.func264 (by kernel_rfl)
def c265 : FnR := ⟨(s [q 4 (.mv O), q 5 (.mv O)]
 (s [m 11 0, q 12 (k 275 [(t 11)]), m 13 1, q 14 (k 275 [(t 13)]), m 0 12, m 1 14]
 (.seq (.block 0 (s [m 16 1, q 17 (.bin .eql (t 16) (.const (.string ⟨#[48]⟩))), m 15 17]
 (.cond (t 15) (s [q 4 (.mv (.const (.string ⟨#[48]⟩))), q 5 (.mv (.const (.string ⟨#[49]⟩)))]
 .ret) (s [m 19 1, q 20 (.bin .eql (t 19) (.const (.string ⟨#[49]⟩))), m 18 20]
 (.cond (t 18) (s [m 21 0, m 22 1, m 4 21, m 5 22]
 .ret) (s [m 24 1, q 25 (.sidx (t 24) (i 0)), q 26 (.bin .eql (t 25) (.const (.int .u8 45))), m 23 26]
 (.cond (t 23) (r [m 27 0, q 28 (k 216 [(t 27)]), m 29 1, q 30 (k 216 [(t 29)]), m 0 28, m 1 30]) .skip)))))))
 (s [m 31 0, m 32 1, q 33 (k 314 [(t 31), (t 32)]), m 6 33]
 (.seq (s [m 34 6, q 35 (.bin .eql (t 34) (.const (.string ⟨#[49]⟩)))]
 (.cond (t 35) (s [m 36 0, m 37 1, m 4 36, m 5 37]
 .ret) .skip))
 (s [m 39 0, m 40 6, q 41 (k 315 [(t 39), (t 40)]), m 38 41, q 42 (.ext (t 38) 0), q 43 (.ext (t 38) 1), m 7 42, m 8 43]
 (s [m 45 1, m 46 6, q 47 (k 315 [(t 45), (t 46)]), m 44 47, q 48 (.ext (t 44) 0), q 49 (.ext (t 44) 1), m 9 48, m 10 49]
 (s [m 50 7, m 51 9, m 4 50, m 5 51]
 .ret)))))))), 52, 6, [.tmp 4, .tmp 5], false, .imm, []⟩
theorem ok265 : FnOk Tryz.prog 265 c265 := okF Tryz.func265 (by kernel_rfl)
def c266 : FnR := ⟨(s [q 6 (.mv (i 0)), q 7 (.mv (i 0)), q 8 (.mv F)]
 (.seq (s [m 13 0, q 14 (.len true (t 13)), m 15 2, q 16 (.bin .gtr (t 14) (t 15)), m 17 16, qg 18 17 false (.mv (t 1)), qg 19 17 false (.len true (t 18)), qg 20 17 false (.mv (t 2)), qg 21 17 false (.bin .gtr (t 19) (t 20)), q 22 (.pick (t 17) T (t 21)), m 23 22, qg 24 23 false (.mv (t 0)), qg 25 23 false (k 316 [(t 24)]), qg 26 23 false (.un .not (t 25)), q 27 (.pick (t 23) T (t 26)), m 28 27, qg 29 28 false (.mv (t 1)), qg 30 28 false (k 316 [(t 29)]), qg 31 28 false (.un .not (t 30)), q 32 (.pick (t 28) T (t 31))]
 (.cond (t 32) (s [q 6 (.mv (i 0)), q 7 (.mv (i 0)), q 8 (.mv F)]
 .ret) .skip))
 (s [m 34 0, q 35 (k 317 [(t 34), (i 10), (i 64)]), m 33 35, q 36 (.ext (t 33) 0), q 37 (.ext (t 33) 1), m 9 36, m 10 37]
 (s [m 39 1, q 40 (k 317 [(t 39), (i 10), (i 64)]), m 38 40, q 41 (.ext (t 38) 0), q 42 (.ext (t 38) 1), m 11 41, m 12 42]
 (s [m 43 9, m 44 11, m 6 43, m 7 44, q 8 (.mv T)]
 .ret))))), 45, 6, [.tmp 6, .tmp 7, .tmp 8], false, .imm, []⟩
theorem ok266 : FnOk Tryz.prog 266 c266 := okF Tryz.func266 (by kernel_rfl)
def c268 : FnR := ⟨(s [q 2 (.alloc [(.bool false), (.slice none 0 0)])]
 (s [m 8 0, q 9 (k 275 [(t 8)]), m 0 9]
 (s [m 10 0, q 11 (.call (.func 318) [(t 10), (.const (.string ⟨#[45]⟩))] i1), m 3 11]
 (s [m 12 3, q 13 (.len true (t 12)), m 14 0, q 15 (.len true (t 14)), q 16 (.bin .lss (t 13) (t 15)), q 17 (.build [(.bool false), (.slice none 0 0)] [(0, 1, (t 16))]), q 4 (.alloc [(.bool false), (.slice none 0 0)]), qn (.store 2 (t 4) (t 17))]
 (.seq (.block 0 (.loop (.seq (s [m 18 3, q 19 (.len true (t 18)), q 20 (.bin .gtr (t 19) (i 0))]
 (.cond (t 20) .skip (.exit 0)))
 (.block 1 (s [m 21 3, q 22 (.len true (t 21)), q 23 (.bin .sub (t 22) (i 9)), q 24 (.mx true (i 0) (t 23)), m 5 24]
 (s [m 26 3, m 27 5, q 28 (.sslice (t 26) (some (t 27)) none), q 29 (k 319 [(t 28), (i 10), (i 32)]), m 25 29, q 30 (.ext (t 25) 0), q 31 (.ext (t 25) 1), m 6 30, m 7 31]
 (s [q 32 (.faddr 1 (t 4)), q 33 (.load false 1 (t 32)), m 34 6, q 35 (.cint .u32 (t 34)), q 36 (.bslice 26 1 [(.int .u32 0)] 1 [(0, (t 35))] false), q 37 (.append 26 1 4 (t 33) (t 36) false), q 38 (.faddr 1 (t 4)), qn (.store 1 (t 38) (t 37))]
 (r [m 39 3, m 40 5, q 41 (.sslice (t 39) none (some (t 40))), m 3 41]))))))))
 (s [q 42 (.faddr 1 (t 4)), q 43 (.load false 1 (t 42)), q 44 (k 320 [(t 43)]), q 45 (.faddr 1 (t 4)), qn (.store 1 (t 45) (t 44))]
 (s [q 46 (.load true 2 (t 4)), qn (.store 2 (t 2) (t 46))]
 .ret))))))), 47, 6, [.cell 2 true 2], false, .imm, []⟩
theorem ok268 : FnOk Tryz.prog 268 c268 := okF Tryz.func268 (by kernel_rfl)
def c271 : FnR := ⟨(s [q 1 (.box (t 0)), q 2 (.mv (i 0))]
 (s [q 3 (.load true 7 (t 1)), q 4 (k 324 [(t 3), (i 3001)]), q 5 (.mx true (i 0) (t 4)), q 6 (.bin .sub (i 3001) (t 5)), m 2 6]
 .ret)), 7, 4, [.tmp 2], false, .imm, []⟩
theorem ok271 : FnOk Tryz.prog 271 c271 := FnOk.of (H := ⟨[], modesTab, []⟩) (d := 4) (own := false) (m := .imm) Tryz.func271 (by kernel_rfl)
def c272 : FnR := ⟨(s [q 1 (.box (t 0)), q 2 (.mv F)]
 (.seq (.block 0 (.loop (.seq (s [q 3 (.faddr 0 (t 1)), q 4 (.load false 1 (t 3)), q 5 (.bin .eql (t 4) (i 4))]
 (.cond (t 5) .skip (.exit 0)))
 (.block 1 (.seq (s [q 6 (.faddr 6 (t 1)), q 7 (.load false 1 (t 6)), q 8 (.len false (t 7)), q 9 (.bin .neq (t 8) (i 2)), m 10 9, qg 11 10 false (.load true 7 (t 1)), qg 12 10 false (k 325 [(t 11), F, F, F]), qg 13 10 false (.un .not (t 12)), q 14 (.pick (t 10) T (t 13)), m 15 14, qg 16 15 false (.faddr 6 (t 1)), qg 17 15 false (.load false 1 (t 16)), qg 18 15 false (.iaddr 7 (t 17) (i 0)), qg 19 15 false (.load true 7 (t 18)), qg 20 15 false (k 272 [(t 19)]), qg 21 15 false (.un .not (t 20)), q 22 (.pick (t 15) T (t 21))]
 (.cond (t 22) (s [q 2 (.mv F)]
 .ret) .skip))
 (r [q 23 (.faddr 6 (t 1)), q 24 (.load false 1 (t 23)), q 25 (.iaddr 7 (t 24) (i 1)), q 26 (.load true 7 (t 25)), qn (.store 7 (t 1) (t 26))]))))))
 (.seq (s [q 27 (.faddr 0 (t 1)), q 28 (.load false 1 (t 27))]
 (.block 2 (s [q 30 (.bin .eql (t 28) (i 1)), m 29 30]
 (.cond (t 29) (s [q 31 (.load true 7 (t 1)), q 32 (k 325 [(t 31), T, F, F]), m 33 32, qg 34 33 true (.faddr 6 (t 1)), qg 35 33 true (.load false 1 (t 34)), qg 36 33 true (.len false (t 35)), qg 37 33 true (.bin .eql (t 36) (i 0)), q 38 (.pick (t 33) (t 37) F), m 39 38, qg 40 39 true (.faddr 1 (t 1)), qg 41 39 true (.load false 1 (t 40)), qg 42 39 true (.faddr 2 (t 1)), qg 43 39 true (.load false 1 (t 42)), qg 44 39 true (k 326 [(t 41), (t 43)]), q 45 (.pick (t 39) (t 44) F), m 2 45]
 .ret) (s [q 47 (.bin .eql (t 28) (i 2)), m 46 47]
 (.cond (t 46) (s [q 48 (.load true 7 (t 1)), q 49 (k 325 [(t 48), F, T, F]), m 50 49, qg 51 50 true (.faddr 6 (t 1)), qg 52 50 true (.load false 1 (t 51)), qg 53 50 true (.len false (t 52)), qg 54 50 true (.bin .eql (t 53) (i 0)), q 55 (.pick (t 50) (t 54) F), m 56 55, qg 57 56 true (.faddr 3 (t 1)), qg 58 56 true (.load true 2 (t 57)), qg 59 56 true (k 327 [(t 58)]), q 60 (.pick (t 56) (t 59) F), m 2 60]
 .ret) (s [q 62 (.bin .eql (t 28) (i 3)), m 61 62]
 (.cond (t 61) (s [q 63 (.load true 7 (t 1)), q 64 (k 325 [(t 63), F, F, T]), m 65 64, qg 66 65 true (.faddr 6 (t 1)), qg 67 65 true (.load false 1 (t 66)), qg 68 65 true (.len false (t 67)), qg 69 65 true (.bin .eql (t 68) (i 0)), q 70 (.pick (t 65) (t 69) F), m 71 70, qg 72 71 true (.faddr 5 (t 1)), qg 73 71 true (.load false 1 (t 72)), qg 74 71 true (.len true (t 73)), qg 75 71 true (.bin .leq (t 74) (i 200)), q 76 (.pick (t 71) (t 75) F), m 2 76]
 .ret) .skip))))))))
 (s [q 2 (.mv F)]
 .ret)))), 77, 7, [.tmp 2], false, .imm, []⟩
theorem ok272 : FnOk Tryz.prog 272 c272 := FnOk.of (H := ⟨[], modesTab, []⟩) (d := 7) (own := false) (m := .imm) Tryz.func272 (by kernel_rfl)
def c273 : FnR := ⟨(s [q 2 (.box (t 0)), q 3 (.box (t 1)), q 4 (.mv F)]
 (s [q 5 (.faddr 0 (t 2)), q 6 (.load false 1 (t 5)), q 7 (.faddr 0 (t 3)), q 8 (.load false 1 (t 7)), q 9 (.bin .eql (t 6) (t 8)), m 10 9, qg 11 10 true (.faddr 1 (t 2)), qg 12 10 true (.load true 2 (t 11)), qg 13 10 true (.faddr 1 (t 3)), qg 14 10 true (.load true 2 (t 13)), qg 15 10 true (.eqs false (t 12) (t 14)), q 16 (.pick (t 10) (t 15) F), m 17 16, qg 18 17 true (.faddr 3 (t 2)), qg 19 17 true (.load true 7 (t 18)), qg 20 17 true (.faddr 3 (t 3)), qg 21 17 true (.load true 7 (t 20)), qg 22 17 true (k 207 [(t 19), (t 21)]), q 23 (.pick (t 17) (t 22) F), m 24 23, qg 25 24 true (.faddr 10 (t 2)), qg 26 24 true (.load false 1 (t 25)), qg 27 24 true (.faddr 10 (t 3)), qg 28 24 true (.load false 1 (t 27)), qg 29 24 true (k 328 [(t 26), (t 28), (.func 273)]), q 30 (.pick (t 24) (t 29) F), m 4 30]
 .ret)), 31, 5, [.tmp 4], false, .imm, []⟩
theorem ok273 : FnOk Tryz.prog 273 c273 := FnOk.of (H := ⟨[], modesTab, []⟩) (d := 5) (own := false) (m := .imm) Tryz.func273 (by kernel_rfl)
def c274 : FnR := ⟨(s [q 4 (.mv O)]
 (.seq (s [m 9 0, m 10 1, q 11 (k 266 [(t 9), (t 10), (i 18)]), m 8 11, q 12 (.ext (t 8) 0), q 13 (.ext (t 8) 1), q 14 (.ext (t 8) 2), m 5 12, m 6 13, m 7 14]
 (s [m 15 7]
 (.cond (t 15) (s [m 16 5, m 17 6, q 18 (.bin .add (t 16) (t 17)), q 19 (k 267 [(t 18), (i 10)]), m 4 19]
 .ret) .skip)))
 (s [m 20 0, q 21 (k 268 [(t 20)]), m 22 1, q 23 (k 268 [(t 22)]), q 24 (k 329 [(t 21), (t 23)]), q 25 (k 270 [(t 24)]), m 4 25]
 .ret))), 26, 5, [.tmp 4], false, .imm, []⟩
theorem ok274 : FnOk Tryz.prog 274 c274 := FnOk.of (H := ⟨[], modesTab, []⟩) (d := 5) (own := false) (m := .imm) Tryz.func274 (by kernel_rfl)
def c275 : FnR := ⟨(s [q 2 (.mv O)]
 (.seq (s [m 3 0, q 4 (k 316 [(t 3)])]
 (.cond (t 4) (s [m 5 0, m 2 5]
 .ret) .skip))
 (s [q 2 (.mv (.const (.string ⟨#[48]⟩)))]
 .ret))), 6, 4, [.tmp 2], false, .imm, []⟩
theorem ok275 : FnOk Tryz.prog 275 c275 := FnOk.of (H := ⟨[], modesTab, []⟩) (d := 4) (own := false) (m := .imm) Tryz.func275 (by kernel_rfl)
def c276 : FnR := ⟨(s [q 4 (.mv (i 0))]
 (.seq (s [m 6 0, q 7 (.len false (t 6)), m 8 1, q 9 (.len false (t 8)), q 10 (.bin .neq (t 7) (t 9))]
 (.cond (t 10) (.seq (s [m 11 0, q 12 (.len false (t 11)), m 13 1, q 14 (.len false (t 13)), q 15 (.bin .lss (t 12) (t 14))]
 (.cond (t 15) (s [q 4 (.mv (i (-1)))]
 .ret) .skip))
 (s [q 4 (.mv (i 1))]
 .ret)) .skip))
 (.seq (s [m 16 0, q 17 (.len false (t 16)), q 18 (.bin .sub (t 17) (i 1)), m 5 18]
 (.block 0 (.loop (.seq (s [m 19 5, q 20 (.bin .geq (t 19) (i 0))]
 (.cond (t 20) .skip (.exit 0)))
 (.seq (.block 1 (.seq (.seq (.region true [
  m 23 0,
  m 24 5,
  q 25 (.iaddr 1 (t 23) (t 24)),
  q 26 (.load false 1 (t 25)),
  m 27 1,
  m 28 5,
  q 29 (.iaddr 1 (t 27) (t 28)),
  q 30 (.load false 1 (t 29)),
  q 31 (.bin .lss (t 26) (t 30))])
 (.cond (t 31) (s [q 4 (.mv (i (-1)))]
 .ret) .skip))
 (.seq (.region true [
  m 32 0,
  m 33 5,
  q 34 (.iaddr 1 (t 32) (t 33)),
  q 35 (.load false 1 (t 34)),
  m 36 1,
  m 37 5,
  q 38 (.iaddr 1 (t 36) (t 37)),
  q 39 (.load false 1 (t 38)),
  q 40 (.bin .gtr (t 35) (t 39))])
 (.cond (t 40) (s [q 4 (.mv (i 1))]
 .ret) .skip))))
 (r [m 21 5, q 22 (.bin .sub (t 21) (i 1)), m 5 22]))))))
 (s [q 4 (.mv (i 0))]
 .ret)))), 41, 6, [.tmp 4], false, .imm, []⟩
theorem ok276 : FnOk Tryz.prog 276 c276 := okF Tryz.func276 (by kernel_rfl)
def c277 : FnR := ⟨(s [q 4 (.mv E)]
 (s [q 5 (.mv E)]
 (s [q 6 (.mv (i 0))]
 (.seq (s [q 7 (.mv (i 0))]
 (.block 0 (.loop (.seq (s [m 9 7, m 10 0, q 11 (.len false (t 10)), q 12 (.bin .lss (t 9) (t 11))]
 (.cond (t 12) .skip (.exit 0)))
 (.seq (.block 1 (s [m 15 0, m 16 7, q 17 (.iaddr 1 (t 15) (t 16)), q 18 (.load false 1 (t 17)), m 19 6, q 20 (.bin .sub (t 18) (t 19)), m 8 20]
 (.seq (s [m 21 7, m 22 1, q 23 (.len false (t 22)), q 24 (.bin .lss (t 21) (t 23))]
 (.cond (t 24) (r [m 25 8, m 26 1, m 27 7, q 28 (.iaddr 1 (t 26) (t 27)), q 29 (.load false 1 (t 28)), q 30 (.bin .sub (t 25) (t 29)), m 8 30]) .skip))
 (s [q 6 (.mv (i 0))]
 (.seq (s [m 31 8, q 32 (.bin .lss (t 31) (i 0))]
 (.cond (t 32) (s [m 33 8, q 34 (.bin .add (t 33) (i 10)), m 8 34]
 (r [q 6 (.mv (i 1))])) .skip))
 (r [m 35 5, m 36 8, q 37 (.bslice 3 1 [(.int .i64 0)] 1 [(0, (t 36))] false), q 38 (.append 3 1 8 (t 35) (t 37) false), m 5 38]))))))
 (r [m 13 7, q 14 (.bin .add (t 13) (i 1)), m 7 14]))))))
 (s [m 39 5, q 40 (k 230 [(t 39)]), m 4 40]
 .ret))))), 41, 6, [.tmp 4], false, .imm, []⟩
theorem ok277 : FnOk Tryz.prog 277 c277 := okF Tryz.func277 (by kernel_rfl)
def c278 : FnR := ⟨(s [q 4 (.mv E)]
 (s [q 5 (.mv E)]
 (s [q 6 (.mv (i 0))]
 (.seq (s [q 7 (.mv (i 0))]
 (.block 0 (.loop (.seq (s [m 9 7, m 10 0, q 11 (.len false (t 10)), q 12 (.bin .lss (t 9) (t 11)), m 13 12, qg 14 13 false (.mv (t 7)), qg 15 13 false (.mv (t 1)), qg 16 13 false (.len false (t 15)), qg 17 13 false (.bin .lss (t 14) (t 16)), q 18 (.pick (t 13) T (t 17)), m 19 18, qg 20 19 false (.mv (t 6)), qg 21 19 false (.bin .gtr (t 20) (i 0)), q 22 (.pick (t 19) T (t 21))]
 (.cond (t 22) .skip (.exit 0)))
 (.seq (.block 1 (s [m 25 6, m 8 25]
 (.seq (s [m 26 7, m 27 0, q 28 (.len false (t 27)), q 29 (.bin .lss (t 26) (t 28))]
 (.cond (t 29) (r [m 30 8, m 31 0, m 32 7, q 33 (.iaddr 1 (t 31) (t 32)), q 34 (.load false 1 (t 33)), q 35 (.bin .add (t 30) (t 34)), m 8 35]) .skip))
 (.seq (s [m 36 7, m 37 1, q 38 (.len false (t 37)), q 39 (.bin .lss (t 36) (t 38))]
 (.cond (t 39) (r [m 40 8, m 41 1, m 42 7, q 43 (.iaddr 1 (t 41) (t 42)), q 44 (.load false 1 (t 43)), q 45 (.bin .add (t 40) (t 44)), m 8 45]) .skip))
 (s [m 46 5, m 47 8, q 48 (.bin .rem (t 47) (i 10)), q 49 (.bslice 3 1 [(.int .i64 0)] 1 [(0, (t 48))] false), q 50 (.append 3 1 8 (t 46) (t 49) false), m 5 50]
 (r [m 51 8, q 52 (.bin .quo (t 51) (i 10)), m 6 52]))))))
 (r [m 23 7, q 24 (.bin .add (t 23) (i 1)), m 7 24]))))))
 (s [m 53 5, m 4 53]
 .ret))))), 54, 6, [.tmp 4], false, .imm, []⟩
theorem ok278 : FnOk Tryz.prog 278 c278 := okF Tryz.func278 (by kernel_rfl)
def c279 : FnR := ⟨(s [m 10 1, q 11 (.bin .add (t 10) (i 1)), m 8 11]
 (.block 0 (.loop (.seq (s [m 12 8, m 13 2, q 14 (.bin .lss (t 12) (t 13))]
 (.cond (t 14) .skip (.exit 0)))
 (.seq (.block 1 (s [m 17 8, m 9 17]
 (.block 2 (.loop (.seq (.seq (.region true [
  m 18 9,
  m 19 1,
  q 20 (.bin .gtr (t 18) (t 19)),
  m 21 20,
  qg 22 21 true (.mv (t 3)),
  qg 23 21 true (.mv (t 0)),
  qg 24 21 true (.mv (t 9)),
  ⟨some 25, some (21, true), .iaddr 11 (t 23) (t 24), [0], []⟩,
  ⟨some 26, some (21, true), .load true 11 (t 25), [0], []⟩,
  qg 27 21 true (.mv (t 0)),
  qg 28 21 true (.mv (t 9)),
  qg 29 21 true (.bin .sub (t 28) (i 1)),
  ⟨some 30, some (21, true), .iaddr 11 (t 27) (t 29), [0], []⟩,
  ⟨some 31, some (21, true), .load true 11 (t 30), [0], []⟩,
  ⟨some 32, some (21, true), .call (t 22) [(t 26), (t 31)] i1, [], [32]⟩,
  qg 33 21 true (.bin .lss (t 32) (i 0)),
  q 34 (.pick (t 21) (t 33) F)])
 (.cond (t 34) .skip (.exit 2)))
 (.seq (.block 3 (.region true [
  m 37 0,
  m 38 9,
  m 39 0,
  m 40 9,
  q 41 (.bin .sub (t 40) (i 1)),
  m 42 0,
  m 43 9,
  q 44 (.bin .sub (t 43) (i 1)),
  ⟨some 45, none, .iaddr 11 (t 42) (t 44), [0], []⟩,
  ⟨some 46, none, .load true 11 (t 45), [0], []⟩,
  m 47 0,
  m 48 9,
  ⟨some 49, none, .iaddr 11 (t 47) (t 48), [0], []⟩,
  ⟨some 50, none, .load true 11 (t 49), [0], []⟩,
  ⟨some 51, none, .iaddr 11 (t 37) (t 38), [0], []⟩,
  ⟨none, none, .store 11 (t 51) (t 46), [0], [0]⟩,
  ⟨some 52, none, .iaddr 11 (t 39) (t 41), [0], []⟩,
  ⟨none, none, .store 11 (t 52) (t 50), [0], [0]⟩]))
 (r [m 35 9, q 36 (.bin .sub (t 35) (i 1)), m 9 36])))))))
 (r [m 15 8, q 16 (.bin .add (t 15) (i 1)), m 8 16])))))), 53, 6, [], false, .inout, []⟩
theorem ok279 : FnOk Tryz.prog 279 c279 := FnOk.of (H := ⟨[0], modesTab, [(23, [0]), (25, [0]), (27, [0]), (30, [0]), (37, [0]), (39, [0]), (42, [0]), (45, [0]), (47, [0]), (49, [0]), (51, [0]), (52, [0])]⟩) (d := 6) (own := false) (m := .inout) Tryz.func279 (by kernel_rfl)
def c281 : FnR := ⟨(s [q 4 (.mv (i 0))]
 (s [m 7 0, q 8 (k 331 [(t 7)]), m 5 8]
 (s [m 9 1, q 10 (k 331 [(t 9)]), m 6 10]
 (.seq (s [m 11 5]
 (.cond (t 11) (.seq (s [m 12 6]
 (.cond (t 12) (s [q 4 (.mv (i 0))]
 .ret) .skip))
 (s [q 4 (.mv (i (-1)))]
 .ret)) .skip))
 (.seq (s [m 13 6]
 (.cond (t 13) (s [q 4 (.mv (i 1))]
 .ret) .skip))
 (.seq (s [m 14 0, m 15 1, q 16 (.bin .lss (t 14) (t 15))]
 (.cond (t 16) (s [q 4 (.mv (i (-1)))]
 .ret) .skip))
 (.seq (s [m 17 0, m 18 1, q 19 (.bin .gtr (t 17) (t 18))]
 (.cond (t 19) (s [q 4 (.mv (i 1))]
 .ret) .skip))
 (s [q 4 (.mv (i 0))]
 .ret)))))))), 20, 5, [.tmp 4], false, .imm, []⟩
theorem ok281 : FnOk Tryz.prog 281 c281 := FnOk.of (H := ⟨[], modesTab, []⟩) (d := 5) (own := false) (m := .imm) Tryz.func281 (by kernel_rfl)
def c283 : FnR := ⟨(s [q 2 (.box (t 0)), q 3 (.box (t 1)), q 4 (.mv (i 0))]
 (.seq (s [q 6 (.faddr 1 (t 2)), q 7 (.load false 1 (t 6)), q 8 (.faddr 1 (t 3)), q 9 (.load false 1 (t 8)), q 10 (k 334 [(t 7), (t 9)]), m 5 10]
 (s [m 11 5, q 12 (.bin .neq (t 11) (i 0))]
 (.cond (t 12) (s [m 13 5, m 4 13]
 .ret) .skip)))
 (s [q 14 (.faddr 0 (t 2)), q 15 (.load false 1 (t 14)), q 16 (.faddr 0 (t 3)), q 17 (.load false 1 (t 16)), q 18 (k 334 [(t 15), (t 17)]), m 4 18]
 .ret))), 19, 5, [.tmp 4], false, .imm, []⟩
theorem ok283 : FnOk Tryz.prog 283 c283 := FnOk.of (H := ⟨[], modesTab, []⟩) (d := 5) (own := false) (m := .imm) Tryz.func283 (by kernel_rfl)
def c284 : FnR := ⟨(s [q 6 (.mv (i 20))]
 (s [m 10 6, q 7 (.mv (i 0)), m 8 10]
 (.seq (.block 0 (.loop (.seq (s [m 11 8, m 12 1, q 13 (.bin .leq (t 11) (t 12))]
 (.cond (t 13) .skip (.exit 0)))
 (.block 1 (s [m 14 0, m 15 7, m 16 8, m 17 2, q 18 (.call (.func 335) [(t 14), (t 15), (t 16), (t 17)] [.inout])]
 (s [m 19 8, m 7 19]
 (r [m 20 8, m 21 6, q 22 (.bin .add (t 20) (t 21)), m 8 22])))))))
 (s [m 23 0, m 24 7, m 25 1, m 26 2, q 27 (.call (.func 335) [(t 23), (t 24), (t 25), (t 26)] [.inout])]
 (.block 2 (.loop (.seq (s [m 28 6, m 29 1, q 30 (.bin .lss (t 28) (t 29))]
 (.cond (t 30) .skip (.exit 2)))
 (.block 3 (s [m 31 6, q 32 (.bin .mul (i 2) (t 31)), q 7 (.mv (i 0)), m 8 32]
 (.seq (.block 4 (.loop (.seq (s [m 33 8, m 34 1, q 35 (.bin .leq (t 33) (t 34))]
 (.cond (t 35) .skip (.exit 4)))
 (.block 5 (s [m 36 0, m 37 7, m 38 7, m 39 6, q 40 (.bin .add (t 38) (t 39)), m 41 8, m 42 2, q 43 (.call (.func 336) [(t 36), (t 37), (t 40), (t 41), (t 42)] [.inout])]
 (s [m 44 8, m 7 44]
 (r [m 45 8, m 46 6, q 47 (.bin .mul (i 2) (t 46)), q 48 (.bin .add (t 45) (t 47)), m 8 48])))))))
 (.seq (s [m 49 7, m 50 6, q 51 (.bin .add (t 49) (t 50)), m 9 51]
 (s [m 52 9, m 53 1, q 54 (.bin .lss (t 52) (t 53))]
 (.cond (t 54) (r [m 55 0, m 56 7, m 57 9, m 58 1, m 59 2, q 60 (.call (.func 336) [(t 55), (t 56), (t 57), (t 58), (t 59)] [.inout])]) .skip)))
 (r [m 61 6, q 62 (.bin .mul (t 61) (i 2)), m 6 62])))))))))))), 63, 6, [], false, .inout, []⟩
theorem ok284 : FnOk Tryz.prog 284 c284 := FnOk.of (H := ⟨[0], modesTab, []⟩) (d := 6) (own := false) (m := .inout) Tryz.func284 (by kernel_rfl)
def c285 : FnR := ⟨(s [q 6 (.mv (i 0))]
 (.seq (s [m 11 0, q 12 (.len false (t 11)), q 13 (.mv (i 0))]
 (.block 0 (.loop (s [q 14 (.bin .lss (t 13) (t 12))]
 (.seq (.cond (t 14) .skip (.exit 0))
 (.seq (.block 1 (s [m 15 13, q 16 (.iaddr 11 (t 11) (t 13)), q 17 (.load true 11 (t 16)), q 8 (.alloc a11), m 7 15, qn (.store 11 (t 8) (t 17))]
 (.seq (s [m 18 7, m 19 1, q 20 (.len false (t 19)), q 21 (.bin .geq (t 18) (t 20))]
 (.cond (t 21) (s [q 6 (.mv (i 1))]
 .ret) .skip))
 (s [m 22 1, m 23 7, q 24 (.iaddr 11 (t 22) (t 23)), q 25 (.load true 11 (t 24)), q 9 (.alloc a11), qn (.store 11 (t 9) (t 25))]
 (s [m 26 2, q 27 (.load true 11 (t 8)), q 28 (.load true 11 (t 9)), q 29 (.call (t 26) [(t 27), (t 28)] i1), m 10 29]
 (s [m 30 10, q 31 (.bin .neq (t 30) (i 0))]
 (.cond (t 31) (s [m 32 10, m 6 32]
 .ret) .skip)))))))
 (r [q 33 (.bin .add (t 13) (i 1)), m 13 33])))))))
 (.seq (s [m 34 0, q 35 (.len false (t 34)), m 36 1, q 37 (.len false (t 36)), q 38 (.bin .lss (t 35) (t 37))]
 (.cond (t 38) (s [q 6 (.mv (i (-1)))]
 .ret) .skip))
 (s [q 6 (.mv (i 0))]
 .ret)))), 39, 6, [.tmp 6], false, .imm, []⟩
theorem ok285 : FnOk Tryz.prog 285 c285 := okF Tryz.func285 (by kernel_rfl)
def c286 : FnR := ⟨(s [q 4 (.mv (i 0))]
 (.seq (s [m 6 0, q 7 (.len false (t 6)), q 8 (.mv (i 0))]
 (.block 0 (.loop (s [q 9 (.bin .lss (t 8) (t 7))]
 (.seq (.cond (t 9) .skip (.exit 0))
 (.seq (.block 1 (s [m 10 8, m 5 10]
 (s [m 11 1, m 12 0, m 13 5, q 14 (.iaddr 8 (t 12) (t 13)), q 15 (.load true 8 (t 14)), q 16 (.call (t 11) [(t 15)] i1)]
 (.cond (t 16) (s [m 17 5, m 4 17]
 .ret) .skip))))
 (r [q 18 (.bin .add (t 8) (i 1)), m 8 18])))))))
 (s [q 4 (.mv (i (-1)))]
 .ret))), 19, 5, [.tmp 4], false, .inout, []⟩
theorem ok286 : FnOk Tryz.prog 286 c286 := FnOk.of (H := ⟨[], modesTab, []⟩) (d := 5) (own := false) (m := .inout) Tryz.func286 (by kernel_rfl)
def c292 : FnR := ⟨(s [q 1 (.box (t 0)), q 2 (.mv F)]
 (s [q 3 (.load true 2 (t 1)), q 4 (k 172 [(t 3)]), m 2 4]
 .ret)), 5, 4, [.tmp 2], false, .imm, []⟩
theorem ok292 : FnOk Tryz.prog 292 c292 := FnOk.of (H := ⟨[], modesTab, []⟩) (d := 4) (own := false) (m := .imm) Tryz.func292 (by kernel_rfl)
def c307 : FnR := ⟨(s [q 2 (.box (t 0)), q 4 (.mv (i 0))]
 (.seq (s [q 8 (.faddr 0 (t 2)), q 9 (.load false 1 (t 8)), q 10 (.bin .eql (t 9) (i 2))]
 (.cond (t 10) (s [m 11 1, q 12 (.faddr 3 (t 2)), q 13 (.load true 7 (t 12)), q 14 (k 106 [(t 13)]), q 15 (.mx false (t 11) (t 14)), m 4 15]
 .ret) .skip))
 (s [q 5 (.mv (i 1))]
 (s [q 16 (.load true 11 (t 2)), q 17 (k 141 [(t 16)]), m 6 17]
 (.seq (s [q 7 (.mv (i 0))]
 (.block 0 (.loop (.seq (s [m 18 7, m 19 6, q 20 (.len false (t 19)), q 21 (.bin .lss (t 18) (t 20)), m 22 21, qg 23 22 true (.mv (t 5)), qg 24 22 true (.mv (t 1)), qg 25 22 true (.bin .lss (t 23) (t 24)), q 26 (.pick (t 22) (t 25) F)]
 (.cond (t 26) .skip (.exit 0)))
 (.seq (.block 1 (r [m 29 5, m 30 6, m 31 7, q 32 (.iaddr 11 (t 30) (t 31)), q 33 (.load true 11 (t 32)), m 34 1, m 35 5, q 36 (.bin .sub (t 34) (t 35)), q 37 (k 307 [(t 33), (t 36)]), q 38 (.bin .add (t 29) (t 37)), m 5 38]))
 (r [m 27 7, q 28 (.bin .add (t 27) (i 1)), m 7 28]))))))
 (s [m 39 5, m 4 39]
 .ret)))))), 40, 6, [.tmp 4], false, .imm, []⟩
theorem ok307 : FnOk Tryz.prog 307 c307 := okF Tryz.func307 (by kernel_rfl)
def c308 : FnR := ⟨(s [q 2 (.box (t 0)), q 4 (.mv (i 0))]
 (s [q 5 (.mv (i 0))]
 (s [q 8 (.load true 11 (t 2)), q 9 (k 141 [(t 8)]), m 6 9]
 (.seq (s [q 7 (.mv (i 0))]
 (.block 0 (.loop (.seq (s [m 10 7, m 11 6, q 12 (.len false (t 11)), q 13 (.bin .lss (t 10) (t 12)), m 14 13, qg 15 14 true (.mv (t 1)), qg 16 14 true (.bin .gtr (t 15) (i 1)), q 17 (.pick (t 14) (t 16) F)]
 (.cond (t 17) .skip (.exit 0)))
 (.seq (.block 1 (r [m 20 5, m 21 6, m 22 7, q 23 (.iaddr 11 (t 21) (t 22)), q 24 (.load true 11 (t 23)), m 25 1, q 26 (.bin .sub (t 25) (i 1)), q 27 (k 308 [(t 24), (t 26)]), q 28 (.mx true (t 20) (t 27)), m 5 28]))
 (r [m 18 7, q 19 (.bin .add (t 18) (i 1)), m 7 19]))))))
 (s [m 29 5, q 30 (.bin .add (t 29) (i 1)), m 4 30]
 .ret))))), 31, 5, [.tmp 4], false, .imm, []⟩
theorem ok308 : FnOk Tryz.prog 308 c308 := FnOk.of (H := ⟨[], modesTab, []⟩) (d := 5) (own := false) (m := .imm) Tryz.func308 (by kernel_rfl)
def c313 : FnR := ⟨(s [q 4 (.mv (i 0))]
 (.seq (s [m 6 0, q 7 (.len false (t 6)), m 8 1, q 9 (.len false (t 8)), q 10 (.bin .neq (t 7) (t 9))]
 (.cond (t 10) (.seq (s [m 11 0, q 12 (.len false (t 11)), m 13 1, q 14 (.len false (t 13)), q 15 (.bin .lss (t 12) (t 14))]
 (.cond (t 15) (s [q 4 (.mv (i (-1)))]
 .ret) .skip))
 (s [q 4 (.mv (i 1))]
 .ret)) .skip))
 (.seq (s [m 16 0, q 17 (.len false (t 16)), q 18 (.bin .sub (t 17) (i 1)), m 5 18]
 (.block 0 (.loop (.seq (s [m 19 5, q 20 (.bin .geq (t 19) (i 0))]
 (.cond (t 20) .skip (.exit 0)))
 (.seq (.block 1 (.seq (.region true [
  m 23 0,
  m 24 5,
  q 25 (.iaddr 1 (t 23) (t 24)),
  q 26 (.load false 1 (t 25)),
  m 27 1,
  m 28 5,
  q 29 (.iaddr 1 (t 27) (t 28)),
  q 30 (.load false 1 (t 29)),
  q 31 (.bin .neq (t 26) (t 30))])
 (.cond (t 31) (.seq (.seq (.region true [
  m 32 0,
  m 33 5,
  q 34 (.iaddr 1 (t 32) (t 33)),
  q 35 (.load false 1 (t 34)),
  m 36 1,
  m 37 5,
  q 38 (.iaddr 1 (t 36) (t 37)),
  q 39 (.load false 1 (t 38)),
  q 40 (.bin .lss (t 35) (t 39))])
 (.cond (t 40) (s [q 4 (.mv (i (-1)))]
 .ret) .skip))
 (s [q 4 (.mv (i 1))]
 .ret)) .skip)))
 (r [m 21 5, q 22 (.bin .sub (t 21) (i 1)), m 5 22]))))))
 (s [q 4 (.mv (i 0))]
 .ret)))), 41, 6, [.tmp 4], false, .imm, []⟩
theorem ok313 : FnOk Tryz.prog 313 c313 := okF Tryz.func313 (by kernel_rfl)
def c316 : FnR := ⟨(s [q 2 (.mv F)]
 (s [m 5 0, q 6 (.call (.func 318) [(t 5), (.const (.string ⟨#[45]⟩))] i1), m 3 6]
 (.seq (s [m 7 3, q 8 (.bin .eql (t 7) O), m 9 8, qg 10 9 false (.mv (t 3)), qg 11 9 false (.sidx (t 10) (i 0)), qg 12 9 false (.bin .eql (t 11) (.const (.int .u8 48))), q 13 (.pick (t 9) T (t 12))]
 (.cond (t 13) (s [m 14 0, q 15 (.bin .eql (t 14) (.const (.string ⟨#[48]⟩))), m 2 15]
 .ret) .skip))
 (.seq (s [m 16 3, q 17 (.len true (t 16)), q 18 (.mv (i 0))]
 (.block 0 (.loop (s [q 19 (.bin .lss (t 18) (t 17))]
 (.seq (.cond (t 19) .skip (.exit 0))
 (.seq (.block 1 (s [m 20 18, m 4 20]
 (s [m 21 3, m 22 4, q 23 (.sidx (t 21) (t 22)), q 24 (.bin .lss (t 23) (.const (.int .u8 48))), m 25 24, qg 26 25 false (.mv (t 3)), qg 27 25 false (.mv (t 4)), qg 28 25 false (.sidx (t 26) (t 27)), qg 29 25 false (.bin .gtr (t 28) (.const (.int .u8 57))), q 30 (.pick (t 25) T (t 29))]
 (.cond (t 30) (s [q 2 (.mv F)]
 .ret) .skip))))
 (r [q 31 (.bin .add (t 18) (i 1)), m 18 31])))))))
 (s [q 2 (.mv T)]
 .ret))))), 32, 5, [.tmp 2], false, .imm, []⟩
theorem ok316 : FnOk Tryz.prog 316 c316 := FnOk.of (H := ⟨[], modesTab, []⟩) (d := 5) (own := false) (m := .imm) Tryz.func316 (by kernel_rfl)
def c318 : FnR := ⟨(s [q 4 (.mv O)]
 (s [m 5 0, m 6 1, q 7 (k 352 [(t 5), (t 6)]), m 4 7]
 .ret)), 8, 4, [.tmp 4], false, .imm, []⟩
theorem ok318 : FnOk Tryz.prog 318 c318 := FnOk.of (H := ⟨[], modesTab, []⟩) (d := 4) (own := false) (m := .imm) Tryz.func318 (by kernel_rfl)
def c320 : FnR := ⟨(s [q 2 (.mv E)]
 (.seq (.block 0 (.loop (.seq (s [m 3 0, q 4 (.len false (t 3)), q 5 (.bin .gtr (t 4) (i 0)), m 6 5, qg 7 6 true (.mv (t 0)), qg 8 6 true (.mv (t 0)), qg 9 6 true (.len false (t 8)), qg 10 6 true (.bin .sub (t 9) (i 1)), qg 11 6 true (.iaddr 1 (t 7) (t 10)), qg 12 6 true (.load false 1 (t 11)), qg 13 6 true (.bin .eql (t 12) (.const (.int .u32 0))), q 14 (.pick (t 6) (t 13) F)]
 (.cond (t 14) .skip (.exit 0)))
 (.block 1 (r [m 15 0, m 16 0, q 17 (.len false (t 16)), q 18 (.bin .sub (t 17) (i 1)), q 19 (.slc 1 (t 15) none (some (t 18))), m 0 19])))))
 (s [m 20 0, m 2 20]
 .ret))), 21, 5, [.tmp 2], false, .imm, []⟩
theorem ok320 : FnOk Tryz.prog 320 c320 := FnOk.of (H := ⟨[], modesTab, []⟩) (d := 5) (own := false) (m := .imm) Tryz.func320 (by kernel_rfl)
def c324 : FnR := ⟨(s [q 2 (.box (t 0)), q 4 (.mv (i 0))]
 (.seq (.block 0 (.loop (.seq (s [m 5 1, q 6 (.bin .gtr (t 5) (i 0)), m 7 6, qg 8 7 true (.faddr 6 (t 2)), qg 9 7 true (.load false 1 (t 8)), qg 10 7 true (.len false (t 9)), qg 11 7 true (.bin .eql (t 10) (i 2)), q 12 (.pick (t 7) (t 11) F)]
 (.cond (t 12) .skip (.exit 0)))
 (.block 1 (s [q 13 (.faddr 6 (t 2)), q 14 (.load false 1 (t 13)), q 15 (.iaddr 7 (t 14) (i 0)), q 16 (.load true 7 (t 15)), m 17 1, q 18 (.bin .sub (t 17) (i 1)), q 19 (k 324 [(t 16), (t 18)]), m 1 19]
 (r [q 20 (.faddr 6 (t 2)), q 21 (.load false 1 (t 20)), q 22 (.iaddr 7 (t 21) (i 1)), q 23 (.load true 7 (t 22)), qn (.store 7 (t 2) (t 23))]))))))
 (s [m 24 1, q 25 (.bin .sub (t 24) (i 1)), m 4 25]
 .ret))), 26, 5, [.tmp 4], false, .imm, []⟩
theorem ok324 : FnOk Tryz.prog 324 c324 := FnOk.of (H := ⟨[], modesTab, []⟩) (d := 5) (own := false) (m := .imm) Tryz.func324 (by kernel_rfl)
def c325 : FnR := ⟨(s [q 4 (.box (t 0)), q 8 (.mv F)]
 (s [m 9 1, m 10 9, qg 11 10 false (.faddr 1 (t 4)), qg 12 10 false (.load false 1 (t 11)), qg 13 10 false (.bin .eql (t 12) O), qg 14 10 false (.mv (t 13)), qg 15 14 true (.faddr 2 (t 4)), qg 16 14 true (.load false 1 (t 15)), qg 17 14 true (.bin .eql (t 16) O), qg 18 10 false (.pick (t 14) (t 17) F), q 19 (.pick (t 10) T (t 18)), m 20 19, qg 21 20 true (.mv (t 2)), qg 22 20 true (.mv (t 21)), qg 23 22 false (.faddr 3 (t 4)), qg 24 22 false (.load true 2 (t 23)), qg 25 22 false (.build [(.string ⟨#[]⟩), (.string ⟨#[]⟩)] []), qg 26 22 false (.eqs false (t 24) (t 25)), qg 27 20 true (.pick (t 22) T (t 26)), q 28 (.pick (t 20) (t 27) F), m 29 28, qg 30 29 true (.mv (t 3)), qg 31 29 true (.mv (t 30)), qg 32 31 false (.faddr 5 (t 4)), qg 33 31 false (.load false 1 (t 32)), qg 34 31 false (.bin .eql (t 33) O), qg 35 29 true (.pick (t 31) T (t 34)), q 36 (.pick (t 29) (t 35) F), m 8 36]
 .ret)), 37, 6, [.tmp 8], false, .imm, []⟩
theorem ok325 : FnOk Tryz.prog 325 c325 := okF Tryz.func325 (by kernel_rfl)
def c326 : FnR := ⟨(s [q 4 (.mv F)]
 (.seq (s [m 7 0, q 8 (k 316 [(t 7)]), q 9 (.un .not (t 8)), m 10 9, qg 11 10 false (.mv (t 1)), qg 12 10 false (k 316 [(t 11)]), qg 13 10 false (.un .not (t 12)), q 14 (.pick (t 10) T (t 13)), m 15 14, qg 16 15 false (.mv (t 0)), qg 17 15 false (k 355 [(t 16)]), qg 18 15 false (.bin .gtr (t 17) (i 100)), q 19 (.pick (t 15) T (t 18)), m 20 19, qg 21 20 false (.mv (t 1)), qg 22 20 false (k 355 [(t 21)]), qg 23 20 false (.bin .gtr (t 22) (i 100)), q 24 (.pick (t 20) T (t 23))]
 (.cond (t 24) (s [q 4 (.mv F)]
 .ret) .skip))
 (s [m 26 0, m 27 1, q 28 (k 265 [(t 26), (t 27)]), m 25 28, q 29 (.ext (t 25) 0), q 30 (.ext (t 25) 1), m 5 29, m 6 30]
 (s [m 31 5, m 32 0, q 33 (.bin .eql (t 31) (t 32)), m 34 33, qg 35 34 true (.mv (t 6)), qg 36 34 true (.mv (t 1)), qg 37 34 true (.bin .eql (t 35) (t 36)), q 38 (.pick (t 34) (t 37) F), m 4 38]
 .ret)))), 39, 6, [.tmp 4], false, .imm, []⟩
theorem ok326 : FnOk Tryz.prog 326 c326 := okF Tryz.func326 (by kernel_rfl)
def c328 : FnR := ⟨(s [q 6 (.mv F)]
 (.seq (s [m 10 0, q 11 (.len false (t 10)), m 12 1, q 13 (.len false (t 12)), q 14 (.bin .neq (t 11) (t 13))]
 (.cond (t 14) (s [q 6 (.mv F)]
 .ret) .skip))
 (.seq (s [m 15 0, q 16 (.len false (t 15)), q 17 (.mv (i 0))]
 (.block 0 (.loop (s [q 18 (.bin .lss (t 17) (t 16))]
 (.seq (.cond (t 18) .skip (.exit 0))
 (.seq (.block 1 (s [m 19 17, q 20 (.iaddr 11 (t 15) (t 17)), q 21 (.load true 11 (t 20)), q 8 (.alloc a11), m 7 19, qn (.store 11 (t 8) (t 21))]
 (s [m 22 1, m 23 7, q 24 (.iaddr 11 (t 22) (t 23)), q 25 (.load true 11 (t 24)), q 9 (.alloc a11), qn (.store 11 (t 9) (t 25))]
 (s [m 26 2, q 27 (.load true 11 (t 8)), q 28 (.load true 11 (t 9)), q 29 (.call (t 26) [(t 27), (t 28)] i1), q 30 (.un .not (t 29))]
 (.cond (t 30) (s [q 6 (.mv F)]
 .ret) .skip)))))
 (r [q 31 (.bin .add (t 17) (i 1)), m 17 31])))))))
 (s [q 6 (.mv T)]
 .ret)))), 32, 5, [.tmp 6], false, .imm, []⟩
theorem ok328 : FnOk Tryz.prog 328 c328 := FnOk.of (H := ⟨[], modesTab, []⟩) (d := 5) (own := false) (m := .imm) Tryz.func328 (by kernel_rfl)
def c331 : FnR := ⟨(s [q 2 (.mv F)]
 (s [m 3 0, m 4 0, q 5 (.bin .neq (t 3) (t 4)), m 2 5]
 .ret)), 6, 4, [.tmp 2], false, .imm, []⟩
theorem ok331 : FnOk Tryz.prog 331 c331 := FnOk.of (H := ⟨[], modesTab, []⟩) (d := 4) (own := false) (m := .imm) Tryz.func331 (by kernel_rfl)
def c335 : FnR := ⟨(s [m 10 1, q 11 (.bin .add (t 10) (i 1)), m 8 11]
 (.block 0 (.loop (.seq (s [m 12 8, m 13 2, q 14 (.bin .lss (t 12) (t 13))]
 (.cond (t 14) .skip (.exit 0)))
 (.seq (.block 1 (s [m 17 8, m 9 17]
 (.block 2 (.loop (.seq (.seq (.region true [
  m 18 9,
  m 19 1,
  q 20 (.bin .gtr (t 18) (t 19)),
  m 21 20,
  qg 22 21 true (.mv (t 3)),
  qg 23 21 true (.mv (t 0)),
  qg 24 21 true (.mv (t 9)),
  ⟨some 25, some (21, true), .iaddr 8 (t 23) (t 24), [0], []⟩,
  ⟨some 26, some (21, true), .load true 8 (t 25), [0], []⟩,
  qg 27 21 true (.mv (t 0)),
  qg 28 21 true (.mv (t 9)),
  qg 29 21 true (.bin .sub (t 28) (i 1)),
  ⟨some 30, some (21, true), .iaddr 8 (t 27) (t 29), [0], []⟩,
  ⟨some 31, some (21, true), .load true 8 (t 30), [0], []⟩,
  ⟨some 32, some (21, true), .call (t 22) [(t 26), (t 31)] i1, [], [32]⟩,
  qg 33 21 true (.bin .lss (t 32) (i 0)),
  q 34 (.pick (t 21) (t 33) F)])
 (.cond (t 34) .skip (.exit 2)))
 (.seq (.block 3 (.region true [
  m 37 0,
  m 38 9,
  m 39 0,
  m 40 9,
  q 41 (.bin .sub (t 40) (i 1)),
  m 42 0,
  m 43 9,
  q 44 (.bin .sub (t 43) (i 1)),
  ⟨some 45, none, .iaddr 8 (t 42) (t 44), [0], []⟩,
  ⟨some 46, none, .load true 8 (t 45), [0], []⟩,
  m 47 0,
  m 48 9,
  ⟨some 49, none, .iaddr 8 (t 47) (t 48), [0], []⟩,
  ⟨some 50, none, .load true 8 (t 49), [0], []⟩,
  ⟨some 51, none, .iaddr 8 (t 37) (t 38), [0], []⟩,
  ⟨none, none, .store 8 (t 51) (t 46), [0], [0]⟩,
  ⟨some 52, none, .iaddr 8 (t 39) (t 41), [0], []⟩,
  ⟨none, none, .store 8 (t 52) (t 50), [0], [0]⟩]))
 (r [m 35 9, q 36 (.bin .sub (t 35) (i 1)), m 9 36])))))))
 (r [m 15 8, q 16 (.bin .add (t 15) (i 1)), m 8 16])))))), 53, 6, [], false, .inout, []⟩
theorem ok335 : FnOk Tryz.prog 335 c335 := FnOk.of (H := ⟨[0], modesTab, [(23, [0]), (25, [0]), (27, [0]), (30, [0]), (37, [0]), (39, [0]), (42, [0]), (45, [0]), (47, [0]), (49, [0]), (51, [0]), (52, [0])]⟩) (d := 6) (own := false) (m := .inout) Tryz.func335 (by kernel_rfl)
def c352 : FnR := ⟨(s [q 4 (.mv O)]
 (.seq (s [m 5 0, m 6 1, q 7 (k 367 [(t 5), (t 6)])]
 (.cond (t 7) (s [m 8 0, m 9 1, q 10 (.len true (t 9)), q 11 (.sslice (t 8) (some (t 10)) none), m 4 11]
 .ret) .skip))
 (s [m 12 0, m 4 12]
 .ret))), 13, 4, [.tmp 4], false, .imm, []⟩
theorem ok352 : FnOk Tryz.prog 352 c352 := FnOk.of (H := ⟨[], modesTab, []⟩) (d := 4) (own := false) (m := .imm) Tryz.func352 (by kernel_rfl)
def c355 : FnR := ⟨(s [q 2 (.mv (i 0))]
 (s [m 3 0, q 4 (k 275 [(t 3)]), q 5 (.call (.func 318) [(t 4), (.const (.string ⟨#[45]⟩))] i1), q 6 (.len true (t 5)), m 2 6]
 .ret)), 7, 4, [.tmp 2], false, .imm, []⟩
theorem ok355 : FnOk Tryz.prog 355 c355 := FnOk.of (H := ⟨[], modesTab, []⟩) (d := 4) (own := false) (m := .imm) Tryz.func355 (by kernel_rfl)
def c367 : FnR := ⟨(s [q 4 (.mv F)]
 (s [m 5 0, q 6 (.len true (t 5)), m 7 1, q 8 (.len true (t 7)), q 9 (.bin .geq (t 6) (t 8)), m 10 9, qg 11 10 true (.mv (t 0)), qg 12 10 true (.mv (t 1)), qg 13 10 true (.len true (t 12)), qg 14 10 true (.sslice (t 11) none (some (t 13))), qg 15 10 true (.mv (t 1)), qg 16 10 true (.bin .eql (t 14) (t 15)), q 17 (.pick (t 10) (t 16) F), m 4 17]
 .ret)), 18, 5, [.tmp 4], false, .imm, []⟩
theorem ok367 : FnOk Tryz.prog 367 c367 := FnOk.of (H := ⟨[], modesTab, []⟩) (d := 5) (own := false) (m := .imm) Tryz.func367 (by kernel_rfl)
end Go.Proofs.YthiipifjdfmblaaGreatDoor

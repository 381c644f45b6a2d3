/- Parts of the proof. -/
import Derived.Test.YtlefgpakmgbgaaaGreatDoorBe
import Derived.Test.YtlefgpakmgbgaaaGreatDoorOk
import Derived.Test.YtlefgpakmgbgaaaGreatDoorProg
set_option linter.unusedVariables false
set_option linter.unusedSimpArgs false
set_option linter.unusedSectionVars false
section
set_option maxRecDepth 100000
namespace Go.Hf
open Go.Proofs Go.RowKit
namespace Ck8
section
variable [Tok] {gl : Gl}
noncomputable def d500 : FnD := ⟨500, Tryz.f500, ⟨[], hcT, [], [(1, [4096]), (2, [2]), (4, [2]), (8, [2]), (9, [2]), (11, [4096, 4098])], []⟩, 2, [.tmp 3], [], [none, none]⟩
theorem e500 : b500 = d500.den Tryz.prog := by kernel_rfl
theorem ok500 : BodyOk gl Tryz.prog 500 b500 := okk d500 Tryz.func500 e500
noncomputable def d501 : FnD := ⟨501, Tryz.f501, ⟨[], hcT, [], [], []⟩, 2, [.tmp 4], [], [none, none]⟩
theorem e501 : b501 = d501.den Tryz.prog := by kernel_rfl
theorem ok501 : BodyOk gl Tryz.prog 501 b501 := okk d501 Tryz.func501 e501
noncomputable def d502 : FnD := ⟨502, Tryz.f502, ⟨[], hcT, [], [(0, [4096]), (1, [4096]), (2, [2]), (3, [4096, 4098]), (4, [4096, 4098]), (5, [4098])], []⟩, 2, [.cell 2 true 7], [], [none, none]⟩
theorem ok502 : BodyOk gl Tryz.prog 502 (d502.den Tryz.prog) := okk d502 Tryz.func502 rfl
noncomputable def d503 : FnD := ⟨503, Tryz.f503, ⟨[], hcT, [], [(4, [4]), (7, [2055]), (9, [2055, 2057])], []⟩, 2, [.cell 4 true 7], [], [none, none]⟩
theorem ok503 : BodyOk gl Tryz.prog 503 (d503.den Tryz.prog) := okk d503 Tryz.func503 rfl
noncomputable def d504 : FnD := ⟨504, Tryz.f504, ⟨[], hcT, [], [(4, [4]), (37, [2085]), (49, [2097])], []⟩, 2, [.cell 4 true 7], [], [none, some [0, 1, 4], none, none, none, none, none, none, none, none, none]⟩
theorem ok504 : BodyOk gl Tryz.prog 504 (d504.den Tryz.prog) := okk d504 Tryz.func504 rfl
noncomputable def d505 : FnD := ⟨505, Tryz.f505, ⟨[], hcT, [], [(2, [2]), (34, [2082])], []⟩, 1, [.cell 2 true 7, .tmp 3], [], [none, some [0, 2], none, none, none, some [0, 2, 4], none, none, none]⟩
theorem ok505 : BodyOk gl Tryz.prog 505 (d505.den Tryz.prog) := okk d505 Tryz.func505 rfl
noncomputable def d506 : FnD := ⟨506, Tryz.f506, ⟨[], hcT, [], [(4, [4]), (5, [5]), (23, [2071]), (40, [2088])], []⟩, 2, [.cell 4 true 7], [], [none, none, some [0, 1, 4, 5], none, some [0, 1, 4], none, none, none, none, none, none, none, none]⟩
theorem ok506 : BodyOk gl Tryz.prog 506 (d506.den Tryz.prog) := okk d506 Tryz.func506 rfl
noncomputable def d512 : FnD := ⟨512, Tryz.f512, ⟨[], hcT, [], [], []⟩, 2, [.tmp 4], [], [none, none]⟩
theorem e512 : b512 = d512.den Tryz.prog := by kernel_rfl
theorem ok512 : BodyOk gl Tryz.prog 512 b512 := okk d512 Tryz.func512 e512
noncomputable def d523 : FnD := ⟨523, Tryz.f523, ⟨[], hcT, [], [(4, [4]), (11, [4]), (15, [4]), (23, [4]), (32, [4])], []⟩, 4, [.tmp 8], [], [none, none]⟩
theorem e523 : b523 = d523.den Tryz.prog := by kernel_rfl
theorem ok523 : BodyOk gl Tryz.prog 523 b523 := okk d523 Tryz.func523 e523
noncomputable def d524 : FnD := ⟨524, Tryz.f524, ⟨[], hcT, [], [], []⟩, 2, [.tmp 4], [], [none, some [0, 1], none, none, none, none]⟩
theorem ok524 : BodyOk gl Tryz.prog 524 (d524.den Tryz.prog) := okk d524 Tryz.func524 rfl
noncomputable def d525 : FnD := ⟨525, Tryz.f525, ⟨[], hcT, [], [(1, [1]), (6, [1]), (11, [1]), (17, [1]), (23, [1]), (28, [1]), (34, [1])], []⟩, 1, [.tmp 2], [], [none, some [1], none, none, some [], none, some [1, 30, 31], none, some [1, 30, 31], some [1, 30, 31], none, none, none, none, none, none]⟩
theorem e525 : b525 = d525.den Tryz.prog := by kernel_rfl
theorem ok525 : BodyOk gl Tryz.prog 525 b525 := okk d525 Tryz.func525 e525
noncomputable def d544 : FnD := ⟨544, Tryz.f544, ⟨[], hcT, [], [], []⟩, 2, [.tmp 4], [], [none, none]⟩
theorem e544 : b544 = d544.den Tryz.prog := by kernel_rfl
theorem ok544 : BodyOk gl Tryz.prog 544 b544 := okk d544 Tryz.func544 e544
noncomputable def d545 : FnD := ⟨545, Tryz.f545, ⟨[], hcT, [], [], []⟩, 2, [.tmp 4], [], [none, none]⟩
theorem e545 : b545 = d545.den Tryz.prog := by kernel_rfl
theorem ok545 : BodyOk gl Tryz.prog 545 b545 := okk d545 Tryz.func545 e545
noncomputable def d546 : FnD := ⟨546, Tryz.f546, ⟨[], hcT, [], [(0, [4096, 4098]), (5, [4096, 4098]), (6, [4096, 4098]), (7, [4096, 4098]), (8, [4096, 4098]), (9, [4096, 4098]), (10, [4096, 4098]), (11, [4096, 4098]), (12, [4096, 4098])], []⟩, 2, [.tmp 4], [], [none, none]⟩
theorem e546 : b546 = d546.den Tryz.prog := by kernel_rfl
theorem ok546 : BodyOk gl Tryz.prog 546 b546 := okk d546 Tryz.func546 e546
noncomputable def d549 : FnD := ⟨549, Tryz.f549, ⟨[], hcT, [], [], []⟩, 1, [.tmp 2, .tmp 3, .tmp 4], [], [none, none, some [5, 6], none, none]⟩
theorem e549 : b549 = d549.den Tryz.prog := by kernel_rfl
theorem ok549 : BodyOk gl Tryz.prog 549 b549 := okk d549 Tryz.func549 e549
noncomputable def d550 : FnD := ⟨550, Tryz.f550, ⟨[], hcT, [], [(4, [4096, 4098]), (5, [5]), (36, [4096, 4098]), (37, [4096, 4098])], []⟩, 2, [.tmp 4], [], [none, some [0, 1], none, none, some [0, 1], none, none, some [0, 1], none, none, none, none]⟩
theorem e550 : b550 = d550.den Tryz.prog := by kernel_rfl
theorem ok550 : BodyOk gl Tryz.prog 550 b550 := okk d550 Tryz.func550 e550
noncomputable def d551 : FnD := ⟨551, Tryz.f551, ⟨[], hcT, [], [], []⟩, 1, [.tmp 2], [], [none, none, some [3], none, none, none, none, none]⟩
theorem ok551 : BodyOk gl Tryz.prog 551 (d551.den Tryz.prog) := okk d551 Tryz.func551 rfl
noncomputable def d552 : FnD := ⟨552, Tryz.f552, ⟨[], hcT, [], [], []⟩, 1, [.tmp 2], [], [none, none]⟩
theorem ok552 : BodyOk gl Tryz.prog 552 (d552.den Tryz.prog) := okk d552 Tryz.func552 rfl
noncomputable def d553 : FnD := ⟨553, Tryz.f553, ⟨[], hcT, [], [], []⟩, 1, [.tmp 2], [], [none, some [], none, none, none]⟩
theorem e553 : b553 = d553.den Tryz.prog := by kernel_rfl
theorem ok553 : BodyOk gl Tryz.prog 553 b553 := okk d553 Tryz.func553 e553
noncomputable def d557 : FnD := ⟨557, Tryz.f557, ⟨[], hcT, [], [], []⟩, 2, [.tmp 4], [], [none, some [], none, some [0, 1, 7, 8], none, some [0, 1, 7, 8], some [0, 1, 7, 8], none, none, none, none]⟩
theorem e557 : b557 = d557.den Tryz.prog := by kernel_rfl
theorem ok557 : BodyOk gl Tryz.prog 557 b557 := okk d557 Tryz.func557 e557
noncomputable def d558 : FnD := ⟨558, Tryz.f558, ⟨[], hcT, [], [(2, [2])], []⟩, 1, [.cell 2 true 7], [], [none, none]⟩
theorem ok558 : BodyOk gl Tryz.prog 558 (d558.den Tryz.prog) := okk d558 Tryz.func558 rfl
noncomputable def d566 : FnD := ⟨566, Tryz.f566, ⟨[], hcT, [], [], []⟩, 2, [.tmp 4], [], [none, none, some [0, 1, 5], none, none, none, none, none, none, none, none, none, none, none, none, none, some [], some [0, 1, 5, 6, 7, 8, 9, 10], some [0, 1, 5, 6, 7, 8, 9, 10], none, some [0, 1, 5, 6, 7, 8, 9, 10], none, none, some [0, 1, 5, 6, 7, 8, 9, 10, 11], none, none, some [0, 1, 5, 6, 7, 8, 9, 10], none, none, none, none, none, none, some [], none, none, none, none, none, some [8, 13], none, none, none, none]⟩
theorem e566 : b566 = d566.den Tryz.prog := by kernel_rfl
theorem ok566 : BodyOk gl Tryz.prog 566 b566 := okk d566 Tryz.func566 e566
noncomputable def d574 : FnD := ⟨574, Tryz.f574, ⟨[], hcT, [], [], []⟩, 1, [.tmp 2], [], [none, none, some [3], none, none, some [], none, some [3, 17, 18], none, some [3, 17, 18], some [3, 17, 18], none, none, none, none]⟩
theorem e574 : b574 = d574.den Tryz.prog := by kernel_rfl
theorem ok574 : BodyOk gl Tryz.prog 574 b574 := okk d574 Tryz.func574 e574
noncomputable def d602 : FnD := ⟨602, Tryz.f602, ⟨[], hcT, [], [], []⟩, 2, [.tmp 4], [], [none, none, none, none, some [], none, some [], none, some [176], none, none, none, none, none, none]⟩
theorem e602 : b602 = d602.den Tryz.prog := by kernel_rfl
theorem ok602 : BodyOk gl Tryz.prog 602 b602 := okk d602 Tryz.func602 e602
noncomputable def d604 : FnD := ⟨604, Tryz.f604, ⟨[], hcT, [], [], []⟩, 2, [.tmp 4], [], [none, none]⟩
theorem e604 : b604 = d604.den Tryz.prog := by kernel_rfl
theorem ok604 : BodyOk gl Tryz.prog 604 b604 := okk d604 Tryz.func604 e604
noncomputable def d605 : FnD := ⟨605, Tryz.f605, ⟨[], hcT, [], [], []⟩, 2, [.tmp 4, .tmp 5, .tmp 6], [], [none, none]⟩
theorem e605 : b605 = d605.den Tryz.prog := by kernel_rfl
theorem ok605 : BodyOk gl Tryz.prog 605 b605 := okk d605 Tryz.func605 e605
noncomputable def d606 : FnD := ⟨606, Tryz.f606, ⟨[], hcT, [], [], []⟩, 1, [.tmp 2], [], [none, none]⟩
theorem e606 : b606 = d606.den Tryz.prog := by kernel_rfl
theorem ok606 : BodyOk gl Tryz.prog 606 b606 := okk d606 Tryz.func606 e606
noncomputable def d607 : FnD := ⟨607, Tryz.f607, ⟨[], hcT, [], [], []⟩, 2, [.tmp 4], [], [none, none]⟩
theorem e607 : b607 = d607.den Tryz.prog := by kernel_rfl
theorem ok607 : BodyOk gl Tryz.prog 607 b607 := okk d607 Tryz.func607 e607
noncomputable def d608 : FnD := ⟨608, Tryz.f608, ⟨[], hcT, [], [], []⟩, 2, [.tmp 4], [], [none, some [0], some [0, 1], some [0, 1], none, none]⟩
theorem ok608 : BodyOk gl Tryz.prog 608 (d608.den Tryz.prog) := okk d608 Tryz.func608 rfl
noncomputable def d609 : FnD := ⟨609, Tryz.f609, ⟨[], hcT, [], [], []⟩, 2, [.tmp 4], [], [none, some [0], some [0, 1], some [0, 1], none, none]⟩
theorem ok609 : BodyOk gl Tryz.prog 609 (d609.den Tryz.prog) := okk d609 Tryz.func609 rfl
noncomputable def d610 : FnD := ⟨610, Tryz.f610, ⟨[], hcT, [], [(2, [2]), (19, [2])], []⟩, 1, [.cell 2 true 256, .tmp 3], [], [none, some [2], none, some [0, 2, 4], some [0, 2, 4], none, some [0, 2, 4], none, some [0, 2, 4, 5], none, none, none]⟩
theorem e610 : b610 = d610.den Tryz.prog := by kernel_rfl
theorem ok610 : BodyOk gl Tryz.prog 610 b610 := okk d610 Tryz.func610 e610
noncomputable def d611 : FnD := ⟨611, Tryz.f611, ⟨[], hcT, [], [(1, [4096, 4098]), (8, [4096, 4098]), (11, [4096, 4098])], []⟩, 2, [.tmp 4], [], [none, some [0], some [0, 1], some [0, 1], none, some [0, 1], none, none]⟩
theorem e611 : b611 = d611.den Tryz.prog := by kernel_rfl
theorem ok611 : BodyOk gl Tryz.prog 611 b611 := okk d611 Tryz.func611 e611
noncomputable def d612 : FnD := ⟨612, Tryz.f612, ⟨[], hcT, [], [(1, [4096, 4098]), (8, [4096, 4098]), (14, [4096, 4098])], []⟩, 2, [.tmp 4], [], [none, some [0], some [0, 1], some [0, 1], none, some [0, 1], none, none]⟩
theorem e612 : b612 = d612.den Tryz.prog := by kernel_rfl
theorem ok612 : BodyOk gl Tryz.prog 612 b612 := okk d612 Tryz.func612 e612
noncomputable def d615 : FnD := ⟨615, Tryz.f615, ⟨[], hcT, [], [(4, [4096, 4098]), (5, [5]), (33, [4096, 4098])], []⟩, 2, [.tmp 4], [], [none, some [0, 1], none, none, some [0, 1], none, none, some [0, 1], none, none, none, none]⟩
theorem ok615 : BodyOk gl Tryz.prog 615 (d615.den Tryz.prog) := okk d615 Tryz.func615 rfl
end
end Ck8
end Go.Hf
end
section
set_option maxRecDepth 100000
namespace Go.Hf
open Go.Proofs Go.RowKit
namespace Ck9
section
variable [Tok] {gl : Gl}
noncomputable def d651 : FnD := ⟨651, Tryz.f651, ⟨[], hcT, [], [], []⟩, 2, [.tmp 4], [], [none, none]⟩
theorem e651 : b651 = d651.den Tryz.prog := by kernel_rfl
theorem ok651 : BodyOk gl Tryz.prog 651 b651 := okk d651 Tryz.func651 e651
noncomputable def d652 : FnD := ⟨652, Tryz.f652, ⟨[], hcT, [], [], []⟩, 2, [.tmp 4, .tmp 5, .tmp 6], [], [none, some [0], none, none, none, none]⟩
theorem e652 : b652 = d652.den Tryz.prog := by kernel_rfl
theorem ok652 : BodyOk gl Tryz.prog 652 b652 := okk d652 Tryz.func652 e652
noncomputable def d653 : FnD := ⟨653, Tryz.f653, ⟨[], hcT, [], [], []⟩, 2, [.tmp 4], [], [none, some [0], none, none, none]⟩
theorem e653 : b653 = d653.den Tryz.prog := by kernel_rfl
theorem ok653 : BodyOk gl Tryz.prog 653 b653 := okk d653 Tryz.func653 e653
noncomputable def d654 : FnD := ⟨654, Tryz.f654, ⟨[], hcT, [], [(0, [4096, 4098]), (4, [4096, 4098]), (5, [4096, 4098]), (7, [4096, 4098]), (8, [4096, 4098]), (9, [4096, 4098])], []⟩, 2, [.tmp 4], [], [none, none]⟩
theorem e654 : b654 = d654.den Tryz.prog := by kernel_rfl
theorem ok654 : BodyOk gl Tryz.prog 654 b654 := okk d654 Tryz.func654 e654
end
end Ck9
end Go.Hf
end

/- Parts of the proof. -/
import Derived.Test.YtlefgpakmgbgaaaGreatDoorBe
import Derived.Test.YtlefgpakmgbgaaaGreatDoorOk
import Derived.Test.YtlefgpakmgbgaaaGreatDoorProg
set_option linter.unusedVariables false
set_option linter.unusedSimpArgs false
set_option linter.unusedSectionVars false
section
set_option maxRecDepth 100000
namespace Go.Hf
open Go.Proofs Go.RowKit
namespace Ck6
section
variable [Tok] {gl : Gl}
noncomputable def d304 : FnD := ⟨304, Tryz.f304, ⟨[], hcT, [], [], []⟩, 1, [.tmp 2], [], [none, none, none, some [0, 3, 4], none, some [0, 3, 4], some [0, 3, 4], some [0, 3, 4], none, some [0, 3, 4], none, none, some [0, 4], none, none, none]⟩
theorem e304 : b304 = d304.den Tryz.prog := by kernel_rfl
theorem ok304 : BodyOk gl Tryz.prog 304 b304 := okk d304 Tryz.func304 e304
noncomputable def d305 : FnD := ⟨305, Tryz.f305, ⟨[], hcT, [], [], []⟩, 1, [.tmp 2], [], [none, none, none]⟩
theorem e305 : b305 = d305.den Tryz.prog := by kernel_rfl
theorem ok305 : BodyOk gl Tryz.prog 305 b305 := okk d305 Tryz.func305 e305
noncomputable def d306 : FnD := ⟨306, Tryz.f306, ⟨[], hcT, [], [(4, [4])], []⟩, 2, [.cell 4 true 2, .tmp 5], [], [none, some [4], none, some [0, 1, 4, 6], some [0, 1, 4, 6], none, some [0, 1, 4, 6], none, none, none]⟩
theorem e306 : b306 = d306.den Tryz.prog := by kernel_rfl
theorem ok306 : BodyOk gl Tryz.prog 306 b306 := okk d306 Tryz.func306 e306
noncomputable def d307 : FnD := ⟨307, Tryz.f307, ⟨[], hcT, [], [(1, [1])], []⟩, 1, [.tmp 2], [], [none, none]⟩
theorem e307 : b307 = d307.den Tryz.prog := by kernel_rfl
theorem ok307 : BodyOk gl Tryz.prog 307 b307 := okk d307 Tryz.func307 e307
noncomputable def d309 : FnD := ⟨309, Tryz.f309, ⟨[], hcT, [], [(4, [4])], []⟩, 2, [.cell 4 true 7], [], [none, none]⟩
theorem ok309 : BodyOk gl Tryz.prog 309 (d309.den Tryz.prog) := okk d309 Tryz.func309 rfl
noncomputable def d310 : FnD := ⟨310, Tryz.f310, ⟨[], hcT, [], [(4, [4]), (24, [2072]), (48, [2096]), (57, [2105]), (82, [2130]), (94, [2142]), (126, [2174]), (145, [2193]), (155, [2203]), (157, [2205]), (166, [2214]), (176, [2224]), (178, [2226]), (195, [2243]), (197, [2245]), (207, [2255]), (215, [2263]), (217, [2265])], []⟩, 2, [.cell 4 true 7, .tmp 5], [], [none, none, some [4], none, none, some [0, 1, 4], none, none, none, some [0, 1, 4, 6, 11, 26], none, some [0, 1, 4, 6], none, none, some [0, 1, 4], none, none, some [0, 1, 4], none, none, none, some [0, 1, 4, 6, 11, 59], none, some [0, 1, 4, 6], none, none, some [0, 1, 4], none, none, some [0, 1, 4], none, none, none, none, some [0, 1, 4], none, none, none, some [0, 1, 4, 7], none, none, none, none, none, none, none, none, some [1, 4, 6], none, none, none, none, none, some [1, 4, 6], none, none, none, none, some [0, 1, 4, 6, 180], none, none, some [0, 1, 4], none, none, some [0, 1, 4], none, none, some [1, 4], none, none, none, none]⟩
theorem ok310 : BodyOk gl Tryz.prog 310 (d310.den Tryz.prog) := okk d310 Tryz.func310 rfl
noncomputable def d313 : FnD := ⟨313, Tryz.f313, ⟨[], hcT, [], [(2, [2]), (8, [2]), (12, [2])], []⟩, 2, [.tmp 4], [], [none, some [1, 2], none, none, none, none, some [5], none, some [1, 5, 6, 7], some [1, 5, 6, 7], none, some [1, 5, 6, 7], none]⟩
theorem e313 : b313 = d313.den Tryz.prog := by kernel_rfl
theorem ok313 : BodyOk gl Tryz.prog 313 b313 := okk d313 Tryz.func313 e313
noncomputable def d314 : FnD := ⟨314, Tryz.f314, ⟨[], hcT, [], [(2, [2])], []⟩, 2, [.tmp 4], [], [none, none, none, some [5], none, some [1, 5, 6, 7], some [1, 5, 6, 7], none, some [1, 5, 6, 7], none]⟩
theorem e314 : b314 = d314.den Tryz.prog := by kernel_rfl
theorem ok314 : BodyOk gl Tryz.prog 314 b314 := okk d314 Tryz.func314 e314
noncomputable def d315 : FnD := ⟨315, Tryz.f315, ⟨[], hcT, [], [(1, [1])], []⟩, 1, [.tmp 2], [], [none, none]⟩
theorem ok315 : BodyOk gl Tryz.prog 315 (d315.den Tryz.prog) := okk d315 Tryz.func315 rfl
noncomputable def d316 : FnD := ⟨316, Tryz.f316, ⟨[], hcT, [], [(2, [2066]), (3, [12]), (4, [2066]), (5, [5]), (12, [12]), (13, [12]), (14, [4096, 4098]), (15, [2066]), (16, [4096, 4098]), (17, [2065]), (18, [2066]), (19, [5]), (20, [4096, 4098]), (22, [2066])], []⟩, 1, [.tmp 2], [], [none, some [0], none, none, none, some [3, 4], none, none, none, none]⟩
theorem e316 : b316 = d316.den Tryz.prog := by kernel_rfl
theorem ok316 : BodyOk gl Tryz.prog 316 b316 := okk d316 Tryz.func316 e316
noncomputable def d317 : FnD := ⟨317, Tryz.f317, ⟨[], hcT, [], [(0, [4096, 4098]), (2, [2]), (3, [4096, 4098]), (4, [4096, 4098]), (5, [4096, 4098]), (6, [4096, 4098]), (7, [4096, 4098]), (8, [4096, 4098]), (9, [4096, 4098]), (10, [4096, 4098]), (11, [4098]), (12, [4096, 4098])], []⟩, 1, [.cell 2 true 5], [], [none, none]⟩
theorem e317 : b317 = d317.den Tryz.prog := by kernel_rfl
theorem ok317 : BodyOk gl Tryz.prog 317 b317 := okk d317 Tryz.func317 e317
noncomputable def d319 : FnD := ⟨319, Tryz.f319, ⟨[], hcT, [], [(0, [4096, 4098]), (4, [4]), (5, [5]), (6, [4096, 4098]), (7, [7]), (9, [4096, 4098]), (10, [4096, 4098]), (14, [5]), (15, [4096, 4098]), (18, [5]), (19, [4096, 4098]), (23, [4096, 4098]), (25, [5]), (26, [4096, 4098]), (29, [4096, 4098]), (30, [4096, 4098]), (31, [4096, 4098]), (32, [4096, 4098]), (34, [4096, 4098]), (35, [4096, 4098]), (36, [5]), (37, [4096, 4098]), (38, [5]), (39, [4096, 4098]), (43, [4096, 4098]), (44, [4096, 4098]), (45, [4096, 4098]), (46, [4096, 4098]), (48, [4096, 4098]), (49, [4096, 4098]), (50, [5]), (51, [4096, 4098]), (55, [4096, 4098]), (56, [4096, 4098]), (57, [4096, 4098]), (58, [4096, 4098]), (60, [4096, 4098]), (61, [4096, 4098]), (62, [4096, 4098]), (63, [4096, 4098]), (64, [4096, 4098]), (65, [4096, 4098]), (66, [5]), (67, [4096, 4098]), (69, [5]), (70, [4096, 4098]), (72, [4096, 4098]), (73, [4096, 4098]), (74, [4096, 4098]), (75, [4096, 4098]), (76, [4096, 4098]), (77, [5]), (78, [4096, 4098]), (85, [4096, 4098]), (91, [4096, 4098]), (92, [4096, 4098]), (93, [4096, 4098]), (94, [4096, 4098]), (96, [4096, 4098]), (97, [4096, 4098]), (100, [4096, 4098]), (103, [4096, 4098]), (104, [2152]), (108, [4096, 4098]), (109, [4096, 4098]), (110, [4096, 4098]), (111, [4096, 4098]), (113, [4096, 4098]), (114, [4096, 4098]), (115, [4096, 4098]), (118, [4096, 4098]), (119, [4096, 4098])], []⟩, 2, [.cell 4 true 7], [], [none, none, some [0, 1, 4, 5], none, some [4, 5], none, none, none, none, none, none, none, none, none, none, some [0, 4, 5, 6], none, none, some [4, 7], none, none, none, none, none, none, none, none, none, none]⟩
theorem e319 : b319 = d319.den Tryz.prog := by kernel_rfl
theorem ok319 : BodyOk gl Tryz.prog 319 b319 := okk d319 Tryz.func319 e319
noncomputable def d320 : FnD := ⟨320, Tryz.f320, ⟨[], hcT, [], [(1, [1]), (3, [1]), (7, [1]), (12, [1])], []⟩, 1, [.tmp 2], [], [none, none]⟩
theorem e320 : b320 = d320.den Tryz.prog := by kernel_rfl
theorem ok320 : BodyOk gl Tryz.prog 320 b320 := okk d320 Tryz.func320 e320
noncomputable def d321 : FnD := ⟨321, Tryz.f321, ⟨[], hcT, [], [(1, [1]), (2, [2])], []⟩, 1, [.cell 2 true 11], [], [none, none]⟩
theorem ok321 : BodyOk gl Tryz.prog 321 (d321.den Tryz.prog) := okk d321 Tryz.func321 rfl
noncomputable def d324 : FnD := ⟨324, Tryz.f324, ⟨[], hcT, [], [(3, [3]), (4, [4])], []⟩, 2, [.cell 4 true 2, .tmp 5, .tmp 6], [], [none, none, some [0, 4, 7], none, none, none, none]⟩
theorem e324 : b324 = d324.den Tryz.prog := by kernel_rfl
theorem ok324 : BodyOk gl Tryz.prog 324 b324 := okk d324 Tryz.func324 e324
noncomputable def d325 : FnD := ⟨325, Tryz.f325, ⟨[], hcT, [], [(0, [4096, 4098]), (3, [4096, 4098]), (4, [4096, 4098]), (5, [4096, 4098]), (6, [4096, 4098]), (8, [4096, 4098]), (9, [4096, 4098]), (10, [4096, 4098]), (11, [4096, 4098]), (13, [4096, 4098]), (14, [4096, 4098])], []⟩, 1, [.tmp 2], [], [none, some [0], none, none, none, none]⟩
theorem ok325 : BodyOk gl Tryz.prog 325 (d325.den Tryz.prog) := okk d325 Tryz.func325 rfl
noncomputable def d326 : FnD := ⟨326, Tryz.f326, ⟨[], hcT, [], [(4, [4]), (6, [6]), (8, [8]), (10, [10]), (13, [2136]), (15, [15]), (16, [16]), (17, [17]), (23, [4]), (39, [10]), (42, [10]), (56, [10]), (62, [10]), (79, [16]), (84, [16]), (85, [2136]), (87, [2135]), (88, [2136]), (92, [10]), (94, [2136])], []⟩, 3, [.cell 6 true 7, .tmp 7], [], [none, some [0, 2, 4, 6], none, none, some [6, 8], none, none, none, none, none, some [0, 2, 6, 10, 12], none, some [0, 2, 6, 10, 12], none, none, none, some [0, 6, 10, 13], none, some [0, 2, 6, 10, 12, 13, 63, 64, 65], none, some [0, 2, 6, 10, 12, 13, 63, 64, 65], some [0, 2, 6, 10, 12, 13, 63, 64, 65], none, none, some [0, 2, 6, 10, 12, 13, 16, 63, 64, 65], none, none, none]⟩
theorem ok326 : BodyOk gl Tryz.prog 326 (d326.den Tryz.prog) := okk d326 Tryz.func326 rfl
noncomputable def d327 : FnD := ⟨327, Tryz.f327, ⟨[], hcT, [], [(0, [4096, 4098]), (3, [3]), (7, [7]), (8, [4096, 4098]), (9, [4096, 4098]), (10, [4096, 4098]), (11, [4096, 4098]), (15, [4098]), (16, [4096, 4098]), (17, [7]), (18, [4096, 4098]), (21, [7]), (22, [4096, 4098]), (25, [4096, 4098]), (26, [4096, 4098]), (27, [4096, 4098]), (28, [4096, 4098])], []⟩, 2, [.tmp 4, .tmp 5], [], [none, some [0, 3], none, some [0, 3, 11, 12, 13], none, some [0, 3, 11, 12, 13], some [0, 3, 11, 12, 13], none, none, none, none]⟩
theorem e327 : b327 = d327.den Tryz.prog := by kernel_rfl
theorem ok327 : BodyOk gl Tryz.prog 327 b327 := okk d327 Tryz.func327 e327
noncomputable def d343 : FnD := ⟨343, Tryz.f343, ⟨[], hcT, [], [], []⟩, 2, [.tmp 4], [], [none, none]⟩
theorem ok343 : BodyOk gl Tryz.prog 343 (d343.den Tryz.prog) := okk d343 Tryz.func343 rfl
noncomputable def d345 : FnD := ⟨345, Tryz.f345, ⟨[], hcT, [], [(2, [2])], []⟩, 1, [.cell 2 true 2], [], [none, none]⟩
theorem e345 : b345 = d345.den Tryz.prog := by kernel_rfl
theorem ok345 : BodyOk gl Tryz.prog 345 b345 := okk d345 Tryz.func345 e345
noncomputable def d346 : FnD := ⟨346, Tryz.f346, ⟨[], hcT, [], [(6, [6]), (7, [7])], []⟩, 3, [.cell 6 true 7, .cell 7 true 2], [], [none, none, none, some [6, 7, 8], none, none, none]⟩
noncomputable def d347 : FnD := ⟨347, Tryz.f347, ⟨[], hcT, [], [(3, [3]), (5, [4096, 4098]), (8, [8]), (9, [4096, 4098]), (10, [4096, 4098]), (18, [4096, 4098]), (21, [3]), (22, [4096, 4098]), (23, [4096, 4098]), (24, [4096, 4098]), (25, [4096, 4098]), (27, [4096, 4098])], []⟩, 2, [.tmp 4, .tmp 5, .tmp 6], [], [none, some [], none, some [3, 11, 12, 13], none, some [3, 11, 12, 13], some [3, 11, 12, 13], none, none, none, none, none]⟩
theorem e347 : b347 = d347.den Tryz.prog := by kernel_rfl
theorem ok347 : BodyOk gl Tryz.prog 347 b347 := okk d347 Tryz.func347 e347
noncomputable def d348 : FnD := ⟨348, Tryz.f348, ⟨[], hcT, [], [(1, [1]), (3, [1]), (10, [1])], []⟩, 1, [.tmp 2], [], [none, some [], none, some [1, 5], none, none, none, none, none]⟩
theorem e348 : b348 = d348.den Tryz.prog := by kernel_rfl
theorem ok348 : BodyOk gl Tryz.prog 348 b348 := okk d348 Tryz.func348 e348
noncomputable def d354 : FnD := ⟨354, Tryz.f354, ⟨[], hcT, [], [(3, [3]), (8, [8]), (23, [8])], []⟩, 2, [.tmp 4, .tmp 5], [], [none, some [0, 3], none, none, none, none, none]⟩
theorem e354 : b354 = d354.den Tryz.prog := by kernel_rfl
theorem ok354 : BodyOk gl Tryz.prog 354 b354 := okk d354 Tryz.func354 e354
noncomputable def d371 : FnD := ⟨371, Tryz.f371, ⟨[], hcT, [], [(1, [1])], []⟩, 1, [.tmp 2], [], [none, none]⟩
theorem e371 : b371 = d371.den Tryz.prog := by kernel_rfl
theorem ok371 : BodyOk gl Tryz.prog 371 b371 := okk d371 Tryz.func371 e371
noncomputable def d374 : FnD := ⟨374, Tryz.f374, ⟨[], hcT, [], [(2, [2])], []⟩, 1, [.cell 2 true 7], [], [none, none]⟩
theorem ok374 : BodyOk gl Tryz.prog 374 (d374.den Tryz.prog) := okk d374 Tryz.func374 rfl
noncomputable def d383 : FnD := ⟨383, Tryz.f383, ⟨[], hcT, [], [(2, [2]), (7, [7]), (8, [2]), (16, [2])], []⟩, 2, [.tmp 4], [], [none, none, some [1, 2, 5], none, none, some [5], none, some [1, 5, 17, 18, 19], none, some [1, 5, 17, 18, 19], some [1, 5, 17, 18, 19], none, none, none, none, none]⟩
theorem e383 : b383 = d383.den Tryz.prog := by kernel_rfl
theorem ok383 : BodyOk gl Tryz.prog 383 b383 := okk d383 Tryz.func383 e383
noncomputable def d384 : FnD := ⟨384, Tryz.f384, ⟨[], hcT, [], [(1, [1])], []⟩, 1, [.tmp 2], [], [none, none]⟩
theorem e384 : b384 = d384.den Tryz.prog := by kernel_rfl
theorem ok384 : BodyOk gl Tryz.prog 384 b384 := okk d384 Tryz.func384 e384
noncomputable def d385 : FnD := ⟨385, Tryz.f385, ⟨[], hcT, [], [(1, [1])], []⟩, 1, [.tmp 2], [], [none, none]⟩
theorem e385 : b385 = d385.den Tryz.prog := by kernel_rfl
theorem ok385 : BodyOk gl Tryz.prog 385 b385 := okk d385 Tryz.func385 e385
noncomputable def d386 : FnD := ⟨386, Tryz.f386, ⟨[], hcT, [], [], []⟩, 2, [.tmp 4], [], [none, none]⟩
theorem e386 : b386 = d386.den Tryz.prog := by kernel_rfl
theorem ok386 : BodyOk gl Tryz.prog 386 b386 := okk d386 Tryz.func386 e386
noncomputable def d387 : FnD := ⟨387, Tryz.f387, ⟨[], hcT, [], [(1, [1])], []⟩, 1, [.tmp 2], [], [none, none]⟩
theorem e387 : b387 = d387.den Tryz.prog := by kernel_rfl
theorem ok387 : BodyOk gl Tryz.prog 387 b387 := okk d387 Tryz.func387 e387
noncomputable def d389 : FnD := ⟨389, Tryz.f389, ⟨[], hcT, [], [(3, [3]), (7, [3]), (11, [3]), (18, [3])], []⟩, 3, [.tmp 6], [], [none, none]⟩
theorem ok389 : BodyOk gl Tryz.prog 389 (d389.den Tryz.prog) := okk d389 Tryz.func389 rfl
noncomputable def d390 : FnD := ⟨390, Tryz.f390, ⟨[], hcT, [], [(1, [1]), (2, [2070, 2072]), (6, [1]), (12, [1]), (17, [1]), (22, [2070]), (24, [2072])], []⟩, 1, [.tmp 2], [], [none, some [1], none, none, none]⟩
theorem ok390 : BodyOk gl Tryz.prog 390 (d390.den Tryz.prog) := okk d390 Tryz.func390 rfl
noncomputable def d391 : FnD := ⟨391, Tryz.f391, ⟨[], hcT, [], [(3, [3]), (6, [6]), (8, [8]), (23, [6]), (26, [6]), (33, [8]), (37, [8])], []⟩, 2, [.tmp 4], [], [none, some [0, 3], none, none, some [], none, some [3, 17, 18, 19], none, some [3, 17, 18, 19], some [3, 17, 18, 19], none, some [3, 6, 17, 18, 19], none, none, some [3, 17, 18, 19, 27, 28, 29], none, some [3, 17, 18, 19, 27, 28, 29], some [3, 17, 18, 19, 27, 28, 29], none, none, none, none]⟩
theorem ok391 : BodyOk gl Tryz.prog 391 (d391.den Tryz.prog) := okk d391 Tryz.func391 rfl
end
end Ck6
end Go.Hf
end
section
set_option maxRecDepth 100000
namespace Go.Hf
open Go.Proofs Go.RowKit
namespace Ck7
section
variable [Tok] {gl : Gl}
noncomputable def d392 : FnD := ⟨392, Tryz.f392, ⟨[], hcT, [], [(1, [1]), (2, [2])], []⟩, 1, [.cell 2 true 11], [], [none, none]⟩
theorem ok392 : BodyOk gl Tryz.prog 392 (d392.den Tryz.prog) := okk d392 Tryz.func392 rfl
noncomputable def d393 : FnD := ⟨393, Tryz.f393, ⟨[], hcT, [], [(0, [0])], []⟩, 0, [.cell 0 true 7], [], [none, none]⟩
theorem e393 : b393 = d393.den Tryz.prog := by kernel_rfl
theorem ok393 : BodyOk gl Tryz.prog 393 b393 := okk d393 Tryz.func393 e393
noncomputable def d394 : FnD := ⟨394, Tryz.f394, ⟨[], hcT, [], [(6, [6])], []⟩, 2, [.tmp 4], [], [none, some [], none, some [1, 7, 8, 9], none, some [1, 7, 8, 9], some [1, 7, 8, 9], none, none, none, none]⟩
theorem ok394 : BodyOk gl Tryz.prog 394 (d394.den Tryz.prog) := okk d394 Tryz.func394 rfl
noncomputable def d398 : FnD := ⟨398, Tryz.f398, ⟨[], hcT, [], [(3, [3]), (6, [6])], []⟩, 2, [.tmp 4], [], [none, some [], none, some [3, 7, 8, 9], none, some [3, 7, 8, 9], some [3, 7, 8, 9], none, none, none, none]⟩
theorem ok398 : BodyOk gl Tryz.prog 398 (d398.den Tryz.prog) := okk d398 Tryz.func398 rfl
noncomputable def d405 : FnD := ⟨405, Tryz.f405, ⟨[], hcT, [], [(1, [1]), (3, [1]), (7, [1]), (13, [1])], []⟩, 1, [.tmp 2], [], [none, none]⟩
theorem e405 : b405 = d405.den Tryz.prog := by kernel_rfl
theorem ok405 : BodyOk gl Tryz.prog 405 b405 := okk d405 Tryz.func405 e405
noncomputable def d406 : FnD := ⟨406, Tryz.f406, ⟨[], hcT, [], [(2, [2])], []⟩, 1, [.cell 2 true 7], [], [none, none]⟩
theorem ok406 : BodyOk gl Tryz.prog 406 (d406.den Tryz.prog) := okk d406 Tryz.func406 rfl
noncomputable def d407 : FnD := ⟨407, Tryz.f407, ⟨[], hcT, [], [(4, [4])], []⟩, 2, [.cell 4 true 7], [], [none, none]⟩
theorem ok407 : BodyOk gl Tryz.prog 407 (d407.den Tryz.prog) := okk d407 Tryz.func407 rfl
noncomputable def d409 : FnD := ⟨409, Tryz.f409, ⟨[], hcT, [], [(8, [8]), (23, [2071]), (34, [2082]), (44, [2092])], []⟩, 4, [.cell 8 true 7], [], [none, some [0, 1, 3, 8], none, none, none, none, none, none, none, none]⟩
theorem ok409 : BodyOk gl Tryz.prog 409 (d409.den Tryz.prog) := okk d409 Tryz.func409 rfl
noncomputable def d411 : FnD := ⟨411, Tryz.f411, ⟨[], hcT, [], [(1, [1]), (6, [1]), (10, [1]), (15, [1]), (17, [1]), (24, [1]), (29, [1]), (36, [1]), (42, [1]), (58, [1]), (62, [1]), (67, [1]), (72, [1]), (77, [1]), (86, [1]), (91, [1]), (96, [1]), (102, [1]), (111, [1]), (116, [1]), (121, [1]), (126, [1]), (132, [1]), (139, [1])], []⟩, 1, [.tmp 2], [], [none, none, some [], none, none, none, none, none, none, none, none, none, none, none]⟩
theorem ok411 : BodyOk gl Tryz.prog 411 (d411.den Tryz.prog) := okk d411 Tryz.func411 rfl
noncomputable def d413 : FnD := ⟨413, Tryz.f413, ⟨[], hcT, [], [(0, [4096, 4098]), (2, [2]), (3, [3]), (5, [4096, 4098]), (6, [4096, 4098]), (7, [4096, 4098]), (8, [4096, 4098]), (9, [4096, 4098]), (10, [4096, 4098]), (11, [4096, 4098]), (12, [4096, 4098]), (13, [4096, 4098]), (15, [4096, 4098]), (16, [4096, 4098]), (17, [4096, 4098]), (18, [4096, 4098]), (19, [4096, 4098]), (20, [4096, 4098]), (21, [4096, 4098]), (22, [4096, 4098]), (23, [4096, 4098]), (25, [4096, 4098]), (26, [4096, 4098]), (27, [4096, 4098]), (28, [4096, 4098]), (37, [37]), (38, [37]), (41, [3]), (42, [4096, 4098]), (43, [4096, 4098]), (44, [4096, 4098]), (45, [4096, 4098]), (47, [4096, 4098]), (48, [4096, 4098]), (52, [4096, 4098]), (54, [3]), (55, [3]), (56, [3]), (57, [4096, 4098]), (60, [3]), (61, [4096, 4098]), (66, [4096, 4098]), (68, [3]), (69, [3]), (70, [4096, 4098]), (75, [4096, 4098]), (76, [4096, 4098]), (77, [4096, 4098]), (78, [4096, 4098]), (79, [4096, 4098]), (80, [4096, 4098])], []⟩, 1, [.cell 2 true 5], [], [none, none, none, some [0, 2, 3], none, none, some [2, 3], none, some [0, 2, 3, 4, 30], none, none, none, none, none, none, none, none, none, none]⟩
theorem e413 : b413 = d413.den Tryz.prog := by kernel_rfl
theorem ok413 : BodyOk gl Tryz.prog 413 b413 := okk d413 Tryz.func413 e413
noncomputable def d414 : FnD := ⟨414, Tryz.f414, ⟨[], hcT, [], [(4, [4])], []⟩, 2, [.cell 4 true 7], [], [none, none, none]⟩
theorem ok414 : BodyOk gl Tryz.prog 414 (d414.den Tryz.prog) := okk d414 Tryz.func414 rfl
noncomputable def d416 : FnD := ⟨416, Tryz.f416, ⟨[], hcT, [], [(6, [6]), (8, [8]), (11, [11]), (30, [8]), (37, [11])], []⟩, 3, [.cell 6 true 2, .tmp 7], [], [none, none, some [1, 2, 6, 8], none, none, some [1, 2, 6, 8], none, none, some [1, 2, 6], none, some [1, 2, 6, 31, 32, 33], none, some [1, 2, 6, 31, 32, 33], some [1, 2, 6, 31, 32, 33], none, none, none, none]⟩
theorem e416 : b416 = d416.den Tryz.prog := by kernel_rfl
theorem ok416 : BodyOk gl Tryz.prog 416 b416 := okk d416 Tryz.func416 e416
noncomputable def d417 : FnD := ⟨417, Tryz.f417, ⟨[], hcT, [], [(2, [2]), (3, [3])], []⟩, 1, [.cell 2 true 7], [], [none, none, some [2, 3], none, some [0, 2, 3, 4], some [0, 2, 3, 4], none, some [0, 2, 3, 4], none]⟩
theorem ok417 : BodyOk gl Tryz.prog 417 (d417.den Tryz.prog) := okk d417 Tryz.func417 rfl
noncomputable def d418 : FnD := ⟨418, Tryz.f418, ⟨[], hcT, [], [(0, [4096, 4098]), (4, [4]), (5, [2092]), (6, [6]), (9, [4096, 4098]), (10, [4096, 4098]), (11, [4096, 4098]), (13, [4096, 4098]), (14, [4096, 4098]), (15, [4096, 4098]), (18, [2092]), (22, [4096, 4098]), (23, [4096, 4098]), (24, [4096, 4098]), (25, [4096, 4098]), (27, [4096, 4098]), (28, [4096, 4098]), (29, [4096, 4098]), (31, [4096, 4098]), (32, [4096, 4098]), (33, [4096, 4098]), (34, [4096, 4098]), (36, [4096, 4098]), (37, [4096, 4098]), (39, [2092]), (40, [4096, 4098]), (42, [4096, 4098]), (43, [2091]), (44, [2092]), (45, [4096, 4098]), (46, [4096, 4098]), (47, [4096, 4098]), (48, [4096, 4098]), (50, [4096, 4098]), (51, [4096, 4098]), (52, [2092]), (59, [2092]), (61, [2092]), (63, [4096, 4098]), (65, [4096, 4098])], []⟩, 2, [.cell 4 true 7], [], [none, none, none, some [0, 4, 5, 6], some [0, 1, 4, 5, 6], some [0, 1, 4, 5, 6], none, some [0, 1, 4, 5, 6], none, none, none, none, none, none, some [4, 6], none, some [4, 5, 6, 7], some [4, 5, 6, 7], none, some [4, 5, 6, 7], none]⟩
theorem e418 : b418 = d418.den Tryz.prog := by kernel_rfl
theorem ok418 : BodyOk gl Tryz.prog 418 b418 := okk d418 Tryz.func418 e418
noncomputable def d424 : FnD := ⟨424, Tryz.f424, ⟨[], hcT, [], [(3, [3]), (4, [4]), (6, [4096, 4098]), (7, [4096, 4098]), (8, [4096, 4098]), (10, [3]), (11, [4096, 4098]), (12, [4096, 4098]), (13, [4096, 4098]), (14, [4096, 4098]), (18, [4096, 4098])], []⟩, 2, [.cell 4 true 15, .tmp 5], [], [none, none, some [0, 4, 6], none, none, none]⟩
theorem e424 : b424 = d424.den Tryz.prog := by kernel_rfl
theorem ok424 : BodyOk gl Tryz.prog 424 b424 := okk d424 Tryz.func424 e424
noncomputable def d425 : FnD := ⟨425, Tryz.f425, ⟨[], hcT, [], [(1, [1]), (3, [1]), (7, [2055]), (8, [1])], []⟩, 1, [.tmp 2], [], [none, none]⟩
theorem e425 : b425 = d425.den Tryz.prog := by kernel_rfl
theorem ok425 : BodyOk gl Tryz.prog 425 b425 := okk d425 Tryz.func425 e425
noncomputable def d426 : FnD := ⟨426, Tryz.f426, ⟨[], hcT, [], [(2, [2]), (3, [3]), (4, [4]), (6, [2, 3]), (7, [2, 3]), (18, [2, 3]), (19, [4096, 4098]), (20, [2068]), (45, [2, 3]), (46, [4096, 4098]), (47, [2095]), (52, [2, 3]), (53, [4096, 4098]), (54, [2102])], [(19, []), (46, []), (53, [])]⟩, 2, [.cell 4 true 7, .tmp 5], [], [none, none, some [2, 3, 4], none, none, some [3, 4, 6], none, none, none, some [2, 3, 4, 6, 8, 22], none, some [3, 4, 6], none, none, none, none, none, none, none, some [2, 3, 4, 8, 56], none, none, none, none, some [2, 3, 4, 68], none, none, none]⟩
theorem ok426 : BodyOk gl Tryz.prog 426 (d426.den Tryz.prog) := okk d426 Tryz.func426 rfl
noncomputable def d440 : FnD := ⟨440, Tryz.f440, ⟨[31], hcT, [], [(8, [2079]), (9, [2079]), (31, [2079]), (42, [2079]), (49, [2079]), (58, [2079]), (61, [2079]), (62, [2079]), (65, [2079])], []⟩, 4, [.tmp 8], [], [none, some [0, 1, 2, 3], none, none, some [0, 1, 2, 3], none, none, some [0, 1, 2, 3], none, none, none, none, none, some [0, 9, 10], some [0, 1, 2, 3, 9, 10], some [0, 1, 2, 3, 9, 10], none, none, some [0, 1, 2, 3, 9, 10, 11], none, none, none, none, none]⟩
theorem e440 : b440 = d440.den Tryz.prog := by kernel_rfl
theorem ok440 : BodyOk gl Tryz.prog 440 b440 := okk d440 Tryz.func440 e440
noncomputable def d443 : FnD := ⟨443, Tryz.f443, ⟨[], hcT, [], [(1, [4096, 4098]), (7, [7]), (15, [4096, 4098]), (17, [4096, 4098])], []⟩, 2, [.tmp 4, .tmp 5], [], [none, some [], none, some [1, 8, 9, 10], none, some [1, 8, 9, 10], some [1, 8, 9, 10], none, none, none, none]⟩
theorem e443 : b443 = d443.den Tryz.prog := by kernel_rfl
theorem ok443 : BodyOk gl Tryz.prog 443 b443 := okk d443 Tryz.func443 e443
noncomputable def d444 : FnD := ⟨444, Tryz.f444, ⟨[], hcT, [], [(1, [4096]), (2, [2]), (4, [2]), (6, [4096, 4098])], []⟩, 2, [.tmp 3], [], [none, none]⟩
theorem e444 : b444 = d444.den Tryz.prog := by kernel_rfl
theorem ok444 : BodyOk gl Tryz.prog 444 b444 := okk d444 Tryz.func444 e444
noncomputable def d459 : FnD := ⟨459, Tryz.f459, ⟨[], hcT, [], [(1, [1]), (3, [1]), (6, [1]), (16, [1]), (23, [1]), (27, [1]), (34, [1]), (40, [1]), (42, [1]), (51, [1]), (57, [1]), (66, [1]), (72, [1])], []⟩, 1, [.tmp 2], [], [none, some [1], some [1], some [1], none, some [1], none, none, some [], none, none, none, none, none, none, none, none]⟩
theorem e459 : b459 = d459.den Tryz.prog := by kernel_rfl
theorem ok459 : BodyOk gl Tryz.prog 459 b459 := okk d459 Tryz.func459 e459
noncomputable def d464 : FnD := ⟨464, Tryz.f464, ⟨[], hcT, [], [(2, [2])], []⟩, 1, [.cell 2 true 7], [], [none, none]⟩
theorem ok464 : BodyOk gl Tryz.prog 464 (d464.den Tryz.prog) := okk d464 Tryz.func464 rfl
noncomputable def d465 : FnD := ⟨465, Tryz.f465, ⟨[], hcT, [], [], []⟩, 1, [.tmp 2], [], [none, none]⟩
theorem ok465 : BodyOk gl Tryz.prog 465 (d465.den Tryz.prog) := okk d465 Tryz.func465 rfl
noncomputable def d472 : FnD := ⟨472, Tryz.f472, ⟨[], hcT, [], [(16, [4096, 4098])], []⟩, 2, [.tmp 4], [], [none, some [], none, some [0, 1, 7, 8], none, some [0, 1, 7, 8], some [0, 1, 7, 8], none, none, none, none]⟩
theorem e472 : b472 = d472.den Tryz.prog := by kernel_rfl
theorem ok472 : BodyOk gl Tryz.prog 472 b472 := okk d472 Tryz.func472 e472
noncomputable def d485 : FnD := ⟨485, Tryz.f485, ⟨[], hcT, [], [], []⟩, 1, [.tmp 2], [], [none, some [0], none, none, some [], none, some [0, 3], some [0, 3], none, some [0, 3], none, none, none, none]⟩
theorem e485 : b485 = d485.den Tryz.prog := by kernel_rfl
theorem ok485 : BodyOk gl Tryz.prog 485 b485 := okk d485 Tryz.func485 e485
noncomputable def d489 : FnD := ⟨489, Tryz.f489, ⟨[], hcT, [], [(0, [4096, 4098]), (3, [4096, 4098]), (4, [4096, 4098]), (6, [4096, 4098]), (7, [4096, 4098]), (8, [4096, 4098]), (9, [4096, 4098]), (10, [4096, 4098]), (11, [4096, 4098]), (12, [4096, 4098]), (13, [4096, 4098]), (17, [4096, 4098]), (18, [4096, 4098]), (19, [4096, 4098]), (20, [4096, 4098]), (22, [4096, 4098]), (23, [4096, 4098]), (25, [4096, 4098]), (26, [4096, 4098]), (27, [4096, 4098]), (28, [4096, 4098]), (29, [4096, 4098]), (30, [4096, 4098]), (31, [4096, 4098]), (32, [4096, 4098]), (35, [4096, 4098]), (36, [4096, 4098]), (37, [4096, 4098]), (38, [4096, 4098]), (39, [4096, 4098]), (40, [4096, 4098]), (41, [4096, 4098]), (42, [4096, 4098]), (47, [4096, 4098]), (48, [4096, 4098]), (49, [4096, 4098]), (50, [4096, 4098]), (52, [4096, 4098]), (53, [4096, 4098]), (54, [4096, 4098]), (55, [4096, 4098]), (57, [4096, 4098]), (58, [4096, 4098]), (59, [4096, 4098]), (60, [4096, 4098]), (63, [4096, 4098]), (64, [4096, 4098]), (65, [4096, 4098]), (66, [4096, 4098]), (67, [4096, 4098]), (68, [4096, 4098])], []⟩, 1, [], [], [some [0], some [0], none, none, none, none, some [0, 2], none, none]⟩
theorem e489 : b489 = d489.den Tryz.prog := by kernel_rfl
theorem ok489 : BodyOk gl Tryz.prog 489 b489 := okk d489 Tryz.func489 e489
noncomputable def d490 : FnD := ⟨490, Tryz.f490, ⟨[], hcT, [], [(0, [4096, 4098]), (3, [4096, 4098]), (4, [4096, 4098]), (5, [4096, 4098]), (6, [4096, 4098]), (7, [4096, 4098]), (8, [4096, 4098]), (9, [4096, 4098]), (10, [4096, 4098])], []⟩, 1, [.tmp 2], [], [none, none]⟩
theorem e490 : b490 = d490.den Tryz.prog := by kernel_rfl
theorem ok490 : BodyOk gl Tryz.prog 490 b490 := okk d490 Tryz.func490 e490
noncomputable def d492 : FnD := ⟨492, Tryz.f492, ⟨[], hcT, [], [(1, [1]), (3, [1]), (7, [1]), (11, [1]), (14, [1]), (18, [1]), (23, [1])], []⟩, 1, [], [], [none, none, some [1, 10], none]⟩
theorem e492 : b492 = d492.den Tryz.prog := by kernel_rfl
theorem ok492 : BodyOk gl Tryz.prog 492 b492 := okk d492 Tryz.func492 e492
noncomputable def d493 : FnD := ⟨493, Tryz.f493, ⟨[], hcT, [], [], []⟩, 1, [.tmp 2], [], [none, none]⟩
theorem e493 : b493 = d493.den Tryz.prog := by kernel_rfl
theorem ok493 : BodyOk gl Tryz.prog 493 b493 := okk d493 Tryz.func493 e493
noncomputable def d494 : FnD := ⟨494, Tryz.f494, ⟨[], hcT, [], [(0, [4096, 4098]), (4, [4]), (6, [6]), (10, [4096, 4098]), (11, [4096, 4098]), (12, [4096, 4098]), (13, [4096, 4098]), (14, [4096, 4098]), (15, [4096, 4098]), (17, [4096, 4098]), (18, [4096, 4098]), (20, [4]), (21, [4]), (22, [4096, 4098]), (23, [4096, 4098]), (24, [4096, 4098]), (25, [4096, 4098]), (28, [4096, 4098]), (29, [4096, 4098]), (31, [4096, 4098]), (32, [4096, 4098]), (33, [4096, 4098]), (34, [4096, 4098]), (38, [4096, 4098]), (39, [4096, 4098]), (40, [4096, 4098]), (41, [4096, 4098]), (42, [4096, 4098]), (43, [4096, 4098]), (44, [4096, 4098]), (45, [4096, 4098]), (48, [4096, 4098]), (50, [4]), (52, [4096, 4098]), (53, [4096, 4098]), (54, [4096, 4098]), (55, [4096, 4098]), (56, [4096, 4098]), (57, [4096, 4098]), (58, [4096, 4098]), (59, [4096, 4098]), (62, [4096, 4098]), (63, [4096, 4098]), (64, [4]), (65, [4096, 4098]), (67, [4096, 4098]), (75, [4]), (76, [4]), (77, [4096, 4098]), (82, [4]), (90, [4]), (91, [4096, 4098]), (95, [4]), (104, [4]), (105, [4]), (106, [4]), (107, [4096, 4098]), (111, [4]), (112, [4096, 4098]), (116, [4]), (117, [4096, 4098]), (119, [4096, 4098])], []⟩, 3, [.cell 6 true 5], [], [none, some [2, 4, 6], none, none, none, some [4, 6], none, none, none, none, none, none, some [4, 6], none, none, none, none, none, none, none, none]⟩
theorem e494 : b494 = d494.den Tryz.prog := by kernel_rfl
theorem ok494 : BodyOk gl Tryz.prog 494 b494 := okk d494 Tryz.func494 e494
noncomputable def d495 : FnD := ⟨495, Tryz.f495, ⟨[], hcT, [], [(0, [4096, 4098]), (3, [4096, 4098]), (4, [4096, 4098]), (5, [4096, 4098]), (6, [4096, 4098]), (7, [4096, 4098]), (8, [4096, 4098]), (9, [4096, 4098]), (10, [4096, 4098]), (11, [4096, 4098]), (12, [4096, 4098]), (13, [4096, 4098]), (14, [4096, 4098]), (15, [4096, 4098]), (16, [4096, 4098]), (17, [4096, 4098]), (18, [4096, 4098]), (22, [4096, 4098]), (23, [4096, 4098]), (24, [4096, 4098]), (25, [4096, 4098]), (27, [4096, 4098]), (28, [4096, 4098]), (29, [4096, 4098]), (30, [4096, 4098]), (31, [4096, 4098]), (32, [4096, 4098]), (33, [4096, 4098]), (34, [4096, 4098]), (35, [4096, 4098]), (36, [4096, 4098]), (37, [4096, 4098])], []⟩, 1, [.tmp 2], [], [none, none, some [0, 3], some [0, 3], some [0, 3], none, none]⟩
theorem e495 : b495 = d495.den Tryz.prog := by kernel_rfl
theorem ok495 : BodyOk gl Tryz.prog 495 b495 := okk d495 Tryz.func495 e495
noncomputable def d496 : FnD := ⟨496, Tryz.f496, ⟨[], hcT, [], [], []⟩, 2, [.tmp 4, .tmp 5], [], [none, none, some [0, 1], none, none, none, none, none, none, some [0, 1, 6], none, none, none, none, none]⟩
theorem ok496 : BodyOk gl Tryz.prog 496 (d496.den Tryz.prog) := okk d496 Tryz.func496 rfl
noncomputable def d497 : FnD := ⟨497, Tryz.f497, ⟨[], hcT, [], [(4, [4]), (7, [7]), (14, [7])], []⟩, 2, [.cell 4 true 2, .tmp 5], [], [none, some [4], none, some [1, 4, 8, 9, 10], none, some [1, 4, 8, 9, 10], some [1, 4, 8, 9, 10], none, none, none, none]⟩
theorem e497 : b497 = d497.den Tryz.prog := by kernel_rfl
theorem ok497 : BodyOk gl Tryz.prog 497 b497 := okk d497 Tryz.func497 e497
noncomputable def d498 : FnD := ⟨498, Tryz.f498, ⟨[], hcT, [], [(2, [2]), (3, [3]), (4, [4]), (7, [2055]), (8, [2055])], []⟩, 2, [.cell 4 true 7], [], [none, none]⟩
theorem e498 : b498 = d498.den Tryz.prog := by kernel_rfl
theorem ok498 : BodyOk gl Tryz.prog 498 b498 := okk d498 Tryz.func498 e498
end
end Ck7
end Go.Hf
end

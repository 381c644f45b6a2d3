/- Parts of the proof. -/
import Derived.Test.YtlefgpakmgbgaaaGreatDoorBe
import Derived.Test.YtlefgpakmgbgaaaGreatDoorOk
import Derived.Test.YtlefgpakmgbgaaaGreatDoorProg
set_option linter.unusedVariables false
set_option linter.unusedSimpArgs false
set_option linter.unusedSectionVars false
section
set_option maxRecDepth 100000
namespace Go.Hf
open Go.Proofs Go.RowKit
namespace Ck4
section
variable [Tok] {gl : Gl}
noncomputable def d175 : FnD := ⟨175, Tryz.f175, ⟨[], hcT, [], [(0, [0])], []⟩, 0, [.cell 0 true 7], [], [none, none]⟩
theorem e175 : b175 = d175.den Tryz.prog := by kernel_rfl
theorem ok175 : BodyOk gl Tryz.prog 175 b175 := okk d175 Tryz.func175 e175
noncomputable def d176 : FnD := ⟨176, Tryz.f176, ⟨[], hcT, [], [(1, [4096]), (2, [4096]), (3, [3]), (4, [4]), (5, [5]), (8, [4096, 4098]), (9, [4096, 4098]), (10, [2058])], []⟩, 3, [.cell 4 true 11], [], [none, none, none]⟩
theorem ok176 : BodyOk gl Tryz.prog 176 (d176.den Tryz.prog) := okk d176 Tryz.func176 rfl
noncomputable def d177 : FnD := ⟨177, Tryz.f177, ⟨[], hcT, [], [(5, [5]), (6, [6]), (7, [4096, 4098]), (8, [8]), (9, [4096, 4098]), (10, [4096, 4098]), (14, [14]), (16, [4096, 4098]), (17, [4096, 4098]), (18, [4096, 4098]), (20, [4096, 4098]), (23, [4096, 4098]), (25, [4096, 4098]), (29, [4096, 4098])], []⟩, 3, [.cell 6 true 11, .tmp 7], [], [none, none, some [6, 8], none, none, none, none, none]⟩
theorem ok177 : BodyOk gl Tryz.prog 177 (d177.den Tryz.prog) := okk d177 Tryz.func177 rfl
noncomputable def d178 : FnD := ⟨178, Tryz.f178, ⟨[], hcT, [], [(4, [4]), (7, [7])], []⟩, 2, [.cell 4 true 7, .tmp 5], [], [none, some [4], none, some [1, 4, 10, 11, 12], none, some [1, 4, 10, 11, 12], some [1, 4, 10, 11, 12], none, none, none, none, none]⟩
theorem ok178 : BodyOk gl Tryz.prog 178 (d178.den Tryz.prog) := okk d178 Tryz.func178 rfl
noncomputable def d179 : FnD := ⟨179, Tryz.f179, ⟨[], hcT, [], [(0, [2066]), (2, [2066]), (11, [2066]), (17, [2065]), (18, [2066]), (19, [2066])], []⟩, 0, [.tmp 0], [false], [none, none, none, some [2], none, some [1, 2, 3], some [1, 2, 3], none, some [1, 2, 3], none]⟩
theorem ok179 : BodyOk gl Tryz.prog 179 (d179.den Tryz.prog) := okk d179 Tryz.func179 rfl
noncomputable def d181 : FnD := ⟨181, Tryz.f181, ⟨[], hcT, [], [(0, [4096, 4098]), (3, [3]), (4, [4096, 4098]), (5, [3]), (8, [4096, 4098]), (9, [4096, 4098]), (10, [3]), (13, [4096, 4098])], []⟩, 2, [], [], [none, none]⟩
theorem ok181 : BodyOk gl Tryz.prog 181 (d181.den Tryz.prog) := okk d181 Tryz.func181 rfl
noncomputable def d192 : FnD := ⟨192, Tryz.f192, ⟨[], hcT, [], [(2, [2]), (5, [5])], []⟩, 1, [.cell 2 true 11], [], [none, none, none, some [2, 5], none, some [2, 3, 5, 6], some [2, 3, 5, 6], none, some [2, 3, 5, 6], none]⟩
theorem ok192 : BodyOk gl Tryz.prog 192 (d192.den Tryz.prog) := okk d192 Tryz.func192 rfl
noncomputable def d203 : FnD := ⟨203, Tryz.f203, ⟨[], hcT, [], [(0, [4096, 4098]), (2, [2103, 2149, 2179, 4096, 4098]), (4, [4]), (7, [7]), (17, [4096, 4098]), (18, [4096, 4098]), (19, [4096, 4098]), (20, [4096, 4098]), (21, [4]), (22, [4096, 4098]), (26, [4]), (27, [4096, 4098]), (37, [4096, 4098]), (38, [4096, 4098]), (39, [4096, 4098]), (40, [4096, 4098]), (41, [4]), (42, [4096, 4098]), (50, [7]), (55, [2103]), (59, [4096, 4098]), (60, [4096, 4098]), (61, [4096, 4098]), (62, [4096, 4098]), (63, [4]), (64, [4096, 4098]), (72, [4]), (73, [4096, 4098]), (76, [4]), (77, [4096, 4098]), (78, [4096, 4098]), (79, [4096, 4098]), (80, [4096, 4098]), (81, [4096, 4098]), (83, [4098]), (84, [4098]), (85, [4096, 4098]), (89, [4096, 4098]), (90, [4096, 4098]), (91, [4096, 4098]), (92, [4096, 4098]), (94, [4098]), (95, [4098]), (96, [4096, 4098]), (97, [4]), (98, [4096, 4098]), (99, [4098]), (100, [4096, 4098]), (101, [2149]), (105, [4096, 4098]), (106, [4]), (107, [4096, 4098]), (113, [4096, 4098]), (114, [4]), (115, [4096, 4098]), (121, [4]), (122, [4096, 4098]), (126, [4]), (127, [4096, 4098]), (128, [4]), (129, [4096, 4098]), (131, [2179]), (132, [4096, 4098]), (133, [4]), (134, [4096, 4098]), (135, [2183]), (140, [4096, 4098]), (141, [4]), (142, [4096, 4098]), (148, [4096, 4098]), (149, [4]), (150, [4096, 4098]), (156, [4]), (157, [4096, 4098]), (161, [4]), (162, [4096, 4098]), (166, [4096, 4098]), (172, [4096, 4098]), (178, [4096, 4098]), (184, [4096, 4098]), (190, [4096, 4098]), (196, [4096, 4098]), (197, [4]), (198, [4096, 4098]), (203, [4]), (204, [4096, 4098]), (205, [4]), (206, [4096, 4098]), (210, [4]), (211, [4096, 4098]), (215, [4096, 4098]), (216, [4]), (217, [4096, 4098]), (222, [4]), (223, [4096, 4098]), (227, [4]), (228, [4096, 4098])], []⟩, 1, [.tmp 2, .tmp 3], [], [none, none, some [], none, none, none, some [5], none, none, none, none, none, some [7], none, none, none, none, none, none, none, some [0, 4, 9], none, none, none, none, none, none, none, some [4, 11, 12], none, some [4, 11], none, none, none, none, none, none, none, some [4, 13, 14], none, some [4, 14], none, none, none, none, none, none, none, none, none, none, none, none, none, none, some [4, 15], none, none, none, none, some [4, 16], none, none, none]⟩
theorem ok203 : BodyOk gl Tryz.prog 203 (d203.den Tryz.prog) := okk d203 Tryz.func203 rfl
noncomputable def d204 : FnD := ⟨204, Tryz.f204, ⟨[], hcT, [], [], []⟩, 1, [.tmp 2], [], [none, none, some [3], none, some [3, 6, 7, 8], none, some [3, 6, 7, 8], some [3, 6, 7, 8], none, none]⟩
theorem ok204 : BodyOk gl Tryz.prog 204 (d204.den Tryz.prog) := okk d204 Tryz.func204 rfl
noncomputable def d205 : FnD := ⟨205, Tryz.f205, ⟨[], hcT, [], [(1, [4096, 4098]), (6, [4096, 4098]), (7, [4096, 4098])], []⟩, 2, [.tmp 4], [], [none, none]⟩
theorem ok205 : BodyOk gl Tryz.prog 205 (d205.den Tryz.prog) := okk d205 Tryz.func205 rfl
noncomputable def d206 : FnD := ⟨206, Tryz.f206, ⟨[], hcT, [], [(1, [1])], []⟩, 1, [.tmp 2], [], [none, none]⟩
theorem ok206 : BodyOk gl Tryz.prog 206 (d206.den Tryz.prog) := okk d206 Tryz.func206 rfl
noncomputable def d207 : FnD := ⟨207, Tryz.f207, ⟨[], hcT, [], [(1, [1])], []⟩, 1, [.tmp 2], [], [none, none]⟩
theorem e207 : b207 = d207.den Tryz.prog := by kernel_rfl
theorem ok207 : BodyOk gl Tryz.prog 207 b207 := okk d207 Tryz.func207 e207
noncomputable def d208 : FnD := ⟨208, Tryz.f208, ⟨[], hcT, [], [(1, [4096]), (2, [2]), (5, [4096, 4098])], []⟩, 2, [.tmp 3], [], [none, none]⟩
theorem ok208 : BodyOk gl Tryz.prog 208 (d208.den Tryz.prog) := okk d208 Tryz.func208 rfl
noncomputable def d209 : FnD := ⟨209, Tryz.f209, ⟨[], hcT, [], [(2, [2]), (4, [4])], []⟩, 2, [.cell 4 true 11], [], [none, none]⟩
theorem e209 : b209 = d209.den Tryz.prog := by kernel_rfl
theorem ok209 : BodyOk gl Tryz.prog 209 b209 := okk d209 Tryz.func209 e209
noncomputable def d211 : FnD := ⟨211, Tryz.f211, ⟨[], hcT, [], [(3, [2082]), (6, [2082]), (27, [2082]), (33, [2081]), (34, [2082]), (36, [2082])], []⟩, 1, [.tmp 2, .tmp 3], [], [none, some [0], none, none, none, none, some [0, 4, 5], none, none, some [4, 6], none, some [0, 4, 5, 6, 7], some [0, 4, 5, 6, 7], none, some [0, 4, 5, 6, 7], none]⟩
theorem e211 : b211 = d211.den Tryz.prog := by kernel_rfl
theorem ok211 : BodyOk gl Tryz.prog 211 b211 := okk d211 Tryz.func211 e211
noncomputable def d212 : FnD := ⟨212, Tryz.f212, ⟨[], hcT, [], [], []⟩, 2, [.tmp 4], [], [none, none, none, some [6], some [6, 8], some [6, 8], none, none, none]⟩
theorem e212 : b212 = d212.den Tryz.prog := by kernel_rfl
theorem ok212 : BodyOk gl Tryz.prog 212 b212 := okk d212 Tryz.func212 e212
noncomputable def d213 : FnD := ⟨213, Tryz.f213, ⟨[11], hcT, [], [(6, [2059]), (11, [2059]), (23, [2071]), (25, [2071, 2073]), (34, [2059]), (36, [2059]), (39, [2059]), (40, [2059])], []⟩, 2, [.tmp 4, .tmp 5], [], [none, none, none, some [6, 7], none, some [0, 1, 6, 7, 8], some [0, 1, 6, 7, 8], none, some [0, 1, 6, 7, 8], none, some [0, 1, 6, 7, 8], some [0, 1, 6, 7, 8], none, none, none]⟩
theorem e213 : b213 = d213.den Tryz.prog := by kernel_rfl
theorem ok213 : BodyOk gl Tryz.prog 213 b213 := okk d213 Tryz.func213 e213
noncomputable def d214 : FnD := ⟨214, Tryz.f214, ⟨[], hcT, [], [(5, [2063, 2079]), (13, [2063, 2079]), (14, [2062]), (15, [2063, 2079]), (23, [2063, 2079]), (30, [2078]), (31, [2063, 2079]), (32, [2063, 2079])], []⟩, 2, [.tmp 4], [], [none, none, some [0, 1], none, none, none, some [1, 5], none, some [5], none, some [1, 5, 6], some [1, 5, 6], none, some [1, 5, 6], none]⟩
theorem e214 : b214 = d214.den Tryz.prog := by kernel_rfl
theorem ok214 : BodyOk gl Tryz.prog 214 b214 := okk d214 Tryz.func214 e214
noncomputable def d215 : FnD := ⟨215, Tryz.f215, ⟨[], hcT, [], [(5, [5]), (6, [6]), (8, [8]), (9, [4096, 4098]), (10, [10]), (12, [12]), (13, [4096, 4098]), (37, [10]), (40, [4096, 4098]), (44, [10]), (50, [10]), (56, [10]), (62, [10]), (64, [4096, 4098]), (75, [4096, 4098]), (78, [4096, 4098])], []⟩, 4, [.cell 8 true 34, .tmp 9], [], [none, some [0, 3, 5, 6, 8], none, none, none, none, none, some [8, 10, 13], none, none, none, none, none, none, none, none, none, none, none, none, none, some [8, 10], none, none, none]⟩
theorem ok215 : BodyOk gl Tryz.prog 215 (d215.den Tryz.prog) := okk d215 Tryz.func215 rfl
noncomputable def d216 : FnD := ⟨216, Tryz.f216, ⟨[], hcT, [], [(2, [2])], []⟩, 1, [.cell 2 true 2], [], [none, none]⟩
theorem ok216 : BodyOk gl Tryz.prog 216 (d216.den Tryz.prog) := okk d216 Tryz.func216 rfl
noncomputable def d217 : FnD := ⟨217, Tryz.f217, ⟨[], hcT, [], [(3, [3]), (4, [4]), (7, [7]), (14, [7]), (18, [7])], []⟩, 2, [.cell 4 true 11, .tmp 5], [], [none, some [4], none, some [3, 4, 8, 9, 10], none, some [3, 4, 8, 9, 10], some [3, 4, 8, 9, 10], none, none, none, none]⟩
theorem ok217 : BodyOk gl Tryz.prog 217 (d217.den Tryz.prog) := okk d217 Tryz.func217 rfl
noncomputable def d218 : FnD := ⟨218, Tryz.f218, ⟨[], hcT, [], [(1, [4096, 4098]), (2, [2]), (6, [6]), (7, [4096, 4098]), (9, [4096, 4098]), (11, [2]), (14, [2]), (22, [4096, 4098]), (23, [4096, 4098])], []⟩, 2, [.tmp 4], [], [none, some [1, 2], none, none, some [], none, none, some [1, 15, 16, 17], none, some [1, 15, 16, 17], some [1, 15, 16, 17], none, none, none, none]⟩
theorem e218 : b218 = d218.den Tryz.prog := by kernel_rfl
theorem ok218 : BodyOk gl Tryz.prog 218 b218 := okk d218 Tryz.func218 e218
noncomputable def d219 : FnD := ⟨219, Tryz.f219, ⟨[], hcT, [], [(1, [4096]), (2, [4096]), (3, [3]), (5, [3]), (7, [4096, 4098]), (10, [4096, 4098]), (11, [3]), (16, [4096, 4098]), (17, [3]), (19, [2067]), (20, [4098, 2068])], []⟩, 3, [.tmp 4], [], [none, some [], none, none]⟩
theorem e219 : b219 = d219.den Tryz.prog := by kernel_rfl
theorem ok219 : BodyOk gl Tryz.prog 219 b219 := okk d219 Tryz.func219 e219
noncomputable def d220 : FnD := ⟨220, Tryz.f220, ⟨[], hcT, [], [(3, [3])], []⟩, 2, [.tmp 4], [], [none, none]⟩
theorem ok220 : BodyOk gl Tryz.prog 220 (d220.den Tryz.prog) := okk d220 Tryz.func220 rfl
noncomputable def d221 : FnD := ⟨221, Tryz.f221, ⟨[], hcT, [], [(2, [2]), (8, [2]), (13, [2]), (20, [2])], []⟩, 2, [.tmp 4], [], [none, some [1], some [1, 2], some [1, 2], none, none, none]⟩
theorem e221 : b221 = d221.den Tryz.prog := by kernel_rfl
theorem ok221 : BodyOk gl Tryz.prog 221 b221 := okk d221 Tryz.func221 e221
noncomputable def d224 : FnD := ⟨224, Tryz.f224, ⟨[], hcT, [], [(0, [4096, 4098]), (1, [4096]), (2, [4096]), (5, [5]), (7, [7]), (9, [4096, 4098]), (13, [4098]), (14, [4096, 4098]), (16, [4096, 4098]), (17, [4096, 4098]), (24, [4096, 4098]), (27, [4096, 4098]), (30, [4096, 4098])], []⟩, 3, [], [], [none, some [0, 2, 9, 10, 11], none, some [0, 2, 9, 10, 11], some [0, 2, 9, 10, 11], none, none, none]⟩
theorem ok224 : BodyOk gl Tryz.prog 224 (d224.den Tryz.prog) := okk d224 Tryz.func224 rfl
noncomputable def d225 : FnD := ⟨225, Tryz.f225, ⟨[], hcT, [], [(2, [2]), (3, [3]), (5, [5]), (8, [8]), (11, [11]), (33, [2]), (41, [2])], []⟩, 2, [.tmp 4, .cell 5 true 11, .tmp 6], [], [none, some [2, 3, 5], none, none, some [2, 3, 5], none, none, none, some [2, 3, 5], none, none, some [2, 3, 5], none, none, none, none]⟩
theorem ok225 : BodyOk gl Tryz.prog 225 (d225.den Tryz.prog) := okk d225 Tryz.func225 rfl
noncomputable def d226 : FnD := ⟨226, Tryz.f226, ⟨[], hcT, [], [], []⟩, 2, [.tmp 4, .tmp 5], [], [none, some [1], some [0, 1], some [0, 1], none, none, none, some [0, 1], some [0, 1], none, none, none, none, some [0, 1, 6], some [0, 1, 6], none, none, none, none, none, none, none, none, none]⟩
theorem e226 : b226 = d226.den Tryz.prog := by kernel_rfl
theorem ok226 : BodyOk gl Tryz.prog 226 b226 := okk d226 Tryz.func226 e226
noncomputable def d227 : FnD := ⟨227, Tryz.f227, ⟨[], hcT, [], [(4, [4]), (6, [6]), (7, [7]), (8, [8]), (23, [7]), (31, [7]), (39, [7]), (47, [7]), (56, [7]), (57, [8]), (61, [7]), (66, [7]), (75, [7]), (84, [7]), (85, [8]), (125, [7]), (127, [7]), (133, [7]), (143, [7]), (152, [7]), (153, [7]), (154, [7]), (159, [7])], []⟩, 2, [.cell 4 true 5, .tmp 5, .cell 6 true 2], [], [none, none, none, some [0, 1, 4, 6, 7, 8], none, none, none, none, none, none, none, none, none, none, none, none, none, some [1, 4, 6, 7, 8], none, none, none, none, none, some [1, 4, 6, 7, 8], none, none, none, none, none, none, some [1, 4, 6, 7, 8, 10, 11], none, none, none, some [4, 6, 7, 8, 10], none, none, some [1, 4, 6, 7, 8, 10, 12, 13], none, none, none, none, none, none, none, none, none]⟩
theorem e227 : b227 = d227.den Tryz.prog := by kernel_rfl
theorem ok227 : BodyOk gl Tryz.prog 227 b227 := okk d227 Tryz.func227 e227
noncomputable def d228 : FnD := ⟨228, Tryz.f228, ⟨[], hcT, [], [(6, [6]), (8, [8]), (30, [8]), (36, [8]), (44, [8])], []⟩, 3, [.cell 6 true 2, .tmp 7], [], [none, none, some [1, 2, 6, 8], none, none, some [1, 2, 6, 8], none, none, some [1, 2, 6], none, some [1, 2, 6, 8, 10], some [1, 2, 6, 8, 10], none, some [1, 2, 6, 8, 10], none, none, none]⟩
theorem e228 : b228 = d228.den Tryz.prog := by kernel_rfl
theorem ok228 : BodyOk gl Tryz.prog 228 b228 := okk d228 Tryz.func228 e228
noncomputable def d229 : FnD := ⟨229, Tryz.f229, ⟨[], hcT, [], [(0, [4096, 4098]), (4, [4]), (5, [5]), (6, [2149]), (7, [7]), (8, [8]), (9, [9]), (10, [10]), (11, [11]), (12, [12]), (15, [4096, 4098]), (16, [4096, 4098]), (17, [4096, 4098]), (18, [4096, 4098]), (19, [4096, 4098]), (20, [4096, 4098]), (21, [4096, 4098]), (22, [4096, 4098]), (23, [4098]), (24, [4098]), (25, [4096, 4098]), (27, [4096, 4098]), (28, [4096, 4098]), (29, [4096, 4098]), (30, [4096, 4098]), (31, [4096, 4098]), (32, [4096, 4098]), (33, [4096, 4098]), (34, [4096, 4098]), (35, [4098]), (36, [4098]), (37, [4096, 4098]), (40, [2149]), (44, [4096, 4098]), (45, [4096, 4098]), (46, [4096, 4098]), (47, [4096, 4098]), (49, [4096, 4098]), (50, [4096, 4098]), (51, [4096, 4098]), (52, [4096, 4098]), (54, [4096, 4098]), (55, [4096, 4098]), (56, [4096, 4098]), (57, [9]), (58, [4096, 4098]), (61, [4096, 4098]), (62, [4096, 4098]), (63, [4096, 4098]), (64, [4096, 4098]), (65, [4096, 4098]), (66, [4096, 4098]), (67, [4096, 4098]), (68, [4096, 4098]), (69, [4096, 4098]), (70, [4096, 4098]), (71, [4098]), (72, [4096, 4098]), (73, [10]), (74, [4096, 4098]), (76, [10]), (77, [4096, 4098]), (84, [10]), (85, [4096, 4098]), (87, [4096, 4098]), (88, [4096, 4098]), (90, [4096, 4098]), (91, [4096, 4098]), (92, [4096, 4098]), (93, [12]), (94, [4096, 4098]), (97, [4096, 4098]), (98, [2149]), (99, [4096, 4098]), (100, [2148]), (101, [2149]), (102, [4096, 4098]), (103, [4096, 4098]), (104, [4096, 4098]), (105, [4096, 4098]), (107, [4096, 4098]), (108, [4096, 4098]), (109, [2149]), (116, [2149]), (118, [2149]), (120, [4096, 4098]), (122, [4096, 4098])], []⟩, 2, [.cell 4 true 7, .cell 5 true 2], [], [none, none, none, some [0, 4, 5, 6, 7], some [0, 1, 4, 5, 6, 7], some [0, 1, 4, 5, 6, 7], none, some [0, 1, 4, 5, 6, 7], none, none, none, some [0, 4, 5, 6, 7, 8], none, none, none, none, none, none, none, none, none, none, none, some [0, 1, 4, 5, 6, 7, 11], none, none, none, some [4, 5, 7], none, some [4, 5, 6, 7, 13], some [4, 5, 6, 7, 13], none, some [4, 5, 6, 7, 13], none]⟩
theorem e229 : b229 = d229.den Tryz.prog := by kernel_rfl
theorem ok229 : BodyOk gl Tryz.prog 229 b229 := okk d229 Tryz.func229 e229
noncomputable def d230 : FnD := ⟨230, Tryz.f230, ⟨[], hcT, [], [(2, [2]), (6, [2]), (14, [2]), (27, [2])], []⟩, 2, [.tmp 4], [], [none, some [1, 2], none, none, none, some [1, 2, 5], none, none, none]⟩
theorem e230 : b230 = d230.den Tryz.prog := by kernel_rfl
theorem ok230 : BodyOk gl Tryz.prog 230 b230 := okk d230 Tryz.func230 e230
noncomputable def d231 : FnD := ⟨231, Tryz.f231, ⟨[], hcT, [], [(1, [1])], []⟩, 1, [.tmp 2], [], [none, none]⟩
theorem e231 : b231 = d231.den Tryz.prog := by kernel_rfl
theorem ok231 : BodyOk gl Tryz.prog 231 b231 := okk d231 Tryz.func231 e231
noncomputable def d234 : FnD := ⟨234, Tryz.f234, ⟨[], hcT, [], [(0, [4096, 4098]), (3, [4096, 4098]), (4, [4096, 4098]), (5, [4096, 4098]), (6, [4096, 4098]), (8, [4096, 4098]), (9, [4096, 4098]), (10, [4096, 4098]), (11, [4096, 4098]), (12, [4096, 4098]), (13, [4096, 4098])], []⟩, 1, [.tmp 2], [], [none, none, none]⟩
theorem e234 : b234 = d234.den Tryz.prog := by kernel_rfl
theorem ok234 : BodyOk gl Tryz.prog 234 b234 := okk d234 Tryz.func234 e234
end
end Ck4
end Go.Hf
end
section
set_option maxRecDepth 100000
namespace Go.Hf
open Go.Proofs Go.RowKit
namespace Ck5
section
variable [Tok] {gl : Gl}
noncomputable def d235 : FnD := ⟨235, Tryz.f235, ⟨[], hcT, [], [(3, [3]), (4, [4])], []⟩, 2, [.cell 4 true 15, .tmp 5], [], [none, some [4], none, some [0, 3, 4, 6], some [0, 3, 4, 6], none, some [0, 3, 4, 6], none, none, none]⟩
theorem e235 : b235 = d235.den Tryz.prog := by kernel_rfl
theorem ok235 : BodyOk gl Tryz.prog 235 b235 := okk d235 Tryz.func235 e235
noncomputable def d236 : FnD := ⟨236, Tryz.f236, ⟨[], hcT, [], [(1, [1]), (3, [1]), (6, [1])], []⟩, 1, [.tmp 2], [], [none, some [1], none, none, some [], none, some [8], none, none, none, none, none, none, none, none, none, none, none, none, none, none]⟩
theorem e236 : b236 = d236.den Tryz.prog := by kernel_rfl
theorem ok236 : BodyOk gl Tryz.prog 236 b236 := okk d236 Tryz.func236 e236
noncomputable def d237 : FnD := ⟨237, Tryz.f237, ⟨[], hcT, [], [(3, [3]), (4, [4]), (9, [9]), (11, [11]), (13, [13]), (15, [2140, 2144, 2153]), (16, [16]), (48, [9]), (67, [13]), (70, [13]), (79, [13]), (92, [2140]), (96, [2140, 2144]), (97, [13]), (99, [2140, 2144, 2153]), (104, [2152]), (105, [2140, 2144, 2153]), (108, [13]), (110, [13]), (112, [2140, 2144, 2153])], []⟩, 2, [.cell 4 true 7, .tmp 5, .tmp 6], [], [none, none, some [0, 3, 4, 7], none, none, none, some [0, 3, 4, 9, 10], none, none, some [4, 11], none, none, none, none, some [0, 4, 10, 13], none, none, none, some [0, 4, 10, 13, 14], none, some [0, 4, 10, 13, 14], none, none, none, some [0, 4, 13, 15], none, none, some [4, 16], none, none, none]⟩
theorem ok237 : BodyOk gl Tryz.prog 237 (d237.den Tryz.prog) := okk d237 Tryz.func237 rfl
noncomputable def d238 : FnD := ⟨238, Tryz.f238, ⟨[], hcT, [], [(0, [4096, 4098]), (3, [3]), (8, [4096, 4098]), (9, [4096, 4098]), (10, [4096, 4098]), (11, [4096, 4098]), (16, [4096, 4098]), (17, [4096, 4098]), (18, [4096, 4098]), (19, [4096, 4098]), (21, [4098]), (22, [4098]), (23, [4096, 4098]), (26, [4096, 4098]), (27, [4096, 4098]), (28, [4096, 4098]), (29, [4096, 4098]), (31, [4098]), (32, [4098]), (33, [4096, 4098]), (35, [4096, 4098]), (36, [4096, 4098]), (37, [4096, 4098]), (38, [4096, 4098])], []⟩, 2, [.tmp 4, .tmp 5], [], [none, some [0, 3], none, some [0, 3, 6], some [0, 3, 6], none, some [0, 3, 6], none, none, none]⟩
theorem e238 : b238 = d238.den Tryz.prog := by kernel_rfl
theorem ok238 : BodyOk gl Tryz.prog 238 b238 := okk d238 Tryz.func238 e238
noncomputable def d239 : FnD := ⟨239, Tryz.f239, ⟨[], hcT, [], [(1, [1])], []⟩, 1, [.tmp 2], [], [none, none]⟩
theorem ok239 : BodyOk gl Tryz.prog 239 (d239.den Tryz.prog) := okk d239 Tryz.func239 rfl
noncomputable def d240 : FnD := ⟨240, Tryz.f240, ⟨[], hcT, [], [(1, [1])], []⟩, 1, [.tmp 2], [], [none, none]⟩
theorem ok240 : BodyOk gl Tryz.prog 240 (d240.den Tryz.prog) := okk d240 Tryz.func240 rfl
noncomputable def d241 : FnD := ⟨241, Tryz.f241, ⟨[], hcT, [], [(1, [1]), (5, [1]), (9, [1]), (15, [1]), (20, [1]), (27, [1]), (32, [1]), (37, [1]), (47, [1]), (53, [1]), (59, [1]), (65, [1])], []⟩, 1, [.tmp 2], [], [none, none, some [], none, none, none, none, none, none, some [1], none, none, some [], none, some [1, 4], some [1, 4], none, some [1, 4], none, none, none, none]⟩
theorem e241 : b241 = d241.den Tryz.prog := by kernel_rfl
theorem ok241 : BodyOk gl Tryz.prog 241 b241 := okk d241 Tryz.func241 e241
noncomputable def d243 : FnD := ⟨243, Tryz.f243, ⟨[], hcT, [], [(6, [2098]), (7, [2103]), (8, [18]), (9, [2098]), (10, [2103]), (11, [11]), (12, [12]), (18, [18]), (19, [18]), (20, [4096, 4098]), (21, [4096, 4098]), (23, [18]), (24, [4096, 4098]), (25, [2098]), (29, [11]), (30, [4096, 4098]), (34, [11]), (35, [4096, 4098]), (38, [4096, 4098]), (40, [18]), (41, [4096, 4098]), (42, [4096, 4098]), (45, [4096, 4098]), (47, [2098]), (48, [4096, 4098]), (49, [2097]), (50, [2098]), (51, [2103]), (52, [11]), (53, [4096, 4098]), (54, [2102]), (55, [2103]), (56, [2098]), (57, [2103])], []⟩, 3, [.tmp 6, .tmp 7], [], [none, none, none, none, some [9, 10], some [8, 9, 10], some [8, 9, 10], none, none, some [8, 9, 10, 11], none, none, some [8, 9, 10, 11, 12], none, none]⟩
theorem ok243 : BodyOk gl Tryz.prog 243 (d243.den Tryz.prog) := okk d243 Tryz.func243 rfl
noncomputable def d244 : FnD := ⟨244, Tryz.f244, ⟨[], hcT, [], [(1, [1]), (3, [1]), (7, [1])], []⟩, 1, [.tmp 2], [], [none, none]⟩
theorem e244 : b244 = d244.den Tryz.prog := by kernel_rfl
theorem ok244 : BodyOk gl Tryz.prog 244 b244 := okk d244 Tryz.func244 e244
noncomputable def d245 : FnD := ⟨245, Tryz.f245, ⟨[], hcT, [], [(1, [1]), (2, [2])], []⟩, 1, [.cell 2 true 7], [], [none, none]⟩
theorem e245 : b245 = d245.den Tryz.prog := by kernel_rfl
theorem ok245 : BodyOk gl Tryz.prog 245 b245 := okk d245 Tryz.func245 e245
noncomputable def d246 : FnD := ⟨246, Tryz.f246, ⟨[], hcT, [], [(0, [4096, 4098]), (4, [4]), (6, [6]), (7, [4096, 4098]), (10, [10]), (12, [12]), (15, [4096, 4098]), (16, [16]), (18, [2199]), (20, [20]), (21, [21]), (22, [4096, 4098]), (23, [4096, 4098]), (24, [4096, 4098]), (29, [4]), (32, [4]), (63, [10]), (66, [10]), (80, [4096, 4098]), (88, [4096, 4098]), (95, [4096, 4098]), (96, [4096, 4098]), (97, [4096, 4098]), (98, [4096, 4098]), (105, [4096, 4098]), (106, [4096, 4098]), (107, [4096, 4098]), (110, [4096, 4098]), (112, [4096, 4098]), (113, [4096, 4098]), (114, [4096, 4098]), (115, [4096, 4098]), (125, [4096, 4098]), (128, [4096, 4098]), (129, [4096, 4098]), (130, [4096, 4098]), (137, [4096, 4098]), (138, [4096, 4098]), (141, [4096, 4098]), (142, [4096, 4098]), (143, [4096, 4098]), (144, [4096, 4098]), (147, [4096, 4098]), (148, [2199]), (149, [4096, 4098]), (150, [2198]), (151, [2199]), (153, [4096, 4098]), (154, [4096, 4098]), (156, [4096, 4098]), (157, [4096, 4098]), (158, [4096, 4098]), (160, [4096, 4098]), (164, [4096, 4098]), (165, [2199]), (170, [2199])], []⟩, 3, [.cell 6 true 11, .tmp 7], [], [none, some [0, 2, 4, 6], none, none, some [0, 2, 4, 6], none, none, none, some [0, 2, 4, 6, 8], none, none, none, some [0, 2, 4, 6, 10, 11], none, none, none, some [6, 11], none, none, none, none, none, none, none, some [0, 2, 6, 10, 11], none, none, some [0, 2, 6, 10, 11], none, none, none, none, some [0, 2, 6, 16], none, none, none, none, some [0, 6, 10, 18], none, some [0, 2, 6, 10, 18, 131, 132, 133], none, some [0, 2, 6, 10, 18, 131, 132, 133], some [0, 2, 6, 10, 18, 131, 132, 133], none, none, some [0, 2, 6, 10, 18, 21, 131, 132, 133], none, none, some [6, 10, 18], none, none, none, none, none, none]⟩
theorem e246 : b246 = d246.den Tryz.prog := by kernel_rfl
theorem ok246 : BodyOk gl Tryz.prog 246 b246 := okk d246 Tryz.func246 e246
noncomputable def d249 : FnD := ⟨249, Tryz.f249, ⟨[], hcT, [], [(0, [4096, 4098]), (6, [4096, 4098]), (7, [4096, 4098]), (8, [4096, 4098]), (9, [4096, 4098]), (10, [4096, 4098]), (11, [4096, 4098]), (12, [4096, 4098]), (14, [4098, 2062]), (15, [4096, 4098]), (16, [4096, 4098])], []⟩, 2, [.tmp 4, .tmp 5], [], [none, none, none, none]⟩
theorem ok249 : BodyOk gl Tryz.prog 249 (d249.den Tryz.prog) := okk d249 Tryz.func249 rfl
noncomputable def d257 : FnD := ⟨257, Tryz.f257, ⟨[], hcT, [], [(2, [2]), (3, [3]), (4, [4]), (7, [2055])], []⟩, 2, [.cell 4 true 11], [], [none, none]⟩
theorem ok257 : BodyOk gl Tryz.prog 257 (d257.den Tryz.prog) := okk d257 Tryz.func257 rfl
noncomputable def d258 : FnD := ⟨258, Tryz.f258, ⟨[], hcT, [], [(1, [4096, 4098]), (7, [7]), (15, [4096, 4098]), (17, [4096, 4098])], []⟩, 2, [.tmp 4, .tmp 5], [], [none, some [], none, some [1, 8, 9, 10], none, some [1, 8, 9, 10], some [1, 8, 9, 10], none, none, none, none]⟩
theorem e258 : b258 = d258.den Tryz.prog := by kernel_rfl
theorem ok258 : BodyOk gl Tryz.prog 258 b258 := okk d258 Tryz.func258 e258
noncomputable def d261 : FnD := ⟨261, Tryz.f261, ⟨[], hcT, [], [(2, [2127]), (5, [2088, 2097]), (8, [8]), (9, [9]), (12, [2127]), (14, [14]), (15, [15]), (27, [2075]), (31, [2075]), (33, [2088, 2097]), (37, [2085]), (38, [2085]), (39, [2087]), (40, [2088, 2097]), (42, [2088, 2097]), (46, [2094]), (47, [2094]), (48, [2096]), (49, [2088, 2097]), (71, [2088, 2097]), (76, [2127]), (78, [2126]), (79, [2127]), (81, [2127])], []⟩, 1, [.tmp 2, .tmp 3], [], [none, none, some [0, 4], none, none, none, some [0, 4, 5], none, some [0, 4, 5, 27, 28, 29], none, some [0, 4, 5, 27, 28, 29], some [0, 4, 5, 27, 28, 29], none, none, none, none, none, some [12], none, some [5, 12, 64, 65, 66], none, some [5, 12, 64, 65, 66], some [5, 12, 64, 65, 66], none, none, none]⟩
theorem ok261 : BodyOk gl Tryz.prog 261 (d261.den Tryz.prog) := okk d261 Tryz.func261 rfl
noncomputable def d262 : FnD := ⟨262, Tryz.f262, ⟨[], hcT, [], [(3, [3]), (4, [4])], []⟩, 2, [.cell 4 true 37, .tmp 5], [], [none, none, some [0, 4, 6, 7], none, none, none]⟩
theorem ok262 : BodyOk gl Tryz.prog 262 (d262.den Tryz.prog) := okk d262 Tryz.func262 rfl
noncomputable def d276 : FnD := ⟨276, Tryz.f276, ⟨[], hcT, [], [(1, [4096, 4098]), (11, [4096, 4098]), (16, [4096, 4098])], []⟩, 2, [.tmp 4], [], [none, some [], none, some [0, 1, 7, 8], none, some [0, 1, 7, 8], some [0, 1, 7, 8], none, none, none, none]⟩
theorem ok276 : BodyOk gl Tryz.prog 276 (d276.den Tryz.prog) := okk d276 Tryz.func276 rfl
noncomputable def d277 : FnD := ⟨277, Tryz.f277, ⟨[], hcT, [], [(1, [1])], []⟩, 1, [.tmp 2], [], [none, none]⟩
theorem e277 : b277 = d277.den Tryz.prog := by kernel_rfl
theorem ok277 : BodyOk gl Tryz.prog 277 b277 := okk d277 Tryz.func277 e277
noncomputable def d278 : FnD := ⟨278, Tryz.f278, ⟨[], hcT, [], [(1, [1]), (3, [1]), (7, [1]), (11, [1]), (17, [1]), (24, [1]), (29, [1]), (34, [1]), (41, [1]), (46, [1]), (53, [1]), (58, [1])], []⟩, 1, [.tmp 2], [], [none, some [], none, none, none, none, none, none, some [1], none, none, none, none]⟩
theorem e278 : b278 = d278.den Tryz.prog := by kernel_rfl
theorem ok278 : BodyOk gl Tryz.prog 278 b278 := okk d278 Tryz.func278 e278
noncomputable def d280 : FnD := ⟨280, Tryz.f280, ⟨[], hcT, [], [], []⟩, 1, [.tmp 2], [], [none, some [0], none, none, none, some [0, 3], none, some [0, 3], none, none, some [], none, some [0, 4], some [0, 4], none, some [0, 4], none, none, none]⟩
theorem e280 : b280 = d280.den Tryz.prog := by kernel_rfl
theorem ok280 : BodyOk gl Tryz.prog 280 b280 := okk d280 Tryz.func280 e280
noncomputable def d281 : FnD := ⟨281, Tryz.f281, ⟨[], hcT, [], [], []⟩, 1, [.tmp 2], [], [none, none, some [0, 3], some [0, 3], some [0, 3], none, none]⟩
theorem e281 : b281 = d281.den Tryz.prog := by kernel_rfl
theorem ok281 : BodyOk gl Tryz.prog 281 b281 := okk d281 Tryz.func281 e281
noncomputable def d282 : FnD := ⟨282, Tryz.f282, ⟨[], hcT, [], [], []⟩, 2, [.tmp 4], [], [none, some [0, 1], none, some [], none, none, none, some [], none, some [0, 1, 5], some [0, 1, 5], none, some [0, 1, 5], some [0, 1, 5], none, none, none, none, none]⟩
theorem e282 : b282 = d282.den Tryz.prog := by kernel_rfl
theorem ok282 : BodyOk gl Tryz.prog 282 b282 := okk d282 Tryz.func282 e282
noncomputable def d283 : FnD := ⟨283, Tryz.f283, ⟨[], hcT, [], [(5, [2086]), (35, [2086]), (37, [2085]), (38, [2086]), (39, [2086])], []⟩, 2, [.tmp 4], [], [none, none, none, some [5], none, some [0, 1, 5, 6, 7], some [0, 1, 5, 6, 7], none, some [0, 1, 5, 6, 7], none, some [0, 1, 5, 7, 8], none, none, some [0, 1, 5, 6, 7, 8], none, none, none]⟩
theorem e283 : b283 = d283.den Tryz.prog := by kernel_rfl
theorem ok283 : BodyOk gl Tryz.prog 283 b283 := okk d283 Tryz.func283 e283
noncomputable def d284 : FnD := ⟨284, Tryz.f284, ⟨[], hcT, [], [(1, [1]), (2, [2061]), (3, [3]), (4, [2061]), (7, [2061]), (8, [1]), (13, [2061]), (14, [1]), (18, [2061])], []⟩, 1, [.tmp 2, .cell 3 true 11], [], [none, none, some [1, 3, 4], some [1, 3, 4], some [1, 3, 4], none, none, none]⟩
theorem ok284 : BodyOk gl Tryz.prog 284 (d284.den Tryz.prog) := okk d284 Tryz.func284 rfl
noncomputable def d285 : FnD := ⟨285, Tryz.f285, ⟨[], hcT, [], [(1, [4096, 4098]), (5, [5]), (9, [2210]), (11, [11]), (13, [13]), (15, [15]), (16, [4096, 4098]), (17, [4096, 4098]), (18, [4096, 4098]), (23, [4096, 4098]), (24, [4096, 4098]), (25, [4096, 4098]), (26, [4096, 4098]), (27, [4096, 4098]), (28, [4096, 4098]), (30, [5]), (34, [5]), (41, [5]), (45, [4096, 4098]), (46, [4096, 4098]), (47, [4096, 4098]), (48, [5]), (50, [5]), (54, [5]), (58, [4096, 4098]), (59, [4096, 4098]), (60, [4096, 4098]), (61, [4096, 4098]), (62, [4096, 4098]), (63, [4096, 4098]), (67, [4096, 4098]), (68, [4096, 4098]), (69, [4096, 4098]), (71, [5]), (77, [4096, 4098]), (78, [4096, 4098]), (79, [4096, 4098]), (80, [4096, 4098]), (81, [4096, 4098]), (82, [4096, 4098]), (83, [4096, 4098]), (84, [4096, 4098]), (85, [4096, 4098]), (86, [4096, 4098]), (87, [4096, 4098]), (90, [4096, 4098]), (91, [4096, 4098]), (92, [4096, 4098]), (93, [4096, 4098]), (94, [4096, 4098]), (98, [4096, 4098]), (99, [4096, 4098]), (100, [4096, 4098]), (101, [4096, 4098]), (102, [2150]), (104, [4096, 4098]), (105, [4096, 4098]), (106, [4096, 4098]), (107, [4096, 4098]), (108, [2156]), (109, [4096, 4098]), (110, [4096, 4098]), (111, [4096, 4098]), (112, [4096, 4098]), (113, [2156, 2161]), (117, [4096, 4098]), (118, [4096, 4098]), (119, [4096, 4098]), (120, [4096, 4098]), (121, [4096, 4098]), (122, [4096, 4098]), (123, [4096, 4098]), (124, [4096, 4098]), (127, [4096, 4098]), (128, [4096, 4098]), (129, [4096, 4098]), (130, [4096, 4098]), (131, [4096, 4098]), (132, [4096, 4098]), (133, [4096, 4098]), (134, [4096, 4098]), (146, [11]), (147, [11]), (151, [2210]), (152, [11]), (153, [11]), (157, [2210]), (158, [11]), (159, [11]), (161, [2209]), (162, [2210]), (164, [4096, 4098]), (165, [4096, 4098]), (166, [4096, 4098]), (167, [4096, 4098]), (168, [2216]), (181, [15]), (186, [15]), (187, [15]), (192, [4096, 4098]), (193, [4096, 4098]), (194, [4096, 4098]), (195, [4096, 4098]), (196, [4096, 4098]), (198, [15]), (199, [15]), (202, [2250]), (203, [4098, 2251]), (204, [4096, 4098]), (205, [4096, 4098])], []⟩, 3, [.tmp 6], [], [none, some [1], none, none, some [1], none, none, some [1], none, none, some [1], none, none, none, some [1, 7], none, none, none, some [1, 7], none, some [1, 7, 9, 140, 141, 142], none, some [1, 7, 9, 140, 141, 142], some [1, 7, 9, 140, 141, 142], none, some [1, 7, 9, 11, 140, 141, 142], none, none, some [], none, some [1, 7, 169, 170, 171], none, some [1, 7, 169, 170, 171], some [1, 7, 169, 170, 171], none, none, some [1, 7, 13, 169, 170, 171, 175, 176, 177], none, some [1, 7, 13, 169, 170, 171, 175, 176, 177], some [1, 7, 13, 169, 170, 171, 175, 176, 177], none, none, none]⟩
theorem ok285 : BodyOk gl Tryz.prog 285 (d285.den Tryz.prog) := okk d285 Tryz.func285 rfl
noncomputable def d289 : FnD := ⟨289, Tryz.f289, ⟨[], hcT, [], [(0, [4096, 4098]), (3, [3]), (5, [5]), (6, [6]), (8, [8]), (14, [3]), (22, [3]), (30, [3]), (38, [3]), (42, [3]), (46, [5]), (55, [2103]), (57, [8]), (69, [6]), (74, [5]), (82, [4096, 4098]), (83, [4096, 4098]), (84, [4096, 4098]), (87, [5]), (89, [2137]), (90, [4096, 4098]), (91, [4096, 4098]), (92, [4096, 4098]), (93, [4096, 4098]), (94, [4096, 4098]), (95, [4096, 4098]), (96, [4096, 4098]), (97, [4096, 4098]), (98, [4096, 4098]), (99, [4096, 4098]), (101, [6]), (103, [2151])], []⟩, 2, [.tmp 4], [], [none, some [0, 3], none, none, none, some [0, 5, 6], none, some [0, 5, 6, 47, 48, 49], none, some [0, 5, 6, 47, 48, 49], some [0, 5, 6, 47, 48, 49], none, none, none, none, none, some [], none, none, none]⟩
theorem ok289 : BodyOk gl Tryz.prog 289 (d289.den Tryz.prog) := okk d289 Tryz.func289 rfl
noncomputable def d293 : FnD := ⟨293, Tryz.f293, ⟨[], hcT, [], [(3, [3])], []⟩, 2, [.tmp 4], [], [none, some [], none, some [0, 3, 7, 8], none, some [0, 3, 7, 8], some [0, 3, 7, 8], none, none, none, none]⟩
theorem ok293 : BodyOk gl Tryz.prog 293 (d293.den Tryz.prog) := okk d293 Tryz.func293 rfl
noncomputable def d295 : FnD := ⟨295, Tryz.f295, ⟨[], hcT, [], [(2, [2]), (3, [3]), (5, [5]), (9, [9]), (10, [10]), (11, [11]), (12, [2]), (16, [2]), (17, [2]), (23, [2]), (30, [2]), (36, [2]), (45, [2]), (50, [2]), (54, [2]), (60, [2]), (61, [2]), (92, [10]), (103, [9])], []⟩, 2, [.tmp 4, .cell 5 true 11, .tmp 6], [], [none, some [2, 3, 5], none, none, some [2, 3, 5], none, none, none, some [2, 3, 5], none, none, none, none, some [2, 5], none, none, some [2, 3, 5, 9, 10, 11], none, none, none, none, none, some [2, 3, 5, 9, 10], none, none, none, none, none]⟩
theorem ok295 : BodyOk gl Tryz.prog 295 (d295.den Tryz.prog) := okk d295 Tryz.func295 rfl
noncomputable def d296 : FnD := ⟨296, Tryz.f296, ⟨[], hcT, [], [], []⟩, 1, [.tmp 2], [], [none, none]⟩
theorem e296 : b296 = d296.den Tryz.prog := by kernel_rfl
theorem ok296 : BodyOk gl Tryz.prog 296 b296 := okk d296 Tryz.func296 e296
noncomputable def d297 : FnD := ⟨297, Tryz.f297, ⟨[], hcT, [], [], []⟩, 4, [.tmp 8], [], [none, none]⟩
theorem e297 : b297 = d297.den Tryz.prog := by kernel_rfl
theorem ok297 : BodyOk gl Tryz.prog 297 b297 := okk d297 Tryz.func297 e297
noncomputable def d299 : FnD := ⟨299, Tryz.f299, ⟨[], hcT, [], [(2, [2]), (4, [4]), (6, [2]), (10, [2]), (16, [2]), (21, [2]), (25, [2]), (31, [2])], []⟩, 2, [.cell 4 true 2], [], [none, some [4], none, none, none, none, none]⟩
theorem e299 : b299 = d299.den Tryz.prog := by kernel_rfl
theorem ok299 : BodyOk gl Tryz.prog 299 b299 := okk d299 Tryz.func299 e299
noncomputable def d300 : FnD := ⟨300, Tryz.f300, ⟨[], hcT, [], [], []⟩, 1, [.tmp 2], [], [none, none]⟩
theorem e300 : b300 = d300.den Tryz.prog := by kernel_rfl
theorem ok300 : BodyOk gl Tryz.prog 300 b300 := okk d300 Tryz.func300 e300
noncomputable def d301 : FnD := ⟨301, Tryz.f301, ⟨[], hcT, [], [], []⟩, 2, [.tmp 4], [], [none, some [1], some [0, 1], some [0, 1], none, none]⟩
theorem e301 : b301 = d301.den Tryz.prog := by kernel_rfl
theorem ok301 : BodyOk gl Tryz.prog 301 b301 := okk d301 Tryz.func301 e301
noncomputable def d303 : FnD := ⟨303, Tryz.f303, ⟨[], hcT, [], [], []⟩, 1, [.tmp 2, .tmp 3, .tmp 4], [], [none, none, some [0, 5], none, none, some [0, 5, 6], some [0, 5, 6], some [0, 5, 6], none, some [0, 6], none, none, some [0, 6], none, none, some [0, 6], none, none, some [0, 6], none, some [0, 6, 7], some [0, 6, 7], none, some [0, 6, 7], none, none, none]⟩
theorem e303 : b303 = d303.den Tryz.prog := by kernel_rfl
theorem ok303 : BodyOk gl Tryz.prog 303 b303 := okk d303 Tryz.func303 e303
end
end Ck5
end Go.Hf
end

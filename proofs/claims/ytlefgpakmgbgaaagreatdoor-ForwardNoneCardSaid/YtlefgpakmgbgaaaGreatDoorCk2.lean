/- Parts of the proof. -/
import Derived.Test.YtlefgpakmgbgaaaGreatDoorBe
import Derived.Test.YtlefgpakmgbgaaaGreatDoorOk
import Derived.Test.YtlefgpakmgbgaaaGreatDoorProg
set_option linter.unusedVariables false
set_option linter.unusedSimpArgs false
set_option linter.unusedSectionVars false
section
set_option maxRecDepth 100000
namespace Go.Hf
open Go.Proofs Go.RowKit
namespace Ck2
section
variable [Tok] {gl : Gl}
noncomputable def d86 : FnD := ⟨86, Tryz.f86, ⟨[19], hcT, [], [(1, [4096]), (2, [4096]), (3, [4096]), (4, [4]), (7, [7]), (10, [4096, 4098]), (13, [4096, 4098]), (15, [4096, 4098]), (18, [2066]), (19, [4098, 2067]), (20, [4098, 2067]), (21, [4]), (24, [4]), (31, [4096, 4098]), (33, [4096, 4098])], []⟩, 4, [], [], [none, none, some [1, 2, 3, 4, 5], none, none, none, none, none, some [3, 25, 26, 27], none, some [3, 25, 26, 27], some [3, 25, 26, 27], none]⟩
theorem ok86 : BodyOk gl Tryz.prog 86 (d86.den Tryz.prog) := okk d86 Tryz.func86 rfl
noncomputable def d87 : FnD := ⟨87, Tryz.f87, ⟨[], hcT, [], [(1, [1]), (2, [4096, 4098]), (3, [3]), (5, [4096, 4098]), (6, [4096, 4098])], []⟩, 1, [.tmp 2], [], [none, none, none, none]⟩
theorem ok87 : BodyOk gl Tryz.prog 87 (d87.den Tryz.prog) := okk d87 Tryz.func87 rfl
noncomputable def d88 : FnD := ⟨88, Tryz.f88, ⟨[], hcT, [], [(10, [10])], []⟩, 3, [.tmp 6, .tmp 7], [], [none, some [0, 1, 2], none, none, none, some [8], none, some [1, 8, 20, 21, 22], none, some [1, 8, 20, 21, 22], some [1, 8, 20, 21, 22], none, none, some [1, 11, 20, 21, 22], none, none, none]⟩
theorem ok88 : BodyOk gl Tryz.prog 88 (d88.den Tryz.prog) := okk d88 Tryz.func88 rfl
noncomputable def d89 : FnD := ⟨89, Tryz.f89, ⟨[], hcT, [], [], []⟩, 1, [.tmp 2], [], [none, none]⟩
theorem ok89 : BodyOk gl Tryz.prog 89 (d89.den Tryz.prog) := okk d89 Tryz.func89 rfl
noncomputable def d90 : FnD := ⟨90, Tryz.f90, ⟨[15], hcT, [], [(1, [4096, 4098]), (2, [2]), (4, [4]), (5, [2063]), (7, [7]), (8, [2]), (9, [2063]), (11, [2063]), (12, [2]), (13, [2063]), (15, [2063]), (16, [2]), (17, [2063]), (22, [2063]), (24, [2063]), (26, [4096, 4098]), (28, [4096, 4098]), (29, [2063]), (31, [2063]), (32, [2]), (33, [2063])], []⟩, 2, [.cell 4 true 11], [], [none, some [1, 2, 4], none, none, none, some [2, 4, 5], none, some [1, 2, 4, 5, 17, 18, 19], none, some [1, 2, 4, 5, 17, 18, 19], some [1, 2, 4, 5, 17, 18, 19], none, none, none]⟩
theorem ok90 : BodyOk gl Tryz.prog 90 (d90.den Tryz.prog) := okk d90 Tryz.func90 rfl
noncomputable def d91 : FnD := ⟨91, Tryz.f91, ⟨[], hcT, [], [(1, [4096]), (2, [2]), (3, [3]), (5, [4096, 4098])], []⟩, 2, [.cell 3 true 11], [], [none, none]⟩
theorem ok91 : BodyOk gl Tryz.prog 91 (d91.den Tryz.prog) := okk d91 Tryz.func91 rfl
noncomputable def d92 : FnD := ⟨92, Tryz.f92, ⟨[], hcT, [], [(2, [2]), (6, [6]), (7, [2]), (12, [2]), (20, [2])], []⟩, 2, [.tmp 4], [], [none, some [1], none, none, none, none, none, some [1], none, some [1, 21, 22, 23], none, some [1, 21, 22, 23], some [1, 21, 22, 23], none, some [1, 6, 21, 22, 23], none, none, none, none]⟩
theorem e92 : b92 = d92.den Tryz.prog := by kernel_rfl
theorem ok92 : BodyOk gl Tryz.prog 92 b92 := okk d92 Tryz.func92 e92
noncomputable def d94 : FnD := ⟨94, Tryz.f94, ⟨[], hcT, [], [(1, [1]), (3, [1]), (7, [1])], []⟩, 1, [.tmp 2], [], [none, none]⟩
theorem e94 : b94 = d94.den Tryz.prog := by kernel_rfl
theorem ok94 : BodyOk gl Tryz.prog 94 b94 := okk d94 Tryz.func94 e94
noncomputable def d95 : FnD := ⟨95, Tryz.f95, ⟨[], hcT, [], [(3, [3]), (7, [3]), (11, [3]), (12, [3]), (17, [3]), (18, [3]), (24, [3])], []⟩, 3, [.tmp 6], [], [none, none]⟩
theorem ok95 : BodyOk gl Tryz.prog 95 (d95.den Tryz.prog) := okk d95 Tryz.func95 rfl
noncomputable def d96 : FnD := ⟨96, Tryz.f96, ⟨[], hcT, [], [(3, [3]), (6, [6])], []⟩, 2, [.tmp 4], [], [none, some [], none, some [3, 7, 8, 9], none, some [3, 7, 8, 9], some [3, 7, 8, 9], none, none, none, none]⟩
theorem ok96 : BodyOk gl Tryz.prog 96 (d96.den Tryz.prog) := okk d96 Tryz.func96 rfl
noncomputable def d98 : FnD := ⟨98, Tryz.f98, ⟨[], hcT, [], [(2, [2]), (3, [3]), (5, [2]), (7, [3]), (11, [2]), (13, [3]), (18, [2]), (20, [3]), (25, [2]), (27, [3])], []⟩, 2, [.tmp 4], [], [none, none]⟩
theorem e98 : b98 = d98.den Tryz.prog := by kernel_rfl
theorem ok98 : BodyOk gl Tryz.prog 98 b98 := okk d98 Tryz.func98 e98
noncomputable def d99 : FnD := ⟨99, Tryz.f99, ⟨[], hcT, [], [(1, [1]), (4, [1])], []⟩, 1, [.tmp 2, .tmp 3], [], [none, some [1], none, none, none]⟩
theorem ok99 : BodyOk gl Tryz.prog 99 (d99.den Tryz.prog) := okk d99 Tryz.func99 rfl
noncomputable def d100 : FnD := ⟨100, Tryz.f100, ⟨[45], hcT, [], [(3, [3]), (5, [5]), (8, [2093]), (10, [10]), (12, [3]), (15, [3]), (19, [3]), (24, [3]), (31, [3]), (39, [3]), (45, [2093]), (46, [2093]), (51, [2093]), (53, [2093]), (55, [3]), (57, [2093]), (61, [4096, 4098]), (64, [10])], []⟩, 2, [.tmp 4], [], [none, none, some [0, 3, 5], none, none, none, none, none, some [0, 3, 5, 8], none, some [0, 3, 5, 8, 47, 48], none, some [0, 3, 5, 8, 47, 48], some [0, 3, 5, 8, 47, 48], none, some [5], none, none]⟩
noncomputable def d101 : FnD := ⟨101, Tryz.f101, ⟨[], hcT, [], [(0, [2049]), (1, [2049])], []⟩, 0, [.tmp 0], [], [none, none]⟩
theorem ok101 : BodyOk gl Tryz.prog 101 (d101.den Tryz.prog) := okk d101 Tryz.func101 rfl
noncomputable def d102 : FnD := ⟨102, Tryz.f102, ⟨[], hcT, [], [(0, [2049]), (1, [2049])], []⟩, 0, [.tmp 0], [], [none, none]⟩
theorem ok102 : BodyOk gl Tryz.prog 102 (d102.den Tryz.prog) := okk d102 Tryz.func102 rfl
noncomputable def d103 : FnD := ⟨103, Tryz.f103, ⟨[], hcT, [], [(2, [2])], []⟩, 1, [.cell 2 true 2], [], [none, none]⟩
theorem ok103 : BodyOk gl Tryz.prog 103 (d103.den Tryz.prog) := okk d103 Tryz.func103 rfl
noncomputable def d104 : FnD := ⟨104, Tryz.f104, ⟨[], hcT, [], [(3, [3]), (8, [8]), (24, [8])], []⟩, 2, [.tmp 4, .tmp 5], [], [none, none, some [0, 3], none, none, none, some [8], none, none, none]⟩
theorem e104 : b104 = d104.den Tryz.prog := by kernel_rfl
theorem ok104 : BodyOk gl Tryz.prog 104 b104 := okk d104 Tryz.func104 e104
noncomputable def d105 : FnD := ⟨105, Tryz.f105, ⟨[], hcT, [], [(6, [2142]), (7, [7]), (9, [9]), (10, [29]), (11, [2142]), (14, [14]), (15, [15]), (21, [9]), (29, [29]), (30, [29]), (31, [29]), (32, [29]), (34, [29]), (35, [29]), (36, [29]), (42, [29]), (43, [29]), (44, [29]), (46, [29]), (47, [29]), (48, [29]), (53, [29]), (54, [29]), (55, [29]), (57, [29]), (58, [29]), (59, [29]), (64, [2142]), (77, [4096, 4098]), (78, [29]), (79, [4096, 4098]), (80, [4096, 4098]), (81, [4096, 4098]), (82, [15]), (83, [4096, 4098]), (85, [4096, 4098]), (86, [4096, 4098]), (91, [2142]), (92, [4096, 4098]), (93, [2141]), (94, [2142]), (95, [2142])], []⟩, 3, [.tmp 6, .cell 7 true 2], [], [none, none, some [0, 1, 7, 8], none, none, none, none, some [7, 11], some [7, 10, 11], some [7, 10, 11], none, none, some [7, 10, 11, 12], none, none, none, none, some [7, 10, 11, 12, 14], none, none, some [7, 10, 11, 14], none, none, none]⟩
theorem ok105 : BodyOk gl Tryz.prog 105 (d105.den Tryz.prog) := okk d105 Tryz.func105 rfl
noncomputable def d106 : FnD := ⟨106, Tryz.f106, ⟨[], hcT, [], [(0, [2050]), (2, [2050])], []⟩, 0, [.tmp 0], [], [none, none]⟩
theorem ok106 : BodyOk gl Tryz.prog 106 (d106.den Tryz.prog) := okk d106 Tryz.func106 rfl
noncomputable def d107 : FnD := ⟨107, Tryz.f107, ⟨[], hcT, [], [], []⟩, 0, [.tmp 0], [], [none, none]⟩
theorem ok107 : BodyOk gl Tryz.prog 107 (d107.den Tryz.prog) := okk d107 Tryz.func107 rfl
noncomputable def d108 : FnD := ⟨108, Tryz.f108, ⟨[], hcT, [], [(1, [1]), (2, [2061]), (4, [2061]), (7, [2061]), (8, [1]), (12, [2060]), (13, [2061]), (14, [1]), (21, [2061])], []⟩, 1, [.tmp 2, .tmp 3], [], [none, none, some [1, 4], some [1, 4], some [1, 4], none, none, some [4], none, none, none]⟩
theorem e108 : b108 = d108.den Tryz.prog := by kernel_rfl
theorem ok108 : BodyOk gl Tryz.prog 108 b108 := okk d108 Tryz.func108 e108
noncomputable def d109 : FnD := ⟨109, Tryz.f109, ⟨[], hcT, [], [(5, [5]), (6, [6]), (7, [4096, 4098]), (8, [14]), (9, [9]), (10, [4096, 4098]), (14, [14]), (15, [4096, 4098]), (16, [14]), (18, [4096, 4098]), (19, [4096, 4098]), (20, [4096, 4098]), (21, [4096, 4098]), (24, [4096, 4098]), (25, [4096, 4098]), (29, [4096, 4098])], []⟩, 3, [.cell 6 true 11, .tmp 7], [], [none, none, none, some [6, 9], none, none, some [6, 9], none, none, none]⟩
theorem ok109 : BodyOk gl Tryz.prog 109 (d109.den Tryz.prog) := okk d109 Tryz.func109 rfl
noncomputable def d110 : FnD := ⟨110, Tryz.f110, ⟨[], hcT, [], [(4, [4])], []⟩, 2, [.cell 4 true 7, .tmp 5], [], [none, some [4], none, some [0, 1, 4, 6], some [0, 1, 4, 6], none, some [0, 1, 4, 6], none, none, none, none]⟩
theorem ok110 : BodyOk gl Tryz.prog 110 (d110.den Tryz.prog) := okk d110 Tryz.func110 rfl
noncomputable def d111 : FnD := ⟨111, Tryz.f111, ⟨[], hcT, [], [(0, [2067]), (2, [2067]), (11, [2067]), (18, [2066]), (19, [2067]), (20, [2067])], []⟩, 0, [.tmp 0], [false], [none, none, none, some [2], none, some [1, 2, 3], some [1, 2, 3], none, some [1, 2, 3], none]⟩
theorem ok111 : BodyOk gl Tryz.prog 111 (d111.den Tryz.prog) := okk d111 Tryz.func111 rfl
noncomputable def d112 : FnD := ⟨112, Tryz.f112, ⟨[], hcT, [], [(2, [2]), (3, [3]), (4, [4]), (8, [2056])], []⟩, 2, [.cell 4 true 11], [], [none, none]⟩
theorem ok112 : BodyOk gl Tryz.prog 112 (d112.den Tryz.prog) := okk d112 Tryz.func112 rfl
noncomputable def d113 : FnD := ⟨113, Tryz.f113, ⟨[], hcT, [], [(1, [1]), (2, [2070, 2072]), (6, [1]), (12, [1]), (17, [1]), (22, [2070]), (24, [2072])], []⟩, 1, [.tmp 2], [], [none, some [1], none, none, none]⟩
theorem ok113 : BodyOk gl Tryz.prog 113 (d113.den Tryz.prog) := okk d113 Tryz.func113 rfl
noncomputable def d114 : FnD := ⟨114, Tryz.f114, ⟨[], hcT, [], [(1, [1]), (3, [1]), (6, [1])], []⟩, 1, [.tmp 2], [], [none, some [1], none, none, none]⟩
theorem e114 : b114 = d114.den Tryz.prog := by kernel_rfl
theorem ok114 : BodyOk gl Tryz.prog 114 b114 := okk d114 Tryz.func114 e114
noncomputable def d115 : FnD := ⟨115, Tryz.f115, ⟨[], hcT, [], [(3, [3])], []⟩, 2, [.tmp 4], [], [none, some [], none, some [0, 3, 5], some [0, 3, 5], none, some [0, 3, 5], none, none, none]⟩
theorem ok115 : BodyOk gl Tryz.prog 115 (d115.den Tryz.prog) := okk d115 Tryz.func115 rfl
noncomputable def d116 : FnD := ⟨116, Tryz.f116, ⟨[], hcT, [], [(3, [3])], []⟩, 2, [.tmp 4], [], [none, some [], none, some [0, 3, 5], some [0, 3, 5], none, some [0, 3, 5], none, none, none]⟩
theorem ok116 : BodyOk gl Tryz.prog 116 (d116.den Tryz.prog) := okk d116 Tryz.func116 rfl
noncomputable def d118 : FnD := ⟨118, Tryz.f118, ⟨[], hcT, [], [(1, [1]), (6, [1]), (21, [1])], []⟩, 1, [.tmp 2, .tmp 3], [], [none, some [1], none, none, none, some [], none, some [1, 4, 5], some [1, 4, 5], none, some [1, 4, 5], none, none, none]⟩
theorem e118 : b118 = d118.den Tryz.prog := by kernel_rfl
theorem ok118 : BodyOk gl Tryz.prog 118 b118 := okk d118 Tryz.func118 e118
noncomputable def d120 : FnD := ⟨120, Tryz.f120, ⟨[], hcT, [], [(3, [3])], []⟩, 2, [.tmp 4, .tmp 5, .tmp 6], [], [none, some [], none, some [0, 3, 7], some [0, 3, 7], none, some [0, 3, 7], none, none, some [0, 3, 7, 8, 9], some [0, 3, 7, 8, 9], none, some [0, 3, 7, 8, 9], none, none, none]⟩
theorem e120 : b120 = d120.den Tryz.prog := by kernel_rfl
theorem ok120 : BodyOk gl Tryz.prog 120 b120 := okk d120 Tryz.func120 e120
noncomputable def d121 : FnD := ⟨121, Tryz.f121, ⟨[], hcT, [], [(1, [1]), (3, [1]), (10, [1])], []⟩, 1, [.tmp 2], [], [none, some [], none, some [1, 5], none, none, none, none, none]⟩
theorem e121 : b121 = d121.den Tryz.prog := by kernel_rfl
theorem ok121 : BodyOk gl Tryz.prog 121 b121 := okk d121 Tryz.func121 e121
noncomputable def d123 : FnD := ⟨123, Tryz.f123, ⟨[], hcT, [], [(0, [2076]), (2, [2]), (3, [2076]), (5, [5]), (24, [2076]), (27, [2075]), (28, [2076]), (30, [2076])], []⟩, 0, [.tmp 0], [], [none, none, none, some [3], none, some [3, 13, 14, 15], none, some [3, 13, 14, 15], some [3, 13, 14, 15], none, none, none]⟩
theorem ok123 : BodyOk gl Tryz.prog 123 (d123.den Tryz.prog) := okk d123 Tryz.func123 rfl
noncomputable def d124 : FnD := ⟨124, Tryz.f124, ⟨[], hcT, [], [(2, [2]), (4, [4]), (5, [5]), (9, [9]), (11, [2, 5]), (12, [12]), (14, [14]), (36, [5]), (37, [2089, 4096, 4098]), (38, [9]), (40, [2088]), (41, [2089, 4098]), (42, [5]), (47, [2, 5]), (48, [2, 5]), (53, [4096, 4098]), (54, [5]), (63, [2, 5]), (65, [4096, 4098]), (66, [5]), (75, [2, 5]), (77, [4096, 4098]), (78, [5]), (79, [2089, 4096, 4098])], []⟩, 2, [.cell 4 true 37], [], [none, none, none, some [1, 2, 4, 5], none, some [1, 2, 4, 5, 30, 31, 32], none, some [1, 2, 4, 5, 30, 31, 32], some [1, 2, 4, 5, 30, 31, 32], none, none, none, none, some [1, 4, 5, 10, 11], none, none, some [4, 5], none, none, none]⟩
theorem ok124 : BodyOk gl Tryz.prog 124 (d124.den Tryz.prog) := okk d124 Tryz.func124 rfl
end
end Ck2
end Go.Hf
end
section
set_option maxRecDepth 100000
namespace Go.Hf
open Go.Proofs Go.RowKit
namespace Ck3
section
variable [Tok] {gl : Gl}
noncomputable def d125 : FnD := ⟨125, Tryz.f125, ⟨[], hcT, [], [(0, [4096, 4098, 2067, 2079]), (1, [4096, 4098, 2067, 2079]), (6, [4096, 4098]), (13, [4096, 4098, 2067, 2079]), (18, [2066]), (19, [4098, 2067, 2079]), (27, [4096, 4098, 2067, 2079]), (30, [2078]), (31, [4098, 2067, 2079]), (33, [4096, 4098, 2067, 2079])], []⟩, 0, [.tmp 0], [], [none, none, some [1], none, some [1, 7, 8, 9], none, some [1, 7, 8, 9], some [1, 7, 8, 9], none, some [1], none, some [1, 21, 22, 23], none, some [1, 21, 22, 23], some [1, 21, 22, 23], none, none]⟩
theorem ok125 : BodyOk gl Tryz.prog 125 (d125.den Tryz.prog) := okk d125 Tryz.func125 rfl
noncomputable def d126 : FnD := ⟨126, Tryz.f126, ⟨[], hcT, [], [(2, [2])], []⟩, 1, [.cell 2 true 2], [], [none, none]⟩
theorem ok126 : BodyOk gl Tryz.prog 126 (d126.den Tryz.prog) := okk d126 Tryz.func126 rfl
noncomputable def d127 : FnD := ⟨127, Tryz.f127, ⟨[], hcT, [], [(0, [4096, 4098]), (3, [3]), (5, [5]), (6, [3]), (8, [4096, 4098]), (9, [4096, 4098]), (10, [4096, 4098]), (11, [3]), (13, [4096, 4098]), (14, [3]), (21, [4096, 4098]), (23, [4096, 4098]), (25, [4096, 4098]), (26, [4096, 4098]), (29, [4096, 4098]), (30, [4096, 4098]), (31, [4096, 4098]), (32, [3]), (34, [4096, 4098]), (37, [4096, 4098]), (38, [4096, 4098]), (39, [4096, 4098]), (40, [3])], []⟩, 2, [], [], [none, none, none, none, none, none, none, none, some [0], none, some [0, 15, 16, 17], none, some [0, 15, 16, 17], some [0, 15, 16, 17], none]⟩
theorem ok127 : BodyOk gl Tryz.prog 127 (d127.den Tryz.prog) := okk d127 Tryz.func127 rfl
noncomputable def d128 : FnD := ⟨128, Tryz.f128, ⟨[], hcT, [], [(0, [4096, 4098]), (5, [4096, 4098]), (6, [4096, 4098]), (7, [4096, 4098]), (8, [4096, 4098]), (9, [4096, 4098]), (10, [4096, 4098]), (11, [4096, 4098]), (13, [2061]), (14, [4098, 2062]), (15, [4096, 4098]), (16, [4096, 4098])], []⟩, 2, [.tmp 4], [], [none, none, none, none]⟩
theorem ok128 : BodyOk gl Tryz.prog 128 (d128.den Tryz.prog) := okk d128 Tryz.func128 rfl
noncomputable def d138 : FnD := ⟨138, Tryz.f138, ⟨[], hcT, [], [(5, [5]), (6, [4096, 4098]), (7, [4096, 4098]), (8, [15]), (9, [4096, 4098]), (10, [4096, 4098]), (15, [15]), (16, [4096, 4098]), (17, [15]), (18, [4096, 4098]), (19, [4096, 4098]), (20, [4096, 4098]), (21, [4096, 4098]), (23, [4096, 4098]), (24, [4096, 4098]), (25, [2073]), (27, [4096, 4098]), (31, [4096, 4098]), (32, [4096, 4098]), (33, [4096, 4098]), (34, [4096, 4098])], []⟩, 3, [.tmp 6, .tmp 7], [], [none, none, none, some [9], none, none, none, some [9], none, none, none]⟩
theorem ok138 : BodyOk gl Tryz.prog 138 (d138.den Tryz.prog) := okk d138 Tryz.func138 rfl
noncomputable def d141 : FnD := ⟨141, Tryz.f141, ⟨[], hcT, [], [(2, [2053, 2055]), (5, [2053]), (7, [2053, 2055])], []⟩, 1, [.tmp 2], [], [none, some [0], none, none, none]⟩
theorem ok141 : BodyOk gl Tryz.prog 141 (d141.den Tryz.prog) := okk d141 Tryz.func141 rfl
noncomputable def d142 : FnD := ⟨142, Tryz.f142, ⟨[], hcT, [], [(3, [3]), (4, [4096, 4098]), (6, [3]), (7, [4096, 4098])], []⟩, 2, [.tmp 4], [], [none, none]⟩
theorem ok142 : BodyOk gl Tryz.prog 142 (d142.den Tryz.prog) := okk d142 Tryz.func142 rfl
noncomputable def d143 : FnD := ⟨143, Tryz.f143, ⟨[], hcT, [], [(3, [3]), (7, [3]), (11, [3]), (18, [3])], []⟩, 3, [.tmp 6], [], [none, none]⟩
theorem ok143 : BodyOk gl Tryz.prog 143 (d143.den Tryz.prog) := okk d143 Tryz.func143 rfl
noncomputable def d144 : FnD := ⟨144, Tryz.f144, ⟨[], hcT, [], [(4, [4])], []⟩, 2, [.cell 4 true 11], [], [none, none]⟩
theorem ok144 : BodyOk gl Tryz.prog 144 (d144.den Tryz.prog) := okk d144 Tryz.func144 rfl
noncomputable def d145 : FnD := ⟨145, Tryz.f145, ⟨[], hcT, [], [], []⟩, 1, [.tmp 2], [], [none, none]⟩
theorem ok145 : BodyOk gl Tryz.prog 145 (d145.den Tryz.prog) := okk d145 Tryz.func145 rfl
noncomputable def d146 : FnD := ⟨146, Tryz.f146, ⟨[], hcT, [], [], []⟩, 2, [.tmp 4, .tmp 5], [], [none, none, some [0, 1, 6, 7], none, none, none, none, none, none, none]⟩
theorem e146 : b146 = d146.den Tryz.prog := by kernel_rfl
theorem ok146 : BodyOk gl Tryz.prog 146 b146 := okk d146 Tryz.func146 e146
noncomputable def d147 : FnD := ⟨147, Tryz.f147, ⟨[], hcT, [], [(0, [2077]), (1, [2077]), (5, [5]), (7, [2055]), (11, [2055]), (26, [2077]), (28, [2076]), (29, [2077]), (31, [2077])], []⟩, 0, [.tmp 0], [false], [none, none, some [1], none, some [1, 7, 8, 9], none, some [1, 7, 8, 9], some [1, 7, 8, 9], none, none, some [1, 3, 4, 7, 8, 9], none, none, none]⟩
theorem ok147 : BodyOk gl Tryz.prog 147 (d147.den Tryz.prog) := okk d147 Tryz.func147 rfl
noncomputable def d148 : FnD := ⟨148, Tryz.f148, ⟨[], hcT, [], [(2, [2053, 2055]), (5, [2053]), (7, [2053, 2055])], []⟩, 1, [.tmp 2], [], [none, some [0], none, none, none]⟩
theorem ok148 : BodyOk gl Tryz.prog 148 (d148.den Tryz.prog) := okk d148 Tryz.func148 rfl
noncomputable def d149 : FnD := ⟨149, Tryz.f149, ⟨[], hcT, [], [(3, [3]), (4, [4]), (6, [2080]), (8, [8]), (11, [11]), (14, [3]), (19, [3]), (27, [3]), (31, [2079]), (32, [2080]), (37, [3]), (41, [4]), (49, [3]), (51, [4]), (55, [3]), (58, [4]), (64, [3]), (74, [4])], []⟩, 3, [.tmp 6, .tmp 7], [], [none, some [2, 3, 4], none, none, some [2, 4, 8], none, none, none, some [2, 3, 4], none, none, some [2, 3, 4], none, none, some [2], none, some [2, 4, 65, 66, 67], none, some [2, 4, 65, 66, 67], some [2, 4, 65, 66, 67], none, none, some [4, 12, 65, 66, 67], none, none, none]⟩
theorem ok149 : BodyOk gl Tryz.prog 149 (d149.den Tryz.prog) := okk d149 Tryz.func149 rfl
noncomputable def d150 : FnD := ⟨150, Tryz.f150, ⟨[], hcT, [], [(3, [3]), (5, [5]), (7, [7]), (15, [3, 5]), (16, [4096, 4098])], []⟩, 2, [.tmp 4], [], [none, none, some [5], none, some [3, 5, 8, 9, 10], none, some [3, 5, 8, 9, 10], some [3, 5, 8, 9, 10], none, none]⟩
theorem ok150 : BodyOk gl Tryz.prog 150 (d150.den Tryz.prog) := okk d150 Tryz.func150 rfl
noncomputable def d151 : FnD := ⟨151, Tryz.f151, ⟨[], hcT, [], [(1, [1])], []⟩, 1, [.tmp 2], [], [none, none]⟩
theorem e151 : b151 = d151.den Tryz.prog := by kernel_rfl
theorem ok151 : BodyOk gl Tryz.prog 151 b151 := okk d151 Tryz.func151 e151
noncomputable def d152 : FnD := ⟨152, Tryz.f152, ⟨[], hcT, [], [(2, [2]), (3, [3]), (7, [2]), (9, [3]), (13, [2]), (15, [3]), (20, [2]), (22, [3]), (27, [2]), (29, [3]), (34, [2]), (36, [3]), (41, [2]), (44, [3]), (49, [2]), (59, [2]), (64, [3]), (72, [2]), (78, [3])], []⟩, 2, [.tmp 4], [], [none, some [2, 3], some [2, 3], none, none, none, some [2, 3, 5], none, none, some [2, 3, 5], none, some [2, 3, 5, 55, 56], none, some [2, 3, 5, 55, 56], some [2, 3, 5, 55, 56], none, none, none]⟩
theorem e152 : b152 = d152.den Tryz.prog := by kernel_rfl
theorem ok152 : BodyOk gl Tryz.prog 152 b152 := okk d152 Tryz.func152 e152
noncomputable def d153 : FnD := ⟨153, Tryz.f153, ⟨[], hcT, [], [(8, [8]), (9, [9]), (29, [4096, 4098])], []⟩, 3, [.tmp 6], [], [none, some [0, 1, 2], none, none, some [], none, some [1, 2, 15, 16, 17], none, some [1, 2, 15, 16, 17], some [1, 2, 15, 16, 17], none, none, none, none, none]⟩
theorem e153 : b153 = d153.den Tryz.prog := by kernel_rfl
theorem ok153 : BodyOk gl Tryz.prog 153 b153 := okk d153 Tryz.func153 e153
noncomputable def d154 : FnD := ⟨154, Tryz.f154, ⟨[], hcT, [], [(1, [1]), (4, [1]), (7, [1])], []⟩, 1, [.tmp 2, .tmp 3], [], [none, some [1], none, none, some [], none, none, none, none, none, none, none, none, none, none, none, none, none, none]⟩
theorem ok154 : BodyOk gl Tryz.prog 154 (d154.den Tryz.prog) := okk d154 Tryz.func154 rfl
noncomputable def d156 : FnD := ⟨156, Tryz.f156, ⟨[], hcT, [], [(1, [1]), (4, [1]), (7, [1])], []⟩, 1, [.tmp 2, .tmp 3], [], [none, some [1], none, none, some [], none, none, none, some [8, 11], none, none, none, none, none, none, none, none, some [20], none, none, none, none, none, none, none, none, none, none, none, none, none, none, none, none, none]⟩
theorem e156 : b156 = d156.den Tryz.prog := by kernel_rfl
theorem ok156 : BodyOk gl Tryz.prog 156 b156 := okk d156 Tryz.func156 e156
noncomputable def d158 : FnD := ⟨158, Tryz.f158, ⟨[], hcT, [], [(2, [2]), (3, [3]), (4, [2, 3]), (5, [2, 3])], []⟩, 2, [.tmp 4], [false], [none, none]⟩
theorem ok158 : BodyOk gl Tryz.prog 158 (d158.den Tryz.prog) := okk d158 Tryz.func158 rfl
noncomputable def d159 : FnD := ⟨159, Tryz.f159, ⟨[], hcT, [], [(2, [2083, 2099]), (3, [3]), (4, [2099]), (8, [8]), (10, [10]), (30, [2099]), (34, [2082]), (35, [2083, 2099]), (44, [10]), (48, [2099]), (50, [2098]), (51, [2099])], []⟩, 1, [.tmp 2, .cell 3 true 2], [], [none, some [0, 3], none, none, none, none, some [0, 3, 4, 5], none, some [0, 3, 4, 6], none, none, some [0, 3, 4, 6], none, none, none, some [0, 3, 4, 8, 9], none, none, none]⟩
theorem e159 : b159 = d159.den Tryz.prog := by kernel_rfl
theorem ok159 : BodyOk gl Tryz.prog 159 b159 := okk d159 Tryz.func159 e159
noncomputable def d161 : FnD := ⟨161, Tryz.f161, ⟨[], hcT, [], [(0, [4096, 4098]), (4, [4]), (5, [5]), (6, [6]), (7, [7]), (8, [4096, 4098]), (9, [9]), (11, [11]), (12, [12]), (13, [4096, 4098]), (14, [4096, 4098]), (15, [4096, 4098]), (16, [4096, 4098]), (17, [4096, 4098]), (18, [4096, 4098]), (19, [4096, 4098]), (20, [4096, 4098]), (21, [4098]), (22, [4096, 4098]), (23, [6]), (24, [4096, 4098]), (28, [6]), (29, [4096, 4098]), (35, [6]), (36, [4096, 4098]), (40, [4096, 4098]), (41, [4096, 4098]), (42, [4096, 4098]), (43, [4096, 4098]), (45, [4096, 4098]), (46, [4096, 4098]), (47, [6]), (48, [4096, 4098]), (49, [6]), (50, [4096, 4098]), (51, [4096, 4098]), (55, [4096, 4098]), (56, [4096, 4098]), (57, [4096, 4098]), (58, [4096, 4098]), (60, [4096, 4098]), (61, [4096, 4098]), (62, [6]), (63, [4096, 4098]), (68, [4096, 4098]), (69, [4096, 4098]), (70, [4096, 4098]), (71, [4096, 4098]), (73, [4096, 4098]), (74, [4096, 4098]), (75, [6]), (76, [4096, 4098]), (77, [4096, 4098]), (79, [4096, 4098]), (80, [4096, 4098]), (81, [4096, 4098]), (82, [4096, 4098]), (84, [4096, 4098]), (85, [4096, 4098]), (86, [4096, 4098]), (87, [4096, 4098]), (88, [4096, 4098]), (89, [6]), (90, [4096, 4098]), (98, [6]), (99, [4096, 4098]), (107, [6]), (108, [4096, 4098]), (110, [4096, 4098]), (111, [4096, 4098]), (112, [4096, 4098]), (113, [4096, 4098]), (115, [4096, 4098]), (116, [4096, 4098]), (117, [6]), (118, [4096, 4098]), (120, [4096, 4098]), (121, [4096, 4098]), (124, [4096, 4098]), (125, [4096, 4098]), (126, [4096, 4098]), (127, [12]), (128, [4096, 4098]), (131, [4096, 4098]), (134, [4096, 4098]), (135, [2183]), (137, [4096, 4098]), (138, [4096, 4098]), (141, [4096, 4098]), (142, [4096, 4098]), (143, [4096, 4098])], []⟩, 2, [.cell 4 true 7, .cell 5 true 2], [], [none, none, none, some [0, 1, 4, 5, 6, 7], none, none, none, some [0, 1, 4, 5, 6, 7, 24, 31], none, none, none, none, none, none, none, none, none, none, none, some [0, 4, 5, 6, 7, 8], none, none, some [4, 5, 9], none, none, none, some [0, 1, 4, 5, 6, 7], none, none, none, some [0, 1, 4, 5], none, none, some [4, 5, 11, 12], none, none, none, none]⟩
theorem e161 : b161 = d161.den Tryz.prog := by kernel_rfl
theorem ok161 : BodyOk gl Tryz.prog 161 b161 := okk d161 Tryz.func161 e161
noncomputable def d162 : FnD := ⟨162, Tryz.f162, ⟨[], hcT, [], [(1, [1])], []⟩, 1, [.tmp 2], [], [none, none]⟩
theorem e162 : b162 = d162.den Tryz.prog := by kernel_rfl
theorem ok162 : BodyOk gl Tryz.prog 162 b162 := okk d162 Tryz.func162 e162
noncomputable def d163 : FnD := ⟨163, Tryz.f163, ⟨[], hcT, [], [(1, [1]), (3, [1]), (7, [1])], []⟩, 1, [.tmp 2], [], [none, none]⟩
theorem e163 : b163 = d163.den Tryz.prog := by kernel_rfl
theorem ok163 : BodyOk gl Tryz.prog 163 b163 := okk d163 Tryz.func163 e163
noncomputable def d164 : FnD := ⟨164, Tryz.f164, ⟨[], hcT, [], [(1, [1])], []⟩, 1, [.tmp 2], [], [none, none]⟩
theorem e164 : b164 = d164.den Tryz.prog := by kernel_rfl
theorem ok164 : BodyOk gl Tryz.prog 164 b164 := okk d164 Tryz.func164 e164
noncomputable def d165 : FnD := ⟨165, Tryz.f165, ⟨[], hcT, [], [(0, [4096, 4098]), (4, [4]), (6, [6]), (7, [4096, 4098]), (8, [8]), (11, [4096, 4098]), (12, [12]), (14, [14]), (18, [18]), (20, [20]), (23, [2244]), (25, [25]), (26, [4096, 4098]), (27, [4096, 4098]), (28, [4]), (37, [4]), (45, [4]), (52, [4]), (60, [4096, 4098]), (96, [4096, 4098]), (124, [4096, 4098]), (125, [4096, 4098]), (129, [4096, 4098]), (132, [4096, 4098]), (133, [4096, 4098]), (134, [4096, 4098]), (136, [4096, 4098]), (137, [4096, 4098]), (138, [4096, 4098]), (139, [4096, 4098]), (149, [4096, 4098]), (150, [4096, 4098]), (154, [4096, 4098]), (155, [4096, 4098]), (156, [4096, 4098]), (157, [4096, 4098]), (167, [4096, 4098]), (170, [4096, 4098]), (171, [4096, 4098]), (172, [4096, 4098]), (179, [4096, 4098]), (180, [4096, 4098]), (186, [4096, 4098]), (187, [4096, 4098]), (188, [4096, 4098]), (189, [4096, 4098]), (192, [4096, 4098]), (193, [2244]), (194, [4096, 4098]), (195, [2243]), (196, [2244]), (197, [4096, 4098]), (198, [4096, 4098]), (200, [4096, 4098]), (201, [4096, 4098]), (202, [4096, 4098]), (203, [4096, 4098]), (206, [4096, 4098]), (207, [2244]), (212, [2244])], []⟩, 3, [.cell 6 true 11, .tmp 7], [], [none, some [0, 2, 4, 6], none, some [0, 2, 4, 6, 29, 30], none, none, none, some [2, 4, 6], none, none, some [4, 6], none, none, none, none, none, some [0, 2, 4, 6, 10], none, none, none, some [0, 2, 4, 6, 12, 13], none, none, some [6, 13], none, none, none, none, none, none, none, some [0, 2, 6, 13, 14], none, none, none, some [0, 2, 6, 14], none, none, none, some [0, 2, 6, 12, 13], none, none, some [0, 2, 4, 6], none, none, none, some [0, 2, 6, 20], none, none, none, none, some [0, 6, 12, 23], none, some [0, 2, 6, 12, 13, 23, 24], some [0, 2, 6, 12, 13, 23, 24], none, some [0, 2, 6, 12, 13, 23, 24], none, some [0, 2, 6, 12, 13, 23, 24, 25], none, none, none, some [6, 12, 23, 27], none, none, some [6, 12, 23], none, none, none]⟩
theorem e165 : b165 = d165.den Tryz.prog := by kernel_rfl
theorem ok165 : BodyOk gl Tryz.prog 165 b165 := okk d165 Tryz.func165 e165
noncomputable def d166 : FnD := ⟨166, Tryz.f166, ⟨[], hcT, [], [(1, [1])], []⟩, 1, [.tmp 2], [], [none, none]⟩
theorem ok166 : BodyOk gl Tryz.prog 166 (d166.den Tryz.prog) := okk d166 Tryz.func166 rfl
noncomputable def d167 : FnD := ⟨167, Tryz.f167, ⟨[], hcT, [], [(0, [2074]), (26, [2074])], []⟩, 0, [.tmp 0], [], [none, none]⟩
theorem e167 : b167 = d167.den Tryz.prog := by kernel_rfl
theorem ok167 : BodyOk gl Tryz.prog 167 b167 := okk d167 Tryz.func167 e167
noncomputable def d169 : FnD := ⟨169, Tryz.f169, ⟨[], hcT, [], [(3, [3]), (4, [4])], []⟩, 2, [.cell 4 true 11, .tmp 5], [], [none, some [4], none, some [0, 3, 4, 6], some [0, 3, 4, 6], none, some [0, 3, 4, 6], none, none, none]⟩
theorem ok169 : BodyOk gl Tryz.prog 169 (d169.den Tryz.prog) := okk d169 Tryz.func169 rfl
noncomputable def d171 : FnD := ⟨171, Tryz.f171, ⟨[], hcT, [], [(7, [7])], []⟩, 3, [.tmp 6, .cell 7 true 2], [], [none, none, none, none]⟩
noncomputable def d172 : FnD := ⟨172, Tryz.f172, ⟨[], hcT, [], [(0, [2050]), (2, [2050])], []⟩, 0, [.tmp 0], [], [none, none]⟩
theorem ok172 : BodyOk gl Tryz.prog 172 (d172.den Tryz.prog) := okk d172 Tryz.func172 rfl
noncomputable def d173 : FnD := ⟨173, Tryz.f173, ⟨[], hcT, [], [(1, [1]), (2, [2061]), (4, [2061]), (7, [2061]), (8, [1]), (12, [2060]), (13, [2061]), (14, [1]), (21, [2061])], []⟩, 1, [.tmp 2, .tmp 3], [], [none, none, some [1, 4], some [1, 4], some [1, 4], none, none, some [4], none, none, none]⟩
theorem e173 : b173 = d173.den Tryz.prog := by kernel_rfl
theorem ok173 : BodyOk gl Tryz.prog 173 b173 := okk d173 Tryz.func173 e173
noncomputable def d174 : FnD := ⟨174, Tryz.f174, ⟨[], hcT, [], [(1, [1]), (2, [2])], []⟩, 1, [.cell 2 true 11], [], [none, none]⟩
theorem ok174 : BodyOk gl Tryz.prog 174 (d174.den Tryz.prog) := okk d174 Tryz.func174 rfl
end
end Ck3
end Go.Hf
end

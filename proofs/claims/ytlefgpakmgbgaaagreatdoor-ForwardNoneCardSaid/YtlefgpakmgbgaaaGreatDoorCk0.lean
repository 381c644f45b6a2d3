/- Parts of the proof. -/
import Derived.Test.YtlefgpakmgbgaaaGreatDoorBe
import Derived.Test.YtlefgpakmgbgaaaGreatDoorOk
import Derived.Test.YtlefgpakmgbgaaaGreatDoorProg
set_option linter.unusedVariables false
set_option linter.unusedSimpArgs false
set_option linter.unusedSectionVars false
section
set_option maxRecDepth 100000
namespace Go.Hf
open Go.Proofs Go.RowKit
namespace Ck0
section
variable [Tok] {gl : Gl}
noncomputable def d3 : FnD := ⟨3, Tryz.f3, ⟨[], hcT, [], [(4, [15]), (5, [5]), (15, [15]), (18, [15]), (20, [4096, 4098]), (25, [15]), (27, [4096, 4098]), (28, [15]), (30, [4096, 4098])], []⟩, 1, [.tmp 2], [], [none, some [0], none, none, some [0], none, none, none, none, none, none]⟩
theorem e3 : b3 = d3.den Tryz.prog := by kernel_rfl
theorem ok3 : BodyOk gl Tryz.prog 3 b3 := okk d3 Tryz.func3 e3
noncomputable def d4 : FnD := ⟨4, Tryz.f4, ⟨[], hcT, [], [(1, [1]), (6, [2054]), (8, [2056]), (19, [2067])], []⟩, 0, [.tmp 0], [], [none, none, none, none]⟩
theorem ok4 : BodyOk gl Tryz.prog 4 (d4.den Tryz.prog) := okk d4 Tryz.func4 rfl
noncomputable def d5 : FnD := ⟨5, Tryz.f5, ⟨[], hcT, [], [(2, [4096, 4098, 2081, 2132]), (3, [4096, 4098, 2081, 2132]), (8, [8]), (9, [9]), (11, [4096, 4098]), (19, [4096, 4098, 2081, 2132]), (32, [2080]), (33, [4098, 2081, 2132]), (57, [2105]), (58, [2105]), (60, [4096, 4098, 2081, 2132]), (61, [8]), (62, [2105, 2127]), (79, [2127]), (80, [8]), (81, [4096, 4098, 2081, 2132]), (82, [2105, 2127]), (83, [2131]), (84, [4098, 2081, 2132]), (85, [4096, 4098, 2081, 2132])], []⟩, 1, [.tmp 2], [], [none, none, none, some [0, 3], none, some [0, 3, 4, 5], some [0, 3, 4, 5], none, some [0, 3, 4, 5], none, some [3], none, some [0, 3, 6, 7], some [0, 3, 6, 7], none, some [0, 3, 6, 7], some [0, 3, 6, 7], none, none, some [0, 3, 6, 7, 8], none, none, none]⟩
theorem ok5 : BodyOk gl Tryz.prog 5 (d5.den Tryz.prog) := okk d5 Tryz.func5 rfl
noncomputable def d6 : FnD := ⟨6, Tryz.f6, ⟨[], hcT, [], [(10, [10])], []⟩, 5, [.cell 10 true 2, .tmp 11], [], [none, some [0, 1, 2, 3, 4, 10], none, none, none, some [0, 2, 4, 10, 12], none, none, none, none, none]⟩
theorem ok6 : BodyOk gl Tryz.prog 6 (d6.den Tryz.prog) := okk d6 Tryz.func6 rfl
noncomputable def d7 : FnD := ⟨7, Tryz.f7, ⟨[], hcT, [], [(0, [4096, 4098]), (8, [2101]), (9, [2101]), (10, [4096, 4098]), (12, [12]), (13, [4096, 4098]), (16, [4096, 4098]), (18, [4096, 4098]), (22, [4096, 4098]), (25, [4096, 4098]), (26, [4096, 4098]), (27, [4096, 4098]), (30, [4096, 4098]), (31, [4096, 4098]), (32, [2080]), (36, [4096, 4098]), (37, [4096, 4098]), (38, [4096, 4098]), (39, [4096, 4098]), (41, [2089]), (46, [4096, 4098]), (47, [4096, 4098]), (48, [2096]), (50, [2101]), (51, [4096, 4098]), (52, [2100]), (53, [2101]), (54, [2101])], []⟩, 4, [.tmp 8], [false], [none, none, none, some [9], none, some [0, 1, 3, 9, 10, 11], some [0, 1, 3, 9, 10, 11], none, some [0, 1, 3, 9, 10, 11], none, some [0, 1, 3, 9, 10, 11, 12], none, none, none, none, none]⟩
theorem e7 : b7 = d7.den Tryz.prog := by kernel_rfl
theorem ok7 : BodyOk gl Tryz.prog 7 b7 := okk d7 Tryz.func7 e7
noncomputable def d8 : FnD := ⟨8, Tryz.f8, ⟨[], hcT, [], [(8, [2184]), (9, [2097]), (11, [11]), (12, [2184]), (13, [2104, 2188]), (18, [18]), (20, [20]), (23, [23]), (32, [11]), (36, [11]), (41, [11]), (46, [2097]), (48, [2096]), (49, [2097]), (51, [2097]), (54, [2184]), (56, [2104]), (61, [2184]), (63, [2104, 2188]), (64, [2112]), (66, [2112, 2114]), (68, [2097]), (72, [2097]), (80, [2184]), (83, [2184]), (85, [18]), (96, [2104, 2188]), (97, [18]), (106, [18]), (111, [18]), (115, [23]), (124, [2104, 2188]), (129, [2184]), (130, [18]), (135, [2183]), (136, [2184]), (137, [2104, 2188]), (139, [2187]), (140, [2104, 2188]), (143, [2184]), (147, [2184])], []⟩, 4, [.tmp 8], [], [none, none, some [2, 3, 9], none, some [2, 3, 9, 26, 27, 28], none, some [2, 3, 9, 26, 27, 28], some [2, 3, 9, 26, 27, 28], none, none, none, some [2, 3, 9, 12], none, none, none, some [12], none, some [3, 9, 12, 13, 14], some [3, 9, 12, 13, 14], none, some [3, 9, 12, 13, 14], none, none, some [3, 9, 12, 13, 14, 15], none, some [3, 9, 12, 13, 14, 15, 16, 68, 69, 70], none, some [3, 9, 12, 13, 14, 15, 16, 68, 69, 70], some [3, 9, 12, 13, 14, 15, 16, 68, 69, 70], none, none, some [3, 9, 12, 13, 14, 15, 16, 18, 68, 69, 70, 74, 75, 76], none, some [3, 9, 12, 13, 14, 15, 16, 18, 68, 69, 70, 74, 75, 76], some [3, 9, 12, 13, 14, 15, 16, 18, 68, 69, 70, 74, 75, 76], none, some [3, 9, 12, 13, 14, 15, 16, 18, 20, 68, 69, 70, 74, 75, 76], none, none, none, some [3, 9, 12, 13, 14, 15, 16, 18, 21, 68, 69, 70, 74, 75, 76], none, some [3, 9, 12, 13, 14, 15, 16, 18, 21, 68, 69, 70, 74, 75, 76], none, none, none, some [3, 9, 12, 13, 14, 15, 16, 18, 21, 23, 68, 69, 70, 74, 75, 76], none, none, none, none]⟩
theorem ok8 : BodyOk gl Tryz.prog 8 (d8.den Tryz.prog) := okk d8 Tryz.func8 rfl
noncomputable def d9 : FnD := ⟨9, Tryz.f9, ⟨[], hcT, [], [(0, [4096, 4098]), (4, [4096, 4098, 2102]), (5, [4096, 4098, 2102]), (6, [4096, 4098]), (8, [8]), (9, [4096, 4098]), (11, [4096, 4098]), (12, [4096, 4098]), (13, [4096, 4098]), (15, [4096, 4098]), (19, [4096, 4098]), (21, [4096, 4098]), (22, [4096, 4098]), (23, [4096, 4098]), (26, [4096, 4098]), (27, [2075]), (31, [4096, 4098]), (32, [2080]), (36, [4096, 4098]), (37, [2085]), (39, [4096, 4098]), (40, [4096, 4098]), (41, [2089]), (45, [4096, 4098]), (46, [4096, 4098]), (47, [4096, 4098]), (48, [4096, 4098]), (49, [2097]), (51, [4096, 4098, 2102]), (52, [4096, 4098]), (53, [2101]), (54, [4098, 2102]), (55, [4096, 4098, 2102])], []⟩, 2, [.tmp 4], [], [none, none, none, some [5], none, some [0, 1, 5, 6, 7], some [0, 1, 5, 6, 7], none, some [0, 1, 5, 6, 7], none, some [0, 1, 5, 6, 7, 8], none, none, none, none, none, none]⟩
theorem e9 : b9 = d9.den Tryz.prog := by kernel_rfl
theorem ok9 : BodyOk gl Tryz.prog 9 b9 := okk d9 Tryz.func9 e9
noncomputable def d10 : FnD := ⟨10, Tryz.f10, ⟨[], hcT, [], [(2, [2])], []⟩, 1, [.cell 2 true 11], [], [none, none]⟩
theorem ok10 : BodyOk gl Tryz.prog 10 (d10.den Tryz.prog) := okk d10 Tryz.func10 rfl
noncomputable def d11 : FnD := ⟨11, Tryz.f11, ⟨[], hcT, [], [(4, [4])], []⟩, 2, [.cell 4 true 11], [], [none, none]⟩
theorem e11 : b11 = d11.den Tryz.prog := by kernel_rfl
theorem ok11 : BodyOk gl Tryz.prog 11 b11 := okk d11 Tryz.func11 e11
noncomputable def d12 : FnD := ⟨12, Tryz.f12, ⟨[], hcT, [], [(2, [2]), (3, [3]), (5, [2]), (7, [3]), (11, [2]), (13, [3]), (18, [2]), (20, [3]), (25, [2]), (27, [3])], []⟩, 2, [.tmp 4], [], [none, none]⟩
theorem ok12 : BodyOk gl Tryz.prog 12 (d12.den Tryz.prog) := okk d12 Tryz.func12 rfl
noncomputable def d13 : FnD := ⟨13, Tryz.f13, ⟨[], hcT, [], [(2, [2])], []⟩, 1, [.cell 2 true 2], [], [none, none]⟩
theorem ok13 : BodyOk gl Tryz.prog 13 (d13.den Tryz.prog) := okk d13 Tryz.func13 rfl
noncomputable def d14 : FnD := ⟨14, Tryz.f14, ⟨[], hcT, [], [(0, [2067, 2074]), (1, [2067]), (11, [2067]), (12, [2067]), (18, [2066]), (19, [2067]), (20, [2067]), (25, [2073]), (26, [2067, 2074])], []⟩, 0, [.tmp 0], [false], [none, none, none, some [1], none, some [1, 2, 3], some [1, 2, 3], none, some [1, 2, 3], none]⟩
theorem ok14 : BodyOk gl Tryz.prog 14 (d14.den Tryz.prog) := okk d14 Tryz.func14 rfl
noncomputable def d15 : FnD := ⟨15, Tryz.f15, ⟨[], hcT, [], [(0, [2245]), (1, [1]), (2, [2]), (3, [3]), (4, [4]), (5, [5]), (6, [6]), (7, [7]), (12, [2060]), (15, [2063]), (18, [2066]), (23, [2071]), (27, [2075]), (30, [2078]), (31, [2079]), (34, [2082]), (37, [2085]), (39, [2087]), (42, [2090]), (43, [2091]), (46, [2094]), (50, [2098]), (52, [2100]), (56, [2104]), (58, [2106]), (60, [2108]), (63, [2111]), (66, [2114]), (67, [2115]), (70, [2118]), (73, [2121]), (76, [2124]), (78, [2126]), (81, [2129]), (84, [2132]), (85, [2133]), (88, [2136]), (91, [2139]), (94, [2142]), (96, [2144]), (99, [2147]), (102, [2150]), (103, [2151]), (106, [2154]), (110, [2158]), (112, [2160]), (115, [2163]), (118, [2166]), (121, [2169]), (124, [2172]), (127, [2175]), (130, [2178]), (131, [2179]), (135, [2183]), (136, [2184]), (139, [2187]), (143, [2191]), (146, [2194]), (148, [2196]), (152, [2200]), (156, [2204]), (160, [2208]), (163, [2211]), (167, [2215]), (169, [2217]), (171, [2219]), (175, [2223]), (177, [2225]), (180, [2228]), (181, [2229]), (186, [2234]), (191, [2239]), (193, [2241]), (196, [2244]), (197, [2245])], []⟩, 0, [.tmp 0], [], [none, none, none, none, none, none]⟩
theorem ok15 : BodyOk gl Tryz.prog 15 (d15.den Tryz.prog) := okk d15 Tryz.func15 rfl
noncomputable def d16 : FnD := ⟨16, Tryz.f16, ⟨[], hcT, [], [(0, [2288]), (1, [1]), (2, [2]), (3, [3]), (4, [4]), (5, [5]), (6, [6]), (17, [2065]), (19, [2067]), (22, [2070]), (27, [2075]), (29, [2077]), (32, [2080]), (36, [2084]), (40, [2088]), (43, [2091]), (45, [2093]), (50, [2098]), (55, [2103]), (57, [2105]), (59, [2107]), (64, [2112]), (68, [2116]), (70, [2118]), (76, [2124]), (78, [2126]), (83, [2131]), (85, [2133]), (87, [2135]), (91, [2139]), (94, [2142]), (97, [2145]), (99, [2147]), (101, [2149]), (105, [2153]), (107, [2155]), (111, [2159]), (114, [2162]), (116, [2164]), (120, [2168]), (123, [2171]), (125, [2173]), (129, [2177]), (132, [2180]), (134, [2182]), (138, [2186]), (141, [2189]), (144, [2192]), (146, [2194]), (149, [2197]), (151, [2199]), (155, [2203]), (157, [2205]), (166, [2214]), (169, [2217]), (172, [2220]), (174, [2222]), (176, [2224]), (181, [2229]), (184, [2232]), (188, [2236]), (191, [2239]), (194, [2242]), (196, [2244]), (200, [2248]), (202, [2250]), (205, [2253]), (207, [2255]), (210, [2258]), (212, [2260]), (214, [2262]), (219, [2267]), (223, [2271]), (228, [2276]), (230, [2278]), (235, [2283]), (237, [2285]), (240, [2288])], []⟩, 0, [.tmp 0], [], [none, none, none, none, none]⟩
theorem ok16 : BodyOk gl Tryz.prog 16 (d16.den Tryz.prog) := okk d16 Tryz.func16 rfl
noncomputable def d17 : FnD := ⟨17, Tryz.f17, ⟨[], hcT, [], [(5, [5]), (6, [6]), (8, [8]), (11, [11]), (14, [14]), (15, [15]), (19, [19]), (20, [20]), (21, [21]), (22, [2294, 2296]), (25, [25]), (26, [26]), (30, [30]), (31, [31]), (32, [32]), (34, [2517, 2519]), (45, [2093]), (59, [14]), (60, [14]), (61, [14]), (63, [11]), (67, [11]), (74, [11]), (78, [11]), (80, [11]), (84, [11]), (88, [14]), (89, [14]), (90, [14]), (95, [11]), (100, [14]), (101, [14]), (102, [14]), (103, [14]), (104, [14]), (105, [2245, 2277, 2338, 2559]), (108, [14]), (109, [14]), (110, [2245, 2277, 2338, 2559]), (115, [14]), (116, [2245, 2277, 2338, 2559]), (117, [2165]), (120, [2168]), (121, [14]), (122, [2245, 2277, 2338, 2559]), (123, [2171]), (125, [2168, 2173]), (129, [14]), (130, [2245, 2277, 2338, 2559]), (131, [14]), (132, [2245, 2277, 2338, 2559]), (134, [14]), (140, [15]), (144, [15]), (148, [15]), (154, [15]), (161, [15]), (166, [15]), (173, [19]), (178, [19]), (189, [2237]), (197, [2245]), (199, [14]), (200, [14]), (201, [14]), (202, [14]), (214, [20]), (218, [20]), (229, [2277]), (230, [14]), (231, [14]), (237, [21]), (246, [2294]), (248, [2294, 2296]), (249, [21]), (274, [2294, 2296]), (279, [2327]), (283, [14]), (284, [2245, 2277, 2338, 2559]), (289, [2337]), (290, [2245, 2277, 2338, 2559]), (291, [14]), (292, [14]), (293, [2245, 2277, 2338, 2559]), (298, [14]), (305, [11]), (313, [11]), (321, [11]), (330, [11]), (334, [11]), (339, [25]), (345, [25]), (350, [2398]), (352, [25]), (368, [26]), (378, [25]), (383, [25]), (391, [26]), (393, [2441]), (399, [25]), (401, [14]), (402, [14]), (403, [14]), (406, [14]), (412, [30]), (420, [30]), (431, [30]), (456, [14]), (459, [14]), (461, [2245, 2277, 2338, 2559]), (469, [2517]), (471, [2517, 2519]), (473, [2521]), (497, [2517, 2519]), (502, [2550]), (511, [2559]), (512, [14]), (513, [14]), (514, [14]), (515, [2245, 2277, 2338, 2559]), (517, [2245, 2277, 2338, 2559])], []⟩, 4, [.cell 8 true 34, .tmp 9], [], [none, none, none, none, none, some [8, 14], none, none, some [8, 12, 14], none, none, some [8, 12, 14], none, none, some [8, 14], none, none, none, none, some [8, 11, 12, 14, 15, 16], none, some [8, 11, 12, 14, 15, 16], none, none, none, none, some [8, 11, 12, 14, 16, 17, 19], none, none, some [8, 11, 12, 14, 17, 19], none, some [8, 11, 14, 17, 19], none, none, none, some [8, 10, 11, 12, 13, 14], none, none, none, some [8, 11, 12, 13, 14, 20], none, some [8, 11, 12, 13, 14, 20], none, none, some [8, 11, 14, 20], none, none, none, none, some [8, 11, 12, 13, 14, 21], none, some [8, 11, 12, 13, 14, 21], none, none, none, none, some [8, 11, 14], none, some [8, 11, 14, 22, 23, 24], some [8, 11, 14, 22, 23, 24], none, some [8, 11, 14, 22, 23, 24], none, some [8, 11, 14], none, none, none, some [8, 11, 12, 14], none, none, none, some [8, 12, 14, 25, 26], none, some [8, 12, 14, 25, 26, 27], some [8, 12, 14, 25, 26, 27], none, some [8, 12, 14, 25, 26, 27], none, some [8, 12, 14, 25, 26, 27], none, none, none, some [8, 12, 14, 25, 26, 27, 29], some [8, 12, 14, 25, 26, 27, 29], none, some [8, 12, 14, 25, 26, 27, 29], none, none, some [8, 14, 25, 26], none, none, none, none, none, some [0, 6, 8, 14, 30], none, none, none, some [8, 14, 31], none, none, none, none, none, none, none, none, none, some [8], none, some [6, 8, 14, 34, 35, 36], some [6, 8, 14, 34, 35, 36], none, some [6, 8, 14, 34, 35, 36], none, none, none, none, none, none]⟩
theorem ok17 : BodyOk gl Tryz.prog 17 (d17.den Tryz.prog) := okk d17 Tryz.func17 rfl
noncomputable def d18 : FnD := ⟨18, Tryz.f18, ⟨[], hcT, [], [], []⟩, 1, [.tmp 2], [], [none, none, some [0, 3], none, none, some [], none, some [0, 3, 12, 13], none, some [0, 3, 12, 13], some [0, 3, 12, 13], none, none, none, none]⟩
theorem ok18 : BodyOk gl Tryz.prog 18 (d18.den Tryz.prog) := okk d18 Tryz.func18 rfl
noncomputable def d23 : FnD := ⟨23, Tryz.f23, ⟨[], hcT, [], [(0, [4096, 4098]), (5, [4096, 4098]), (6, [4096, 4098]), (7, [4096, 4098]), (8, [4096, 4098]), (9, [4096, 4098]), (10, [4096, 4098]), (11, [4096, 4098]), (12, [4096, 4098]), (19, [4096, 4098]), (20, [4096, 4098]), (21, [4096, 4098]), (22, [4096, 4098]), (24, [4096, 4098]), (25, [4096, 4098]), (26, [4096, 4098]), (27, [4096, 4098]), (28, [4096, 4098]), (29, [4096, 4098]), (30, [4096, 4098]), (31, [4096, 4098]), (32, [4096, 4098]), (33, [4096, 4098]), (35, [4098]), (36, [4096, 4098])], []⟩, 2, [.tmp 4], [], [none, some [0, 1], none, none, none, none]⟩
theorem e23 : b23 = d23.den Tryz.prog := by kernel_rfl
theorem ok23 : BodyOk gl Tryz.prog 23 b23 := okk d23 Tryz.func23 e23
noncomputable def d24 : FnD := ⟨24, Tryz.f24, ⟨[], hcT, [], [(0, [4096, 4098]), (6, [6]), (7, [7]), (8, [4096, 4098]), (11, [4096, 4098]), (12, [4096, 4098]), (13, [4096, 4098]), (17, [4096, 4098]), (18, [2066]), (22, [4096, 4098]), (23, [4096, 4098]), (27, [4096, 4098]), (28, [2076]), (30, [2078]), (34, [4096, 4098]), (35, [4096, 4098]), (36, [2084]), (38, [2086]), (42, [4096, 4098]), (43, [4096, 4098]), (47, [4096, 4098]), (48, [2096]), (52, [4096, 4098]), (53, [4096, 4098]), (54, [4096, 4098]), (58, [4096, 4098]), (59, [2107]), (61, [2109]), (63, [4096, 4098])], []⟩, 3, [.cell 6 true 11], [], [none, none, some [6, 7], none, some [0, 1, 2, 6, 7, 13, 14], none, none, none, none, none, none, none, none, none, none, none]⟩
theorem e24 : b24 = d24.den Tryz.prog := by kernel_rfl
theorem ok24 : BodyOk gl Tryz.prog 24 b24 := okk d24 Tryz.func24 e24
noncomputable def d25 : FnD := ⟨25, Tryz.f25, ⟨[], hcT, [], [(0, [4096, 4098]), (2, [2]), (3, [4096, 4098]), (4, [4096, 4098])], []⟩, 1, [.cell 2 true 11], [], [none, none]⟩
theorem e25 : b25 = d25.den Tryz.prog := by kernel_rfl
theorem ok25 : BodyOk gl Tryz.prog 25 b25 := okk d25 Tryz.func25 e25
noncomputable def d26 : FnD := ⟨26, Tryz.f26, ⟨[], hcT, [], [(1, [1]), (2, [2])], []⟩, 1, [.cell 2 true 11], [], [none, none]⟩
theorem e26 : b26 = d26.den Tryz.prog := by kernel_rfl
theorem ok26 : BodyOk gl Tryz.prog 26 b26 := okk d26 Tryz.func26 e26
noncomputable def d27 : FnD := ⟨27, Tryz.f27, ⟨[], hcT, [], [(0, [4096, 4098]), (4, [4]), (5, [4096, 4098]), (6, [2125]), (7, [4096, 4098]), (9, [9]), (10, [4096, 4098]), (11, [4096, 4098]), (15, [4096, 4098]), (18, [4096, 4098]), (20, [4096, 4098]), (30, [4096, 4098]), (31, [4096, 4098]), (42, [4096, 4098]), (43, [4096, 4098]), (50, [4096, 4098]), (51, [4096, 4098]), (64, [4096, 4098]), (65, [4096, 4098]), (67, [4096, 4098]), (71, [2125]), (72, [4096, 4098]), (75, [4096, 4098]), (76, [2124]), (77, [2125]), (78, [2125]), (80, [4096, 4098]), (83, [4096, 4098]), (84, [4096, 4098]), (85, [4096, 4098]), (88, [4096, 4098])], []⟩, 2, [.cell 4 true 7], [], [none, none, some [0, 1, 4, 5], none, some [0, 1, 4], none, none, none, none, none, some [0, 1, 4, 20, 27], none, none, none, none, none, none, none, none, none, none, none, none, none, none, some [0, 1, 4, 60], none, none, none, none, some [4, 6], none, some [0, 1, 4, 6, 7, 8], some [0, 1, 4, 6, 7, 8], none, some [0, 1, 4, 6, 7, 8], none, none, none]⟩
theorem e27 : b27 = d27.den Tryz.prog := by kernel_rfl
theorem ok27 : BodyOk gl Tryz.prog 27 b27 := okk d27 Tryz.func27 e27
noncomputable def d28 : FnD := ⟨28, Tryz.f28, ⟨[], hcT, [], [(2, [2])], []⟩, 1, [.cell 2 true 11], [], [none, none]⟩
theorem ok28 : BodyOk gl Tryz.prog 28 (d28.den Tryz.prog) := okk d28 Tryz.func28 rfl
noncomputable def d29 : FnD := ⟨29, Tryz.f29, ⟨[], hcT, [], [(4, [4096, 4098, 2077]), (5, [4096, 4098, 2077]), (7, [7]), (9, [4096, 4098]), (16, [7]), (21, [7]), (26, [4096, 4098, 2077]), (27, [7]), (29, [4098, 2077]), (31, [4096, 4098, 2077])], []⟩, 2, [.tmp 4], [], [none, none, some [5], none, some [1, 5, 10, 11, 12], none, some [1, 5, 10, 11, 12], some [1, 5, 10, 11, 12], none, none, none]⟩
theorem ok29 : BodyOk gl Tryz.prog 29 (d29.den Tryz.prog) := okk d29 Tryz.func29 rfl
noncomputable def d30 : FnD := ⟨30, Tryz.f30, ⟨[], hcT, [], [(3, [3]), (4, [4]), (5, [5]), (7, [7]), (8, [8]), (9, [4, 3, 5]), (16, [4, 3, 5]), (18, [4096, 4098])], []⟩, 1, [.tmp 2], [], [none, none, none, none, none, some [3], none, some [3, 5, 10, 11, 12], none, some [3, 5, 10, 11, 12], some [3, 5, 10, 11, 12], none, none]⟩
theorem ok30 : BodyOk gl Tryz.prog 30 (d30.den Tryz.prog) := okk d30 Tryz.func30 rfl
noncomputable def d31 : FnD := ⟨31, Tryz.f31, ⟨[], hcT, [], [(3, [3]), (4, [4]), (9, [2057]), (11, [2059])], []⟩, 3, [.tmp 6, .tmp 7], [], [none, none]⟩
theorem ok31 : BodyOk gl Tryz.prog 31 (d31.den Tryz.prog) := okk d31 Tryz.func31 rfl
noncomputable def d32 : FnD := ⟨32, Tryz.f32, ⟨[], hcT, [], [(9, [9]), (12, [12])], []⟩, 3, [.tmp 6, .tmp 7], [], [none, some [2], none, some [0, 2, 15, 16, 17], none, some [0, 2, 15, 16, 17], some [0, 2, 15, 16, 17], none, some [0, 2, 9, 15, 16, 17], none, none, none, none, none, some [0, 2, 10, 15, 16, 17], none, some [0, 2, 9, 10, 15, 16, 17, 31, 32, 33], none, some [0, 2, 9, 10, 15, 16, 17, 31, 32, 33], some [0, 2, 9, 10, 15, 16, 17, 31, 32, 33], none, none, none, none, none, none, none]⟩
theorem ok32 : BodyOk gl Tryz.prog 32 (d32.den Tryz.prog) := okk d32 Tryz.func32 rfl
noncomputable def d33 : FnD := ⟨33, Tryz.f33, ⟨[], hcT, [], [(2, [2]), (6, [6]), (9, [9]), (11, [2059]), (26, [9])], []⟩, 2, [.tmp 4], [], [none, some [], none, some [1, 12, 13, 14], none, some [1, 12, 13, 14], some [1, 12, 13, 14], none, none, some [1, 7, 12, 13, 14], none, some [1, 6, 7, 12, 13, 14, 18, 19, 20], none, some [1, 6, 7, 12, 13, 14, 18, 19, 20], some [1, 6, 7, 12, 13, 14, 18, 19, 20], none, none, none, none]⟩
theorem ok33 : BodyOk gl Tryz.prog 33 (d33.den Tryz.prog) := okk d33 Tryz.func33 rfl
noncomputable def d34 : FnD := ⟨34, Tryz.f34, ⟨[], hcT, [], [(2, [2]), (3, [3]), (4, [4]), (6, [6]), (7, [2]), (16, [6]), (18, [2]), (21, [6]), (25, [3]), (26, [4096, 4098])], []⟩, 2, [.cell 4 true 11], [], [none, some [2, 3, 4], none, none, some [2, 3, 4, 10, 11, 12], none, some [2, 3, 4, 10, 11, 12], some [2, 3, 4, 10, 11, 12], none, none, none, none]⟩
theorem ok34 : BodyOk gl Tryz.prog 34 (d34.den Tryz.prog) := okk d34 Tryz.func34 rfl
noncomputable def d35 : FnD := ⟨35, Tryz.f35, ⟨[], hcT, [], [(1, [1])], []⟩, 1, [.tmp 2], [], [none, none]⟩
theorem e35 : b35 = d35.den Tryz.prog := by kernel_rfl
theorem ok35 : BodyOk gl Tryz.prog 35 b35 := okk d35 Tryz.func35 e35
noncomputable def d36 : FnD := ⟨36, Tryz.f36, ⟨[], hcT, [], [(3, [3]), (5, [5]), (6, [6]), (7, [7]), (12, [3]), (15, [3]), (23, [3]), (41, [3]), (45, [3]), (62, [5]), (66, [6]), (70, [3]), (74, [3]), (80, [3]), (87, [3])], []⟩, 2, [.tmp 4], [], [none, some [0, 3], none, none, some [0, 3], none, none, none, none, none, none, some [0, 3], none, none, some [0, 3], none, none, some [0, 3], none, none, some [0, 3, 5, 6], none, none, none, none, none, some [0, 3, 5, 6], none, none, none, none, some [0, 3], none, none, none, none, some [0, 3, 8, 10], none, none, none, none, none, some [11], none, none, some [], none, none, none]⟩
theorem ok36 : BodyOk gl Tryz.prog 36 (d36.den Tryz.prog) := okk d36 Tryz.func36 rfl
noncomputable def d37 : FnD := ⟨37, Tryz.f37, ⟨[], hcT, [], [(0, [4096, 4098]), (6, [6]), (7, [4096, 4098]), (8, [8]), (13, [2123]), (15, [4096, 4098]), (16, [4096, 4098]), (20, [4096, 4098]), (23, [4096, 4098]), (26, [4096, 4098]), (28, [4096, 4098]), (29, [4096, 4098]), (31, [4096, 4098]), (33, [4096, 4098]), (34, [4096, 4098]), (38, [4096, 4098]), (39, [4096, 4098]), (42, [4096, 4098]), (45, [4096, 4098]), (50, [4096, 4098]), (53, [4096, 4098]), (68, [2123]), (69, [4096, 4098]), (73, [4096, 4098]), (74, [2122]), (75, [2123]), (77, [2123])], []⟩, 3, [.cell 6 true 11], [], [none, none, some [0, 1, 2, 6, 7], none, some [0, 1, 2, 6], none, none, none, none, none, some [0, 1, 2, 6, 8], none, none, none, none, some [6, 8, 13], none, some [0, 1, 2, 6, 8, 11, 13, 14], some [0, 1, 2, 6, 8, 11, 13, 14], none, some [0, 1, 2, 6, 8, 11, 13, 14], none]⟩
theorem e37 : b37 = d37.den Tryz.prog := by kernel_rfl
theorem ok37 : BodyOk gl Tryz.prog 37 b37 := okk d37 Tryz.func37 e37
noncomputable def d38 : FnD := ⟨38, Tryz.f38, ⟨[], hcT, [], [(4, [4])], []⟩, 2, [.cell 4 true 11], [], [none, none]⟩
theorem ok38 : BodyOk gl Tryz.prog 38 (d38.den Tryz.prog) := okk d38 Tryz.func38 rfl
noncomputable def d39 : FnD := ⟨39, Tryz.f39, ⟨[], hcT, [], [(1, [1]), (2, [2])], []⟩, 1, [.cell 2 true 11], [], [none, none]⟩
theorem e39 : b39 = d39.den Tryz.prog := by kernel_rfl
theorem ok39 : BodyOk gl Tryz.prog 39 b39 := okk d39 Tryz.func39 e39
noncomputable def d40 : FnD := ⟨40, Tryz.f40, ⟨[], hcT, [], [(4, [4])], []⟩, 2, [.cell 4 true 11], [], [none, none]⟩
theorem e40 : b40 = d40.den Tryz.prog := by kernel_rfl
theorem ok40 : BodyOk gl Tryz.prog 40 b40 := okk d40 Tryz.func40 e40
end
end Ck0
end Go.Hf
end
section
set_option maxRecDepth 100000
namespace Go.Hf
open Go.Proofs Go.RowKit
namespace Ck1
section
variable [Tok] {gl : Gl}
noncomputable def d41 : FnD := ⟨41, Tryz.f41, ⟨[], hcT, [], [(2, [2]), (3, [3]), (6, [2]), (8, [3]), (12, [2]), (14, [3]), (19, [2]), (21, [3]), (26, [2]), (28, [3]), (33, [2]), (35, [3]), (40, [2]), (43, [3]), (49, [2]), (55, [2]), (60, [3])], []⟩, 2, [.tmp 4], [], [none, some [2, 3], none, none, some [], none, some [2, 3, 5], some [2, 3, 5], none, some [2, 3, 5], none, none, none]⟩
theorem e41 : b41 = d41.den Tryz.prog := by kernel_rfl
theorem ok41 : BodyOk gl Tryz.prog 41 b41 := okk d41 Tryz.func41 e41
noncomputable def d42 : FnD := ⟨42, Tryz.f42, ⟨[], hcT, [], [], []⟩, 2, [.tmp 4], [], [none, some [0, 1], none, none, some [], none, some [0, 1, 5], some [0, 1, 5], none, some [0, 1, 5], none, none, none]⟩
theorem ok42 : BodyOk gl Tryz.prog 42 (d42.den Tryz.prog) := okk d42 Tryz.func42 rfl
noncomputable def d43 : FnD := ⟨43, Tryz.f43, ⟨[], hcT, [], [(2, [2])], []⟩, 0, [.tmp 0], [], [none, none, none]⟩
theorem ok43 : BodyOk gl Tryz.prog 43 (d43.den Tryz.prog) := okk d43 Tryz.func43 rfl
noncomputable def d44 : FnD := ⟨44, Tryz.f44, ⟨[], hcT, [], [(3, [3]), (4, [4]), (7, [7]), (11, [2100]), (12, [12]), (14, [14]), (41, [7]), (42, [2097]), (48, [2096]), (49, [2097]), (50, [7]), (51, [2097]), (52, [2100]), (55, [2100]), (65, [7]), (74, [2100]), (79, [7]), (88, [2100]), (93, [7]), (94, [7]), (95, [2097]), (96, [2097]), (97, [2145]), (98, [2097, 2145])], []⟩, 2, [.cell 4 true 32], [], [none, none, none, none, some [0, 4, 5, 7], none, some [0, 4, 5, 7, 8, 10], some [0, 4, 5, 7, 8, 10], none, some [0, 4, 5, 7, 8, 10], none, none, some [0, 4, 5, 7, 11], none, none, some [4, 7], none, none, none]⟩
theorem ok44 : BodyOk gl Tryz.prog 44 (d44.den Tryz.prog) := okk d44 Tryz.func44 rfl
noncomputable def d45 : FnD := ⟨45, Tryz.f45, ⟨[], hcT, [], [(2, [2])], []⟩, 1, [.cell 2 true 2], [], [none, none]⟩
theorem e45 : b45 = d45.den Tryz.prog := by kernel_rfl
theorem ok45 : BodyOk gl Tryz.prog 45 b45 := okk d45 Tryz.func45 e45
noncomputable def d46 : FnD := ⟨46, Tryz.f46, ⟨[], hcT, [], [(0, [4096, 4098, 2078, 2093]), (1, [4096, 4098, 2078, 2093]), (6, [2079]), (8, [4096, 4098]), (24, [4096, 4098, 2078, 2093]), (29, [2077]), (30, [4098, 2078, 2093]), (31, [2079]), (33, [2079]), (38, [4096, 4098, 2078, 2093]), (39, [2079]), (41, [2079]), (44, [2092]), (45, [4098, 2078, 2093]), (46, [4096, 4098, 2078, 2093])], []⟩, 0, [.tmp 0], [], [none, none, none, some [1], none, some [1, 2, 3], some [1, 2, 3], none, some [1, 2, 3], none, none, some [1], none, some [1, 6, 7], some [1, 6, 7], none, some [1, 6, 7], none]⟩
theorem ok46 : BodyOk gl Tryz.prog 46 (d46.den Tryz.prog) := okk d46 Tryz.func46 rfl
noncomputable def d47 : FnD := ⟨47, Tryz.f47, ⟨[], hcT, [], [(2, [2]), (3, [3]), (4, [4]), (9, [2057]), (14, [2062]), (16, [2064])], []⟩, 2, [.cell 4 true 11], [], [none, none]⟩
theorem ok47 : BodyOk gl Tryz.prog 47 (d47.den Tryz.prog) := okk d47 Tryz.func47 rfl
noncomputable def d48 : FnD := ⟨48, Tryz.f48, ⟨[], hcT, [], [(6, [6]), (7, [7]), (8, [8]), (9, [9]), (23, [9]), (24, [2079]), (30, [2078]), (31, [2079]), (32, [9]), (33, [2079])], []⟩, 4, [.cell 8 true 37], [], [none, none, some [8, 9], none, some [1, 8, 9, 10], some [1, 8, 9, 10], none, some [1, 8, 9, 10], none]⟩
theorem ok48 : BodyOk gl Tryz.prog 48 (d48.den Tryz.prog) := okk d48 Tryz.func48 rfl
noncomputable def d49 : FnD := ⟨49, Tryz.f49, ⟨[], hcT, [], [(0, [0])], []⟩, 0, [.cell 0 true 11], [], [none, none]⟩
theorem ok49 : BodyOk gl Tryz.prog 49 (d49.den Tryz.prog) := okk d49 Tryz.func49 rfl
noncomputable def d50 : FnD := ⟨50, Tryz.f50, ⟨[], hcT, [], [(0, [0])], []⟩, 0, [.cell 0 true 11], [], [none, none]⟩
theorem ok50 : BodyOk gl Tryz.prog 50 (d50.den Tryz.prog) := okk d50 Tryz.func50 rfl
noncomputable def d51 : FnD := ⟨51, Tryz.f51, ⟨[], hcT, [], [(2, [2]), (3, [3]), (4, [4]), (8, [2056])], []⟩, 2, [.cell 4 true 11], [], [none, none]⟩
theorem ok51 : BodyOk gl Tryz.prog 51 (d51.den Tryz.prog) := okk d51 Tryz.func51 rfl
noncomputable def d52 : FnD := ⟨52, Tryz.f52, ⟨[], hcT, [], [(2, [2]), (3, [3]), (4, [4]), (7, [2055])], []⟩, 2, [.cell 4 true 11], [], [none, none]⟩
theorem ok52 : BodyOk gl Tryz.prog 52 (d52.den Tryz.prog) := okk d52 Tryz.func52 rfl
noncomputable def d53 : FnD := ⟨53, Tryz.f53, ⟨[], hcT, [], [(1, [1]), (2, [2]), (3, [3]), (4, [4]), (5, [5]), (6, [6]), (7, [7]), (8, [8]), (9, [9]), (19, [2067]), (24, [2072]), (30, [2078]), (32, [2080]), (40, [2088]), (42, [2090]), (45, [2093]), (50, [2098])], []⟩, 1, [.cell 2 true 11], [], [none, none, none, none, none, none]⟩
theorem ok53 : BodyOk gl Tryz.prog 53 (d53.den Tryz.prog) := okk d53 Tryz.func53 rfl
noncomputable def d54 : FnD := ⟨54, Tryz.f54, ⟨[], hcT, [], [(2, [2]), (4, [4])], []⟩, 2, [.cell 4 true 11], [], [none, none]⟩
theorem e54 : b54 = d54.den Tryz.prog := by kernel_rfl
theorem ok54 : BodyOk gl Tryz.prog 54 b54 := okk d54 Tryz.func54 e54
noncomputable def d55 : FnD := ⟨55, Tryz.f55, ⟨[], hcT, [], [(1, [1]), (2, [2061]), (3, [3]), (4, [2061]), (7, [2061]), (8, [1]), (13, [2061]), (14, [1]), (18, [2061])], []⟩, 1, [.tmp 2, .cell 3 true 11], [], [none, none, some [1, 3, 4], some [1, 3, 4], some [1, 3, 4], none, none, none]⟩
theorem ok55 : BodyOk gl Tryz.prog 55 (d55.den Tryz.prog) := okk d55 Tryz.func55 rfl
noncomputable def d56 : FnD := ⟨56, Tryz.f56, ⟨[], hcT, [], [(2, [2098]), (3, [2098]), (5, [2072]), (24, [2072]), (32, [2072]), (37, [2098]), (38, [2072]), (40, [2072]), (44, [2098]), (45, [2072]), (47, [2072]), (49, [2097]), (50, [2098]), (51, [2098])], []⟩, 1, [.tmp 2], [], [none, none, some [3], none, some [0, 3, 4], some [0, 3, 4], none, some [0, 3, 4], none, some [0, 3, 4, 5], none, none, some [0, 3, 4, 5, 6], some [0, 3, 4, 5, 6], none, some [0, 3, 4, 5, 6], none, none]⟩
theorem ok56 : BodyOk gl Tryz.prog 56 (d56.den Tryz.prog) := okk d56 Tryz.func56 rfl
noncomputable def d58 : FnD := ⟨58, Tryz.f58, ⟨[], hcT, [], [(3, [3]), (7, [3]), (11, [3]), (18, [3])], []⟩, 3, [.tmp 6], [], [none, none]⟩
theorem ok58 : BodyOk gl Tryz.prog 58 (d58.den Tryz.prog) := okk d58 Tryz.func58 rfl
noncomputable def d59 : FnD := ⟨59, Tryz.f59, ⟨[], hcT, [], [(0, [0])], []⟩, 0, [.cell 0 true 11], [], [none, none]⟩
theorem ok59 : BodyOk gl Tryz.prog 59 (d59.den Tryz.prog) := okk d59 Tryz.func59 rfl
noncomputable def d60 : FnD := ⟨60, Tryz.f60, ⟨[], hcT, [], [(0, [0])], []⟩, 0, [.cell 0 true 7], [], [none, none]⟩
theorem ok60 : BodyOk gl Tryz.prog 60 (d60.den Tryz.prog) := okk d60 Tryz.func60 rfl
noncomputable def d61 : FnD := ⟨61, Tryz.f61, ⟨[], hcT, [], [], []⟩, 2, [.tmp 4], [], [none, some [], none, some [0, 1, 5], some [0, 1, 5], none, some [0, 1, 5], none, none, none]⟩
theorem ok61 : BodyOk gl Tryz.prog 61 (d61.den Tryz.prog) := okk d61 Tryz.func61 rfl
noncomputable def d67 : FnD := ⟨67, Tryz.f67, ⟨[], hcT, [], [(3, [3]), (4, [4])], []⟩, 2, [.cell 4 true 37, .tmp 5], [], [none, none, some [0, 4, 6, 7], none, none, none]⟩
theorem ok67 : BodyOk gl Tryz.prog 67 (d67.den Tryz.prog) := okk d67 Tryz.func67 rfl
noncomputable def d69 : FnD := ⟨69, Tryz.f69, ⟨[], hcT, [], [(0, [2070, 2079]), (1, [2070]), (4, [4]), (5, [5]), (12, [2070]), (15, [2070]), (16, [4]), (19, [2067]), (20, [2067]), (21, [2069]), (22, [2070]), (26, [2070]), (30, [2078]), (31, [2070, 2079])], []⟩, 0, [.tmp 0], [], [none, none, some [1], none, some [1, 6, 7, 8], none, some [1, 6, 7, 8], some [1, 6, 7, 8], none, none, none, none]⟩
theorem ok69 : BodyOk gl Tryz.prog 69 (d69.den Tryz.prog) := okk d69 Tryz.func69 rfl
noncomputable def d70 : FnD := ⟨70, Tryz.f70, ⟨[], hcT, [], [(2, [2]), (3, [3]), (6, [6]), (8, [8]), (9, [9]), (11, [11]), (12, [2]), (14, [3]), (18, [2]), (20, [3]), (25, [2]), (28, [3]), (34, [2]), (35, [2]), (37, [3]), (38, [3]), (43, [2]), (44, [2]), (47, [3]), (48, [3]), (54, [2]), (57, [3]), (63, [2]), (66, [3]), (72, [2]), (75, [3]), (80, [2]), (81, [2]), (90, [3]), (91, [3]), (98, [2]), (104, [2]), (109, [3]), (114, [8]), (116, [9]), (120, [8]), (122, [9]), (127, [8]), (130, [9]), (136, [8]), (138, [9]), (144, [8]), (146, [9]), (152, [8]), (154, [9]), (159, [8]), (168, [9])], []⟩, 2, [.tmp 4], [], [none, some [2, 3], none, none, some [2, 3], none, some [2, 3, 82, 83, 84], none, some [2, 3, 82, 83, 84], some [2, 3, 82, 83, 84], none, none, none, some [], none, some [2, 3, 100, 101], none, some [2, 3, 100, 101], some [2, 3, 100, 101], none, none, some [2, 3, 8, 9, 100, 101], none, none, none, some [2, 3, 9, 100, 101, 160, 161, 162], none, some [2, 3, 9, 100, 101, 160, 161, 162], some [2, 3, 9, 100, 101, 160, 161, 162], none, none, none, none]⟩
theorem ok70 : BodyOk gl Tryz.prog 70 (d70.den Tryz.prog) := okk d70 Tryz.func70 rfl
noncomputable def d75 : FnD := ⟨75, Tryz.f75, ⟨[], hcT, [], [(4, [2071]), (5, [2071]), (7, [7]), (16, [2071]), (20, [2071]), (22, [2070]), (23, [2071]), (25, [2071])], []⟩, 2, [.tmp 4], [], [none, none, some [5], none, some [5, 10, 11, 12], none, some [5, 10, 11, 12], some [5, 10, 11, 12], none, none, none]⟩
theorem ok75 : BodyOk gl Tryz.prog 75 (d75.den Tryz.prog) := okk d75 Tryz.func75 rfl
noncomputable def d76 : FnD := ⟨76, Tryz.f76, ⟨[], hcT, [], [(1, [1]), (2, [2]), (5, [1]), (10, [2058])], []⟩, 1, [.cell 2 true 11], [], [none, some [1, 2], none, none, none]⟩
theorem ok76 : BodyOk gl Tryz.prog 76 (d76.den Tryz.prog) := okk d76 Tryz.func76 rfl
noncomputable def d77 : FnD := ⟨77, Tryz.f77, ⟨[], hcT, [], [(0, [0])], []⟩, 0, [.cell 0 true 7], [], [none, none]⟩
theorem e77 : b77 = d77.den Tryz.prog := by kernel_rfl
theorem ok77 : BodyOk gl Tryz.prog 77 b77 := okk d77 Tryz.func77 e77
noncomputable def d78 : FnD := ⟨78, Tryz.f78, ⟨[], hcT, [], [(2, [2])], []⟩, 1, [.cell 2 true 7], [], [none, none]⟩
theorem ok78 : BodyOk gl Tryz.prog 78 (d78.den Tryz.prog) := okk d78 Tryz.func78 rfl
noncomputable def d79 : FnD := ⟨79, Tryz.f79, ⟨[], hcT, [], [(4, [4])], []⟩, 2, [.cell 4 true 7], [], [none, none, none]⟩
theorem ok79 : BodyOk gl Tryz.prog 79 (d79.den Tryz.prog) := okk d79 Tryz.func79 rfl
noncomputable def d80 : FnD := ⟨80, Tryz.f80, ⟨[], hcT, [], [(1, [1]), (2, [2])], []⟩, 1, [.cell 2 true 7], [], [none, none]⟩
theorem e80 : b80 = d80.den Tryz.prog := by kernel_rfl
theorem ok80 : BodyOk gl Tryz.prog 80 b80 := okk d80 Tryz.func80 e80
noncomputable def d81 : FnD := ⟨81, Tryz.f81, ⟨[], hcT, [], [(2, [2])], []⟩, 1, [.cell 2 true 7], [], [none, none]⟩
theorem ok81 : BodyOk gl Tryz.prog 81 (d81.den Tryz.prog) := okk d81 Tryz.func81 rfl
noncomputable def d82 : FnD := ⟨82, Tryz.f82, ⟨[], hcT, [], [(2, [2]), (3, [3])], []⟩, 1, [.cell 2 true 7], [], [none, none, some [2, 3], none, some [0, 2, 3, 4], some [0, 2, 3, 4], none, some [0, 2, 3, 4], none]⟩
theorem e82 : b82 = d82.den Tryz.prog := by kernel_rfl
theorem ok82 : BodyOk gl Tryz.prog 82 b82 := okk d82 Tryz.func82 e82
noncomputable def d83 : FnD := ⟨83, Tryz.f83, ⟨[], hcT, [], [(2, [2]), (3, [3]), (4, [4]), (7, [2055]), (8, [2055])], []⟩, 2, [.cell 4 true 7], [], [none, none]⟩
theorem e83 : b83 = d83.den Tryz.prog := by kernel_rfl
theorem ok83 : BodyOk gl Tryz.prog 83 b83 := okk d83 Tryz.func83 e83
noncomputable def d84 : FnD := ⟨84, Tryz.f84, ⟨[], hcT, [], [(2, [2068]), (3, [2068]), (5, [5]), (6, [4096, 4098]), (10, [4098]), (11, [4096, 4098]), (13, [5]), (14, [4096, 4098]), (17, [2068]), (18, [4096, 4098]), (19, [2067]), (20, [2068]), (22, [2068])], []⟩, 1, [.tmp 2], [false], [none, none, some [3], none, some [0, 3, 6, 7, 8], none, some [0, 3, 6, 7, 8], some [0, 3, 6, 7, 8], none, none, none]⟩
theorem ok84 : BodyOk gl Tryz.prog 84 (d84.den Tryz.prog) := okk d84 Tryz.func84 rfl
noncomputable def d85 : FnD := ⟨85, Tryz.f85, ⟨[], hcT, [], [(3, [3]), (6, [6])], []⟩, 2, [.tmp 4], [], [none, some [], none, some [3, 7, 8, 9], none, some [3, 7, 8, 9], some [3, 7, 8, 9], none, none, none, none]⟩
theorem ok85 : BodyOk gl Tryz.prog 85 (d85.den Tryz.prog) := okk d85 Tryz.func85 rfl
end
end Ck1
end Go.Hf
end

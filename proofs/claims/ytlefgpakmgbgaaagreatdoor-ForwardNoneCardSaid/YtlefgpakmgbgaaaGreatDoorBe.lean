/- Parts of the proof. -/
import Derived.Test.YtlefgpakmgbgaaaGreatDoorBd
set_option linter.unusedVariables false
set_option linter.unusedSimpArgs false
set_option linter.unusedSectionVars false
set_option maxRecDepth 100000
namespace Go.Hf
noncomputable section
def r238 (b : Nat) (x0 x1 : XV) (h2 : HS) : Ans :=
  kHand h2.ob x0 fun q3 s4 => kHand h2.ob x1 fun q5 s6 => retP b (.tup [q3, q5]) (apL s4 (apL s6 [])) h2
def b238_1 (u : Fn) (b : Nat) (x16 x13 : XV) (h14 : HS) : Ans :=
  met b [4096, 4098] [x16] <| kLoad h14.ob false 1 x16 fun x17 => met b [3] [x13] <| kLoad h14.ob true 2 x13 fun x18 => met b [4096, 4098] [x17, x18] <| kHand h14.ob x17 fun x19 s20 => kHand h14.ob x18 fun x21 s22 => kGo u b (some []) 104 [x19, x21] (apL s20 (apL s22 [])) h14 fun x23 h24 => kExt x23 0 fun x25 => kExt x23 1 fun x26 => r238 b x25 x26 h24
def b238_2 (u : Fn) (b : Nat) (x33 x35 : XV) (h36 : HS) : Ans :=
  kNil x33 fun x51 => kFaddr 1 x51 fun x52 => kLoad h36.ob false 1 x52 fun x53 => kIaddr h36.ob 37 x53 x35 fun x54 => kFaddr 2 x54 fun x55 => kLoad h36.ob false 1 x55 fun x56 => kLen false x56 fun x57 => r238 b x57 tt h36
def b238_3 (u : Fn) (b : Nat) (j3_42 : F3) (x45 x35 x34 x33 : XV) (h36 : HS) : Ans :=
  met b [4096, 4098] [x45, x35] <| kIaddr h36.ob 37 x45 x35 fun x46 => kFaddr 0 x46 fun x47 => met b [4098] [x47] <| kLoad h36.ob true 2 x47 fun x48 => met b [3] [x34] <| kLoad h36.ob true 2 x34 fun x49 => kEqs false x48 x49 fun x50 => cnd x50 (b238_2 u b x33 x35 h36) (j3_42 x33 x34 x35 h36)
def b238_4 (u : Fn) (b : Nat) (j3_28 : F3) (x33 x34 x35 : XV) (h36 : HS) : Ans :=
  join (fun x37 x38 x39 h40 => kAdd x39 n1 fun x41 => j3_28 x37 x38 x41 h40) fun j3_42 => kNil x33 fun x43 => kFaddr 1 x43 fun x44 => met b [4096, 4098] [x44] <| kLoad h36.ob false 1 x44 fun x45 => b238_3 u b j3_42 x45 x35 x34 x33 h36
def b238_5 (u : Fn) (b : Nat) (j2_27 : F2) (j3_28 : F3) (x29 x30 x31 : XV) (h32 : HS) : Ans :=
  join (b238_4 u b j3_28) fun j3_58 => kNil x29 fun x59 => kFaddr 1 x59 fun x60 => kLoad h32.ob false 1 x60 fun x61 => kLen false x61 fun x62 => kLss x31 x62 fun x63 => cnd x63 (j3_58 x29 x30 x31 h32) (j2_27 x29 x30 h32)
def b238_6 (u : Fn) (b : Nat) (x8 x7 : XV) (h9 : HS) : Ans :=
  kBox 43 b 3 none x8 h9 fun x10 h11 => join (fun x12 x13 h14 => kNil x12 fun x15 => kFaddr 0 x15 fun x16 => b238_1 u b x16 x13 h14) fun j2_27 => lp [0, 3, 6] 1000000 (b238_5 u b j2_27) x7 x10 n0 h11
def b238 : Bd := fun u l b segs => argK l fun x7 l => argK l fun x8 l => argN l (b238_6 u b x8 x7 (hs0 b segs))
def r241 (b : Nat) (x0 : XV) (h1 : HS) : Ans :=
  kHand h1.ob x0 fun q2 s3 => retP b q2 (apL s3 []) h1
def b241_1 (u : Fn) (b : Nat) (x15 x6 x22 x23 x24 : XV) (h25 : HS) : Ans :=
  kPick x15 x24 ff fun x26 => join (fun _ _ _ x30 h31 => kPick x26 x30 ff fun x32 => r241 b x32 h31) fun j4_33 => grdB x26 true (kFaddr 10 x6 fun x34 => kLoad h25.ob false 1 x34 fun x35 => kLen false x35 fun x36 => kEql x36 n0 fun x37 => j4_33 x34 x35 x36 x37 h25) (j4_33 uu uu uu uu h25)
def b241_2 (u : Fn) (b : Nat) (x15 x6 : XV) (h16 : HS) : Ans :=
  join (b241_1 u b x15 x6) fun j3_38 => grdB x15 true (kFaddr 1 x6 fun x39 => kLoad h16.ob true 2 x39 fun x40 => kHand h16.ob x40 fun x41 s42 => kGo u b none 231 [x41] (apL s42 []) h16 fun x43 h44 => j3_38 x39 x40 x43 h44) (j3_38 uu uu uu h16)
def b241_3 (u : Fn) (b : Nat) (x49 x6 x50 x51 x52 : XV) (h53 : HS) : Ans :=
  kPick x49 x52 ff fun x54 => join (fun _ _ _ x58 h59 => kPick x54 x58 ff fun x60 => r241 b x60 h59) fun j4_61 => grdB x54 true (kFaddr 10 x6 fun x62 => kLoad h53.ob false 1 x62 fun x63 => kLen false x63 fun x64 => kEql x64 n0 fun x65 => j4_61 x62 x63 x64 x65 h53) (j4_61 uu uu uu uu h53)
def b241_4 (u : Fn) (b : Nat) (x46 x6 : XV) (h16 : HS) : Ans :=
  kLoad h16.ob true 2 x46 fun x47 => kAgg [(.s 0 0), (.s 0 0)] fun x48 => kEqs false x47 x48 fun x49 => join (b241_3 u b x49 x6) fun j3_66 => grdB x49 true (kFaddr 3 x6 fun x67 => kLoad h16.ob true 7 x67 fun x68 => kHand h16.ob x68 fun x69 s70 => kGo u b none 315 [x69] (apL s70 []) h16 fun x71 h72 => j3_66 x67 x68 x71 h72) (j3_66 uu uu uu h16)
def b241_5 (u : Fn) (b : Nat) (j2_78 : F2) (x82 x83 : XV) (h84 : HS) : Ans :=
  join (fun x85 x86 h87 => kAdd x86 n1 fun x88 => j2_78 x85 x88 h87) fun j2_89 => kFaddr 10 x82 fun x90 => kLoad h84.ob false 1 x90 fun x91 => kIaddr h84.ob 11 x91 x83 fun x92 => kLoad h84.ob true 11 x92 fun x93 => kHand h84.ob x93 fun x94 s95 => kGo u b none 241 [x94] (apL s95 []) h84 fun x96 h97 => kNot x96 fun x98 => cnd x98 (r241 b ff h97) (j2_89 x82 x83 h97)
def b241_6 (u : Fn) (b : Nat) (j0_77 : F0) (j2_78 : F2) (x79 x80 : XV) (h81 : HS) : Ans :=
  join (b241_5 u b j2_78) fun j2_99 => kFaddr 10 x79 fun x100 => kLoad h81.ob false 1 x100 fun x101 => kLen false x101 fun x102 => kLss x80 x102 fun x103 => cnd x103 (j2_99 x79 x80 h81) (j0_77 h81)
def b241_7 (u : Fn) (b : Nat) (x74 : XV) (h75 : HS) : Ans :=
  join (fun h76 => r241 b tt h76) fun j0_77 => lp [1, 4] 1000000 (b241_6 u b j0_77) x74 n0 h75
def b241_8 (u : Fn) (b : Nat) (j1_104 : F1) (x111 x6 x112 x113 x114 x115 : XV) (h116 : HS) : Ans :=
  kPick x111 tt x115 fun x117 => cnd x117 (r241 b ff h116) (j1_104 x6 h116)
def b241_9 (u : Fn) (b : Nat) (j1_104 : F1) (x105 x6 x106 x107 x108 x109 : XV) (h110 : HS) : Ans :=
  kPick x105 tt x109 fun x111 => join (b241_8 u b j1_104 x111 x6) fun j4_118 => grdB x111 false (kFaddr 10 x6 fun x119 => kLoad h110.ob false 1 x119 fun x120 => kLen false x120 fun x121 => kGtr x121 n8 fun x122 => j4_118 x119 x120 x121 x122 h110) (j4_118 uu uu uu uu h110)
def b241_10 (u : Fn) (b : Nat) (x15 x6 : XV) (h16 : HS) : Ans :=
  join (b241_7 u b) fun j1_104 => kNot x15 fun x105 => join (b241_9 u b j1_104 x105 x6) fun j4_123 => grdB x105 false (kFaddr 1 x6 fun x124 => kLoad h16.ob true 2 x124 fun x125 => kHand h16.ob x125 fun x126 s127 => kGo u b none 307 [x126] (apL s127 []) h16 fun x128 h129 => kNot x128 fun x130 => j4_123 x124 x125 x128 x130 h129) (j4_123 uu uu uu uu h16)
def b241_11 (u : Fn) (b : Nat) (j0_18 : F0) (x20 x15 x6 : XV) (h16 : HS) : Ans :=
  kEql x20 n3 fun x73 => cnd x73 (b241_10 u b x15 x6 h16) (j0_18 h16)
def b241_12 (u : Fn) (b : Nat) (j0_18 : F0) (x20 x6 x15 : XV) (h16 : HS) : Ans :=
  kEql x20 n2 fun x45 => cnd x45 (kFaddr 1 x6 fun x46 => b241_4 u b x46 x6 h16) (b241_11 u b j0_18 x20 x15 x6 h16)
def b241_13 (u : Fn) (b : Nat) (x9 x10 x6 : XV) (h7 : HS) : Ans :=
  kHand h7.ob x9 fun x11 s12 => kHand h7.ob x10 fun x13 s14 => kGo u b none 41 [x11, x13] (apL s12 (apL s14 [])) h7 fun x15 h16 => join (fun h17 => r241 b ff h17) fun j0_18 => kFaddr 0 x6 fun x19 => kLoad h16.ob false 1 x19 fun x20 => kEql x20 n1 fun x21 => cnd x21 (b241_2 u b x15 x6 h16) (b241_12 u b j0_18 x20 x6 x15 h16)
def b241_14 (u : Fn) (b : Nat) (x4 : XV) (h5 : HS) : Ans :=
  kBox 48 b 1 none x4 h5 fun x6 h7 => kFaddr 3 x6 fun x8 => kLoad h7.ob true 7 x8 fun x9 => kAgg [n0, (.s 0 0), (.s 0 0), (.s 0 0), (.s 0 0), (.s 0 0), .nl] fun x10 => b241_13 u b x9 x10 x6 h7
def b241 : Bd := fun u l b segs => argK l fun x4 l => argN l (b241_14 u b x4 (hs0 b segs))
def r244 (b : Nat) (x0 : XV) (h1 : HS) : Ans :=
  kHand h1.ob x0 fun q2 s3 => retP b q2 (apL s3 []) h1
def b244_1 (u : Fn) (b : Nat) (x8 x6 : XV) (h7 : HS) : Ans :=
  kLoad h7.ob false 1 x8 fun x9 => kEql x9 n4 fun x10 => join (fun _ _ _ x14 h15 => kPick x10 x14 ff fun x16 => r244 b x16 h15) fun j4_17 => grdB x10 true (kFaddr 6 x6 fun x18 => kLoad h7.ob false 1 x18 fun x19 => kLen false x19 fun x20 => kEql x20 n2 fun x21 => j4_17 x18 x19 x20 x21 h7) (j4_17 uu uu uu uu h7)
def b244_2 (u : Fn) (b : Nat) (x4 : XV) (h5 : HS) : Ans :=
  kBox 46 b 1 none x4 h5 fun x6 h7 => kFaddr 0 x6 fun x8 => b244_1 u b x8 x6 h7
def b244 : Bd := fun u l b segs => argK l fun x4 l => argN l (b244_2 u b x4 (hs0 b segs))
def r245 (b : Nat) (x0 : XV) (h1 : HS) : Ans :=
  kCell h1.ob x0 true 7 fun x2 => kHand h1.ob x2 fun q3 s4 => retP b q3 (apL s4 []) h1
def b245_1 (u : Fn) (b : Nat) (x5 : XV) (h6 : HS) : Ans :=
  kBox 43 b 1 none x5 h6 fun x7 h8 => kAlloc 46 b 2 none [n0, (.s 0 0), (.s 0 0), (.s 0 0), (.s 0 0), (.s 0 0), .nl] h8 fun x9 h10 => kLoad h10.ob true 2 x7 fun x11 => kPart 0 1 n2 [n0, (.s 0 0), (.s 0 0), (.s 0 0), (.s 0 0), (.s 0 0), .nl] fun c12 => kPart 3 2 x11 c12 fun c13 => kAgg c13 fun x14 => kStore b none 7 x9 x14 h10 fun _ h16 => r245 b x9 h16
def b245 : Bd := fun u l b segs => argK l fun x5 l => argN l (b245_1 u b x5 (hs0 b segs))
def r246 (b : Nat) (x0 x1 : XV) (h2 : HS) : Ans :=
  kCell h2.ob x0 true 11 fun x3 => kHand h2.ob x3 fun q4 s5 => kHand h2.ob x1 fun q6 s7 => retP b (.tup [q4, q6]) (apL s5 (apL s7 [])) h2
def b246_1 (u : Fn) (b : Nat) (x65 x66 x67 : XV) (h68 : HS) : Ans :=
  kLoad h68.ob true 2 x66 fun x69 => kHand h68.ob x69 fun x70 s71 => kHand h68.ob x67 fun x72 s73 => kGo u b none 209 [x70, x72] (apL s71 (apL s73 [])) h68 fun x74 h75 => kStore b none 11 x65 x74 h75 fun _ h77 => r246 b x65 n0 h77
def b246_2 (u : Fn) (b : Nat) (j3_78 : F3) (x63 x84 x61 x62 : XV) (h83 : HS) : Ans :=
  kLen false x63 fun x90 => kNeq x84 x90 fun x91 => cnd x91 (kAgg [n0, (.s 0 0), (.s 0 0), n0, (.s 0 0), (.s 0 0), (.s 0 0), (.s 0 0), (.s 0 0), .nl, .nl] fun x92 => kStore b none 11 x61 x92 h83 fun _ h94 => r246 b x61 n5 h94) (j3_78 x61 x62 x63 h83)
def b246_3 (u : Fn) (b : Nat) (x60 x61 x62 x63 : XV) (h64 : HS) : Ans :=
  join (b246_1 u b) fun j3_78 => kLoad h64.ob true 2 x62 fun x79 => kHand h64.ob x79 fun x80 s81 => kGoH u b 327 [x60, x80] (apL s81 []) h64 fun x82 h83 => kExt x82 0 fun x84 => kExt x82 1 fun x85 => kNot x85 fun x86 => cnd x86 (kAgg [n0, (.s 0 0), (.s 0 0), n0, (.s 0 0), (.s 0 0), (.s 0 0), (.s 0 0), (.s 0 0), .nl, .nl] fun x87 => kStore b none 11 x61 x87 h83 fun _ h89 => r246 b x61 n7 h89) (b246_2 u b j3_78 x63 x84 x61 x62 h83)
def b246_4 (u : Fn) (b : Nat) (j8_127 : F8) (x147 x148 x149 x150 x151 x152 x153 x154 x155 : XV) (h156 : HS) : Ans :=
  kLoad h156.ob true 11 x152 fun x157 => kElt h156.ob 11 0 x157 (repL 1 [n0, (.s 0 0), (.s 0 0), n0, (.s 0 0), (.s 0 0), (.s 0 0), (.s 0 0), (.s 0 0), .nl, .nl]) fun c158 s159 => kSl b 2198 none 48 11 1 false c158 (apL s159 []) h156 fun x160 h161 => kAppend b 2199 none 48 11 176 x151 x160 false h161 fun x162 h163 => j8_127 x147 x148 x149 x150 x162 x153 x154 x155 h163
def b246_5 (u : Fn) (b : Nat) (j8_127 : F8) (x139 x141 x110 x108 x109 x111 x112 x113 x114 x115 : XV) (h140 : HS) : Ans :=
  kExt x139 1 fun x142 => kAlloc 48 b 21 none [n0, (.s 0 0), (.s 0 0), n0, (.s 0 0), (.s 0 0), (.s 0 0), (.s 0 0), (.s 0 0), .nl, .nl] h140 fun x143 h144 => kStore b none 11 x143 x141 h144 fun _ h146 => join (b246_4 u b j8_127) fun j9_164 => kNeq x142 n0 fun x165 => cnd x165 (kAgg [n0, (.s 0 0), (.s 0 0), n0, (.s 0 0), (.s 0 0), (.s 0 0), (.s 0 0), (.s 0 0), .nl, .nl] fun x166 => kStore b none 11 x110 x166 h146 fun _ h168 => r246 b x110 x142 h168) (j9_164 x108 x109 x110 x111 x112 x143 x113 x114 x115 h146)
def b246_6 (u : Fn) (b : Nat) (j8_97 : F8) (x108 x109 x110 x111 x112 x113 x114 x115 : XV) (h116 : HS) : Ans :=
  join (fun x117 x118 x119 x120 x121 x122 x123 x124 h125 => kAdd x124 n1 fun x126 => j8_97 x117 x118 x119 x120 x121 x122 x123 x126 h125) fun j8_127 => kIaddr h116.ob 7 x113 x115 fun x128 => kLoad h116.ob true 7 x128 fun x129 => kAlloc 46 b 20 none [n0, (.s 0 0), (.s 0 0), (.s 0 0), (.s 0 0), (.s 0 0), .nl] h116 fun x130 h131 => kStore b none 7 x130 x129 h131 fun _ h133 => kLoad h133.ob true 7 x130 fun x134 => kHand h133.ob x134 fun x135 s136 => kHand h133.ob x109 fun x137 s138 => kGoH u b 246 [x108, x135, x137] (apL s136 (apL s138 [])) h133 fun x139 h140 => kExt x139 0 fun x141 => b246_5 u b j8_127 x139 x141 x110 x108 x109 x111 x112 x113 x114 x115 h140
def b246_7 (u : Fn) (b : Nat) (j4_95 : F4) (j8_97 : F8) (x98 x99 x100 x101 x102 x103 x104 x105 : XV) (h106 : HS) : Ans :=
  kLss x105 x104 fun x107 => join (b246_6 u b j8_97) fun j8_169 => cnd x107 (j8_169 x98 x99 x100 x101 x102 x103 x104 x105 h106) (j4_95 x98 x100 x101 x102 h106)
def b246_8 (u : Fn) (b : Nat) (x54 x55 x56 x57 x58 : XV) (h59 : HS) : Ans :=
  join (b246_3 u b) fun j4_95 => kLen false x58 fun x96 => lp [0, 2, 6, 10, 18, 131, 132, 133] 1000000 (b246_7 u b j4_95) x54 x55 x56 x57 .nl x58 x96 n0 h59
def b246_9 (u : Fn) (b : Nat) (x212 x213 x214 x215 : XV) (h216 : HS) : Ans :=
  kLoad h216.ob true 7 x215 fun x217 => kHand h216.ob x217 fun x218 s219 => kHand h216.ob x213 fun x220 s221 => kGoH u b 246 [x212, x218, x220] (apL s219 (apL s221 [])) h216 fun x222 h223 => kExt x222 0 fun x224 => kExt x222 1 fun x225 => kStore b none 11 x214 x224 h223 fun _ h227 => r246 b x214 x225 h227
def b246_10 (u : Fn) (b : Nat) (x206 x207 x190 x188 x189 : XV) (h205 : HS) : Ans :=
  kAlloc 46 b 16 (some [16]) [n0, (.s 0 0), (.s 0 0), (.s 0 0), (.s 0 0), (.s 0 0), .nl] h205 fun x208 h209 => met b [16] [x208] <| kStore b (some [16]) 7 x208 x206 h209 fun _ h211 => join (b246_9 u b) fun j4_228 => kNeq x207 n0 fun x229 => cnd x229 (kAgg [n0, (.s 0 0), (.s 0 0), n0, (.s 0 0), (.s 0 0), (.s 0 0), (.s 0 0), (.s 0 0), .nl, .nl] fun x230 => kStore b none 11 x190 x230 h211 fun _ h232 => r246 b x190 x207 h232) (j4_228 x188 x189 x190 x208 h211)
def b246_11 (u : Fn) (b : Nat) (x195 x191 x192 x190 x188 x189 : XV) (h193 : HS) : Ans :=
  met b [4096, 4098] [x195] <| kLoad h193.ob false 1 x195 fun x196 => met b [10] [x191] <| kLoad h193.ob true 2 x191 fun x197 => met b [4096, 4098] [x196, x197, x192] <| kHand h193.ob x196 fun x198 s199 => kHand h193.ob x197 fun x200 s201 => kHand h193.ob x192 fun x202 s203 => kGo u b (some []) 326 [x198, x200, x202] (apL s199 (apL s201 (apL s203 []))) h193 fun x204 h205 => kExt x204 0 fun x206 => kExt x204 1 fun x207 => b246_10 u b x206 x207 x190 x188 x189 h205
def b246_12 (u : Fn) (b : Nat) (x47 x50 x48 x51 x52 : XV) (h187 : HS) : Ans :=
  join (fun x188 x189 x190 x191 x192 h193 => kNil x188 fun x194 => kFaddr 0 x194 fun x195 => b246_11 u b x195 x191 x192 x190 x188 x189 h193) fun j5_233 => kGoH u b 325 [x47] [] h187 fun x234 h235 => kNeq x234 n0 fun x236 => cnd x236 (kAgg [n0, (.s 0 0), (.s 0 0), n0, (.s 0 0), (.s 0 0), (.s 0 0), (.s 0 0), (.s 0 0), .nl, .nl] fun x237 => kStore b none 11 x50 x237 h235 fun _ h239 => r246 b x50 x234 h239) (j5_233 x47 x48 x50 x51 x52 h235)
def b246_13 (u : Fn) (b : Nat) (j5_170 : F5) (x173 x174 x47 x50 x48 x51 x52 : XV) (h53 : HS) : Ans :=
  met b [4096, 4098] [x173, x174] <| kHand h53.ob x173 fun x175 s176 => kHand h53.ob x174 fun x177 s178 => kGo u b (some []) 324 [x175, x177] (apL s176 (apL s178 [])) h53 fun x179 h180 => kExt x179 0 fun x181 => kExt x179 1 fun _ => kExt x179 2 fun x183 => kAlloc 43 b 12 (some [12]) [(.s 0 0), (.s 0 0)] h180 fun x184 h185 => met b [12] [x184] <| kStore b (some [12]) 2 x184 x181 h185 fun _ h187 => cnd x183 (b246_12 u b x47 x50 x48 x51 x52 h187) (j5_170 x47 x48 x50 x51 x52 h187)
def b246_14 (u : Fn) (b : Nat) (x47 x48 x49 x50 x51 x52 : XV) (h53 : HS) : Ans :=
  join (b246_8 u b) fun j5_170 => kNil x47 fun x171 => kFaddr 0 x171 fun x172 => met b [4096, 4098] [x172] <| kLoad h53.ob false 1 x172 fun x173 => met b [4] [x49] <| kLoad h53.ob true 7 x49 fun x174 => b246_13 u b j5_170 x173 x174 x47 x50 x48 x51 x52 h53
def b246_15 (u : Fn) (b : Nat) (x247 x248 : XV) (h249 : HS) : Ans :=
  kIaddr h249.ob 7 x248 n0 fun x250 => kLoad h249.ob true 7 x250 fun x251 => kHand h249.ob x251 fun x252 s253 => kGo u b none 174 [x252] (apL s253 []) h249 fun x254 h255 => kStore b none 11 x247 x254 h255 fun _ h257 => r246 b x247 n0 h257
def b246_16 (u : Fn) (b : Nat) (x42 x36 : XV) (h46 : HS) : Ans :=
  join (b246_15 u b) fun j2_258 => kLen false x42 fun x259 => kNeq x259 n1 fun x260 => cnd x260 (kAgg [n0, (.s 0 0), (.s 0 0), n0, (.s 0 0), (.s 0 0), (.s 0 0), (.s 0 0), (.s 0 0), .nl, .nl] fun x261 => kStore b none 11 x36 x261 h46 fun _ h263 => r246 b x36 n1 h263) (j2_258 x36 x42 h46)
def b246_17 (u : Fn) (b : Nat) (x33 x42 x34 x36 : XV) (h46 : HS) : Ans :=
  kHand h46.ob x33 fun x265 s266 => kHand h46.ob x42 fun x267 s268 => kHand h46.ob x34 fun x269 s270 => kGo u b none 322 [x265, x267, x269] (apL s266 (apL s268 (apL s270 []))) h46 fun x271 h272 => kExt x271 0 fun x273 => kExt x271 1 fun x274 => kStore b none 11 x36 x273 h272 fun _ h276 => r246 b x36 x274 h276
def b246_18 (u : Fn) (b : Nat) (x33 x42 x34 x36 : XV) (h46 : HS) : Ans :=
  kHand h46.ob x33 fun x278 s279 => kHand h46.ob x42 fun x280 s281 => kHand h46.ob x34 fun x282 s283 => kGo u b none 323 [x278, x280, x282] (apL s279 (apL s281 (apL s283 []))) h46 fun x284 h285 => kExt x284 0 fun x286 => kExt x284 1 fun x287 => kStore b none 11 x36 x286 h285 fun _ h289 => r246 b x36 x287 h289
def b246_19 (u : Fn) (b : Nat) (j6_240 : F6) (x245 x33 x42 x34 x36 x35 x43 : XV) (h46 : HS) : Ans :=
  kEql x245 (.s 4 0x6c65742a) fun x277 => cnd x277 (b246_18 u b x33 x42 x34 x36 h46) (j6_240 x33 x34 x35 x36 x43 x42 h46)
def b246_20 (u : Fn) (b : Nat) (j6_240 : F6) (x245 x33 x42 x34 x36 x35 x43 : XV) (h46 : HS) : Ans :=
  kEql x245 (.s 3 0x6c6574) fun x264 => cnd x264 (b246_17 u b x33 x42 x34 x36 h46) (b246_19 u b j6_240 x245 x33 x42 x34 x36 x35 x43 h46)
def b246_21 (u : Fn) (b : Nat) (j6_240 : F6) (x43 x42 x36 x33 x34 x35 : XV) (h46 : HS) : Ans :=
  kFaddr 1 x43 fun x244 => kLoad h46.ob false 1 x244 fun x245 => kEql x245 (.s 5 0x71756f7465) fun x246 => cnd x246 (b246_16 u b x42 x36 h46) (b246_20 u b j6_240 x245 x33 x42 x34 x36 x35 x43 h46)
def b246_22 (u : Fn) (b : Nat) (x41 x42 x36 x33 x34 x35 : XV) (h38 : HS) : Ans :=
  kAlloc 43 b 10 (some [10]) [(.s 0 0), (.s 0 0)] h38 fun x43 h44 => met b [10] [x43] <| kStore b (some [10]) 2 x43 x41 h44 fun _ h46 => join (b246_14 u b) fun j6_240 => kFaddr 0 x43 fun x241 => kLoad h46.ob false 1 x241 fun x242 => kEql x242 (.s 4 0x6c697370) fun x243 => cnd x243 (b246_21 u b j6_240 x43 x42 x36 x33 x34 x35 h46) (j6_240 x33 x34 x35 x36 x43 x42 h46)
def b246_23 (u : Fn) (b : Nat) (x33 x34 x35 x36 x37 : XV) (h38 : HS) : Ans :=
  met b [] [x37] <| kIaddr h38.ob 7 x37 n0 fun x39 => kFaddr 3 x39 fun x40 => met b [] [x40] <| kLoad h38.ob true 2 x40 fun x41 => met b [] [x37] <| kSlc h38.ob 7 x37 (some n1) none fun x42 => b246_22 u b x41 x42 x36 x33 x34 x35 h38
def b246_24 (u : Fn) (b : Nat) (j5_290 : F5) (x296 x24 x21 x22 x23 x31 x297 x298 x299 x300 x301 : XV) (h302 : HS) : Ans :=
  kPick x296 tt x301 fun x303 => cnd x303 (kAgg [n0, (.s 0 0), (.s 0 0), n0, (.s 0 0), (.s 0 0), (.s 0 0), (.s 0 0), (.s 0 0), .nl, .nl] fun x304 => kStore b none 11 x24 x304 h302 fun _ h306 => r246 b x24 n1 h306) (j5_290 x21 x22 x23 x24 x31 h302)
def b246_25 (u : Fn) (b : Nat) (j5_290 : F5) (x291 x24 x21 x22 x23 x31 x292 x293 x294 : XV) (h295 : HS) : Ans :=
  kPick x291 tt x294 fun x296 => join (b246_24 u b j5_290 x296 x24 x21 x22 x23 x31) fun j5_307 => grdB x296 false (kIaddr h295.ob 7 x31 n0 fun x308 => kFaddr 0 x308 fun x309 => kLoad h295.ob false 1 x309 fun x310 => kNeq x310 n2 fun x311 => j5_307 x31 x308 x309 x310 x311 h295) (j5_307 uu uu uu uu uu h295)
def b246_26 (u : Fn) (b : Nat) (x29 x24 x21 x22 x23 : XV) (h30 : HS) : Ans :=
  kExt x29 0 fun x31 => kExt x29 1 fun x32 => join (b246_23 u b) fun j5_290 => kNot x32 fun x291 => join (b246_25 u b j5_290 x291 x24 x21 x22 x23 x31) fun j3_312 => grdB x291 false (kLen false x31 fun x313 => kEql x313 n0 fun x314 => j3_312 x31 x313 x314 h30) (j3_312 uu uu uu h30)
def b246_27 (u : Fn) (b : Nat) (x21 x22 x23 x24 : XV) (h25 : HS) : Ans :=
  kLoad h25.ob true 7 x23 fun x26 => kHand h25.ob x26 fun x27 s28 => kGo u b none 173 [x27] (apL s28 []) h25 fun x29 h30 => b246_26 u b x29 x24 x21 x22 x23 h30
def b246_28 (u : Fn) (b : Nat) (x18 x17 x19 : XV) (h20 : HS) : Ans :=
  kFaddr 3 x18 fun x319 => kLoad h20.ob true 2 x319 fun x320 => kHand h20.ob x320 fun x321 s322 => kGo u b none 321 [x321] (apL s322 []) h20 fun x323 h324 => kHand h324.ob x323 fun x325 s326 => kHand h324.ob x17 fun x327 s328 => kGo u b none 34 [x325, x327] (apL s326 (apL s328 [])) h324 fun x329 h330 => kStore b none 11 x19 x329 h330 fun _ h332 => r246 b x19 n0 h332
def b246_29 (u : Fn) (b : Nat) (x16 x17 x18 x19 : XV) (h20 : HS) : Ans :=
  join (b246_27 u b) fun j4_315 => kFaddr 0 x18 fun x316 => kLoad h20.ob false 1 x316 fun x317 => kEql x317 n2 fun x318 => cnd x318 (b246_28 u b x18 x17 x19 h20) (j4_315 x16 x17 x18 x19 h20)
def b246_30 (u : Fn) (b : Nat) (x12 x14 : XV) (h338 : HS) : Ans :=
  kLoad h338.ob true 7 x12 fun x339 => kHand h338.ob x339 fun x340 s341 => kGo u b none 174 [x340] (apL s341 []) h338 fun x342 h343 => kStore b none 11 x14 x342 h343 fun _ h345 => r246 b x14 n0 h345
def b246_31 (u : Fn) (b : Nat) (x9 x8 x10 : XV) (h11 : HS) : Ans :=
  kBox 46 b 4 none x9 h11 fun x12 h13 => kAlloc 48 b 6 none [n0, (.s 0 0), (.s 0 0), n0, (.s 0 0), (.s 0 0), (.s 0 0), (.s 0 0), (.s 0 0), .nl, .nl] h13 fun x14 h15 => join (b246_29 u b) fun j4_333 => kLoad h15.ob true 7 x12 fun x334 => kHand h15.ob x334 fun x335 s336 => kGo u b none 320 [x335] (apL s336 []) h15 fun x337 h338 => cnd x337 (b246_30 u b x12 x14 h338) (j4_333 x8 x10 x12 x14 h338)
def b246 : Bd := fun u l b segs => argK l fun x8 l => argK l fun x9 l => argK l fun x10 l => argN l (b246_31 u b x9 x8 x10 (hs0 b segs))
def r258 (b : Nat) (x0 x1 : XV) (h2 : HS) : Ans :=
  kHand h2.ob x0 fun q3 s4 => kHand h2.ob x1 fun q5 s6 => retP b (.tup [q3, q5]) (apL s4 (apL s6 [])) h2
def b258_1 (u : Fn) (b : Nat) (j4_13 : F4) (x20 x21 x22 x23 : XV) (h24 : HS) : Ans :=
  join (fun x25 x26 x27 x28 h29 => kAdd x28 n1 fun x30 => j4_13 x25 x26 x27 x30 h29) fun j4_31 => kIaddr h24.ob 32 x21 x23 fun x32 => kLoad h24.ob true 32 x32 fun x33 => kAlloc 74 b 7 none [n0, (.s 0 0), (.s 0 0), (.s 0 0), .nl, (.s 0 0), (.s 0 0), .nl, ff, n0, (.s 0 0), (.s 0 0), n0, (.s 0 0), (.s 0 0), (.s 0 0), (.s 0 0), (.s 0 0), .nl, .nl, .nl, .nl, .nl, .nl, (.s 0 0), (.s 0 0), .nl, .nl, .nl, .nl, (.s 0 0), (.i .u64 18446744073709551616)] h24 fun x34 h35 => kStore b none 32 x34 x33 h35 fun _ h37 => kLoad h37.ob true 32 x34 fun x38 => kHCallV u b x20 [x38] [] h37 fun x39 h40 => cnd x39 (r258 b x23 tt h40) (j4_31 x20 x21 x22 x23 h40)
def b258_2 (u : Fn) (b : Nat) (j0_11 : F0) (j4_13 : F4) (x14 x15 x16 x17 : XV) (h18 : HS) : Ans :=
  kLss x17 x16 fun x19 => join (b258_1 u b j4_13) fun j4_41 => cnd x19 (j4_41 x14 x15 x16 x17 h18) (j0_11 h18)
def b258_3 (u : Fn) (b : Nat) (x7 x8 : XV) (h9 : HS) : Ans :=
  join (fun h10 => r258 b n0 ff h10) fun j0_11 => kLen false x7 fun x12 => lp [1, 8, 9, 10] 1000000 (b258_2 u b j0_11) x8 x7 x12 n0 h9
def b258 : Bd := fun u l b segs => argK l fun x7 l => argK l fun x8 l => argN l (b258_3 u b x7 x8 (hs0 b segs))
def r277 (b : Nat) (x0 : XV) (h1 : HS) : Ans :=
  kHand h1.ob x0 fun q2 s3 => retP b q2 (apL s3 []) h1
def b277_1 (u : Fn) (b : Nat) (x4 : XV) (h5 : HS) : Ans :=
  kBox 48 b 1 none x4 h5 fun x6 h7 => kLoad h7.ob true 11 x6 fun x8 => kHand h7.ob x8 fun x9 s10 => kGo u b none 383 [x9, n201] (apL s10 []) h7 fun x11 h12 => r277 b x11 h12
def b277 : Bd := fun u l b segs => argK l fun x4 l => argN l (b277_1 u b x4 (hs0 b segs))
def r278 (b : Nat) (x0 : XV) (h1 : HS) : Ans :=
  kHand h1.ob x0 fun q2 s3 => retP b q2 (apL s3 []) h1
def b278_1 (u : Fn) (b : Nat) (x17 x6 x19 x20 x21 x22 : XV) (h23 : HS) : Ans :=
  kPick x17 x22 ff fun x24 => join (fun _ _ _ x28 h29 => kPick x24 x28 ff fun x30 => r278 b x30 h29) fun j4_31 => grdB x24 true (kFaddr 10 x6 fun x32 => kLoad h23.ob false 1 x32 fun x33 => kLen false x33 fun x34 => kEql x34 n0 fun x35 => j4_31 x32 x33 x34 x35 h23) (j4_31 uu uu uu uu h23)
def b278_2 (u : Fn) (b : Nat) (j4_36 : F4) (x6 : XV) (h18 : HS) : Ans :=
  kFaddr 3 x6 fun x37 => kLoad h18.ob true 7 x37 fun x38 => kAgg [n0, (.s 0 0), (.s 0 0), (.s 0 0), (.s 0 0), (.s 0 0), .nl] fun x39 => kHand h18.ob x38 fun x40 s41 => kHand h18.ob x39 fun x42 s43 => kGo u b none 152 [x40, x42] (apL s41 (apL s43 [])) h18 fun x44 h45 => j4_36 x37 x38 x39 x44 h45
def b278_3 (u : Fn) (b : Nat) (x6 : XV) (h7 : HS) : Ans :=
  kFaddr 1 x6 fun x13 => kLoad h7.ob true 2 x13 fun x14 => kHand h7.ob x14 fun x15 s16 => kGo u b none 384 [x15] (apL s16 []) h7 fun x17 h18 => join (b278_1 u b x17 x6) fun j4_36 => grdB x17 true (b278_2 u b j4_36 x6 h18) (j4_36 uu uu uu uu h18)
def b278_4 (u : Fn) (b : Nat) (x50 x6 x51 x52 x53 : XV) (h54 : HS) : Ans :=
  kPick x50 x53 ff fun x55 => join (fun _ _ _ x59 h60 => kPick x55 x59 ff fun x61 => r278 b x61 h60) fun j4_62 => grdB x55 true (kFaddr 10 x6 fun x63 => kLoad h54.ob false 1 x63 fun x64 => kLen false x64 fun x65 => kEql x65 n0 fun x66 => j4_62 x63 x64 x65 x66 h54) (j4_62 uu uu uu uu h54)
def b278_5 (u : Fn) (b : Nat) (x47 x6 : XV) (h7 : HS) : Ans :=
  kLoad h7.ob true 2 x47 fun x48 => kAgg [(.s 0 0), (.s 0 0)] fun x49 => kEqs false x48 x49 fun x50 => join (b278_4 u b x50 x6) fun j3_67 => grdB x50 true (kFaddr 3 x6 fun x68 => kLoad h7.ob true 7 x68 fun x69 => kHand h7.ob x69 fun x70 s71 => kGo u b none 371 [x70] (apL s71 []) h7 fun x72 h73 => j3_67 x68 x69 x72 h73) (j3_67 uu uu uu h7)
def b278_6 (u : Fn) (b : Nat) (x75 : XV) (h76 : HS) : Ans :=
  kFaddr 10 x75 fun x77 => kLoad h76.ob false 1 x77 fun x78 => kHand h76.ob x78 fun x79 s80 => kGo u b none 386 [x79, (.sc (.func (.func 387) #[] #[]))] (apL s80 []) h76 fun x81 h82 => kNot x81 fun x83 => r278 b x83 h82
def b278_7 (u : Fn) (b : Nat) (j1_84 : F1) (x98 x6 x99 x100 x101 x102 : XV) (h103 : HS) : Ans :=
  kPick x98 tt x102 fun x104 => cnd x104 (r278 b ff h103) (j1_84 x6 h103)
def b278_8 (u : Fn) (b : Nat) (j1_84 : F1) (x91 x6 x92 x93 x94 x95 x96 : XV) (h97 : HS) : Ans :=
  kPick x91 tt x96 fun x98 => join (b278_7 u b j1_84 x98 x6) fun j4_105 => grdB x98 false (kFaddr 10 x6 fun x106 => kLoad h97.ob false 1 x106 fun x107 => kLen false x107 fun x108 => kGtr x108 n8 fun x109 => j4_105 x106 x107 x108 x109 h97) (j4_105 uu uu uu uu h97)
def b278_9 (u : Fn) (b : Nat) (j5_110 : F5) (x6 : XV) (h90 : HS) : Ans :=
  kFaddr 3 x6 fun x111 => kLoad h90.ob true 7 x111 fun x112 => kAgg [n0, (.s 0 0), (.s 0 0), (.s 0 0), (.s 0 0), (.s 0 0), .nl] fun x113 => kHand h90.ob x112 fun x114 s115 => kHand h90.ob x113 fun x116 s117 => kGo u b none 152 [x114, x116] (apL s115 (apL s117 [])) h90 fun x118 h119 => kNot x118 fun x120 => j5_110 x111 x112 x113 x118 x120 h119
def b278_10 (u : Fn) (b : Nat) (x6 : XV) (h7 : HS) : Ans :=
  join (b278_6 u b) fun j1_84 => kFaddr 1 x6 fun x85 => kLoad h7.ob true 2 x85 fun x86 => kHand h7.ob x86 fun x87 s88 => kGo u b none 385 [x87] (apL s88 []) h7 fun x89 h90 => kNot x89 fun x91 => join (b278_8 u b j1_84 x91 x6) fun j5_110 => grdB x91 false (b278_9 u b j5_110 x6 h90) (j5_110 uu uu uu uu uu h90)
def b278_11 (u : Fn) (b : Nat) (j0_9 : F0) (x11 x6 : XV) (h7 : HS) : Ans :=
  kEql x11 n3 fun x74 => cnd x74 (b278_10 u b x6 h7) (j0_9 h7)
def b278_12 (u : Fn) (b : Nat) (j0_9 : F0) (x11 x6 : XV) (h7 : HS) : Ans :=
  kEql x11 n2 fun x46 => cnd x46 (kFaddr 1 x6 fun x47 => b278_5 u b x47 x6 h7) (b278_11 u b j0_9 x11 x6 h7)
def b278_13 (u : Fn) (b : Nat) (x4 : XV) (h5 : HS) : Ans :=
  kBox 48 b 1 none x4 h5 fun x6 h7 => join (fun h8 => r278 b ff h8) fun j0_9 => kFaddr 0 x6 fun x10 => kLoad h7.ob false 1 x10 fun x11 => kEql x11 n1 fun x12 => cnd x12 (b278_3 u b x6 h7) (b278_12 u b j0_9 x11 x6 h7)
def b278 : Bd := fun u l b segs => argK l fun x4 l => argN l (b278_13 u b x4 (hs0 b segs))
def r280 (b : Nat) (x0 : XV) (h1 : HS) : Ans :=
  kHand h1.ob x0 fun q2 s3 => retP b q2 (apL s3 []) h1
def b280_1 (u : Fn) (b : Nat) (j2_27 : F2) (x29 x20 x21 x30 x31 x32 x33 : XV) (h34 : HS) : Ans :=
  kPick x29 tt x33 fun x35 => cnd x35 (r280 b ff h34) (j2_27 x20 x21 h34)
def b280_2 (u : Fn) (b : Nat) (j2_16 : F2) (x20 x21 : XV) (h22 : HS) : Ans :=
  join (fun x23 x24 h25 => kAdd x24 n1 fun x26 => j2_16 x23 x26 h25) fun j2_27 => kSidx x20 x21 fun x28 => kLss x28 u48 fun x29 => join (b280_1 u b j2_27 x29 x20 x21) fun j4_36 => grdB x29 false (kSidx x20 x21 fun x37 => kGtr x37 u57 fun x38 => j4_36 x20 x21 x37 x38 h22) (j4_36 uu uu uu uu h22)
def b280_3 (u : Fn) (b : Nat) (j0_15 : F0) (j2_16 : F2) (x17 x18 : XV) (h19 : HS) : Ans :=
  join (b280_2 u b j2_16) fun j2_39 => kLen true x17 fun x40 => kLss x18 x40 fun x41 => cnd x41 (j2_39 x17 x18 h19) (j0_15 h19)
def b280_4 (u : Fn) (b : Nat) (x11 x12 : XV) (h13 : HS) : Ans :=
  join (fun h14 => r280 b tt h14) fun j0_15 => lp [0, 4] 1000000 (b280_3 u b j0_15) x11 x12 h13
def b280_5 (u : Fn) (b : Nat) (j2_42 : F2) (x44 x8 x9 x45 x46 x47 x48 : XV) (h49 : HS) : Ans :=
  kPick x44 tt x48 fun x50 => cnd x50 (r280 b ff h49) (j2_42 x8 x9 h49)
def b280_6 (u : Fn) (b : Nat) (x8 x9 : XV) (h10 : HS) : Ans :=
  join (b280_4 u b) fun j2_42 => kLen true x8 fun x43 => kLeq x43 x9 fun x44 => join (b280_5 u b j2_42 x44 x8 x9) fun j4_51 => grdB x44 false (kSidx x8 x9 fun x52 => kEql x52 u48 fun x53 => j4_51 x8 x9 x52 x53 h10) (j4_51 uu uu uu uu h10)
def b280_7 (u : Fn) (b : Nat) (j2_54 : F2) (x56 x6 x57 x58 x59 : XV) (h60 : HS) : Ans :=
  kPick x56 x59 ff fun x61 => cnd x61 (j2_54 x6 n1 h60) (j2_54 x6 n0 h60)
def b280_8 (u : Fn) (b : Nat) (x6 : XV) (h7 : HS) : Ans :=
  join (b280_6 u b) fun j2_54 => kLen true x6 fun x55 => kGtr x55 n0 fun x56 => join (b280_7 u b j2_54 x56 x6) fun j3_62 => grdB x56 true (kSidx x6 n0 fun x63 => kEql x63 u45 fun x64 => j3_62 x6 x63 x64 h7) (j3_62 uu uu uu h7)
def b280_9 (u : Fn) (b : Nat) (x4 : XV) (h5 : HS) : Ans :=
  join (b280_8 u b) fun j1_65 => kEql x4 (.s 1 0x30) fun x66 => cnd x66 (r280 b tt h5) (j1_65 x4 h5)
def b280 : Bd := fun u l b segs => argK l fun x4 l => argN l (b280_9 u b x4 (hs0 b segs))
def r281 (b : Nat) (x0 : XV) (h1 : HS) : Ans :=
  kHand h1.ob x0 fun q2 s3 => retP b q2 (apL s3 []) h1
def b281_1 (u : Fn) (b : Nat) (j2_20 j2_11 : F2) (x21 x13 x14 x22 x23 x24 x25 x26 x27 : XV) (h28 : HS) : Ans :=
  kPick x21 x27 ff fun x29 => cnd x29 (j2_20 x13 x14 h28) (j2_11 x13 x14 h28)
def b281_2 (u : Fn) (b : Nat) (j2_11 j2_12 : F2) (x13 x14 : XV) (h15 : HS) : Ans :=
  join (fun x16 x17 h18 => kSub x17 n1 fun x19 => j2_12 x16 x19 h18) fun j2_20 => kGtr x14 n0 fun x21 => join (b281_1 u b j2_20 j2_11 x21 x13 x14) fun j6_30 => grdB x21 true (kSub x14 n1 fun x31 => kIaddr h15.ob 1 x13 x31 fun x32 => kLoad h15.ob false 1 x32 fun x33 => kEql x33 n0 fun x34 => j6_30 x13 x14 x31 x32 x33 x34 h15) (j6_30 uu uu uu uu uu uu h15)
def b281_3 (u : Fn) (b : Nat) (x4 : XV) (h5 : HS) : Ans :=
  kLen false x4 fun x6 => join (fun x7 x8 h9 => kSlc h9.ob 1 x7 none (some x8) fun x10 => r281 b x10 h9) fun j2_11 => lp [0, 3] 1000000 (b281_2 u b j2_11) x4 x6 h5
def b281 : Bd := fun u l b segs => argK l fun x4 l => argN l (b281_3 u b x4 (hs0 b segs))
def r282 (b : Nat) (x0 : XV) (h1 : HS) : Ans :=
  kHand h1.ob x0 fun q2 s3 => retP b q2 (apL s3 []) h1
def b282_1 (u : Fn) (b : Nat) (j3_28 : F3) (x29 x30 x31 : XV) (h32 : HS) : Ans :=
  met b [] [x29, x31] <| kIaddr h32.ob 1 x29 x31 fun x33 => met b [] [x33] <| kLoad h32.ob false 1 x33 fun x34 => met b [] [x30, x31] <| kIaddr h32.ob 1 x30 x31 fun x35 => met b [] [x35] <| kLoad h32.ob false 1 x35 fun x36 => kGtr x34 x36 fun x37 => cnd x37 (r282 b n1 h32) (j3_28 x29 x30 x31 h32)
def b282_2 (u : Fn) (b : Nat) (j3_14 : F3) (x19 x20 x21 : XV) (h22 : HS) : Ans :=
  join (fun x23 x24 x25 h26 => kSub x25 n1 fun x27 => j3_14 x23 x24 x27 h26) fun j3_28 => join (b282_1 u b j3_28) fun j3_38 => met b [] [x19, x21] <| kIaddr h22.ob 1 x19 x21 fun x39 => met b [] [x39] <| kLoad h22.ob false 1 x39 fun x40 => met b [] [x20, x21] <| kIaddr h22.ob 1 x20 x21 fun x41 => met b [] [x41] <| kLoad h22.ob false 1 x41 fun x42 => kLss x40 x42 fun x43 => cnd x43 (r282 b m1 h22) (j3_38 x19 x20 x21 h22)
def b282_3 (u : Fn) (b : Nat) (j0_11 : F0) (j3_14 : F3) (x15 x16 x17 : XV) (h18 : HS) : Ans :=
  join (b282_2 u b j3_14) fun j3_44 => kGeq x17 n0 fun x45 => cnd x45 (j3_44 x15 x16 x17 h18) (j0_11 h18)
def b282_4 (u : Fn) (b : Nat) (x7 x8 : XV) (h9 : HS) : Ans :=
  join (fun h10 => r282 b n0 h10) fun j0_11 => kLen false x7 fun x12 => kSub x12 n1 fun x13 => lp [0, 1, 5] 1000000 (b282_3 u b j0_11) x7 x8 x13 h9
def b282_5 (u : Fn) (b : Nat) (x4 x5 : XV) (h6 : HS) : Ans :=
  join (fun h50 => r282 b n1 h50) fun j0_51 => kLen false x4 fun x52 => kLen false x5 fun x53 => kLss x52 x53 fun x54 => cnd x54 (r282 b m1 h6) (j0_51 h6)
def b282_6 (u : Fn) (b : Nat) (x4 x5 : XV) (h6 : HS) : Ans :=
  join (b282_4 u b) fun j2_46 => kLen false x4 fun x47 => kLen false x5 fun x48 => kNeq x47 x48 fun x49 => cnd x49 (b282_5 u b x4 x5 h6) (j2_46 x4 x5 h6)
def b282 : Bd := fun u l b segs => argK l fun x4 l => argK l fun x5 l => argN l (b282_6 u b x4 x5 (hs0 b segs))
def r283 (b : Nat) (x0 : XV) (h1 : HS) : Ans :=
  kHand h1.ob x0 fun q2 s3 => retP b q2 (apL s3 []) h1
def b283_1 (u : Fn) (b : Nat) (j5_34 : F5) (x44 x45 x46 x47 x48 x49 : XV) (h50 : HS) : Ans :=
  kElt h50.ob 1 0 x49 (repL 1 [n0]) fun c51 s52 => kSl b 2085 none 3 1 1 false c51 (apL s52 []) h50 fun x53 h54 => kAppend b 2086 none 3 1 8 x46 x53 false h54 fun x55 h56 => j5_34 x44 x45 x55 x47 x48 h56
def b283_2 (u : Fn) (b : Nat) (j5_34 : F5) (x38 x39 x40 x41 x42 : XV) (h43 : HS) : Ans :=
  join (b283_1 u b j5_34) fun j6_57 => kLss x42 n0 fun x58 => cnd x58 (kAdd x42 n10 fun x59 => j6_57 x38 x39 x40 n1 x41 x59 h43) (j6_57 x38 x39 x40 n0 x41 x42 h43)
def b283_3 (u : Fn) (b : Nat) (j5_60 : F5) (x22 x25 x37 x21 x23 : XV) (h26 : HS) : Ans :=
  kIaddr h26.ob 1 x22 x25 fun x63 => kLoad h26.ob false 1 x63 fun x64 => kSub x37 x64 fun x65 => j5_60 x21 x22 x23 x25 x65 h26
def b283_4 (u : Fn) (b : Nat) (j5_14 : F5) (x21 x22 x23 x24 x25 : XV) (h26 : HS) : Ans :=
  join (fun x27 x28 x29 x30 x31 h32 => kAdd x31 n1 fun x33 => j5_14 x27 x28 x29 x30 x33 h32) fun j5_34 => kIaddr h26.ob 1 x21 x25 fun x35 => kLoad h26.ob false 1 x35 fun x36 => kSub x36 x24 fun x37 => join (b283_2 u b j5_34) fun j5_60 => kLen false x22 fun x61 => kLss x25 x61 fun x62 => cnd x62 (b283_3 u b j5_60 x22 x25 x37 x21 x23 h26) (j5_60 x21 x22 x23 x25 x37 h26)
def b283_5 (u : Fn) (b : Nat) (j1_13 : F1) (j5_14 : F5) (x15 x16 x17 x18 x19 : XV) (h20 : HS) : Ans :=
  join (b283_4 u b j5_14) fun j5_66 => kLen false x15 fun x67 => kLss x19 x67 fun x68 => cnd x68 (j5_66 x15 x16 x17 x18 x19 h20) (j1_13 x17 h20)
def b283_6 (u : Fn) (b : Nat) (x4 x5 : XV) (h6 : HS) : Ans :=
  join (fun x7 h8 => kHand h8.ob x7 fun x9 s10 => kGo u b none 281 [x9] (apL s10 []) h8 fun x11 h12 => r283 b x11 h12) fun j1_13 => lp [0, 1, 5, 6, 7] 1000000 (b283_5 u b j1_13) x4 x5 .nl n0 n0 h6
def b283 : Bd := fun u l b segs => argK l fun x4 l => argK l fun x5 l => argN l (b283_6 u b x4 x5 (hs0 b segs))
def r296 (b : Nat) (x0 : XV) (h1 : HS) : Ans :=
  kHand h1.ob x0 fun q2 s3 => retP b q2 (apL s3 []) h1
def b296_1 (u : Fn) (b : Nat) (x10 x4 x11 x12 : XV) (h13 : HS) : Ans :=
  kPick x10 tt x12 fun x14 => join (fun _ x16 h17 => kPick x14 tt x16 fun x18 => r296 b x18 h17) fun j2_19 => grdB x14 false (kEql x4 u13 fun x20 => j2_19 x4 x20 h13) (j2_19 uu uu h13)
def b296_2 (u : Fn) (b : Nat) (x6 x4 x7 x8 : XV) (h9 : HS) : Ans :=
  kPick x6 tt x8 fun x10 => join (b296_1 u b x10 x4) fun j2_21 => grdB x10 false (kEql x4 u10 fun x22 => j2_21 x4 x22 h9) (j2_21 uu uu h9)
def b296_3 (u : Fn) (b : Nat) (x4 : XV) (h5 : HS) : Ans :=
  kEql x4 u32 fun x6 => join (b296_2 u b x6 x4) fun j2_23 => grdB x6 false (kEql x4 u9 fun x24 => j2_23 x4 x24 h5) (j2_23 uu uu h5)
def b296 : Bd := fun u l b segs => argK l fun x4 l => argN l (b296_3 u b x4 (hs0 b segs))
def r297 (b : Nat) (x0 : XV) (h1 : HS) : Ans :=
  kHand h1.ob x0 fun q2 s3 => retP b q2 (apL s3 []) h1
def b297_1 (u : Fn) (b : Nat) (x16 x5 x4 x7 x17 x18 x19 x20 x21 : XV) (h22 : HS) : Ans :=
  kPick x16 x21 ff fun x23 => join (fun _ _ _ _ _ x29 h30 => kPick x23 x29 ff fun x31 => r297 b x31 h30) fun j6_32 => grdB x23 true (kAdd x5 n1 fun x33 => kSidx x4 x33 fun x34 => kEql x34 x7 fun x35 => j6_32 x4 x5 x33 x34 x7 x35 h22) (j6_32 uu uu uu uu uu uu h22)
def b297_2 (u : Fn) (b : Nat) (x9 x5 x4 x7 x6 x10 x11 x12 x13 x14 : XV) (h15 : HS) : Ans :=
  kPick x9 x14 ff fun x16 => join (b297_1 u b x16 x5 x4 x7) fun j5_36 => grdB x16 true (kSidx x4 x5 fun x37 => kEql x37 x6 fun x38 => j5_36 x4 x5 x37 x6 x38 h15) (j5_36 uu uu uu uu uu h15)
def b297_3 (u : Fn) (b : Nat) (x5 x4 x7 x6 : XV) (h8 : HS) : Ans :=
  kGeq x5 n0 fun x9 => join (b297_2 u b x9 x5 x4 x7 x6) fun j5_39 => grdB x9 true (kAdd x5 n1 fun x40 => kLen true x4 fun x41 => kLss x40 x41 fun x42 => j5_39 x5 x40 x4 x41 x42 h8) (j5_39 uu uu uu uu uu h8)
def b297 : Bd := fun u l b segs => argK l fun x4 l => argK l fun x5 l => argK l fun x6 l => argK l fun x7 l => argN l (b297_3 u b x5 x4 x7 x6 (hs0 b segs))
def r299 (b : Nat) (x0 : XV) (h1 : HS) : Ans :=
  kCell h1.ob x0 true 2 fun x2 => kHand h1.ob x2 fun q3 s4 => retP b q3 (apL s4 []) h1
def b299_1 (u : Fn) (b : Nat) (x8 x10 : XV) (h11 : HS) : Ans :=
  kFaddr 1 x8 fun x22 => kLoad h11.ob false 1 x22 fun x23 => kHand h11.ob x23 fun x24 s25 => kGo u b none 160 [n2, x24] (apL s25 []) h11 fun x26 h27 => kStore b none 2 x10 x26 h27 fun _ h29 => r299 b x10 h29
def b299_2 (u : Fn) (b : Nat) (x8 x10 : XV) (h46 : HS) : Ans :=
  kFaddr 1 x8 fun x48 => kLoad h46.ob false 1 x48 fun x49 => kHand h46.ob x49 fun x50 s51 => kGo u b none 160 [n3, x50] (apL s51 []) h46 fun x52 h53 => kStore b none 2 x10 x52 h53 fun _ h55 => r299 b x10 h55
def b299_3 (u : Fn) (b : Nat) (j1_17 : F1) (x34 x8 x10 x45 : XV) (h46 : HS) : Ans :=
  kPick x34 tt x45 fun x47 => cnd x47 (b299_2 u b x8 x10 h46) (j1_17 x10 h46)
def b299_4 (u : Fn) (b : Nat) (j1_17 : F1) (x34 x8 x10 x38 x40 x41 x42 x43 : XV) (h44 : HS) : Ans :=
  join (b299_3 u b j1_17 x34 x8 x10) fun j1_56 => grdB x34 false (kPick x38 x43 ff fun x57 => j1_56 x57 h44) (j1_56 uu h44)
def b299_5 (u : Fn) (b : Nat) (j1_17 : F1) (x34 x8 x10 x35 x36 x37 x38 : XV) (h39 : HS) : Ans :=
  join (b299_4 u b j1_17 x34 x8 x10 x38) fun j4_58 => grdB x38 true (kFaddr 2 x8 fun x59 => kLoad h39.ob false 1 x59 fun x60 => kHand h39.ob x60 fun x61 s62 => kGo u b none 404 [x61] (apL s62 []) h39 fun x63 h64 => kNot x63 fun x65 => j4_58 x59 x60 x63 x65 h64) (j4_58 uu uu uu uu h39)
def b299_6 (u : Fn) (b : Nat) (j1_17 : F1) (x6 x8 x10 x30 x31 x32 : XV) (h33 : HS) : Ans :=
  kPick x6 x32 ff fun x34 => join (b299_5 u b j1_17 x34 x8 x10) fun j4_66 => grdB x34 false (kFaddr 2 x8 fun x67 => kLoad h33.ob false 1 x67 fun x68 => kNeq x68 (.s 0 0) fun x69 => j4_66 x67 x68 x69 x69 h33) (j4_66 uu uu uu uu h33)
def b299_7 (u : Fn) (b : Nat) (j1_17 : F1) (x6 x8 x10 : XV) (h11 : HS) : Ans :=
  join (b299_6 u b j1_17 x6 x8 x10) fun j3_70 => grdB x6 true (kFaddr 3 x8 fun x71 => kLoad h11.ob false 1 x71 fun x72 => kEql x72 (.s 0 0) fun x73 => j3_70 x71 x72 x73 h11) (j3_70 uu uu uu h11)
def b299_8 (u : Fn) (b : Nat) (x8 x10 x6 : XV) (h11 : HS) : Ans :=
  join (fun x12 h13 => kAgg [n0, n0] fun x14 => kStore b none 2 x12 x14 h13 fun _ h16 => r299 b x12 h16) fun j1_17 => kFaddr 3 x8 fun x18 => kLoad h11.ob false 1 x18 fun x19 => kLen true x19 fun x20 => kGtr x20 n40 fun x21 => cnd x21 (b299_1 u b x8 x10 h11) (b299_7 u b j1_17 x6 x8 x10 h11)
def b299_9 (u : Fn) (b : Nat) (x5 x6 : XV) (h7 : HS) : Ans :=
  kBox 237 b 2 none x5 h7 fun x8 h9 => kAlloc 166 b 4 none [n0, n0] h9 fun x10 h11 => b299_8 u b x8 x10 x6 h11
def b299 : Bd := fun u l b segs => argK l fun x5 l => argK l fun x6 l => argN l (b299_9 u b x5 x6 (hs0 b segs))
def r300 (b : Nat) (x0 : XV) (h1 : HS) : Ans :=
  kHand h1.ob x0 fun q2 s3 => retP b q2 (apL s3 []) h1
def b300_1 (u : Fn) (b : Nat) (x30 x4 x31 x32 : XV) (h33 : HS) : Ans :=
  kPick x30 x32 ff fun x34 => join (fun _ x36 h37 => kPick x34 x36 ff fun x38 => r300 b x38 h37) fun j2_39 => grdB x34 true (kNeq x4 u58 fun x40 => j2_39 x4 x40 h33) (j2_39 uu uu h33)
def b300_2 (u : Fn) (b : Nat) (x26 x4 x27 x28 : XV) (h29 : HS) : Ans :=
  kPick x26 x28 ff fun x30 => join (b300_1 u b x30 x4) fun j2_41 => grdB x30 true (kNeq x4 u124 fun x42 => j2_41 x4 x42 h29) (j2_41 uu uu h29)
def b300_3 (u : Fn) (b : Nat) (x22 x4 x23 x24 : XV) (h25 : HS) : Ans :=
  kPick x22 x24 ff fun x26 => join (b300_2 u b x26 x4) fun j2_43 => grdB x26 true (kNeq x4 u59 fun x44 => j2_43 x4 x44 h25) (j2_43 uu uu h25)
def b300_4 (u : Fn) (b : Nat) (x18 x4 x19 x20 : XV) (h21 : HS) : Ans :=
  kPick x18 x20 ff fun x22 => join (b300_3 u b x22 x4) fun j2_45 => grdB x22 true (kNeq x4 u34 fun x46 => j2_45 x4 x46 h21) (j2_45 uu uu h21)
def b300_5 (u : Fn) (b : Nat) (x14 x4 x15 x16 : XV) (h17 : HS) : Ans :=
  kPick x14 x16 ff fun x18 => join (b300_4 u b x18 x4) fun j2_47 => grdB x18 true (kNeq x4 u39 fun x48 => j2_47 x4 x48 h17) (j2_47 uu uu h17)
def b300_6 (u : Fn) (b : Nat) (x10 x4 x11 x12 : XV) (h13 : HS) : Ans :=
  kPick x10 x12 ff fun x14 => join (b300_5 u b x14 x4) fun j2_49 => grdB x14 true (kNeq x4 u41 fun x50 => j2_49 x4 x50 h13) (j2_49 uu uu h13)
def b300_7 (u : Fn) (b : Nat) (x6 x4 x7 x8 : XV) (h9 : HS) : Ans :=
  kPick x6 x8 ff fun x10 => join (b300_6 u b x10 x4) fun j2_51 => grdB x10 true (kNeq x4 u40 fun x52 => j2_51 x4 x52 h9) (j2_51 uu uu h9)
def b300_8 (u : Fn) (b : Nat) (x4 : XV) (h5 : HS) : Ans :=
  kGeq x4 u33 fun x6 => join (b300_7 u b x6 x4) fun j2_53 => grdB x6 true (kLeq x4 u126 fun x54 => j2_53 x4 x54 h5) (j2_53 uu uu h5)
def b300 : Bd := fun u l b segs => argK l fun x4 l => argN l (b300_8 u b x4 (hs0 b segs))
def r301 (b : Nat) (x0 : XV) (h1 : HS) : Ans :=
  kHand h1.ob x0 fun q2 s3 => retP b q2 (apL s3 []) h1
def b301_1 (u : Fn) (b : Nat) (j2_18 : F2) (j1_9 : F1) (x20 x11 x12 x21 x22 x23 x24 : XV) (h25 : HS) : Ans :=
  kPick x20 x24 ff fun x26 => cnd x26 (j2_18 x11 x12 h25) (j1_9 x12 h25)
def b301_2 (u : Fn) (b : Nat) (j1_9 : F1) (j2_10 : F2) (x11 x12 : XV) (h13 : HS) : Ans :=
  join (fun x14 x15 h16 => kAdd x15 n1 fun x17 => j2_10 x14 x17 h16) fun j2_18 => kLen true x11 fun x19 => kLss x12 x19 fun x20 => join (b301_1 u b j2_18 j1_9 x20 x11 x12) fun j4_27 => grdB x20 true (kSidx x11 x12 fun x28 => kHand h13.ob x28 fun x29 s30 => kGo u b none 300 [x29] (apL s30 []) h13 fun x31 h32 => j4_27 x11 x12 x28 x31 h32) (j4_27 uu uu uu uu h13)
def b301_3 (u : Fn) (b : Nat) (x4 x5 : XV) (h6 : HS) : Ans :=
  join (fun x7 h8 => r301 b x7 h8) fun j1_9 => lp [0, 1] 1000000 (b301_2 u b j1_9) x4 x5 h6
def b301 : Bd := fun u l b segs => argK l fun x4 l => argK l fun x5 l => argN l (b301_3 u b x4 x5 (hs0 b segs))
def r303 (b : Nat) (x0 x1 x2 : XV) (h3 : HS) : Ans :=
  kHand h3.ob x0 fun q4 s5 => kHand h3.ob x1 fun q6 s7 => kHand h3.ob x2 fun q8 s9 => retP b (.tup [q4, q6, q8]) (apL s5 (apL s7 (apL s9 []))) h3
def b303_1 (u : Fn) (b : Nat) (x28 x29 : XV) (h30 : HS) : Ans :=
  kSslice x28 none (some x29) fun x31 => kAdd x29 n1 fun x32 => kSslice x28 (some x32) none fun x33 => r303 b x31 x33 tt h30
def b303_2 (u : Fn) (b : Nat) (j3_50 : F3) (x52 x41 x42 x43 x53 x54 x55 x56 : XV) (h57 : HS) : Ans :=
  kPick x52 tt x56 fun x58 => cnd x58 (r303 b (.s 0 0) (.s 0 0) ff h57) (j3_50 x41 x42 x43 h57)
def b303_3 (u : Fn) (b : Nat) (j3_36 : F3) (x41 x42 x43 : XV) (h44 : HS) : Ans :=
  join (fun x45 x46 x47 h48 => kAdd x47 n1 fun x49 => j3_36 x45 x46 x49 h48) fun j3_50 => kSidx x41 x43 fun x51 => kLss x51 u48 fun x52 => join (b303_2 u b j3_50 x52 x41 x42 x43) fun j4_59 => grdB x52 false (kSidx x41 x43 fun x60 => kGtr x60 u57 fun x61 => j4_59 x41 x43 x60 x61 h44) (j4_59 uu uu uu uu h44)
def b303_4 (u : Fn) (b : Nat) (j2_34 : F2) (j3_36 : F3) (x37 x38 x39 : XV) (h40 : HS) : Ans :=
  join (b303_3 u b j3_36) fun j3_62 => kLen true x37 fun x63 => kLss x39 x63 fun x64 => cnd x64 (j3_62 x37 x38 x39 h40) (j2_34 x37 x38 h40)
def b303_5 (u : Fn) (b : Nat) (x25 x26 : XV) (h27 : HS) : Ans :=
  join (b303_1 u b) fun j2_34 => kAdd x26 n1 fun x35 => lp [0, 6, 7] 1000000 (b303_4 u b j2_34) x25 x26 x35 h27
def b303_6 (u : Fn) (b : Nat) (j2_65 : F2) (x67 x22 x23 x68 x69 x70 x71 x72 : XV) (h73 : HS) : Ans :=
  kPick x67 tt x72 fun x74 => cnd x74 (r303 b (.s 0 0) (.s 0 0) ff h73) (j2_65 x22 x23 h73)
def b303_7 (u : Fn) (b : Nat) (x22 x23 : XV) (h24 : HS) : Ans :=
  join (b303_5 u b) fun j2_65 => kSidx x22 x23 fun x66 => kNeq x66 u47 fun x67 => join (b303_6 u b j2_65 x67 x22 x23) fun j5_75 => grdB x67 false (kAdd x23 n1 fun x76 => kLen true x22 fun x77 => kEql x76 x77 fun x78 => j5_75 x23 x76 x22 x77 x78 h24) (j5_75 uu uu uu uu uu h24)
def b303_8 (u : Fn) (b : Nat) (x19 x20 : XV) (h21 : HS) : Ans :=
  join (b303_7 u b) fun j2_79 => kLen true x19 fun x80 => kEql x20 x80 fun x81 => cnd x81 (r303 b x19 (.s 1 0x31) tt h21) (j2_79 x19 x20 h21)
def b303_9 (u : Fn) (b : Nat) (x15 x16 x17 : XV) (h18 : HS) : Ans :=
  join (b303_8 u b) fun j2_82 => kEql x17 x16 fun x83 => cnd x83 (r303 b (.s 0 0) (.s 0 0) ff h18) (j2_82 x15 x17 h18)
def b303_10 (u : Fn) (b : Nat) (j3_95 j3_84 : F3) (x103 x86 x87 x88 x104 x105 x106 x107 : XV) (h108 : HS) : Ans :=
  kPick x103 x107 ff fun x109 => cnd x109 (j3_95 x86 x87 x88 h108) (j3_84 x86 x87 x88 h108)
def b303_11 (u : Fn) (b : Nat) (j3_95 j3_84 : F3) (x97 x86 x87 x88 x98 x99 x100 x101 : XV) (h102 : HS) : Ans :=
  kPick x97 x101 ff fun x103 => join (b303_10 u b j3_95 j3_84 x103 x86 x87 x88) fun j4_110 => grdB x103 true (kSidx x86 x88 fun x111 => kLeq x111 u57 fun x112 => j4_110 x86 x88 x111 x112 h102) (j4_110 uu uu uu uu h102)
def b303_12 (u : Fn) (b : Nat) (j3_84 j3_85 : F3) (x86 x87 x88 : XV) (h89 : HS) : Ans :=
  join (fun x90 x91 x92 h93 => kAdd x92 n1 fun x94 => j3_85 x90 x91 x94 h93) fun j3_95 => kLen true x86 fun x96 => kLss x88 x96 fun x97 => join (b303_11 u b j3_95 j3_84 x97 x86 x87 x88) fun j4_113 => grdB x97 true (kSidx x86 x88 fun x114 => kGeq x114 u48 fun x115 => j4_113 x86 x88 x114 x115 h89) (j4_113 uu uu uu uu h89)
def b303_13 (u : Fn) (b : Nat) (x12 x13 : XV) (h14 : HS) : Ans :=
  join (b303_9 u b) fun j3_84 => lp [0, 5, 6] 1000000 (b303_12 u b j3_84) x12 x13 x13 h14
def b303_14 (u : Fn) (b : Nat) (j2_116 : F2) (x118 x10 x119 x120 x121 : XV) (h122 : HS) : Ans :=
  kPick x118 x121 ff fun x123 => cnd x123 (j2_116 x10 n1 h122) (j2_116 x10 n0 h122)
def b303_15 (u : Fn) (b : Nat) (x10 : XV) (h11 : HS) : Ans :=
  join (b303_13 u b) fun j2_116 => kLen true x10 fun x117 => kGtr x117 n0 fun x118 => join (b303_14 u b j2_116 x118 x10) fun j3_124 => grdB x118 true (kSidx x10 n0 fun x125 => kEql x125 u45 fun x126 => j3_124 x10 x125 x126 h11) (j3_124 uu uu uu h11)
def b303 : Bd := fun u l b segs => argK l fun x10 l => argN l (b303_15 u b x10 (hs0 b segs))
def r304 (b : Nat) (x0 : XV) (h1 : HS) : Ans :=
  kHand h1.ob x0 fun q2 s3 => retP b q2 (apL s3 []) h1
def b304_1 (u : Fn) (b : Nat) (x21 x22 x23 : XV) (h24 : HS) : Ans :=
  join (fun x25 x26 h27 => kSslice x25 (some x26) none fun x28 => r304 b x28 h27) fun j2_29 => cnd x22 (kSslice x21 (some x23) none fun x30 => kAdd (.s 1 0x2d) x30 fun x31 => r304 b x31 h24) (j2_29 x21 x23 h24)
def b304_2 (u : Fn) (b : Nat) (x17 x18 x19 : XV) (h20 : HS) : Ans :=
  join (b304_1 u b) fun j3_32 => kLen true x17 fun x33 => kEql x19 x33 fun x34 => cnd x34 (r304 b (.s 1 0x30) h20) (j3_32 x17 x18 x19 h20)
def b304_3 (u : Fn) (b : Nat) (j3_46 j3_35 : F3) (x48 x37 x38 x39 x49 x50 x51 x52 : XV) (h53 : HS) : Ans :=
  kPick x48 x52 ff fun x54 => cnd x54 (j3_46 x37 x38 x39 h53) (j3_35 x37 x38 x39 h53)
def b304_4 (u : Fn) (b : Nat) (j3_35 j3_36 : F3) (x37 x38 x39 : XV) (h40 : HS) : Ans :=
  join (fun x41 x42 x43 h44 => kAdd x43 n1 fun x45 => j3_36 x41 x42 x45 h44) fun j3_46 => kLen true x37 fun x47 => kLss x39 x47 fun x48 => join (b304_3 u b j3_46 j3_35 x48 x37 x38 x39) fun j4_55 => grdB x48 true (kSidx x37 x39 fun x56 => kEql x56 u48 fun x57 => j4_55 x37 x39 x56 x57 h40) (j4_55 uu uu uu uu h40)
def b304_5 (u : Fn) (b : Nat) (x13 x14 x15 : XV) (h16 : HS) : Ans :=
  join (b304_2 u b) fun j3_35 => lp [0, 3, 4] 1000000 (b304_4 u b j3_35) x13 x14 x15 h16
def b304_6 (u : Fn) (b : Nat) (x7 x4 x8 x9 x10 : XV) (h11 : HS) : Ans :=
  kPick x7 x10 ff fun x12 => join (b304_5 u b) fun j3_58 => cnd x12 (j3_58 x4 x12 n1 h11) (j3_58 x4 x12 n0 h11)
def b304_7 (u : Fn) (b : Nat) (x4 : XV) (h5 : HS) : Ans :=
  kLen true x4 fun x6 => kGtr x6 n0 fun x7 => join (b304_6 u b x7 x4) fun j3_59 => grdB x7 true (kSidx x4 n0 fun x60 => kEql x60 u45 fun x61 => j3_59 x4 x60 x61 h5) (j3_59 uu uu uu h5)
def b304 : Bd := fun u l b segs => argK l fun x4 l => argN l (b304_7 u b x4 (hs0 b segs))
def r305 (b : Nat) (x0 : XV) (h1 : HS) : Ans :=
  kHand h1.ob x0 fun q2 s3 => retP b q2 (apL s3 []) h1
def b305_1 (u : Fn) (b : Nat) (x4 : XV) (h5 : HS) : Ans :=
  kHand h5.ob x4 fun x6 s7 => kGo u b none 211 [x6] (apL s7 []) h5 fun x8 h9 => kExt x8 0 fun _ => kExt x8 1 fun x11 => kLen false x11 fun x12 => kv (vMx true n1 x12) fun x13 => r305 b x13 h9
def b305 : Bd := fun u l b segs => argK l fun x4 l => argN l (b305_1 u b x4 (hs0 b segs))
def r306 (b : Nat) (x0 x1 : XV) (h2 : HS) : Ans :=
  kCell h2.ob x0 true 2 fun x3 => kHand h2.ob x3 fun q4 s5 => kHand h2.ob x1 fun q6 s7 => retP b (.tup [q4, q6]) (apL s5 (apL s7 [])) h2
def b306_1 (u : Fn) (b : Nat) (x25 x28 x27 : XV) (h29 : HS) : Ans :=
  kIaddr h29.ob 2 x25 x28 fun x41 => kLoad h29.ob true 2 x41 fun x42 => kStore b none 2 x27 x42 h29 fun _ h44 => r306 b x27 tt h44
def b306_2 (u : Fn) (b : Nat) (j4_19 : F4) (x25 x26 x27 x28 : XV) (h29 : HS) : Ans :=
  join (fun x30 x31 x32 x33 h34 => kAdd x33 n1 fun x35 => j4_19 x30 x31 x32 x35 h34) fun j4_36 => kIaddr h29.ob 2 x25 x28 fun x37 => kFaddr 0 x37 fun x38 => kLoad h29.ob false 1 x38 fun x39 => kEql x39 x26 fun x40 => cnd x40 (b306_1 u b x25 x28 x27 h29) (j4_36 x25 x26 x27 x28 h29)
def b306_3 (u : Fn) (b : Nat) (j1_18 : F1) (j4_19 : F4) (x20 x21 x22 x23 : XV) (h24 : HS) : Ans :=
  join (b306_2 u b j4_19) fun j4_45 => kLen false x20 fun x46 => kLss x23 x46 fun x47 => cnd x47 (j4_45 x20 x21 x22 x23 h24) (j1_18 x22 h24)
def b306_4 (u : Fn) (b : Nat) (x8 x9 : XV) (h10 : HS) : Ans :=
  kAlloc 64 b 4 none [(.s 0 0), .nl] h10 fun x11 h12 => join (fun x13 h14 => kAgg [(.s 0 0), .nl] fun x15 => kStore b none 2 x13 x15 h14 fun _ h17 => r306 b x13 ff h17) fun j1_18 => lp [0, 1, 4, 6] 1000000 (b306_3 u b j1_18) x8 x9 x11 n0 h12
def b306 : Bd := fun u l b segs => argK l fun x8 l => argK l fun x9 l => argN l (b306_4 u b x8 x9 (hs0 b segs))
def r307 (b : Nat) (x0 : XV) (h1 : HS) : Ans :=
  kHand h1.ob x0 fun q2 s3 => retP b q2 (apL s3 []) h1
def b307_1 (u : Fn) (b : Nat) (x4 : XV) (h5 : HS) : Ans :=
  kBox 43 b 1 none x4 h5 fun x6 h7 => kLoad h7.ob true 2 x6 fun x8 => kHand h7.ob x8 fun x9 s10 => kGo u b none 405 [x9] (apL s10 []) h7 fun x11 h12 => r307 b x11 h12
def b307 : Bd := fun u l b segs => argK l fun x4 l => argN l (b307_1 u b x4 (hs0 b segs))
def r313 (b : Nat) (x0 : XV) (h1 : HS) : Ans :=
  kHand h1.ob x0 fun q2 s3 => retP b q2 (apL s3 []) h1
def b313_1 (u : Fn) (b : Nat) (j4_20 : F4) (x26 x27 x28 x29 : XV) (h30 : HS) : Ans :=
  join (fun x31 x32 x33 x34 h35 => kAdd x34 n1 fun x36 => j4_20 x31 x32 x33 x36 h35) fun j4_37 => kIaddr h30.ob 11 x28 x29 fun x38 => kLoad h30.ob true 11 x38 fun x39 => kSub x26 x27 fun x40 => kHand h30.ob x39 fun x41 s42 => kHand h30.ob x40 fun x43 s44 => kGo u b none 313 [x41, x43] (apL s42 (apL s44 [])) h30 fun x45 h46 => kAdd x27 x45 fun x47 => j4_37 x26 x47 x28 x29 h46
def b313_2 (u : Fn) (b : Nat) (j4_48 : F4) (j1_19 : F1) (x50 x21 x22 x23 x24 x51 x52 x53 : XV) (h54 : HS) : Ans :=
  kPick x50 x53 ff fun x55 => cnd x55 (j4_48 x21 x22 x23 x24 h54) (j1_19 x22 h54)
def b313_3 (u : Fn) (b : Nat) (j1_19 : F1) (j4_20 : F4) (x21 x22 x23 x24 : XV) (h25 : HS) : Ans :=
  join (b313_1 u b j4_20) fun j4_48 => kLen false x23 fun x49 => kLss x24 x49 fun x50 => join (b313_2 u b j4_48 j1_19 x50 x21 x22 x23 x24) fun j3_56 => grdB x50 true (kLss x22 x21 fun x57 => j3_56 x22 x21 x57 h25) (j3_56 uu uu uu h25)
def b313_4 (u : Fn) (b : Nat) (x9 x10 : XV) (h11 : HS) : Ans :=
  kLoad h11.ob true 11 x10 fun x12 => kHand h11.ob x12 fun x13 s14 => kGo u b none 114 [x13] (apL s14 []) h11 fun x15 h16 => join (fun x17 h18 => r313 b x17 h18) fun j1_19 => lp [1, 5, 6, 7] 1000000 (b313_3 u b j1_19) x9 n1 x15 n0 h16
def b313_5 (u : Fn) (b : Nat) (x7 x5 : XV) (h8 : HS) : Ans :=
  kFaddr 3 x7 fun x62 => kLoad h8.ob true 7 x62 fun x63 => kHand h8.ob x63 fun x64 s65 => kGo u b none 162 [x64] (apL s65 []) h8 fun x66 h67 => kv (vMx false x5 x66) fun x68 => r313 b x68 h67
def b313_6 (u : Fn) (b : Nat) (x4 x5 : XV) (h6 : HS) : Ans :=
  kBox 48 b 2 none x4 h6 fun x7 h8 => join (b313_4 u b) fun j2_58 => kFaddr 0 x7 fun x59 => kLoad h8.ob false 1 x59 fun x60 => kEql x60 n2 fun x61 => cnd x61 (b313_5 u b x7 x5 h8) (j2_58 x5 x7 h8)
def b313 : Bd := fun u l b segs => argK l fun x4 l => argK l fun x5 l => argN l (b313_6 u b x4 x5 (hs0 b segs))
def r314 (b : Nat) (x0 : XV) (h1 : HS) : Ans :=
  kHand h1.ob x0 fun q2 s3 => retP b q2 (apL s3 []) h1
def b314_1 (u : Fn) (b : Nat) (j4_18 : F4) (x24 x25 x26 x27 : XV) (h28 : HS) : Ans :=
  join (fun x29 x30 x31 x32 h33 => kAdd x32 n1 fun x34 => j4_18 x29 x30 x31 x34 h33) fun j4_35 => kIaddr h28.ob 11 x26 x27 fun x36 => kLoad h28.ob true 11 x36 fun x37 => kSub x24 n1 fun x38 => kHand h28.ob x37 fun x39 s40 => kHand h28.ob x38 fun x41 s42 => kGo u b none 314 [x39, x41] (apL s40 (apL s42 [])) h28 fun x43 h44 => kv (vMx true x25 x43) fun x45 => j4_35 x24 x45 x26 x27 h44
def b314_2 (u : Fn) (b : Nat) (j4_46 : F4) (j1_17 : F1) (x48 x19 x20 x21 x22 x49 x50 : XV) (h51 : HS) : Ans :=
  kPick x48 x50 ff fun x52 => cnd x52 (j4_46 x19 x20 x21 x22 h51) (j1_17 x20 h51)
def b314_3 (u : Fn) (b : Nat) (j1_17 : F1) (j4_18 : F4) (x19 x20 x21 x22 : XV) (h23 : HS) : Ans :=
  join (b314_1 u b j4_18) fun j4_46 => kLen false x21 fun x47 => kLss x22 x47 fun x48 => join (b314_2 u b j4_46 j1_17 x48 x19 x20 x21 x22) fun j2_53 => grdB x48 true (kGtr x19 n1 fun x54 => j2_53 x19 x54 h23) (j2_53 uu uu h23)
def b314_4 (u : Fn) (b : Nat) (x4 x5 : XV) (h6 : HS) : Ans :=
  kBox 48 b 2 none x4 h6 fun x7 h8 => kLoad h8.ob true 11 x7 fun x9 => kHand h8.ob x9 fun x10 s11 => kGo u b none 114 [x10] (apL s11 []) h8 fun x12 h13 => join (fun x14 h15 => kAdd x14 n1 fun x16 => r314 b x16 h15) fun j1_17 => lp [1, 5, 6, 7] 1000000 (b314_3 u b j1_17) x5 n0 x12 n0 h13
def b314 : Bd := fun u l b segs => argK l fun x4 l => argK l fun x5 l => argN l (b314_4 u b x4 x5 (hs0 b segs))
def r316 (b : Nat) (x0 : XV) (h1 : HS) : Ans :=
  kHand h1.ob x0 fun q2 s3 => retP b q2 (apL s3 []) h1
def b316_1 (u : Fn) (b : Nat) (j2_12 : F2) (x18 x16 x14 x13 : XV) (h19 : HS) : Ans :=
  kStore b none 5 x18 x16 h19 fun _ h21 => kLoad h21.ob true 5 x18 fun x22 => kElt h21.ob 5 0 x22 (repL 1 [n0, n0, (.s 0 0), (.s 0 0), (.s 0 0)]) fun c23 s24 => kSl b 2065 none 363 5 1 false c23 (apL s24 []) h21 fun x25 h26 => kAppend b 2066 none 363 5 64 x14 x25 false h26 fun x27 h28 => kFaddr 0 x18 fun x29 => kLoad h28.ob false 1 x29 fun x30 => kEql x30 n0 fun x31 => cnd x31 (r316 b x27 h28) (j2_12 x13 x27 h28)
def b316_2 (u : Fn) (b : Nat) (j2_12 : F2) (x13 x14 : XV) (h15 : HS) : Ans :=
  kGoH u b 413 [x13] [] h15 fun x16 h17 => kAlloc 363 b 5 none [n0, n0, (.s 0 0), (.s 0 0), (.s 0 0)] h17 fun x18 h19 => b316_1 u b j2_12 x18 x16 x14 x13 h19
def b316_3 (u : Fn) (b : Nat) (x6 : XV) (h7 : HS) : Ans :=
  kPart 0 1 x6 [(.s 0 0), n0] fun c8 => kAgg c8 fun x9 => kBox 436 b 12 none x9 h7 fun x10 h11 => lp [3, 4] 1000000 (b316_2 u b) x10 .nl h11
def b316_4 (u : Fn) (b : Nat) (x4 : XV) (h5 : HS) : Ans :=
  join (b316_3 u b) fun j1_32 => kLen true x4 fun x33 => kGtr x33 n6000 fun x34 => cnd x34 (kGo u b none 412 [n2, n0] [] h5 fun _ h36 => j1_32 x4 h36) (j1_32 x4 h5)
def b316 : Bd := fun u l b segs => argK l fun x4 l => argN l (b316_4 u b x4 (hs0 b segs))
def r317 (b : Nat) (x0 : XV) (h1 : HS) : Ans :=
  kCell h1.ob x0 true 5 fun x2 => kHand h1.ob x2 fun q3 s4 => retP b q3 (apL s4 []) h1
def b317_1 (u : Fn) (b : Nat) (x5 x11 x7 : XV) (h8 : HS) : Ans :=
  kNil x5 fun x12 => kFaddr 3 x12 fun x13 => met b [4096, 4098] [x13] <| kLoad h8.ob false 1 x13 fun x14 => met b [4096, 4098, 4096, 4098] [x11, x14] <| kIaddr h8.ob 5 x11 x14 fun x15 => met b [4098] [x15] <| kLoad h8.ob true 5 x15 fun x16 => met b [2] [x7] <| kStore b (some [2]) 5 x7 x16 h8 fun _ h18 => r317 b x7 h18
def b317_2 (u : Fn) (b : Nat) (x5 : XV) (h6 : HS) : Ans :=
  kAlloc 363 b 2 none [n0, n0, (.s 0 0), (.s 0 0), (.s 0 0)] h6 fun x7 h8 => kNil x5 fun x9 => kFaddr 2 x9 fun x10 => met b [4096, 4098] [x10] <| kLoad h8.ob false 1 x10 fun x11 => b317_1 u b x5 x11 x7 h8
def b317 : Bd := fun u l b segs => argK l fun x5 l => argN l (b317_2 u b x5 (hs0 b segs))
def r319 (b : Nat) (x0 : XV) (h1 : HS) : Ans :=
  kCell h1.ob x0 true 7 fun x2 => kHand h1.ob x2 fun q3 s4 => retP b q3 (apL s4 []) h1
def b319_1 (u : Fn) (b : Nat) (x21 x22 : XV) (h23 : HS) : Ans :=
  kLoad h23.ob true 5 x22 fun x24 => kHand h23.ob x24 fun x25 s26 => kGo u b none 318 [n12, x25] (apL s26 []) h23 fun _ h28 => kAgg [n0, (.s 0 0), (.s 0 0), (.s 0 0), (.s 0 0), (.s 0 0), .nl] fun x29 => kStore b none 7 x21 x29 h28 fun _ h31 => r319 b x21 h31
def b319_2 (u : Fn) (b : Nat) (x40 x39 x19 x18 : XV) (h20 : HS) : Ans :=
  kFaddr 3 x40 fun x41 => kStore b none 1 x41 x39 h20 fun _ h43 => kFaddr 3 x19 fun x44 => kLoad h43.ob false 1 x44 fun x45 => kFaddr 4 x19 fun x46 => kLoad h43.ob false 1 x46 fun x47 => kHand h43.ob x45 fun x48 s49 => kHand h43.ob x47 fun x50 s51 => kGo u b none 414 [x48, x50] (apL s49 (apL s51 [])) h43 fun x52 h53 => kStore b none 7 x18 x52 h53 fun _ h55 => r319 b x18 h55
def b319_3 (u : Fn) (b : Nat) (x16 x19 x18 : XV) (h20 : HS) : Ans :=
  kNil x16 fun x36 => kFaddr 3 x36 fun x37 => kLoad h20.ob false 1 x37 fun x38 => kAdd x38 n1 fun x39 => kNil x16 fun x40 => b319_2 u b x40 x39 x19 x18 h20
def b319_4 (u : Fn) (b : Nat) (x58 x16 x19 x18 : XV) (h20 : HS) : Ans :=
  kLoad h20.ob false 1 x58 fun x59 => kAdd x59 n1 fun x60 => kNil x16 fun x61 => kFaddr 3 x61 fun x62 => kStore b none 1 x62 x60 h20 fun _ h64 => kFaddr 3 x19 fun x65 => kLoad h64.ob false 1 x65 fun x66 => kHand h64.ob x66 fun x67 s68 => kGo u b none 415 [x67] (apL s68 []) h64 fun x69 h70 => kStore b none 7 x18 x69 h70 fun _ h72 => r319 b x18 h72
def b319_5 (u : Fn) (b : Nat) (x109 x110 : XV) (h111 : HS) : Ans :=
  kLoad h111.ob true 2 x110 fun x112 => kHand h111.ob x112 fun x113 s114 => kGo u b none 245 [x113] (apL s114 []) h111 fun x115 h116 => kStore b none 7 x109 x115 h116 fun _ h118 => r319 b x109 h118
def b319_6 (u : Fn) (b : Nat) (j2_119 : F2) (x87 x104 x86 x105 : XV) (h108 : HS) : Ans :=
  kLoad h108.ob true 5 x87 fun x121 => kHand h108.ob x104 fun x122 s123 => kHand h108.ob x121 fun x124 s125 => kGo u b none 318 [x122, x124] (apL s123 (apL s125 [])) h108 fun _ h127 => j2_119 x86 x105 h127
def b319_7 (u : Fn) (b : Nat) (x101 x87 x86 : XV) (h102 : HS) : Ans :=
  kExt x101 0 fun x103 => kExt x101 1 fun x104 => kAlloc 43 b 7 (some [7]) [(.s 0 0), (.s 0 0)] h102 fun x105 h106 => met b [7] [x105] <| kStore b (some [7]) 2 x105 x103 h106 fun _ h108 => join (b319_5 u b) fun j2_119 => kNeq x104 n0 fun x120 => cnd x120 (b319_6 u b j2_119 x87 x104 x86 x105 h108) (j2_119 x86 x105 h108)
def b319_8 (u : Fn) (b : Nat) (x91 x87 x88 x86 : XV) (h89 : HS) : Ans :=
  met b [4096, 4098] [x91] <| kLoad h89.ob false 1 x91 fun x92 => kFaddr 3 x87 fun x93 => met b [5] [x93] <| kLoad h89.ob false 1 x93 fun x94 => met b [4096, 4098, 4096, 4098, 4096, 4098] [x92, x88, x94] <| kHand h89.ob x92 fun x95 s96 => kHand h89.ob x88 fun x97 s98 => kHand h89.ob x94 fun x99 s100 => kGo u b (some []) 416 [x95, x97, x99] (apL s96 (apL s98 (apL s100 []))) h89 fun x101 h102 => b319_7 u b x101 x87 x86 h102
def b319_9 (u : Fn) (b : Nat) (x19 x16 x18 x84 : XV) (h81 : HS) : Ans :=
  join (fun x85 x86 x87 x88 h89 => kNil x85 fun x90 => kFaddr 0 x90 fun x91 => b319_8 u b x91 x87 x88 x86 h89) fun j4_128 => kFaddr 2 x19 fun x129 => kLoad h81.ob false 1 x129 fun x130 => kNeq x130 (.s 0 0) fun x131 => cnd x131 (kFaddr 2 x19 fun x132 => kLoad h81.ob false 1 x132 fun x133 => j4_128 x16 x18 x19 x133 h81) (j4_128 x16 x18 x19 x84 h81)
def b319_10 (u : Fn) (b : Nat) (x16 x19 x18 : XV) (h20 : HS) : Ans :=
  kNil x16 fun x74 => kFaddr 3 x74 fun x75 => kLoad h20.ob false 1 x75 fun x76 => kAdd x76 n1 fun x77 => kNil x16 fun x78 => kFaddr 3 x78 fun x79 => kStore b none 1 x79 x77 h20 fun _ h81 => kNil x16 fun x82 => kFaddr 1 x82 fun x83 => kLoad h81.ob false 1 x83 fun x84 => b319_9 u b x19 x16 x18 x84 h81
def b319_11 (u : Fn) (b : Nat) (x145 x17 x16 x18 : XV) (h142 : HS) : Ans :=
  kHand h142.ob x145 fun x146 s147 => kGo u b none 245 [x146] (apL s147 []) h142 fun x148 h149 => kAdd x17 n1 fun x150 => kHand h149.ob x150 fun x151 s152 => kGoH u b 319 [x16, x151] (apL s152 []) h149 fun x153 h154 => kElt h154.ob 7 0 x148 (repL 2 [n0, (.s 0 0), (.s 0 0), (.s 0 0), (.s 0 0), (.s 0 0), .nl]) fun c155 s156 => kElt h154.ob 7 1 x153 c155 fun c157 s158 => kSl b 2152 none 46 7 2 false c157 (apL s156 (apL s158 [])) h154 fun x159 h160 => kHand h160.ob x159 fun x161 s162 => kGo u b none 417 [x161] (apL s162 []) h160 fun x163 h164 => kStore b none 7 x18 x163 h164 fun _ h166 => r319 b x18 h166
def b319_12 (u : Fn) (b : Nat) (x16 x17 x18 : XV) (h20 : HS) : Ans :=
  kNil x16 fun x135 => kFaddr 3 x135 fun x136 => kLoad h20.ob false 1 x136 fun x137 => kAdd x137 n1 fun x138 => kNil x16 fun x139 => kFaddr 3 x139 fun x140 => kStore b none 1 x140 x138 h20 fun _ h142 => kPart 0 1 (.s 4 0x6c697370) [(.s 0 0), (.s 0 0)] fun c143 => kPart 1 1 (.s 5 0x71756f7465) c143 fun c144 => kAgg c144 fun x145 => b319_11 u b x145 x17 x16 x18 h142
def b319_13 (u : Fn) (b : Nat) (x168 x16 x17 x18 : XV) (h20 : HS) : Ans :=
  kFaddr 3 x168 fun x169 => kLoad h20.ob false 1 x169 fun x170 => kAdd x170 n1 fun x171 => kNil x16 fun x172 => kFaddr 3 x172 fun x173 => kStore b none 1 x173 x171 h20 fun _ h175 => kAdd x17 n1 fun x176 => kHand h175.ob x176 fun x177 s178 => kGoH u b 418 [x16, x177] (apL s178 []) h175 fun x179 h180 => kStore b none 7 x18 x179 h180 fun _ h182 => r319 b x18 h182
def b319_14 (u : Fn) (b : Nat) (j2_32 : F2) (x34 x16 x17 x18 x19 : XV) (h20 : HS) : Ans :=
  kEql x34 n1 fun x167 => cnd x167 (kNil x16 fun x168 => b319_13 u b x168 x16 x17 x18 h20) (j2_32 x18 x19 h20)
def b319_15 (u : Fn) (b : Nat) (j2_32 : F2) (x34 x16 x17 x18 x19 : XV) (h20 : HS) : Ans :=
  kEql x34 n4 fun x134 => cnd x134 (b319_12 u b x16 x17 x18 h20) (b319_14 u b j2_32 x34 x16 x17 x18 x19 h20)
def b319_16 (u : Fn) (b : Nat) (j2_32 : F2) (x34 x16 x19 x18 x17 : XV) (h20 : HS) : Ans :=
  kEql x34 n6 fun x73 => cnd x73 (b319_10 u b x16 x19 x18 h20) (b319_15 u b j2_32 x34 x16 x17 x18 x19 h20)
def b319_17 (u : Fn) (b : Nat) (j2_32 : F2) (x34 x16 x19 x18 x17 : XV) (h20 : HS) : Ans :=
  kEql x34 n7 fun x56 => cnd x56 (kNil x16 fun x57 => kFaddr 3 x57 fun x58 => b319_4 u b x58 x16 x19 x18 h20) (b319_16 u b j2_32 x34 x16 x19 x18 x17 h20)
def b319_18 (u : Fn) (b : Nat) (x16 x17 x18 x19 : XV) (h20 : HS) : Ans :=
  join (b319_1 u b) fun j2_32 => kFaddr 0 x19 fun x33 => kLoad h20.ob false 1 x33 fun x34 => kEql x34 n5 fun x35 => cnd x35 (b319_3 u b x16 x19 x18 h20) (b319_17 u b j2_32 x34 x16 x19 x18 x17 h20)
def b319_19 (u : Fn) (b : Nat) (j4_183 : F4) (x12 x5 x6 x8 : XV) (h195 : HS) : Ans :=
  kLoad h195.ob true 5 x12 fun x197 => kHand h195.ob x197 fun x198 s199 => kGo u b none 318 [n2, x198] (apL s199 []) h195 fun _ h201 => j4_183 x5 x6 x8 x12 h201
def b319_20 (u : Fn) (b : Nat) (j4_183 : F4) (x184 x12 x5 x6 x8 x194 : XV) (h195 : HS) : Ans :=
  kPick x184 x194 ff fun x196 => cnd x196 (b319_19 u b j4_183 x12 x5 x6 x8 h195) (j4_183 x5 x6 x8 x12 h195)
def b319_21 (u : Fn) (b : Nat) (j4_183 : F4) (x184 x12 x5 x6 x8 x188 x190 x191 x192 : XV) (h193 : HS) : Ans :=
  join (b319_20 u b j4_183 x184 x12 x5 x6 x8) fun j1_202 => grdB x184 true (kPick x188 tt x192 fun x203 => j1_202 x203 h193) (j1_202 uu h193)
def b319_22 (u : Fn) (b : Nat) (j4_183 : F4) (x184 x12 x5 x6 x8 x185 x186 x187 x188 : XV) (h189 : HS) : Ans :=
  join (b319_21 u b j4_183 x184 x12 x5 x6 x8 x188) fun j3_204 => grdB x188 false (kFaddr 0 x12 fun x205 => kLoad h189.ob false 1 x205 fun x206 => kEql x206 n4 fun x207 => j3_204 x205 x206 x207 h189) (j3_204 uu uu uu h189)
def b319_23 (u : Fn) (b : Nat) (x12 x10 x6 x5 x8 : XV) (h13 : HS) : Ans :=
  kStore b none 5 x12 x10 h13 fun _ h15 => join (b319_18 u b) fun j4_183 => kGtr x6 n200 fun x184 => join (b319_22 u b j4_183 x184 x12 x5 x6 x8) fun j4_208 => grdB x184 true (kFaddr 0 x12 fun x209 => kLoad h15.ob false 1 x209 fun x210 => kEql x210 n1 fun x211 => j4_208 x209 x210 x211 x211 h15) (j4_208 uu uu uu uu h15)
def b319_24 (u : Fn) (b : Nat) (x5 x6 : XV) (h7 : HS) : Ans :=
  kAlloc 46 b 4 none [n0, (.s 0 0), (.s 0 0), (.s 0 0), (.s 0 0), (.s 0 0), .nl] h7 fun x8 h9 => kGoH u b 317 [x5] [] h9 fun x10 h11 => kAlloc 363 b 5 none [n0, n0, (.s 0 0), (.s 0 0), (.s 0 0)] h11 fun x12 h13 => b319_23 u b x12 x10 x6 x5 x8 h13
def b319 : Bd := fun u l b segs => argK l fun x5 l => argK l fun x6 l => argN l (b319_24 u b x5 x6 (hs0 b segs))
def r320 (b : Nat) (x0 : XV) (h1 : HS) : Ans :=
  kHand h1.ob x0 fun q2 s3 => retP b q2 (apL s3 []) h1
def b320_1 (u : Fn) (b : Nat) (x15 x19 x29 : XV) (h30 : HS) : Ans :=
  join (fun x31 h32 => kPick x15 tt x31 fun x33 => r320 b x33 h32) fun j1_34 => grdB x15 false (kPick x19 x29 ff fun x35 => j1_34 x35 h30) (j1_34 uu h30)
def b320_2 (u : Fn) (b : Nat) (x15 x19 x23 x25 x26 x27 : XV) (h28 : HS) : Ans :=
  join (b320_1 u b x15 x19) fun j1_36 => grdB x19 true (kPick x23 tt x27 fun x37 => j1_36 x37 h28) (j1_36 uu h28)
def b320_3 (u : Fn) (b : Nat) (j3_38 : F3) (x6 : XV) (h24 : HS) : Ans :=
  met b [1] [x6] <| kLoad h24.ob true 7 x6 fun x39 => kGo u b (some []) 175 [] [] h24 fun x40 h41 => met b [] [x39, x40] <| kHand h41.ob x39 fun x42 s43 => kHand h41.ob x40 fun x44 s45 => kGo u b (some []) 152 [x42, x44] (apL s43 (apL s45 [])) h41 fun x46 h47 => j3_38 x39 x40 x46 h47
def b320_4 (u : Fn) (b : Nat) (x15 x19 x6 x21 x22 x23 : XV) (h24 : HS) : Ans :=
  join (b320_2 u b x15 x19 x23) fun j3_38 => grdB x23 false (b320_3 u b j3_38 x6 h24) (j3_38 uu uu uu h24)
def b320_5 (u : Fn) (b : Nat) (x15 x6 x16 x17 x18 x19 : XV) (h20 : HS) : Ans :=
  join (b320_4 u b x15 x19 x6) fun j3_48 => grdB x19 true (met b [1] [x6] <| kLoad h20.ob true 7 x6 fun x49 => met b [] [x49] <| kHand h20.ob x49 fun x50 s51 => kGo u b (some []) 94 [x50] (apL s51 []) h20 fun x52 h53 => j3_48 x49 x52 x52 h53) (j3_48 uu uu uu h20)
def b320_6 (u : Fn) (b : Nat) (x10 x6 x11 x12 x13 : XV) (h14 : HS) : Ans :=
  kPick x10 tt x13 fun x15 => join (b320_5 u b x15 x6) fun j4_54 => grdB x15 false (kFaddr 0 x6 fun x55 => met b [1] [x55] <| kLoad h14.ob false 1 x55 fun x56 => kEql x56 n2 fun x57 => j4_54 x55 x56 x57 x57 h14) (j4_54 uu uu uu uu h14)
def b320_7 (u : Fn) (b : Nat) (x8 x6 : XV) (h7 : HS) : Ans :=
  met b [1] [x8] <| kLoad h7.ob false 1 x8 fun x9 => kEql x9 n1 fun x10 => join (b320_6 u b x10 x6) fun j3_58 => grdB x10 false (kFaddr 0 x6 fun x59 => met b [1] [x59] <| kLoad h7.ob false 1 x59 fun x60 => kEql x60 n3 fun x61 => j3_58 x59 x60 x61 h7) (j3_58 uu uu uu h7)
def b320_8 (u : Fn) (b : Nat) (x4 : XV) (h5 : HS) : Ans :=
  kBox 46 b 1 none x4 h5 fun x6 h7 => kFaddr 0 x6 fun x8 => b320_7 u b x8 x6 h7
def b320 : Bd := fun u l b segs => argK l fun x4 l => argN l (b320_8 u b x4 (hs0 b segs))
def r324 (b : Nat) (x0 x1 x2 : XV) (h3 : HS) : Ans :=
  kCell h3.ob x0 true 2 fun x4 => kHand h3.ob x4 fun q5 s6 => kHand h3.ob x1 fun q7 s8 => kHand h3.ob x2 fun q9 s10 => retP b (.tup [q5, q7, q9]) (apL s6 (apL s8 (apL s10 []))) h3
def b324_1 (u : Fn) (b : Nat) (x39 x26 x42 x43 x44 x45 x46 x47 x48 : XV) (h49 : HS) : Ans :=
  kPick x39 tt x48 fun x50 => met b [4] [x26] <| kStore b (some [4]) 2 x26 x42 h49 fun _ h52 => r324 b x26 x43 x50 h52
def b324_2 (u : Fn) (b : Nat) (j5_53 : F5) (x27 : XV) (h37 : HS) : Ans :=
  met b [] [x27] <| kIaddr h37.ob 7 x27 n0 fun x54 => kFaddr 3 x54 fun x55 => met b [] [x55] <| kLoad h37.ob true 2 x55 fun x56 => met b [] [x56] <| kHand h37.ob x56 fun x57 s58 => kGo u b (some []) 425 [x57] (apL s58 []) h37 fun x59 h60 => j5_53 x27 x54 x55 x56 x59 h60
def b324_3 (u : Fn) (b : Nat) (x27 x39 x26 : XV) (h37 : HS) : Ans :=
  met b [] [x27] <| kIaddr h37.ob 7 x27 n0 fun x40 => kFaddr 3 x40 fun x41 => met b [] [x41] <| kLoad h37.ob true 2 x41 fun x42 => met b [] [x27] <| kSlc h37.ob 7 x27 (some n1) none fun x43 => join (b324_1 u b x39 x26 x42 x43) fun j5_53 => grdB x39 false (b324_2 u b j5_53 x27 h37) (j5_53 uu uu uu uu uu h37)
def b324_4 (u : Fn) (b : Nat) (x25 x26 x27 : XV) (h28 : HS) : Ans :=
  kIaddr h28.ob 7 x27 n0 fun x29 => kFaddr 3 x29 fun x30 => kLoad h28.ob true 2 x30 fun x31 => kHand h28.ob x25 fun x32 s33 => kHand h28.ob x31 fun x34 s35 => kGo u b none 424 [x32, x34] (apL s33 (apL s35 [])) h28 fun x36 h37 => kExt x36 0 fun _ => kExt x36 1 fun x39 => b324_3 u b x27 x39 x26 h37
def b324_5 (u : Fn) (b : Nat) (j3_61 : F3) (x67 x16 x11 x23 x68 x69 x70 x71 x72 : XV) (h73 : HS) : Ans :=
  kPick x67 tt x72 fun x74 => cnd x74 (kAgg [(.s 0 0), (.s 0 0)] fun x75 => kStore b none 2 x16 x75 h73 fun _ h77 => r324 b x16 .nl ff h77) (j3_61 x11 x16 x23 h73)
def b324_6 (u : Fn) (b : Nat) (j3_61 : F3) (x62 x16 x11 x23 x63 x64 x65 : XV) (h66 : HS) : Ans :=
  kPick x62 tt x65 fun x67 => join (b324_5 u b j3_61 x67 x16 x11 x23) fun j5_78 => grdB x67 false (kIaddr h66.ob 7 x23 n0 fun x79 => kFaddr 0 x79 fun x80 => kLoad h66.ob false 1 x80 fun x81 => kNeq x81 n2 fun x82 => j5_78 x23 x79 x80 x81 x82 h66) (j5_78 uu uu uu uu uu h66)
def b324_7 (u : Fn) (b : Nat) (x21 x16 x11 : XV) (h22 : HS) : Ans :=
  kExt x21 0 fun x23 => kExt x21 1 fun x24 => join (b324_4 u b) fun j3_61 => kNot x24 fun x62 => join (b324_6 u b j3_61 x62 x16 x11 x23) fun j3_83 => grdB x62 false (kLen false x23 fun x84 => kEql x84 n0 fun x85 => j3_83 x23 x84 x85 h22) (j3_83 uu uu uu h22)
def b324_8 (u : Fn) (b : Nat) (x12 x11 : XV) (h13 : HS) : Ans :=
  kBox 46 b 3 none x12 h13 fun x14 h15 => kAlloc 43 b 4 none [(.s 0 0), (.s 0 0)] h15 fun x16 h17 => kLoad h17.ob true 7 x14 fun x18 => kHand h17.ob x18 fun x19 s20 => kGo u b none 173 [x19] (apL s20 []) h17 fun x21 h22 => b324_7 u b x21 x16 x11 h22
def b324 : Bd := fun u l b segs => argK l fun x11 l => argK l fun x12 l => argN l (b324_8 u b x12 x11 (hs0 b segs))
def r327 (b : Nat) (x0 x1 : XV) (h2 : HS) : Ans :=
  kHand h2.ob x0 fun q3 s4 => kHand h2.ob x1 fun q5 s6 => retP b (.tup [q3, q5]) (apL s4 (apL s6 [])) h2
def b327_1 (u : Fn) (b : Nat) (x16 x13 : XV) (h14 : HS) : Ans :=
  met b [4096, 4098] [x16] <| kLoad h14.ob false 1 x16 fun x17 => met b [3] [x13] <| kLoad h14.ob true 2 x13 fun x18 => met b [4096, 4098] [x17, x18] <| kHand h14.ob x17 fun x19 s20 => kHand h14.ob x18 fun x21 s22 => kGo u b (some []) 354 [x19, x21] (apL s20 (apL s22 [])) h14 fun x23 h24 => kExt x23 0 fun x25 => kExt x23 1 fun x26 => r327 b x25 x26 h24
def b327_2 (u : Fn) (b : Nat) (x56 : XV) (h59 : HS) : Ans :=
  kFaddr 2 x56 fun x64 => kLoad h59.ob false 1 x64 fun x65 => kLen false x65 fun x66 => r327 b x66 tt h59
def b327_3 (u : Fn) (b : Nat) (j5_32 : F5) (x40 x41 x42 x43 x44 : XV) (h45 : HS) : Ans :=
  join (fun x46 x47 x48 x49 x50 h51 => kAdd x50 n1 fun x52 => j5_32 x46 x47 x48 x49 x52 h51) fun j5_53 => kIaddr h45.ob 37 x42 x44 fun x54 => kLoad h45.ob true 37 x54 fun x55 => kAlloc 61 b 7 none [(.s 0 0), (.s 0 0), .nl, n0, n0, (.s 0 0), (.s 0 0), n0, (.s 0 0), (.s 0 0), (.s 0 0), (.s 0 0), (.s 0 0), .nl, .nl, n0, (.s 0 0), (.s 0 0), n0, (.s 0 0), (.s 0 0), (.s 0 0), (.s 0 0), (.s 0 0), .nl, .nl, n0, (.s 0 0), (.s 0 0), n0, (.s 0 0), (.s 0 0), (.s 0 0), (.s 0 0), (.s 0 0), .nl, .nl] h45 fun x56 h57 => kStore b none 37 x56 x55 h57 fun _ h59 => kFaddr 0 x56 fun x60 => kLoad h59.ob true 2 x60 fun x61 => kLoad h59.ob true 2 x41 fun x62 => kEqs false x61 x62 fun x63 => cnd x63 (b327_2 u b x56 h59) (j5_53 x40 x41 x42 x43 x44 h59)
def b327_4 (u : Fn) (b : Nat) (j2_27 : F2) (j5_32 : F5) (x33 x34 x35 x36 x37 : XV) (h38 : HS) : Ans :=
  kLss x37 x36 fun x39 => join (b327_3 u b j5_32) fun j5_67 => cnd x39 (j5_67 x33 x34 x35 x36 x37 h38) (j2_27 x33 x34 h38)
def b327_5 (u : Fn) (b : Nat) (x8 x7 : XV) (h9 : HS) : Ans :=
  kBox 43 b 3 none x8 h9 fun x10 h11 => join (fun x12 x13 h14 => kNil x12 fun x15 => kFaddr 0 x15 fun x16 => b327_1 u b x16 x13 h14) fun j2_27 => kNil x7 fun x28 => kFaddr 1 x28 fun x29 => kLoad h11.ob false 1 x29 fun x30 => kLen false x30 fun x31 => lp [0, 3, 11, 12, 13] 1000000 (b327_4 u b j2_27) x7 x10 x30 x31 n0 h11
def b327 : Bd := fun u l b segs => argK l fun x7 l => argK l fun x8 l => argN l (b327_5 u b x8 x7 (hs0 b segs))
def r345 (b : Nat) (x0 : XV) (h1 : HS) : Ans :=
  kCell h1.ob x0 true 2 fun x2 => kHand h1.ob x2 fun q3 s4 => retP b q3 (apL s4 []) h1
def b345_1 (u : Fn) (b : Nat) (x5 : XV) (h6 : HS) : Ans :=
  kAlloc 43 b 2 none [(.s 0 0), (.s 0 0)] h6 fun x7 h8 => kPart 0 1 (.s 4 0x6c697370) [(.s 0 0), (.s 0 0)] fun c9 => kPart 1 1 x5 c9 fun c10 => kAgg c10 fun x11 => kStore b none 2 x7 x11 h8 fun _ h13 => r345 b x7 h13
def b345 : Bd := fun u l b segs => argK l fun x5 l => argN l (b345_1 u b x5 (hs0 b segs))
def r347 (b : Nat) (x0 x1 x2 : XV) (h3 : HS) : Ans :=
  kHand h3.ob x0 fun q4 s5 => kHand h3.ob x1 fun q6 s7 => kHand h3.ob x2 fun q8 s9 => retP b (.tup [q4, q6, q8]) (apL s5 (apL s7 (apL s9 []))) h3
def b347_1 (u : Fn) (b : Nat) (j4_36 : F4) (x39 x25 x28 x26 x27 : XV) (h42 : HS) : Ans :=
  kLoad h42.ob true 32 x39 fun x43 => kHand h42.ob x43 fun x44 s45 => kGo u b none 348 [x44] (apL s45 []) h42 fun x46 h47 => kv (vMkfun 444 [x25]) fun x48 => kHand h47.ob x46 fun x49 s50 => kGoH u b 443 [x49, x48] (apL s50 []) h47 fun x51 h52 => kExt x51 0 fun x53 => kExt x51 1 fun x54 => cnd x54 (r347 b x28 x53 tt h52) (j4_36 x25 x26 x27 x28 h52)
def b347_2 (u : Fn) (b : Nat) (j4_18 : F4) (x25 x26 x27 x28 : XV) (h29 : HS) : Ans :=
  join (fun x30 x31 x32 x33 h34 => kAdd x33 n1 fun x35 => j4_18 x30 x31 x32 x35 h34) fun j4_36 => kIaddr h29.ob 32 x26 x28 fun x37 => kLoad h29.ob true 32 x37 fun x38 => kAlloc 74 b 8 none [n0, (.s 0 0), (.s 0 0), (.s 0 0), .nl, (.s 0 0), (.s 0 0), .nl, ff, n0, (.s 0 0), (.s 0 0), n0, (.s 0 0), (.s 0 0), (.s 0 0), (.s 0 0), (.s 0 0), .nl, .nl, .nl, .nl, .nl, .nl, (.s 0 0), (.s 0 0), .nl, .nl, .nl, .nl, (.s 0 0), (.i .u64 18446744073709551616)] h29 fun x39 h40 => kStore b none 32 x39 x38 h40 fun _ h42 => b347_1 u b j4_36 x39 x25 x28 x26 x27 h42
def b347_3 (u : Fn) (b : Nat) (j0_16 : F0) (j4_18 : F4) (x19 x20 x21 x22 : XV) (h23 : HS) : Ans :=
  kLss x22 x21 fun x24 => join (b347_2 u b j4_18) fun j4_55 => cnd x24 (j4_55 x19 x20 x21 x22 h23) (j0_16 h23)
def b347_4 (u : Fn) (b : Nat) (x11 x10 : XV) (h12 : HS) : Ans :=
  kBox 43 b 3 none x11 h12 fun x13 h14 => join (fun h15 => r347 b n0 n0 ff h15) fun j0_16 => kLen false x10 fun x17 => lp [3, 11, 12, 13] 1000000 (b347_3 u b j0_16) x13 x10 x17 n0 h14
def b347 : Bd := fun u l b segs => argK l fun x10 l => argK l fun x11 l => argN l (b347_4 u b x11 x10 (hs0 b segs))
def r348 (b : Nat) (x0 : XV) (h1 : HS) : Ans :=
  kHand h1.ob x0 fun q2 s3 => retP b q2 (apL s3 []) h1
def b348_1 (u : Fn) (b : Nat) (j0_9 : F0) (x12 x13 : XV) (h14 : HS) : Ans :=
  cnd x13 (kFaddr 20 x12 fun x15 => kLoad h14.ob false 1 x15 fun x16 => r348 b x16 h14) (j0_9 h14)
def b348_2 (u : Fn) (b : Nat) (j2_17 : F2) (x11 x6 : XV) (h7 : HS) : Ans :=
  kEql x11 n6 fun x20 => cnd x20 (j2_17 x6 x20 h7) (kEql x11 n7 fun x21 => j2_17 x6 x21 h7)
def b348_3 (u : Fn) (b : Nat) (j2_17 : F2) (x11 x6 : XV) (h7 : HS) : Ans :=
  kEql x11 n5 fun x19 => cnd x19 (j2_17 x6 x19 h7) (b348_2 u b j2_17 x11 x6 h7)
def b348_4 (u : Fn) (b : Nat) (x4 : XV) (h5 : HS) : Ans :=
  kBox 74 b 1 none x4 h5 fun x6 h7 => join (fun h8 => r348 b .nl h8) fun j0_9 => kFaddr 0 x6 fun x10 => kLoad h7.ob false 1 x10 fun x11 => join (b348_1 u b j0_9) fun j2_17 => kEql x11 n3 fun x18 => cnd x18 (j2_17 x6 x18 h7) (b348_3 u b j2_17 x11 x6 h7)
def b348 : Bd := fun u l b segs => argK l fun x4 l => argN l (b348_4 u b x4 (hs0 b segs))
def r354 (b : Nat) (x0 x1 : XV) (h2 : HS) : Ans :=
  kHand h2.ob x0 fun q3 s4 => kHand h2.ob x1 fun q5 s6 => retP b (.tup [q3, q5]) (apL s4 (apL s6 [])) h2
def b354_1 (u : Fn) (b : Nat) (x12 x15 : XV) (h14 : HS) : Ans :=
  kHand h14.ob x12 fun x16 s17 => kHand h14.ob x15 fun x18 s19 => kGo u b none 262 [x16, x18] (apL s17 (apL s19 [])) h14 fun x20 h21 => kExt x20 0 fun x22 => kExt x20 1 fun x23 => kAlloc 61 b 8 none [(.s 0 0), (.s 0 0), .nl, n0, n0, (.s 0 0), (.s 0 0), n0, (.s 0 0), (.s 0 0), (.s 0 0), (.s 0 0), (.s 0 0), .nl, .nl, n0, (.s 0 0), (.s 0 0), n0, (.s 0 0), (.s 0 0), (.s 0 0), (.s 0 0), (.s 0 0), .nl, .nl, n0, (.s 0 0), (.s 0 0), n0, (.s 0 0), (.s 0 0), (.s 0 0), (.s 0 0), (.s 0 0), .nl, .nl] h21 fun x24 h25 => kStore b none 37 x24 x22 h25 fun _ h27 => kFaddr 2 x24 fun x28 => kLoad h27.ob false 1 x28 fun x29 => kLen false x29 fun x30 => r354 b x30 x23 h27
def b354_2 (u : Fn) (b : Nat) (x10 x7 : XV) (h11 : HS) : Ans :=
  join (fun x12 x13 h14 => kLoad h14.ob true 2 x13 fun x15 => b354_1 u b x12 x15 h14) fun j2_31 => kLoad h11.ob true 2 x10 fun x32 => kHand h11.ob x32 fun x33 s34 => kGo u b none 156 [x33] (apL s34 []) h11 fun x35 h36 => kExt x35 0 fun x37 => kExt x35 1 fun x38 => cnd x38 (r354 b x37 tt h36) (j2_31 x7 x10 h36)
def b354_3 (u : Fn) (b : Nat) (x8 x7 : XV) (h9 : HS) : Ans :=
  kBox 43 b 3 none x8 h9 fun x10 h11 => b354_2 u b x10 x7 h11
def b354 : Bd := fun u l b segs => argK l fun x7 l => argK l fun x8 l => argN l (b354_3 u b x8 x7 (hs0 b segs))
def r371 (b : Nat) (x0 : XV) (h1 : HS) : Ans :=
  kHand h1.ob x0 fun q2 s3 => retP b q2 (apL s3 []) h1
def b371_1 (u : Fn) (b : Nat) (x8 x6 : XV) (h7 : HS) : Ans :=
  kHand h7.ob x8 fun x9 s10 => kGo u b none 151 [x9] (apL s10 []) h7 fun x11 h12 => kLeq x11 n3000 fun x13 => join (fun _ x15 h16 => kPick x13 x15 ff fun x17 => r371 b x17 h16) fun j2_18 => grdB x13 true (kLoad h12.ob true 7 x6 fun x19 => kHand h12.ob x19 fun x20 s21 => kGo u b none 459 [x20] (apL s21 []) h12 fun x22 h23 => j2_18 x19 x22 h23) (j2_18 uu uu h12)
def b371_2 (u : Fn) (b : Nat) (x4 : XV) (h5 : HS) : Ans :=
  kBox 46 b 1 none x4 h5 fun x6 h7 => kLoad h7.ob true 7 x6 fun x8 => b371_1 u b x8 x6 h7
def b371 : Bd := fun u l b segs => argK l fun x4 l => argN l (b371_2 u b x4 (hs0 b segs))
def r383 (b : Nat) (x0 : XV) (h1 : HS) : Ans :=
  kHand h1.ob x0 fun q2 s3 => retP b q2 (apL s3 []) h1
def b383_1 (u : Fn) (b : Nat) (j5_40 : F5) (x43 x27 x28 x29 x30 x31 : XV) (h46 : HS) : Ans :=
  kLoad h46.ob true 11 x43 fun x47 => kSub x27 n1 fun x48 => kHand h46.ob x47 fun x49 s50 => kHand h46.ob x48 fun x51 s52 => kGo u b none 383 [x49, x51] (apL s50 (apL s52 [])) h46 fun x53 h54 => kAdd n1 x53 fun x55 => kv (vMx true x28 x55) fun x56 => kGeq x56 x27 fun x57 => cnd x57 (r383 b x27 h54) (j5_40 x27 x56 x29 x30 x31 h54)
def b383_2 (u : Fn) (b : Nat) (j5_19 : F5) (x27 x28 x29 x30 x31 : XV) (h32 : HS) : Ans :=
  join (fun x33 x34 x35 x36 x37 h38 => kAdd x37 n1 fun x39 => j5_19 x33 x34 x35 x36 x39 h38) fun j5_40 => kIaddr h32.ob 11 x29 x31 fun x41 => kLoad h32.ob true 11 x41 fun x42 => kAlloc 48 b 7 none [n0, (.s 0 0), (.s 0 0), n0, (.s 0 0), (.s 0 0), (.s 0 0), (.s 0 0), (.s 0 0), .nl, .nl] h32 fun x43 h44 => kStore b none 11 x43 x42 h44 fun _ h46 => b383_1 u b j5_40 x43 x27 x28 x29 x30 x31 h46
def b383_3 (u : Fn) (b : Nat) (j1_15 : F1) (j5_19 : F5) (x20 x21 x22 x23 x24 : XV) (h25 : HS) : Ans :=
  kLss x24 x23 fun x26 => join (b383_2 u b j5_19) fun j5_58 => cnd x26 (j5_58 x20 x21 x22 x23 x24 h25) (j1_15 x21 h25)
def b383_4 (u : Fn) (b : Nat) (x9 x10 x11 : XV) (h12 : HS) : Ans :=
  join (fun x13 h14 => r383 b x13 h14) fun j1_15 => kFaddr 10 x10 fun x16 => kLoad h12.ob false 1 x16 fun x17 => kLen false x17 fun x18 => lp [1, 5, 17, 18, 19] 1000000 (b383_3 u b j1_15) x9 x11 x17 x18 n0 h12
def b383_5 (u : Fn) (b : Nat) (j3_59 : F3) (x62 x5 x7 x63 x64 : XV) (h65 : HS) : Ans :=
  kPick x62 tt x64 fun x66 => cnd x66 (r383 b n1 h65) (j3_59 x5 x7 n1 h65)
def b383_6 (u : Fn) (b : Nat) (x4 x5 : XV) (h6 : HS) : Ans :=
  kBox 48 b 2 none x4 h6 fun x7 h8 => join (b383_4 u b) fun j3_59 => kFaddr 0 x7 fun x60 => kLoad h8.ob false 1 x60 fun x61 => kNeq x61 n3 fun x62 => join (b383_5 u b j3_59 x62 x5 x7) fun j2_67 => grdB x62 false (kLeq x5 n1 fun x68 => j2_67 x5 x68 h8) (j2_67 uu uu h8)
def b383 : Bd := fun u l b segs => argK l fun x4 l => argK l fun x5 l => argN l (b383_6 u b x4 x5 (hs0 b segs))
def r384 (b : Nat) (x0 : XV) (h1 : HS) : Ans :=
  kHand h1.ob x0 fun q2 s3 => retP b q2 (apL s3 []) h1
def b384_1 (u : Fn) (b : Nat) (x11 x6 x13 x14 x15 x16 : XV) (h17 : HS) : Ans :=
  kPick x11 x16 ff fun x18 => join (fun _ _ _ x22 h23 => kPick x18 x22 ff fun x24 => r384 b x24 h23) fun j4_25 => grdB x18 true (met b [1] [x6] <| kLoad h17.ob true 2 x6 fun x26 => kGo u b (some []) 175 [] [] h17 fun x27 h28 => kFld true 3 2 x27 fun x29 => kEqs true x26 x29 fun x30 => j4_25 x26 x27 x29 x30 h28) (j4_25 uu uu uu uu h17)
def b384_2 (u : Fn) (b : Nat) (x8 x6 : XV) (h7 : HS) : Ans :=
  met b [] [x8] <| kHand h7.ob x8 fun x9 s10 => kGo u b (some []) 385 [x9] (apL s10 []) h7 fun x11 h12 => join (b384_1 u b x11 x6) fun j4_31 => grdB x11 true (met b [1] [x6] <| kLoad h12.ob true 2 x6 fun x32 => kGo u b (some []) 393 [] [] h12 fun x33 h34 => kFld true 3 2 x33 fun x35 => kEqs true x32 x35 fun x36 => j4_31 x32 x33 x35 x36 h34) (j4_31 uu uu uu uu h12)
def b384_3 (u : Fn) (b : Nat) (x4 : XV) (h5 : HS) : Ans :=
  kBox 43 b 1 none x4 h5 fun x6 h7 => met b [1] [x6] <| kLoad h7.ob true 2 x6 fun x8 => b384_2 u b x8 x6 h7
def b384 : Bd := fun u l b segs => argK l fun x4 l => argN l (b384_3 u b x4 (hs0 b segs))
def r385 (b : Nat) (x0 : XV) (h1 : HS) : Ans :=
  kHand h1.ob x0 fun q2 s3 => retP b q2 (apL s3 []) h1
def b385_1 (u : Fn) (b : Nat) (x4 : XV) (h5 : HS) : Ans :=
  kBox 43 b 1 none x4 h5 fun x6 h7 => kLoad h7.ob true 2 x6 fun x8 => kHand h7.ob x8 fun x9 s10 => kGo u b none 245 [x9] (apL s10 []) h7 fun x11 h12 => kHand h12.ob x11 fun x13 s14 => kGo u b none 371 [x13] (apL s14 []) h12 fun x15 h16 => r385 b x15 h16
def b385 : Bd := fun u l b segs => argK l fun x4 l => argN l (b385_1 u b x4 (hs0 b segs))
def r386 (b : Nat) (x0 : XV) (h1 : HS) : Ans :=
  kHand h1.ob x0 fun q2 s3 => retP b q2 (apL s3 []) h1
def b386_1 (u : Fn) (b : Nat) (x4 x5 : XV) (h6 : HS) : Ans :=
  kHand h6.ob x4 fun x7 s8 => kHand h6.ob x5 fun x9 s10 => kGo u b none 472 [x7, x9] (apL s8 (apL s10 [])) h6 fun x11 h12 => kGeq x11 n0 fun x13 => r386 b x13 h12
def b386 : Bd := fun u l b segs => argK l fun x4 l => argK l fun x5 l => argN l (b386_1 u b x4 x5 (hs0 b segs))
def r387 (b : Nat) (x0 : XV) (h1 : HS) : Ans :=
  kHand h1.ob x0 fun q2 s3 => retP b q2 (apL s3 []) h1
def b387_1 (u : Fn) (b : Nat) (x4 : XV) (h5 : HS) : Ans :=
  kBox 48 b 1 none x4 h5 fun x6 h7 => kLoad h7.ob true 11 x6 fun x8 => kHand h7.ob x8 fun x9 s10 => kGo u b none 278 [x9] (apL s10 []) h7 fun x11 h12 => kNot x11 fun x13 => r387 b x13 h12
def b387 : Bd := fun u l b segs => argK l fun x4 l => argN l (b387_1 u b x4 (hs0 b segs))
def r393 (b : Nat) (x0 : XV) (h1 : HS) : Ans :=
  kCell h1.ob x0 true 7 fun x2 => kHand h1.ob x2 fun q3 s4 => retP b q3 (apL s4 []) h1
def b393_1 (u : Fn) (b : Nat) (h5 : HS) : Ans :=
  kAlloc 46 b 0 none [n0, (.s 0 0), (.s 0 0), (.s 0 0), (.s 0 0), (.s 0 0), .nl] h5 fun x6 h7 => kPart 0 1 (.s 4 0x6c697370) [(.s 0 0), (.s 0 0)] fun c8 => kPart 1 1 (.s 3 0x6e696c) c8 fun c9 => kAgg c9 fun x10 => kHand h7.ob x10 fun x11 s12 => kGo u b none 245 [x11] (apL s12 []) h7 fun x13 h14 => kStore b none 7 x6 x13 h14 fun _ h16 => r393 b x6 h16
def b393 : Bd := fun u l b segs => argN l (b393_1 u b (hs0 b segs))
def r405 (b : Nat) (x0 : XV) (h1 : HS) : Ans :=
  kHand h1.ob x0 fun q2 s3 => retP b q2 (apL s3 []) h1
def b405_1 (u : Fn) (b : Nat) (x12 x6 x14 x15 x16 x17 : XV) (h18 : HS) : Ans :=
  kPick x12 x17 ff fun x19 => join (fun _ _ _ x23 h24 => kPick x19 x23 ff fun x25 => r405 b x25 h24) fun j4_26 => grdB x19 true (kFaddr 1 x6 fun x27 => kLoad h18.ob false 1 x27 fun x28 => kLen true x28 fun x29 => kLeq x29 n40 fun x30 => j4_26 x27 x28 x29 x30 h18) (j4_26 uu uu uu uu h18)
def b405_2 (u : Fn) (b : Nat) (x8 x6 : XV) (h7 : HS) : Ans :=
  kLoad h7.ob false 1 x8 fun x9 => kHand h7.ob x9 fun x10 s11 => kGo u b none 485 [x10] (apL s11 []) h7 fun x12 h13 => join (b405_1 u b x12 x6) fun j4_31 => grdB x12 true (kFaddr 1 x6 fun x32 => kLoad h13.ob false 1 x32 fun x33 => kLen true x33 fun x34 => kGeq x34 n1 fun x35 => j4_31 x32 x33 x34 x35 h13) (j4_31 uu uu uu uu h13)
def b405_3 (u : Fn) (b : Nat) (x4 : XV) (h5 : HS) : Ans :=
  kBox 43 b 1 none x4 h5 fun x6 h7 => kFaddr 0 x6 fun x8 => b405_2 u b x8 x6 h7
def b405 : Bd := fun u l b segs => argK l fun x4 l => argN l (b405_3 u b x4 (hs0 b segs))
def r413 (b : Nat) (x0 : XV) (h1 : HS) : Ans :=
  kCell h1.ob x0 true 5 fun x2 => kHand h1.ob x2 fun q3 s4 => retP b q3 (apL s4 []) h1
def b413_1 (u : Fn) (b : Nat) (j2_30 : F2) (x44 x41 x40 x38 x39 : XV) (h51 : HS) : Ans :=
  kv (vMget h51.ob 0 false (.int .i64 0) x44 x41) fun x52 => kFaddr 0 x40 fun x53 => kStore b none 1 x53 x52 h51 fun _ h55 => kNil x38 fun x56 => kFaddr 1 x56 fun x57 => kLoad h55.ob false 1 x57 fun x58 => kAdd x58 n1 fun x59 => kNil x38 fun x60 => kFaddr 1 x60 fun x61 => kStore b none 1 x61 x59 h55 fun _ h63 => j2_30 x39 x40 h63
def b413_2 (u : Fn) (b : Nat) (j2_30 : F2) (x41 x40 x38 x39 : XV) (h43 : HS) : Ans :=
  ku b none (some (.mref (Nat.add b 37) (Nat.add (h43.ob (Nat.add b 37)).stamp 1), [(Nat.add b 37, .map (Nat.add (h43.ob (Nat.add b 37)).stamp 1) [])])) h43 fun x44 h45 => ku b none (uMput h45.ob 0 x44 u40 n1) h45 fun _ h47 => ku b none (uMput h47.ob 0 x44 u41 n2) h47 fun _ h49 => ku b none (uMput h49.ob 0 x44 u39 n4) h49 fun _ h51 => b413_1 u b j2_30 x44 x41 x40 x38 x39 h51
def b413_3 (u : Fn) (b : Nat) (j2_30 : F2) (x40 x39 : XV) (h74 : HS) : Ans :=
  kFaddr 1 x40 fun x79 => kLoad h74.ob false 1 x79 fun x80 => kHand h74.ob x80 fun x81 s82 => kGo u b none 412 [n2, x81] (apL s82 []) h74 fun _ h84 => j2_30 x39 x40 h84
def b413_4 (u : Fn) (b : Nat) (j2_30 : F2) (x40 x67 x39 : XV) (h68 : HS) : Ans :=
  kFaddr 0 x40 fun x69 => kStore b none 1 x69 n7 h68 fun _ h71 => kFaddr 3 x40 fun x72 => kStore b none 1 x72 x67 h71 fun _ h74 => kFaddr 3 x40 fun x75 => kLoad h74.ob false 1 x75 fun x76 => kLen true x76 fun x77 => kGtr x77 n200 fun x78 => cnd x78 (b413_3 u b j2_30 x40 x39 h74) (j2_30 x39 x40 h74)
def b413_5 (u : Fn) (b : Nat) (j2_30 : F2) (x38 x40 x39 : XV) (h43 : HS) : Ans :=
  kHand h43.ob x38 fun x86 s87 => kGo u b none 491 [x86, u124] (apL s87 []) h43 fun x88 h89 => kFaddr 0 x40 fun x90 => kStore b none 1 x90 n6 h89 fun _ h92 => kFaddr 3 x40 fun x93 => kStore b none 1 x93 x88 h92 fun _ h95 => kLoad h95.ob true 5 x40 fun x96 => kHand h95.ob x96 fun x97 s98 => kGo u b none 492 [x97] (apL s98 []) h95 fun _ h100 => j2_30 x39 x40 h100
def b413_6 (u : Fn) (b : Nat) (j2_30 : F2) (x40 x38 x39 : XV) (h104 : HS) : Ans :=
  met b [3] [x40] <| kLoad h104.ob true 5 x40 fun x105 => kGoHD u b [4096, 4098] 495 [x38] [] h104 fun x106 h107 => kHand h107.ob x105 fun x108 s109 => kHand h107.ob x106 fun x110 s111 => kGoHD u b [4096, 4098] 494 [x38, x108, x110] (apL s109 (apL s111 [])) h107 fun x112 h113 => met b [3] [x40] <| kStore b (some [3]) 5 x40 x112 h113 fun _ h115 => j2_30 x39 x40 h115
def b413_7 (u : Fn) (b : Nat) (j2_30 : F2) (x38 x39 x40 : XV) (h104 : HS) : Ans :=
  kNil x38 fun x116 => kFaddr 1 x116 fun x117 => kLoad h104.ob false 1 x117 fun x118 => kHand h104.ob x118 fun x119 s120 => kGo u b none 412 [n12, x119] (apL s120 []) h104 fun _ h122 => j2_30 x39 x40 h122
def b413_8 (u : Fn) (b : Nat) (j2_30 : F2) (x41 x40 x38 x39 : XV) (h43 : HS) : Ans :=
  kHand h43.ob x41 fun x101 s102 => kGo u b none 493 [x101] (apL s102 []) h43 fun x103 h104 => cnd x103 (b413_6 u b j2_30 x40 x38 x39 h104) (b413_7 u b j2_30 x38 x39 x40 h104)
def b413_9 (u : Fn) (b : Nat) (j2_30 : F2) (x41 x38 x40 x39 : XV) (h43 : HS) : Ans :=
  kEql x41 u124 fun x85 => cnd x85 (b413_5 u b j2_30 x38 x40 x39 h43) (b413_8 u b j2_30 x41 x40 x38 x39 h43)
def b413_10 (u : Fn) (b : Nat) (j2_30 : F2) (x41 x38 x40 x39 : XV) (h43 : HS) : Ans :=
  kEql x41 u34 fun x64 => cnd x64 (kHand h43.ob x38 fun x65 s66 => kGo u b none 491 [x65, u34] (apL s66 []) h43 fun x67 h68 => b413_4 u b j2_30 x40 x67 x39 h68) (b413_9 u b j2_30 x41 x38 x40 x39 h43)
def b413_11 (u : Fn) (b : Nat) (j5_123 : F5) (x37 x20 x21 x22 : XV) (h23 : HS) : Ans :=
  kEql x37 u41 fun x125 => cnd x125 (j5_123 x20 x21 x22 x37 x125 h23) (kEql x37 u39 fun x126 => j5_123 x20 x21 x22 x37 x126 h23)
def b413_12 (u : Fn) (b : Nat) (j2_30 : F2) (x35 x33 x20 x21 x22 : XV) (h23 : HS) : Ans :=
  met b [4096, 4098] [x35] <| kLoad h23.ob false 1 x35 fun x36 => kSidx x33 x36 fun x37 => join (fun x38 x39 x40 x41 x42 h43 => cnd x42 (b413_2 u b j2_30 x41 x40 x38 x39 h43) (b413_10 u b j2_30 x41 x38 x40 x39 h43)) fun j5_123 => kEql x37 u40 fun x124 => cnd x124 (j5_123 x20 x21 x22 x37 x124 h23) (b413_11 u b j5_123 x37 x20 x21 x22 h23)
def b413_13 (u : Fn) (b : Nat) (x20 x21 x22 : XV) (h23 : HS) : Ans :=
  join (fun x24 x25 h26 => kLoad h26.ob true 5 x25 fun x27 => kStore b none 5 x24 x27 h26 fun _ h29 => r413 b x24 h29) fun j2_30 => kNil x20 fun x31 => kFaddr 0 x31 fun x32 => met b [4096, 4098] [x32] <| kLoad h23.ob false 1 x32 fun x33 => kNil x20 fun x34 => kFaddr 1 x34 fun x35 => b413_12 u b j2_30 x35 x33 x20 x21 x22 h23
def b413_14 (u : Fn) (b : Nat) (x15 x5 x7 : XV) (h10 : HS) : Ans :=
  kAlloc 363 b 3 none [n0, n0, (.s 0 0), (.s 0 0), (.s 0 0)] h10 fun x16 h17 => kStore b none 5 x16 x15 h17 fun _ h19 => join (b413_13 u b) fun j3_127 => kGoH u b 490 [x5] [] h19 fun x128 h129 => kNot x128 fun x130 => cnd x130 (kLoad h129.ob true 5 x16 fun x131 => kStore b none 5 x7 x131 h129 fun _ h133 => r413 b x7 h133) (j3_127 x5 x7 x16 h129)
def b413_15 (u : Fn) (b : Nat) (x5 : XV) (h6 : HS) : Ans :=
  kAlloc 363 b 2 none [n0, n0, (.s 0 0), (.s 0 0), (.s 0 0)] h6 fun x7 h8 => kGoH u b 489 [x5] [] h8 fun _ h10 => kNil x5 fun x11 => kFaddr 1 x11 fun x12 => kLoad h10.ob false 1 x12 fun x13 => kPart 1 1 x13 [n0, n0, (.s 0 0), (.s 0 0), (.s 0 0)] fun c14 => kAgg c14 fun x15 => b413_14 u b x15 x5 x7 h10
def b413 : Bd := fun u l b segs => argK l fun x5 l => argN l (b413_15 u b x5 (hs0 b segs))
def r416 (b : Nat) (x0 x1 : XV) (h2 : HS) : Ans :=
  kCell h2.ob x0 true 2 fun x3 => kHand h2.ob x3 fun q4 s5 => kHand h2.ob x1 fun q6 s7 => retP b (.tup [q4, q6]) (apL s5 (apL s7 [])) h2
def b416_1 (u : Fn) (b : Nat) (x36 x37 x38 : XV) (h39 : HS) : Ans :=
  kPart 0 1 x36 [(.s 0 0), (.s 0 0)] fun c40 => kPart 1 1 x37 c40 fun c41 => kAgg c41 fun x42 => kStore b none 2 x38 x42 h39 fun _ h44 => r416 b x38 n0 h44
def b416_2 (u : Fn) (b : Nat) (j6_73 : F6) (x74 x59 x60 x58 x61 x62 x63 : XV) (h64 : HS) : Ans :=
  kLoad h64.ob true 2 x74 fun x75 => kAlloc 43 b 11 none [(.s 0 0), (.s 0 0)] h64 fun x76 h77 => kStore b none 2 x76 x75 h77 fun _ h79 => kFaddr 1 x76 fun x80 => kLoad h79.ob false 1 x80 fun x81 => kEql x81 x59 fun x82 => cnd x82 (kLoad h79.ob true 2 x76 fun x83 => kStore b none 2 x60 x83 h79 fun _ h85 => r416 b x60 n0 h85) (j6_73 x58 x59 x60 x61 x62 x63 h79)
def b416_3 (u : Fn) (b : Nat) (j6_49 : F6) (x58 x59 x60 x61 x62 x63 : XV) (h64 : HS) : Ans :=
  join (fun x65 x66 x67 x68 x69 x70 h71 => kAdd x70 n1 fun x72 => j6_49 x65 x66 x67 x68 x69 x72 h71) fun j6_73 => kIaddr h64.ob 2 x61 x63 fun x74 => b416_2 u b j6_73 x74 x59 x60 x58 x61 x62 x63 h64
def b416_4 (u : Fn) (b : Nat) (j3_45 : F3) (j6_49 : F6) (x50 x51 x52 x53 x54 x55 : XV) (h56 : HS) : Ans :=
  kLss x55 x54 fun x57 => join (b416_3 u b j6_49) fun j6_86 => cnd x57 (j6_86 x50 x51 x52 x53 x54 x55 h56) (j3_45 x50 x51 x52 h56)
def b416_5 (u : Fn) (b : Nat) (x31 x32 x33 x34 : XV) (h35 : HS) : Ans :=
  join (b416_1 u b) fun j3_45 => kFaddr 1 x34 fun x46 => kLoad h35.ob false 1 x46 fun x47 => kLen false x47 fun x48 => lp [1, 2, 6, 31, 32, 33] 1000000 (b416_4 u b j3_45) x31 x32 x33 x47 x48 n0 h35
def b416_6 (u : Fn) (b : Nat) (j4_87 : F4) (x89 x28 x26 x27 x29 x90 x91 x92 : XV) (h93 : HS) : Ans :=
  kPick x89 tt x92 fun x94 => cnd x94 (kAgg [(.s 0 0), (.s 0 0)] fun x95 => kStore b none 2 x28 x95 h93 fun _ h97 => r416 b x28 n3 h97) (j4_87 x26 x27 x28 x29 h93)
def b416_7 (u : Fn) (b : Nat) (x26 x27 x28 x29 : XV) (h30 : HS) : Ans :=
  join (b416_5 u b) fun j4_87 => kLen true x27 fun x88 => kLss x88 n1 fun x89 => join (b416_6 u b j4_87 x89 x28 x26 x27 x29) fun j3_98 => grdB x89 false (kLen true x27 fun x99 => kGtr x99 n40 fun x100 => j3_98 x27 x99 x100 h30) (j3_98 uu uu uu h30)
def b416_8 (u : Fn) (b : Nat) (x18 x20 x12 x9 x10 : XV) (h19 : HS) : Ans :=
  kExt x18 1 fun x21 => kAlloc 64 b 8 none [(.s 0 0), .nl] h19 fun x22 h23 => kStore b none 2 x22 x20 h23 fun _ h25 => join (b416_7 u b) fun j4_101 => kNot x21 fun x102 => cnd x102 (kAgg [(.s 0 0), (.s 0 0)] fun x103 => kStore b none 2 x12 x103 h25 fun _ h105 => r416 b x12 n13 h105) (j4_101 x9 x10 x12 x22 h25)
def b416_9 (u : Fn) (b : Nat) (x8 x9 x10 : XV) (h11 : HS) : Ans :=
  kAlloc 43 b 6 none [(.s 0 0), (.s 0 0)] h11 fun x12 h13 => kHand h13.ob x8 fun x14 s15 => kHand h13.ob x9 fun x16 s17 => kGo u b none 497 [x14, x16] (apL s15 (apL s17 [])) h13 fun x18 h19 => kExt x18 0 fun x20 => b416_8 u b x18 x20 x12 x9 x10 h19
def b416 : Bd := fun u l b segs => argK l fun x8 l => argK l fun x9 l => argK l fun x10 l => argN l (b416_9 u b x8 x9 x10 (hs0 b segs))
def r418 (b : Nat) (x0 : XV) (h1 : HS) : Ans :=
  kCell h1.ob x0 true 7 fun x2 => kHand h1.ob x2 fun q3 s4 => retP b q3 (apL s4 []) h1
def b418_1 (u : Fn) (b : Nat) (j4_55 : F4) (x56 x46 x44 x45 x47 : XV) (h48 : HS) : Ans :=
  met b [2092] [x56] <| kLoad h48.ob true 7 x56 fun x57 => met b [6] [x46] <| kLoad h48.ob true 7 x46 fun x58 => met b [4096, 4098] [x57, x58] <| kHand h48.ob x57 fun x59 s60 => kHand h48.ob x58 fun x61 s62 => kGo u b (some []) 498 [x59, x61] (apL s60 (apL s62 [])) h48 fun x63 h64 => met b [6] [x46] <| kStore b (some [6]) 7 x46 x63 h64 fun _ h66 => j4_55 x44 x45 x46 x47 h66
def b418_2 (u : Fn) (b : Nat) (j4_38 : F4) (x44 x45 x46 x47 : XV) (h48 : HS) : Ans :=
  join (fun x49 x50 x51 x52 h53 => kSub x52 n1 fun x54 => j4_38 x49 x50 x51 x54 h53) fun j4_55 => met b [2092] [x45, x47] <| kIaddr h48.ob 7 x45 x47 fun x56 => b418_1 u b j4_55 x56 x46 x44 x45 x47 h48
def b418_3 (u : Fn) (b : Nat) (j2_35 : F2) (j4_38 : F4) (x39 x40 x41 x42 : XV) (h43 : HS) : Ans :=
  join (b418_2 u b j4_38) fun j4_67 => kGeq x42 n0 fun x68 => cnd x68 (j4_67 x39 x40 x41 x42 h43) (j2_35 x39 x41 h43)
def b418_4 (u : Fn) (b : Nat) (x16 x24 x18 x17 x19 : XV) (h20 : HS) : Ans :=
  kNil x16 fun x25 => kFaddr 3 x25 fun x26 => kStore b none 1 x26 x24 h20 fun _ h28 => join (fun x29 x30 h31 => kLoad h31.ob true 7 x30 fun x32 => kStore b none 7 x29 x32 h31 fun _ h34 => r418 b x29 h34) fun j2_35 => kLen false x18 fun x36 => kSub x36 n1 fun x37 => lp [4, 5, 6, 7] 1000000 (b418_3 u b j2_35) x17 x18 x19 x37 h28
def b418_5 (u : Fn) (b : Nat) (x16 x17 x18 x19 : XV) (h20 : HS) : Ans :=
  kNil x16 fun x21 => kFaddr 3 x21 fun x22 => kLoad h20.ob false 1 x22 fun x23 => kAdd x23 n1 fun x24 => b418_4 u b x16 x24 x18 x17 x19 h20
def b418_6 (u : Fn) (b : Nat) (j5_70 : F5) (x83 x84 x85 x86 x87 : XV) (h88 : HS) : Ans :=
  kHand h88.ob x84 fun x89 s90 => kGoH u b 319 [x83, x89] (apL s90 []) h88 fun x91 h92 => kElt h92.ob 7 0 x91 (repL 1 [n0, (.s 0 0), (.s 0 0), (.s 0 0), (.s 0 0), (.s 0 0), .nl]) fun c93 s94 => kSl b 2091 none 46 7 1 false c93 (apL s94 []) h92 fun x95 h96 => kAppend b 2092 none 46 7 112 x86 x95 false h96 fun x97 h98 => j5_70 x83 x84 x85 x97 x87 h98
def b418_7 (u : Fn) (b : Nat) (j4_69 : F4) (x77 x79 x80 x81 : XV) (h124 : HS) : Ans :=
  kGoH u b 317 [x77] [] h124 fun x127 h128 => kHand h128.ob x127 fun x129 s130 => kGo u b none 318 [n12, x129] (apL s130 []) h128 fun _ h132 => j4_69 x77 x79 x80 x81 h132
def b418_8 (u : Fn) (b : Nat) (j4_69 : F4) (x113 x112 x78 x77 x81 x79 x80 : XV) (h107 : HS) : Ans :=
  kFaddr 3 x113 fun x114 => kStore b none 1 x114 x112 h107 fun _ h116 => kHand h116.ob x78 fun x117 s118 => kGoH u b 319 [x77, x117] (apL s118 []) h116 fun x119 h120 => kStore b none 7 x81 x119 h120 fun _ h122 => kGoH u b 317 [x77] [] h122 fun x123 h124 => kFld false 0 1 x123 fun x125 => kNeq x125 n2 fun x126 => cnd x126 (b418_7 u b j4_69 x77 x79 x80 x81 h124) (j4_69 x77 x79 x80 x81 h124)
def b418_9 (u : Fn) (b : Nat) (j4_69 : F4) (x77 x78 x81 x79 x80 : XV) (h107 : HS) : Ans :=
  kNil x77 fun x109 => kFaddr 3 x109 fun x110 => kLoad h107.ob false 1 x110 fun x111 => kAdd x111 n1 fun x112 => kNil x77 fun x113 => b418_8 u b j4_69 x113 x112 x78 x77 x81 x79 x80 h107
def b418_10 (u : Fn) (b : Nat) (j4_69 : F4) (j5_99 : F5) (x103 x77 x78 x81 x79 x80 x104 x105 x106 : XV) (h107 : HS) : Ans :=
  kPick x103 x106 ff fun x108 => cnd x108 (b418_9 u b j4_69 x77 x78 x81 x79 x80 h107) (j5_99 x77 x78 x79 x80 x81 h107)
def b418_11 (u : Fn) (b : Nat) (j5_70 : F5) (j4_69 : F4) (x77 x78 x79 x80 x81 : XV) (h82 : HS) : Ans :=
  join (b418_6 u b j5_70) fun j5_99 => kGoH u b 317 [x77] [] h82 fun x100 h101 => kFld false 0 1 x100 fun x102 => kEql x102 n3 fun x103 => join (b418_10 u b j4_69 j5_99 x103 x77 x78 x81 x79 x80) fun j3_133 => grdB x103 true (kLen false x80 fun x134 => kGtr x134 n0 fun x135 => j3_133 x80 x134 x135 h101) (j3_133 uu uu uu h101)
def b418_12 (u : Fn) (b : Nat) (j4_69 : F4) (j5_70 : F5) (x71 x72 x73 x74 x75 : XV) (h76 : HS) : Ans :=
  join (b418_11 u b j5_70 j4_69) fun j5_136 => kGoH u b 317 [x71] [] h76 fun x137 h138 => kFld false 0 1 x137 fun x139 => kNeq x139 n2 fun x140 => cnd x140 (j5_136 x71 x72 x73 x74 x75 h138) (j4_69 x71 x73 x74 x75 h138)
def b418_13 (u : Fn) (b : Nat) (x5 x6 : XV) (h7 : HS) : Ans :=
  kAlloc 46 b 4 none [n0, (.s 0 0), (.s 0 0), (.s 0 0), (.s 0 0), (.s 0 0), .nl] h7 fun x8 h9 => kGo u b none 393 [] [] h9 fun x10 h11 => kAlloc 46 b 6 none [n0, (.s 0 0), (.s 0 0), (.s 0 0), (.s 0 0), (.s 0 0), .nl] h11 fun x12 h13 => kStore b none 7 x12 x10 h13 fun _ h15 => join (b418_5 u b) fun j4_69 => lp [0, 1, 4, 5, 6] 1000000 (b418_12 u b j4_69) x5 x6 x8 .nl x12 h15
def b418 : Bd := fun u l b segs => argK l fun x5 l => argK l fun x6 l => argN l (b418_13 u b x5 x6 (hs0 b segs))
def r424 (b : Nat) (x0 x1 : XV) (h2 : HS) : Ans :=
  kCell h2.ob x0 true 15 fun x3 => kHand h2.ob x3 fun q4 s5 => kHand h2.ob x1 fun q6 s7 => retP b (.tup [q4, q6]) (apL s5 (apL s7 [])) h2
def b424_1 (u : Fn) (b : Nat) (x22 x23 x24 : XV) (h25 : HS) : Ans :=
  kIaddr h25.ob 32 x22 x24 fun x26 => kFaddr 5 x26 fun x27 => kLoad h25.ob true 15 x27 fun x28 => kStore b none 15 x23 x28 h25 fun _ h30 => r424 b x23 tt h30
def b424_2 (u : Fn) (b : Nat) (x8 x15 x13 : XV) (h14 : HS) : Ans :=
  kHand h14.ob x8 fun x16 s17 => kGoH u b 258 [x16, x15] (apL s17 []) h14 fun x18 h19 => kExt x18 0 fun x20 => kExt x18 1 fun x21 => join (b424_1 u b) fun j3_31 => kNot x21 fun x32 => cnd x32 (kAgg [(.s 0 0), (.s 0 0), .nl, ff, n0, (.s 0 0), (.s 0 0), n0, (.s 0 0), (.s 0 0), (.s 0 0), (.s 0 0), (.s 0 0), .nl, .nl] fun x33 => kStore b none 15 x13 x33 h19 fun _ h35 => r424 b x13 ff h35) (j3_31 x8 x13 x20 h19)
def b424_3 (u : Fn) (b : Nat) (x9 x8 : XV) (h10 : HS) : Ans :=
  kBox 43 b 3 none x9 h10 fun x11 h12 => kAlloc 66 b 4 none [(.s 0 0), (.s 0 0), .nl, ff, n0, (.s 0 0), (.s 0 0), n0, (.s 0 0), (.s 0 0), (.s 0 0), (.s 0 0), (.s 0 0), .nl, .nl] h12 fun x13 h14 => kv (vMkfun 500 [x11]) fun x15 => b424_2 u b x8 x15 x13 h14
def b424 : Bd := fun u l b segs => argK l fun x8 l => argK l fun x9 l => argN l (b424_3 u b x9 x8 (hs0 b segs))
def r425 (b : Nat) (x0 : XV) (h1 : HS) : Ans :=
  kHand h1.ob x0 fun q2 s3 => retP b q2 (apL s3 []) h1
def b425_1 (u : Fn) (b : Nat) (j4_17 : F4) (x6 : XV) (h7 : HS) : Ans :=
  kElt h7.ob 1 0 (.s 4 0x6c697374) (repL 13 [(.s 0 0)]) fun c18 s19 => kElt h7.ob 1 1 (.s 5 0x6c6973742a) c18 fun c20 s21 => kElt h7.ob 1 2 (.s 3 0x616e64) c20 fun c22 s23 => kElt h7.ob 1 3 (.s 2 0x6f72) c22 fun c24 s25 => kElt h7.ob 1 4 (.s 4 0x636f6e64) c24 fun c26 s27 => kElt h7.ob 1 5 (.s 1 0x2b) c26 fun c28 s29 => kElt h7.ob 1 6 (.s 1 0x2a) c28 fun c30 s31 => kElt h7.ob 1 7 (.s 1 0x2d) c30 fun c32 s33 => kElt h7.ob 1 8 (.s 1 0x2f) c32 fun c34 s35 => kElt h7.ob 1 9 (.s 2 0x3c3d) c34 fun c36 s37 => kElt h7.ob 1 10 (.s 1 0x3e) c36 fun c38 s39 => kElt h7.ob 1 11 (.s 2 0x3e3d) c38 fun c40 s41 => kElt h7.ob 1 12 (.s 6 0x617070656e64) c40 fun c42 s43 => kSl b 2055 none 9 1 13 false c42 (apL s19 (apL s21 (apL s23 (apL s25 (apL s27 (apL s29 (apL s31 (apL s33 (apL s35 (apL s37 (apL s39 (apL s41 (apL s43 []))))))))))))) h7 fun x44 h45 => kFaddr 1 x6 fun x46 => kLoad h45.ob false 1 x46 fun x47 => kHand h45.ob x44 fun x48 s49 => kHand h45.ob x47 fun x50 s51 => kGo u b none 501 [x48, x50] (apL s49 (apL s51 [])) h45 fun x52 h53 => j4_17 x44 x46 x47 x52 h53
def b425_2 (u : Fn) (b : Nat) (x4 : XV) (h5 : HS) : Ans :=
  kBox 43 b 1 none x4 h5 fun x6 h7 => kFaddr 0 x6 fun x8 => kLoad h7.ob false 1 x8 fun x9 => kEql x9 (.s 4 0x6c697370) fun x10 => join (fun _ _ _ x14 h15 => kPick x10 x14 ff fun x16 => r425 b x16 h15) fun j4_17 => grdB x10 true (b425_1 u b j4_17 x6 h7) (j4_17 uu uu uu uu h7)
def b425 : Bd := fun u l b segs => argK l fun x4 l => argN l (b425_2 u b x4 (hs0 b segs))
def r440 (b : Nat) (x0 : XV) (h1 : HS) : Ans :=
  kHand h1.ob x0 fun q2 s3 => retP b q2 (apL s3 []) h1
def b440_1 (u : Fn) (b : Nat) (x30 x31 x32 : XV) (h33 : HS) : Ans :=
  kIaddr h33.ob 1 x31 x32 fun x34 => kStore b none 1 x34 x30 h33 fun _ h36 => kAdd x32 n1 fun x37 => kSlc h36.ob 1 x31 none (some x37) fun x38 => r440 b x38 h36
def b440_2 (u : Fn) (b : Nat) (j6_40 : F6) (x61 x62 x63 x64 x65 x66 x67 : XV) (h68 : HS) : Ans :=
  kAdd x67 x63 fun x69 => kSslice x61 none (some x69) fun x70 => kIaddr h68.ob 1 x65 x66 fun x71 => kStore b none 1 x71 x70 h68 fun _ h73 => kLen true x62 fun x74 => kAdd x67 x74 fun x75 => kSslice x61 (some x75) none fun x76 => kAdd x66 n1 fun x77 => j6_40 x76 x62 x63 x64 x65 x77 h73
def b440_3 (u : Fn) (b : Nat) (j6_40 : F6) (j3_39 : F3) (x48 x49 x50 x51 x52 x53 : XV) (h54 : HS) : Ans :=
  kHand h54.ob x48 fun x55 s56 => kHand h54.ob x49 fun x57 s58 => kGo u b none 512 [x55, x57] (apL s56 (apL s58 [])) h54 fun x59 h60 => join (b440_2 u b j6_40) fun j7_78 => kLss x59 n0 fun x79 => cnd x79 (j3_39 x48 x52 x53 h60) (j7_78 x48 x49 x50 x51 x52 x53 x59 h60)
def b440_4 (u : Fn) (b : Nat) (j3_39 : F3) (j6_40 : F6) (x41 x42 x43 x44 x45 x46 : XV) (h47 : HS) : Ans :=
  join (b440_3 u b j6_40 j3_39) fun j6_80 => kLss x46 x44 fun x81 => cnd x81 (j6_80 x41 x42 x43 x44 x45 x46 h47) (j3_39 x41 x45 x46 h47)
def b440_5 (u : Fn) (b : Nat) (x19 x20 x21 x22 : XV) (h23 : HS) : Ans :=
  kLen true x19 fun x24 => kAdd x24 n1 fun x25 => kv (vMx false x22 x25) fun x26 => ku b none (uMkslice (Nat.add b 2079) 9 1 16 (h23.ob (Nat.add b 2079)).stamp [(.s 0 0)] x26 x26) h23 fun x27 h28 => kSub x26 n1 fun x29 => join (b440_1 u b) fun j3_39 => lp [0, 1, 2, 3, 9, 10] 1000000 (b440_4 u b j3_39) x19 x20 x21 x29 x27 n0 h28
def b440_6 (u : Fn) (b : Nat) (j4_82 : F4) (x14 x15 x16 : XV) (h18 : HS) : Ans :=
  kHand h18.ob x14 fun x84 s85 => kHand h18.ob x15 fun x86 s87 => kGo u b none 511 [x84, x86] (apL s85 (apL s87 [])) h18 fun x88 h89 => kAdd x88 n1 fun x90 => j4_82 x14 x15 x16 x90 h89
def b440_7 (u : Fn) (b : Nat) (x14 x15 x16 x17 : XV) (h18 : HS) : Ans :=
  join (b440_5 u b) fun j4_82 => kLss x17 n0 fun x83 => cnd x83 (b440_6 u b j4_82 x14 x15 x16 h18) (j4_82 x14 x15 x16 x17 h18)
def b440_8 (u : Fn) (b : Nat) (x9 x12 : XV) (h13 : HS) : Ans :=
  kHand h13.ob x9 fun x93 s94 => kHand h13.ob x12 fun x95 s96 => kGo u b none 510 [x93, x95] (apL s94 (apL s96 [])) h13 fun x97 h98 => r440 b x97 h98
def b440_9 (u : Fn) (b : Nat) (x9 x10 x11 x12 : XV) (h13 : HS) : Ans :=
  join (b440_7 u b) fun j4_91 => kEql x10 (.s 0 0) fun x92 => cnd x92 (b440_8 u b x9 x12 h13) (j4_91 x9 x10 x11 x12 h13)
def b440_10 (u : Fn) (b : Nat) (x7 x4 x5 x6 : XV) (h8 : HS) : Ans :=
  join (b440_9 u b) fun j4_99 => kEql x7 n0 fun x100 => cnd x100 (r440 b .nl h8) (j4_99 x4 x5 x6 x7 h8)
def b440 : Bd := fun u l b segs => argK l fun x4 l => argK l fun x5 l => argK l fun x6 l => argK l fun x7 l => argN l (b440_10 u b x7 x4 x5 x6 (hs0 b segs))
def r443 (b : Nat) (x0 x1 : XV) (h2 : HS) : Ans :=
  kHand h2.ob x0 fun q3 s4 => kHand h2.ob x1 fun q5 s6 => retP b (.tup [q3, q5]) (apL s4 (apL s6 [])) h2
def b443_1 (u : Fn) (b : Nat) (j4_13 : F4) (x20 x21 x22 x23 : XV) (h24 : HS) : Ans :=
  join (fun x25 x26 x27 x28 h29 => kAdd x28 n1 fun x30 => j4_13 x25 x26 x27 x30 h29) fun j4_31 => kIaddr h24.ob 37 x21 x23 fun x32 => kLoad h24.ob true 37 x32 fun x33 => kAlloc 61 b 7 none [(.s 0 0), (.s 0 0), .nl, n0, n0, (.s 0 0), (.s 0 0), n0, (.s 0 0), (.s 0 0), (.s 0 0), (.s 0 0), (.s 0 0), .nl, .nl, n0, (.s 0 0), (.s 0 0), n0, (.s 0 0), (.s 0 0), (.s 0 0), (.s 0 0), (.s 0 0), .nl, .nl, n0, (.s 0 0), (.s 0 0), n0, (.s 0 0), (.s 0 0), (.s 0 0), (.s 0 0), (.s 0 0), .nl, .nl] h24 fun x34 h35 => kStore b none 37 x34 x33 h35 fun _ h37 => kLoad h37.ob true 37 x34 fun x38 => kHCallV u b x20 [x38] [] h37 fun x39 h40 => cnd x39 (r443 b x23 tt h40) (j4_31 x20 x21 x22 x23 h40)
def b443_2 (u : Fn) (b : Nat) (j0_11 : F0) (j4_13 : F4) (x14 x15 x16 x17 : XV) (h18 : HS) : Ans :=
  kLss x17 x16 fun x19 => join (b443_1 u b j4_13) fun j4_41 => cnd x19 (j4_41 x14 x15 x16 x17 h18) (j0_11 h18)
def b443_3 (u : Fn) (b : Nat) (x7 x8 : XV) (h9 : HS) : Ans :=
  join (fun h10 => r443 b n0 ff h10) fun j0_11 => kLen false x7 fun x12 => lp [1, 8, 9, 10] 1000000 (b443_2 u b j0_11) x8 x7 x12 n0 h9
def b443 : Bd := fun u l b segs => argK l fun x7 l => argK l fun x8 l => argN l (b443_3 u b x7 x8 (hs0 b segs))
def r444 (b : Nat) (x0 : XV) (h1 : HS) : Ans :=
  kHand h1.ob x0 fun q2 s3 => retP b q2 (apL s3 []) h1
def b444_1 (u : Fn) (b : Nat) (x4 x5 : XV) (h6 : HS) : Ans :=
  kBox 61 b 2 none x4 h6 fun x7 h8 => kFaddr 0 x7 fun x9 => kLoad h8.ob true 2 x9 fun x10 => kLoad h8.ob true 2 x5 fun x11 => kEqs false x10 x11 fun x12 => r444 b x12 h8
def b444 : Bd := fun u l b segs => argK l fun x4 l => argK l fun x5 l => argN l (b444_1 u b x4 x5 (hs0 b segs))
def r459 (b : Nat) (x0 : XV) (h1 : HS) : Ans :=
  kHand h1.ob x0 fun q2 s3 => retP b q2 (apL s3 []) h1
def b459_1 (u : Fn) (b : Nat) (j5_33 : F5) (x8 : XV) (h24 : HS) : Ans :=
  kFaddr 1 x8 fun x34 => kLoad h24.ob false 1 x34 fun x35 => kFaddr 2 x8 fun x36 => kLoad h24.ob false 1 x36 fun x37 => kHand h24.ob x35 fun x38 s39 => kHand h24.ob x37 fun x40 s41 => kGo u b none 524 [x38, x40] (apL s39 (apL s41 [])) h24 fun x42 h43 => j5_33 x34 x35 x36 x37 x42 h43
def b459_2 (u : Fn) (b : Nat) (x18 x8 x20 x21 x22 x23 : XV) (h24 : HS) : Ans :=
  kPick x18 x23 ff fun x25 => join (fun _ _ _ _ x30 h31 => kPick x25 x30 ff fun x32 => r459 b x32 h31) fun j5_33 => grdB x25 true (b459_1 u b j5_33 x8 h24) (j5_33 uu uu uu uu uu h24)
def b459_3 (u : Fn) (b : Nat) (x8 : XV) (h9 : HS) : Ans :=
  kLoad h9.ob true 7 x8 fun x15 => kHand h9.ob x15 fun x16 s17 => kGo u b none 523 [x16, tt, ff, ff] (apL s17 []) h9 fun x18 h19 => join (b459_2 u b x18 x8) fun j4_44 => grdB x18 true (kFaddr 6 x8 fun x45 => kLoad h19.ob false 1 x45 fun x46 => kLen false x46 fun x47 => kEql x47 n0 fun x48 => j4_44 x45 x46 x47 x48 h19) (j4_44 uu uu uu uu h19)
def b459_4 (u : Fn) (b : Nat) (x53 x8 x55 x56 x57 x58 : XV) (h59 : HS) : Ans :=
  kPick x53 x58 ff fun x60 => join (fun _ _ x63 h64 => kPick x60 x63 ff fun x65 => r459 b x65 h64) fun j3_66 => grdB x60 true (kFaddr 3 x8 fun x67 => kLoad h59.ob true 2 x67 fun x68 => kHand h59.ob x68 fun x69 s70 => kGo u b none 525 [x69] (apL s70 []) h59 fun x71 h72 => j3_66 x67 x68 x71 h72) (j3_66 uu uu uu h59)
def b459_5 (u : Fn) (b : Nat) (x8 : XV) (h9 : HS) : Ans :=
  kLoad h9.ob true 7 x8 fun x50 => kHand h9.ob x50 fun x51 s52 => kGo u b none 523 [x51, ff, tt, ff] (apL s52 []) h9 fun x53 h54 => join (b459_4 u b x53 x8) fun j4_73 => grdB x53 true (kFaddr 6 x8 fun x74 => kLoad h54.ob false 1 x74 fun x75 => kLen false x75 fun x76 => kEql x76 n0 fun x77 => j4_73 x74 x75 x76 x77 h54) (j4_73 uu uu uu uu h54)
def b459_6 (u : Fn) (b : Nat) (x82 x8 x84 x85 x86 x87 : XV) (h88 : HS) : Ans :=
  kPick x82 x87 ff fun x89 => join (fun _ _ _ x93 h94 => kPick x89 x93 ff fun x95 => r459 b x95 h94) fun j4_96 => grdB x89 true (kFaddr 5 x8 fun x97 => kLoad h88.ob false 1 x97 fun x98 => kLen true x98 fun x99 => kLeq x99 n200 fun x100 => j4_96 x97 x98 x99 x100 h88) (j4_96 uu uu uu uu h88)
def b459_7 (u : Fn) (b : Nat) (x8 : XV) (h9 : HS) : Ans :=
  kLoad h9.ob true 7 x8 fun x79 => kHand h9.ob x79 fun x80 s81 => kGo u b none 523 [x80, ff, ff, tt] (apL s81 []) h9 fun x82 h83 => join (b459_6 u b x82 x8) fun j4_101 => grdB x82 true (kFaddr 6 x8 fun x102 => kLoad h83.ob false 1 x102 fun x103 => kLen false x103 fun x104 => kEql x104 n0 fun x105 => j4_101 x102 x103 x104 x105 h83) (j4_101 uu uu uu uu h83)
def b459_8 (u : Fn) (b : Nat) (j0_11 : F0) (x13 x8 : XV) (h9 : HS) : Ans :=
  kEql x13 n3 fun x78 => cnd x78 (b459_7 u b x8 h9) (j0_11 h9)
def b459_9 (u : Fn) (b : Nat) (j0_11 : F0) (x13 x8 : XV) (h9 : HS) : Ans :=
  kEql x13 n2 fun x49 => cnd x49 (b459_5 u b x8 h9) (b459_8 u b j0_11 x13 x8 h9)
def b459_10 (u : Fn) (b : Nat) (x8 : XV) (h9 : HS) : Ans :=
  join (fun h10 => r459 b ff h10) fun j0_11 => kFaddr 0 x8 fun x12 => kLoad h9.ob false 1 x12 fun x13 => kEql x13 n1 fun x14 => cnd x14 (b459_3 u b x8 h9) (b459_9 u b j0_11 x13 x8 h9)
def b459_11 (u : Fn) (b : Nat) (j1_107 : F1) (x112 : XV) (h113 : HS) : Ans :=
  kFaddr 6 x112 fun x114 => kLoad h113.ob false 1 x114 fun x115 => kIaddr h113.ob 7 x115 n1 fun x116 => kLoad h113.ob true 7 x116 fun x117 => kStore b none 7 x112 x117 h113 fun _ h119 => j1_107 x112 h119
def b459_12 (u : Fn) (b : Nat) (j1_120 : F1) (x129 x110 x130 x131 x132 x133 x134 x135 : XV) (h136 : HS) : Ans :=
  kPick x129 tt x135 fun x137 => cnd x137 (r459 b ff h136) (j1_120 x110 h136)
def b459_13 (u : Fn) (b : Nat) (j6_138 : F6) (x110 : XV) (h128 : HS) : Ans :=
  kFaddr 6 x110 fun x139 => kLoad h128.ob false 1 x139 fun x140 => kIaddr h128.ob 7 x140 n0 fun x141 => kLoad h128.ob true 7 x141 fun x142 => kHand h128.ob x142 fun x143 s144 => kGo u b none 459 [x143] (apL s144 []) h128 fun x145 h146 => kNot x145 fun x147 => j6_138 x139 x140 x141 x142 x145 x147 h146
def b459_14 (u : Fn) (b : Nat) (j1_120 : F1) (x124 x110 x125 x126 x127 : XV) (h128 : HS) : Ans :=
  kPick x124 tt x127 fun x129 => join (b459_12 u b j1_120 x129 x110) fun j6_138 => grdB x129 false (b459_13 u b j6_138 x110 h128) (j6_138 uu uu uu uu uu uu h128)
def b459_15 (u : Fn) (b : Nat) (j1_120 : F1) (x121 x110 : XV) (h111 : HS) : Ans :=
  kLoad h111.ob false 1 x121 fun x122 => kLen false x122 fun x123 => kNeq x123 n2 fun x124 => join (b459_14 u b j1_120 x124 x110) fun j3_148 => grdB x124 false (kLoad h111.ob true 7 x110 fun x149 => kHand h111.ob x149 fun x150 s151 => kGo u b none 523 [x150, ff, ff, ff] (apL s151 []) h111 fun x152 h153 => kNot x152 fun x154 => j3_148 x149 x152 x154 h153) (j3_148 uu uu uu h111)
def b459_16 (u : Fn) (b : Nat) (j1_107 : F1) (x110 : XV) (h111 : HS) : Ans :=
  join (b459_11 u b j1_107) fun j1_120 => kFaddr 6 x110 fun x121 => b459_15 u b j1_120 x121 x110 h111
def b459_17 (u : Fn) (b : Nat) (j1_106 j1_107 : F1) (x108 : XV) (h109 : HS) : Ans :=
  join (b459_16 u b j1_107) fun j1_155 => kFaddr 0 x108 fun x156 => kLoad h109.ob false 1 x156 fun x157 => kEql x157 n4 fun x158 => cnd x158 (j1_155 x108 h109) (j1_106 x108 h109)
def b459_18 (u : Fn) (b : Nat) (x4 : XV) (h5 : HS) : Ans :=
  kBox 46 b 1 none x4 h5 fun x6 h7 => join (b459_10 u b) fun j1_106 => lp [1] 1000000 (b459_17 u b j1_106) x6 h7
def b459 : Bd := fun u l b segs => argK l fun x4 l => argN l (b459_18 u b x4 (hs0 b segs))
def r472 (b : Nat) (x0 : XV) (h1 : HS) : Ans :=
  kHand h1.ob x0 fun q2 s3 => retP b q2 (apL s3 []) h1
def b472_1 (u : Fn) (b : Nat) (j4_10 : F4) (x17 x18 x19 x20 : XV) (h21 : HS) : Ans :=
  join (fun x22 x23 x24 x25 h26 => kAdd x25 n1 fun x27 => j4_10 x22 x23 x24 x27 h26) fun j4_28 => kIaddr h21.ob 11 x17 x20 fun x29 => kLoad h21.ob true 11 x29 fun x30 => kHCallV u b x18 [x30] [] h21 fun x31 h32 => cnd x31 (r472 b x20 h32) (j4_28 x17 x18 x19 x20 h32)
def b472_2 (u : Fn) (b : Nat) (j0_8 : F0) (j4_10 : F4) (x11 x12 x13 x14 : XV) (h15 : HS) : Ans :=
  kLss x14 x13 fun x16 => join (b472_1 u b j4_10) fun j4_33 => cnd x16 (j4_33 x11 x12 x13 x14 h15) (j0_8 h15)
def b472_3 (u : Fn) (b : Nat) (x4 x5 : XV) (h6 : HS) : Ans :=
  join (fun h7 => r472 b m1 h7) fun j0_8 => kLen false x4 fun x9 => lp [0, 1, 7, 8] 1000000 (b472_2 u b j0_8) x4 x5 x9 n0 h6
def b472 : Bd := fun u l b segs => argK l fun x4 l => argK l fun x5 l => argN l (b472_3 u b x4 x5 (hs0 b segs))
def r485 (b : Nat) (x0 : XV) (h1 : HS) : Ans :=
  kHand h1.ob x0 fun q2 s3 => retP b q2 (apL s3 []) h1
def b485_1 (u : Fn) (b : Nat) (j2_21 : F2) (x37 x14 x15 x38 x39 : XV) (h40 : HS) : Ans :=
  kPick x37 x39 ff fun x41 => cnd x41 (r485 b ff h40) (j2_21 x14 x15 h40)
def b485_2 (u : Fn) (b : Nat) (j2_21 : F2) (x27 x14 x15 x22 x35 : XV) (h36 : HS) : Ans :=
  kPick x27 x35 ff fun x37 => join (b485_1 u b j2_21 x37 x14 x15) fun j2_42 => grdB x37 true (kNeq x22 u45 fun x43 => j2_42 x22 x43 h36) (j2_42 uu uu h36)
def b485_3 (u : Fn) (b : Nat) (j2_21 : F2) (x27 x14 x15 x22 x30 x32 x33 : XV) (h34 : HS) : Ans :=
  join (b485_2 u b j2_21 x27 x14 x15 x22) fun j1_44 => grdB x27 true (kPick x30 tt x33 fun x45 => j1_44 x45 h34) (j1_44 uu h34)
def b485_4 (u : Fn) (b : Nat) (j2_21 : F2) (x27 x14 x15 x22 x28 x29 x30 : XV) (h31 : HS) : Ans :=
  join (b485_3 u b j2_21 x27 x14 x15 x22 x30) fun j2_46 => grdB x30 false (kGtr x22 u57 fun x47 => j2_46 x22 x47 h31) (j2_46 uu uu h31)
def b485_5 (u : Fn) (b : Nat) (j2_21 : F2) (x23 x14 x15 x22 x24 x25 : XV) (h26 : HS) : Ans :=
  kPick x23 tt x25 fun x27 => join (b485_4 u b j2_21 x27 x14 x15 x22) fun j3_48 => grdB x27 true (kLss x22 u48 fun x49 => j3_48 x22 x49 x49 h26) (j3_48 uu uu uu h26)
def b485_6 (u : Fn) (b : Nat) (j2_10 : F2) (x14 x15 : XV) (h16 : HS) : Ans :=
  join (fun x17 x18 h19 => kAdd x18 n1 fun x20 => j2_10 x17 x20 h19) fun j2_21 => kSidx x14 x15 fun x22 => kLss x22 u97 fun x23 => join (b485_5 u b j2_21 x23 x14 x15 x22) fun j2_50 => grdB x23 false (kGtr x22 u122 fun x51 => j2_50 x22 x51 h16) (j2_50 uu uu h16)
def b485_7 (u : Fn) (b : Nat) (j0_9 : F0) (j2_10 : F2) (x11 x12 : XV) (h13 : HS) : Ans :=
  join (b485_6 u b j2_10) fun j2_52 => kLen true x11 fun x53 => kLss x12 x53 fun x54 => cnd x54 (j2_52 x11 x12 h13) (j0_9 h13)
def b485_8 (u : Fn) (b : Nat) (x6 : XV) (h7 : HS) : Ans :=
  join (fun h8 => r485 b tt h8) fun j0_9 => lp [0, 3] 1000000 (b485_7 u b j0_9) x6 n0 h7
def b485_9 (u : Fn) (b : Nat) (j1_55 : F1) (x67 x4 x68 x69 x70 : XV) (h71 : HS) : Ans :=
  kPick x67 tt x70 fun x72 => cnd x72 (r485 b ff h71) (j1_55 x4 h71)
def b485_10 (u : Fn) (b : Nat) (j1_55 : F1) (x62 x4 x63 x64 x65 : XV) (h66 : HS) : Ans :=
  kPick x62 tt x65 fun x67 => join (b485_9 u b j1_55 x67 x4) fun j3_73 => grdB x67 false (kSidx x4 n0 fun x74 => kGtr x74 u122 fun x75 => j3_73 x4 x74 x75 h66) (j3_73 uu uu uu h66)
def b485_11 (u : Fn) (b : Nat) (j1_55 : F1) (x57 x4 x58 x59 x60 : XV) (h61 : HS) : Ans :=
  kPick x57 tt x60 fun x62 => join (b485_10 u b j1_55 x62 x4) fun j3_76 => grdB x62 false (kSidx x4 n0 fun x77 => kLss x77 u97 fun x78 => j3_76 x4 x77 x78 h61) (j3_76 uu uu uu h61)
def b485_12 (u : Fn) (b : Nat) (x4 : XV) (h5 : HS) : Ans :=
  join (b485_8 u b) fun j1_55 => kLen true x4 fun x56 => kLss x56 n1 fun x57 => join (b485_11 u b j1_55 x57 x4) fun j3_79 => grdB x57 false (kLen true x4 fun x80 => kGtr x80 n40 fun x81 => j3_79 x4 x80 x81 h5) (j3_79 uu uu uu h5)
def b485 : Bd := fun u l b segs => argK l fun x4 l => argN l (b485_12 u b x4 (hs0 b segs))
def r489 (b : Nat) (h0 : HS) : Ans :=
  retP b (.tup []) [] h0
def b489_1 (u : Fn) (b : Nat) (j1_3 : F1) (x6 : XV) (h19 : HS) : Ans :=
  kNil x6 fun x20 => kFaddr 1 x20 fun x21 => kLoad h19.ob false 1 x21 fun x22 => kAdd x22 n1 fun x23 => kNil x6 fun x24 => kFaddr 1 x24 fun x25 => kStore b none 1 x25 x23 h19 fun _ h27 => j1_3 x6 h27
def b489_2 (u : Fn) (b : Nat) (j1_3 : F1) (x47 x48 : XV) (h49 : HS) : Ans :=
  kNil x47 fun x50 => kFaddr 1 x50 fun x51 => kLoad h49.ob false 1 x51 fun x52 => kAdd x52 x48 fun x53 => kNil x47 fun x54 => kFaddr 1 x54 fun x55 => kStore b none 1 x55 x53 h49 fun _ h57 => j1_3 x47 h57
def b489_3 (u : Fn) (b : Nat) (j2_58 : F2) (x6 : XV) (h46 : HS) : Ans :=
  kNil x6 fun x60 => kFaddr 0 x60 fun x61 => met b [4096, 4098] [x61] <| kLoad h46.ob false 1 x61 fun x62 => kLen true x62 fun x63 => kNil x6 fun x64 => kFaddr 1 x64 fun x65 => met b [4096, 4098] [x65] <| kLoad h46.ob false 1 x65 fun x66 => kSub x63 x66 fun x67 => j2_58 x6 x67 h46
def b489_4 (u : Fn) (b : Nat) (j1_3 : F1) (x40 x38 x6 : XV) (h19 : HS) : Ans :=
  met b [4096, 4098] [x40] <| kLoad h19.ob false 1 x40 fun x41 => kSslice x38 (some x41) none fun x42 => met b [] [x42] <| kHand h19.ob x42 fun x43 s44 => kGo u b (some []) 545 [x43, u10] (apL s44 []) h19 fun x45 h46 => join (b489_2 u b j1_3) fun j2_58 => kLss x45 n0 fun x59 => cnd x59 (b489_3 u b j2_58 x6 h46) (j2_58 x6 x45 h46)
def b489_5 (u : Fn) (b : Nat) (j1_3 : F1) (x6 : XV) (h19 : HS) : Ans :=
  kNil x6 fun x36 => kFaddr 0 x36 fun x37 => met b [4096, 4098] [x37] <| kLoad h19.ob false 1 x37 fun x38 => kNil x6 fun x39 => kFaddr 1 x39 fun x40 => b489_4 u b j1_3 x40 x38 x6 h19
def b489_6 (u : Fn) (b : Nat) (j1_3 : F1) (x6 : XV) (h19 : HS) : Ans :=
  kGoH u b 546 [x6, (.s 2 0x237c)] [] h19 fun x68 h69 => cnd x68 (kHand h69.ob x6 fun x70 s71 => kGo u b none 547 [x70] (apL s71 []) h69 fun _ h73 => j1_3 x6 h73) (r489 b h69)
def b489_7 (u : Fn) (b : Nat) (j1_3 : F1) (x29 x6 : XV) (h19 : HS) : Ans :=
  met b [4096, 4098] [x29] <| kLoad h19.ob false 1 x29 fun x30 => kNil x6 fun x31 => kFaddr 1 x31 fun x32 => met b [4096, 4098] [x32] <| kLoad h19.ob false 1 x32 fun x33 => kSidx x30 x33 fun x34 => kEql x34 u59 fun x35 => cnd x35 (b489_5 u b j1_3 x6 h19) (b489_6 u b j1_3 x6 h19)
def b489_8 (u : Fn) (b : Nat) (j1_3 : F1) (x12 x10 x6 : XV) (h7 : HS) : Ans :=
  met b [4096, 4098] [x12] <| kLoad h7.ob false 1 x12 fun x13 => kSidx x10 x13 fun x14 => kv (vCint .i32 x14) fun x15 => met b [] [x15] <| kHand h7.ob x15 fun x16 s17 => kGo u b (some []) 544 [(.s 4 0x20090a0d), x16] (apL s17 []) h7 fun x18 h19 => cnd x18 (b489_1 u b j1_3 x6 h19) (kNil x6 fun x28 => kFaddr 0 x28 fun x29 => b489_7 u b j1_3 x29 x6 h19)
def b489_9 (u : Fn) (b : Nat) (j1_3 : F1) (x6 : XV) (h7 : HS) : Ans :=
  kNil x6 fun x8 => kFaddr 0 x8 fun x9 => met b [4096, 4098] [x9] <| kLoad h7.ob false 1 x9 fun x10 => kNil x6 fun x11 => kFaddr 1 x11 fun x12 => b489_8 u b j1_3 x12 x10 x6 h7
def b489_10 (u : Fn) (b : Nat) (j1_3 : F1) (x4 : XV) (h5 : HS) : Ans :=
  join (b489_9 u b j1_3) fun j1_74 => kGoH u b 490 [x4] [] h5 fun x75 h76 => cnd x75 (j1_74 x4 h76) (r489 b h76)
def b489_11 (u : Fn) (b : Nat) (x1 : XV) (h2 : HS) : Ans :=
  lp [0] 1000000 (b489_10 u b) x1 h2
def b489 : Bd := fun u l b segs => argK l fun x1 l => argN l (b489_11 u b x1 (hs0 b segs))
def r490 (b : Nat) (x0 : XV) (h1 : HS) : Ans :=
  kHand h1.ob x0 fun q2 s3 => retP b q2 (apL s3 []) h1
def b490_1 (u : Fn) (b : Nat) (x4 : XV) (h5 : HS) : Ans :=
  kNil x4 fun x6 => kFaddr 1 x6 fun x7 => met b [4096, 4098] [x7] <| kLoad h5.ob false 1 x7 fun x8 => kNil x4 fun x9 => kFaddr 0 x9 fun x10 => met b [4096, 4098] [x10] <| kLoad h5.ob false 1 x10 fun x11 => kLen true x11 fun x12 => kLss x8 x12 fun x13 => r490 b x13 h5
def b490 : Bd := fun u l b segs => argK l fun x4 l => argN l (b490_1 u b x4 (hs0 b segs))
def r492 (b : Nat) (h0 : HS) : Ans :=
  retP b (.tup []) [] h0
def b492_1 (u : Fn) (b : Nat) (x3 : XV) (h4 : HS) : Ans :=
  kFaddr 1 x3 fun x9 => kLoad h4.ob false 1 x9 fun x10 => kHand h4.ob x10 fun x11 s12 => kGo u b none 412 [n2, x11] (apL s12 []) h4 fun _ h14 => r492 b h14
def b492_2 (u : Fn) (b : Nat) (x15 : XV) (h17 : HS) : Ans :=
  kFaddr 1 x15 fun x18 => kLoad h17.ob false 1 x18 fun x19 => kHand h17.ob x19 fun x20 s21 => kGo u b none 412 [n3, x20] (apL s21 []) h17 fun _ h23 => r492 b h23
def b492_3 (u : Fn) (b : Nat) (j2_24 : F2) (x29 x3 : XV) (h4 : HS) : Ans :=
  kNeq x29 (.s 0 0) fun x30 => join (fun _ _ _ x34 h35 => kPick x30 x34 ff fun x36 => j2_24 x3 x36 h35) fun j4_37 => grdB x30 true (kFaddr 2 x3 fun x38 => kLoad h4.ob false 1 x38 fun x39 => kHand h4.ob x39 fun x40 s41 => kGo u b none 548 [x40] (apL s41 []) h4 fun x42 h43 => kNot x42 fun x44 => j4_37 x38 x39 x42 x44 h43) (j4_37 uu uu uu uu h4)
def b492_4 (u : Fn) (b : Nat) (x3 : XV) (h4 : HS) : Ans :=
  join (fun x15 x16 h17 => cnd x16 (b492_2 u b x15 h17) (r492 b h17)) fun j2_24 => kFaddr 3 x3 fun x25 => kLoad h4.ob false 1 x25 fun x26 => kEql x26 (.s 0 0) fun x27 => cnd x27 (j2_24 x3 x27 h4) (kFaddr 2 x3 fun x28 => kLoad h4.ob false 1 x28 fun x29 => b492_3 u b j2_24 x29 x3 h4)
def b492_5 (u : Fn) (b : Nat) (x1 : XV) (h2 : HS) : Ans :=
  kBox 363 b 1 none x1 h2 fun x3 h4 => kFaddr 3 x3 fun x5 => kLoad h4.ob false 1 x5 fun x6 => kLen true x6 fun x7 => kGtr x7 n40 fun x8 => cnd x8 (b492_1 u b x3 h4) (b492_4 u b x3 h4)
def b492 : Bd := fun u l b segs => argK l fun x1 l => argN l (b492_5 u b x1 (hs0 b segs))
def r493 (b : Nat) (x0 : XV) (h1 : HS) : Ans :=
  kHand h1.ob x0 fun q2 s3 => retP b q2 (apL s3 []) h1
def b493_1 (u : Fn) (b : Nat) (x6 x4 x7 x8 : XV) (h9 : HS) : Ans :=
  kPick x6 x8 ff fun x10 => join (fun _ _ _ x14 h15 => kPick x10 x14 ff fun x16 => r493 b x16 h15) fun j4_17 => grdB x10 true (kv (vCint .i32 x4) fun x18 => kHand h9.ob x18 fun x19 s20 => kGo u b none 544 [(.s 7 0x282927223b7c3a), x19] (apL s20 []) h9 fun x21 h22 => kNot x21 fun x23 => j4_17 x4 x18 x21 x23 h22) (j4_17 uu uu uu uu h9)
def b493_2 (u : Fn) (b : Nat) (x4 : XV) (h5 : HS) : Ans :=
  kGtr x4 u32 fun x6 => join (b493_1 u b x6 x4) fun j2_24 => grdB x6 true (kLss x4 u127 fun x25 => j2_24 x4 x25 h5) (j2_24 uu uu h5)
def b493 : Bd := fun u l b segs => argK l fun x4 l => argN l (b493_2 u b x4 (hs0 b segs))
def r494 (b : Nat) (x0 : XV) (h1 : HS) : Ans :=
  kCell h1.ob x0 true 5 fun x2 => kHand h1.ob x2 fun q3 s4 => retP b q3 (apL s4 []) h1
def b494_1 (u : Fn) (b : Nat) (j2_30 : F2) (x14 x15 : XV) (h38 : HS) : Ans :=
  kFaddr 1 x14 fun x40 => kLoad h38.ob false 1 x40 fun x41 => kHand h38.ob x41 fun x42 s43 => kGo u b none 412 [n12, x42] (apL s43 []) h38 fun _ h45 => j2_30 x14 x15 h45
def b494_2 (u : Fn) (b : Nat) (j2_30 : F2) (x14 x15 : XV) (h82 : HS) : Ans :=
  kFaddr 1 x14 fun x84 => kLoad h82.ob false 1 x84 fun x85 => kHand h82.ob x85 fun x86 s87 => kGo u b none 412 [n2, x86] (apL s87 []) h82 fun _ h89 => j2_30 x14 x15 h89
def b494_3 (u : Fn) (b : Nat) (j2_30 : F2) (x77 x14 x15 x78 x79 x80 x81 : XV) (h82 : HS) : Ans :=
  kPick x77 tt x81 fun x83 => cnd x83 (b494_2 u b j2_30 x14 x15 h82) (j2_30 x14 x15 h82)
def b494_4 (u : Fn) (b : Nat) (j2_30 : F2) (x72 x14 x15 : XV) (h70 : HS) : Ans :=
  kHand h70.ob x72 fun x73 s74 => kGo u b none 552 [x73] (apL s74 []) h70 fun x75 h76 => kGtr x75 n100 fun x77 => join (b494_3 u b j2_30 x77 x14 x15) fun j4_90 => grdB x77 false (kFaddr 4 x14 fun x91 => kLoad h76.ob false 1 x91 fun x92 => kHand h76.ob x92 fun x93 s94 => kGo u b none 552 [x93] (apL s94 []) h76 fun x95 h96 => kGtr x95 n100 fun x97 => j4_90 x91 x92 x95 x97 h96) (j4_90 uu uu uu uu h76)
def b494_5 (u : Fn) (b : Nat) (j2_30 : F2) (x51 x55 x14 x15 : XV) (h56 : HS) : Ans :=
  kHand h56.ob x51 fun x57 s58 => kHand h56.ob x55 fun x59 s60 => kGo u b none 496 [x57, x59] (apL s58 (apL s60 [])) h56 fun x61 h62 => kExt x61 0 fun x63 => kExt x61 1 fun x64 => kFaddr 3 x14 fun x65 => kStore b none 1 x65 x63 h62 fun _ h67 => kFaddr 4 x14 fun x68 => kStore b none 1 x68 x64 h67 fun _ h70 => kFaddr 3 x14 fun x71 => kLoad h70.ob false 1 x71 fun x72 => b494_4 u b j2_30 x72 x14 x15 h70
def b494_6 (u : Fn) (b : Nat) (j2_30 : F2) (x14 x21 x22 x15 : XV) (h38 : HS) : Ans :=
  kFaddr 0 x14 fun x46 => kStore b none 1 x46 n5 h38 fun _ h48 => kHand h48.ob x21 fun x49 s50 => kGo u b none 551 [x49] (apL s50 []) h48 fun x51 h52 => kHand h52.ob x22 fun x53 s54 => kGo u b none 551 [x53] (apL s54 []) h52 fun x55 h56 => b494_5 u b j2_30 x51 x55 x14 x15 h56
def b494_7 (u : Fn) (b : Nat) (j2_30 : F2) (x14 x13 x15 : XV) (h38 : HS) : Ans :=
  kFaddr 0 x14 fun x98 => kStore b none 1 x98 n6 h38 fun _ h100 => kFaddr 3 x14 fun x101 => kStore b none 1 x101 x13 h100 fun _ h103 => kLoad h103.ob true 5 x14 fun x104 => kHand h103.ob x104 fun x105 s106 => kGo u b none 492 [x105] (apL s106 []) h103 fun _ h108 => j2_30 x14 x15 h108
def b494_8 (u : Fn) (b : Nat) (j2_30 : F2) (x23 x14 x15 x21 x22 x13 x35 x36 x37 : XV) (h38 : HS) : Ans :=
  kPick x23 x37 ff fun x39 => cnd x39 (b494_1 u b j2_30 x14 x15 h38) (cnd x23 (b494_6 u b j2_30 x14 x21 x22 x15 h38) (b494_7 u b j2_30 x14 x13 x15 h38))
def b494_9 (u : Fn) (b : Nat) (j2_30 : F2) (x23 x14 x15 x21 x22 x13 : XV) (h20 : HS) : Ans :=
  join (b494_8 u b j2_30 x23 x14 x15 x21 x22 x13) fun j3_109 => grdB x23 true (kHand h20.ob x22 fun x110 s111 => kGo u b none 550 [x110, (.s 1 0x30)] (apL s111 []) h20 fun x112 h113 => kEql x112 (.s 0 0) fun x114 => j3_109 x22 x112 x114 h113) (j3_109 uu uu uu h20)
def b494_10 (u : Fn) (b : Nat) (x19 x13 x14 x15 x21 x22 : XV) (h20 : HS) : Ans :=
  kExt x19 2 fun x23 => join (fun x24 x25 h26 => kLoad h26.ob true 5 x24 fun x27 => kStore b none 5 x25 x27 h26 fun _ h29 => r494 b x25 h29) fun j2_30 => kEql x13 (.s 1 0x2e) fun x31 => cnd x31 (kFaddr 0 x14 fun x32 => kStore b none 1 x32 n3 h20 fun _ h34 => j2_30 x14 x15 h34) (b494_9 u b j2_30 x23 x14 x15 x21 x22 x13 h20)
def b494_11 (u : Fn) (b : Nat) (x13 x14 x15 : XV) (h16 : HS) : Ans :=
  kHand h16.ob x13 fun x17 s18 => kGo u b none 549 [x17] (apL s18 []) h16 fun x19 h20 => kExt x19 0 fun x21 => kExt x19 1 fun x22 => b494_10 u b x19 x13 x14 x15 x21 x22 h20
def b494_12 (u : Fn) (b : Nat) (x132 x133 : XV) (h134 : HS) : Ans :=
  kLoad h134.ob true 5 x132 fun x135 => kHand h134.ob x135 fun x136 s137 => kGo u b none 492 [x136] (apL s137 []) h134 fun _ h139 => kLoad h139.ob true 5 x132 fun x140 => kStore b none 5 x133 x140 h139 fun _ h142 => r494 b x133 h142
def b494_13 (u : Fn) (b : Nat) (j2_143 : F2) (x5 x9 x11 : XV) (h145 : HS) : Ans :=
  kNil x5 fun x147 => kFaddr 0 x147 fun x148 => kLoad h145.ob false 1 x148 fun x149 => kLen true x149 fun x150 => kHand h145.ob x150 fun x151 s152 => kGo u b none 412 [n11, x151] (apL s152 []) h145 fun _ h154 => j2_143 x9 x11 h154
def b494_14 (u : Fn) (b : Nat) (j2_143 : F2) (x5 x9 x11 : XV) (h145 : HS) : Ans :=
  kHand h145.ob x5 fun x163 s164 => kGo u b none 491 [x163, u124] (apL s164 []) h145 fun x165 h166 => kFaddr 3 x9 fun x167 => kStore b none 1 x167 x165 h166 fun _ h169 => j2_143 x9 x11 h169
def b494_15 (u : Fn) (b : Nat) (j2_143 : F2) (x5 x9 x11 : XV) (h180 : HS) : Ans :=
  kGoH u b 495 [x5] [] h180 fun x181 h182 => kFaddr 3 x9 fun x183 => kStore b none 1 x183 x181 h182 fun _ h185 => j2_143 x9 x11 h185
def b494_16 (u : Fn) (b : Nat) (j2_143 : F2) (x5 x9 x11 : XV) (h180 : HS) : Ans :=
  kNil x5 fun x186 => kFaddr 1 x186 fun x187 => kLoad h180.ob false 1 x187 fun x188 => kHand h180.ob x188 fun x189 s190 => kGo u b none 412 [n12, x189] (apL s190 []) h180 fun _ h192 => j2_143 x9 x11 h192
def b494_17 (u : Fn) (b : Nat) (j2_143 : F2) (x5 x172 x9 x11 : XV) (h145 : HS) : Ans :=
  kNil x5 fun x173 => kFaddr 1 x173 fun x174 => met b [4096, 4098] [x174] <| kLoad h145.ob false 1 x174 fun x175 => kSidx x172 x175 fun x176 => met b [] [x176] <| kHand h145.ob x176 fun x177 s178 => kGo u b (some []) 493 [x177] (apL s178 []) h145 fun x179 h180 => cnd x179 (b494_15 u b j2_143 x5 x9 x11 h180) (b494_16 u b j2_143 x5 x9 x11 h180)
def b494_18 (u : Fn) (b : Nat) (j2_143 : F2) (x5 x9 x11 : XV) (h145 : HS) : Ans :=
  kNil x5 fun x170 => kFaddr 0 x170 fun x171 => met b [4096, 4098] [x171] <| kLoad h145.ob false 1 x171 fun x172 => b494_17 u b j2_143 x5 x172 x9 x11 h145
def b494_19 (u : Fn) (b : Nat) (j2_143 : F2) (x156 x5 x9 x11 : XV) (h145 : HS) : Ans :=
  met b [4096, 4098] [x156] <| kLoad h145.ob false 1 x156 fun x157 => kNil x5 fun x158 => kFaddr 1 x158 fun x159 => met b [4096, 4098] [x159] <| kLoad h145.ob false 1 x159 fun x160 => kSidx x157 x160 fun x161 => kEql x161 u124 fun x162 => cnd x162 (b494_14 u b j2_143 x5 x9 x11 h145) (b494_18 u b j2_143 x5 x9 x11 h145)
def b494_20 (u : Fn) (b : Nat) (x9 x7 x5 x11 : XV) (h128 : HS) : Ans :=
  kFaddr 2 x9 fun x129 => kStore b none 1 x129 x7 h128 fun _ h131 => join (b494_12 u b) fun j2_143 => kGoH u b 490 [x5] [] h131 fun x144 h145 => kNot x144 fun x146 => cnd x146 (b494_13 u b j2_143 x5 x9 x11 h145) (kNil x5 fun x155 => kFaddr 0 x155 fun x156 => b494_19 u b j2_143 x156 x5 x9 x11 h145)
def b494_21 (u : Fn) (b : Nat) (x5 x9 x7 x11 : XV) (h117 : HS) : Ans :=
  kNil x5 fun x118 => kFaddr 1 x118 fun x119 => kLoad h117.ob false 1 x119 fun x120 => kAdd x120 n2 fun x121 => kNil x5 fun x122 => kFaddr 1 x122 fun x123 => kStore b none 1 x123 x121 h117 fun _ h125 => kFaddr 0 x9 fun x126 => kStore b none 1 x126 n6 h125 fun _ h128 => b494_20 u b x9 x7 x5 x11 h128
def b494_22 (u : Fn) (b : Nat) (x6 x5 x7 : XV) (h8 : HS) : Ans :=
  kBox 363 b 4 none x6 h8 fun x9 h10 => kAlloc 363 b 6 none [n0, n0, (.s 0 0), (.s 0 0), (.s 0 0)] h10 fun x11 h12 => join (b494_11 u b) fun j3_115 => kGoH u b 546 [x5, (.s 2 0x3a3a)] [] h12 fun x116 h117 => cnd x116 (b494_21 u b x5 x9 x7 x11 h117) (j3_115 x7 x9 x11 h117)
def b494 : Bd := fun u l b segs => argK l fun x5 l => argK l fun x6 l => argK l fun x7 l => argN l (b494_22 u b x6 x5 x7 (hs0 b segs))
def r495 (b : Nat) (x0 : XV) (h1 : HS) : Ans :=
  kHand h1.ob x0 fun q2 s3 => retP b q2 (apL s3 []) h1
def b495_1 (u : Fn) (b : Nat) (x9 x10 : XV) (h11 : HS) : Ans :=
  kNil x9 fun x12 => kFaddr 0 x12 fun x13 => met b [4096, 4098] [x13] <| kLoad h11.ob false 1 x13 fun x14 => kNil x9 fun x15 => kFaddr 1 x15 fun x16 => met b [4096, 4098] [x16] <| kLoad h11.ob false 1 x16 fun x17 => kSslice x14 (some x10) (some x17) fun x18 => r495 b x18 h11
def b495_2 (u : Fn) (b : Nat) (j2_20 : F2) (x24 x25 : XV) (h26 : HS) : Ans :=
  kNil x24 fun x27 => kFaddr 1 x27 fun x28 => kLoad h26.ob false 1 x28 fun x29 => kAdd x29 n1 fun x30 => kNil x24 fun x31 => kFaddr 1 x31 fun x32 => kStore b none 1 x32 x30 h26 fun _ h34 => j2_20 x24 x25 h34
def b495_3 (u : Fn) (b : Nat) (j2_35 j2_19 : F2) (x36 x21 x22 x38 x39 x40 x41 x42 x43 x44 x45 x46 x47 : XV) (h48 : HS) : Ans :=
  kPick x36 x47 ff fun x49 => cnd x49 (j2_35 x21 x22 h48) (j2_19 x21 x22 h48)
def b495_4 (u : Fn) (b : Nat) (j10_50 : F10) (x52 x21 x51 : XV) (h37 : HS) : Ans :=
  met b [4096, 4098] [x52] <| kLoad h37.ob false 1 x52 fun x53 => kNil x21 fun x54 => kFaddr 1 x54 fun x55 => met b [4096, 4098] [x55] <| kLoad h37.ob false 1 x55 fun x56 => kSidx x53 x56 fun x57 => met b [] [x57] <| kHand h37.ob x57 fun x58 s59 => kGo u b (some []) 493 [x58] (apL s59 []) h37 fun x60 h61 => j10_50 x21 x51 x52 x53 x21 x54 x55 x56 x57 x60 h61
def b495_5 (u : Fn) (b : Nat) (j2_19 j2_20 : F2) (x21 x22 : XV) (h23 : HS) : Ans :=
  join (b495_2 u b j2_20) fun j2_35 => kGoHD u b [4096, 4098] 490 [x21] [] h23 fun x36 h37 => join (b495_3 u b j2_35 j2_19 x36 x21 x22) fun j10_50 => grdB x36 true (kNil x21 fun x51 => kFaddr 0 x51 fun x52 => b495_4 u b j10_50 x52 x21 x51 h37) (j10_50 uu uu uu uu uu uu uu uu uu uu h37)
def b495_6 (u : Fn) (b : Nat) (x4 : XV) (h5 : HS) : Ans :=
  kNil x4 fun x6 => kFaddr 1 x6 fun x7 => kLoad h5.ob false 1 x7 fun x8 => join (b495_1 u b) fun j2_19 => lp [0, 3] 1000000 (b495_5 u b j2_19) x4 x8 h5
def b495 : Bd := fun u l b segs => argK l fun x4 l => argN l (b495_6 u b x4 (hs0 b segs))
def r497 (b : Nat) (x0 x1 : XV) (h2 : HS) : Ans :=
  kCell h2.ob x0 true 2 fun x3 => kHand h2.ob x3 fun q4 s5 => kHand h2.ob x1 fun q6 s7 => retP b (.tup [q4, q6]) (apL s5 (apL s7 [])) h2
def b497_1 (u : Fn) (b : Nat) (j5_41 : F5) (x42 x28 x29 x30 x31 x32 : XV) (h33 : HS) : Ans :=
  kLoad h33.ob true 2 x42 fun x43 => kAlloc 64 b 7 none [(.s 0 0), .nl] h33 fun x44 h45 => kStore b none 2 x44 x43 h45 fun _ h47 => kFaddr 0 x44 fun x48 => kLoad h47.ob false 1 x48 fun x49 => kEql x49 x28 fun x50 => cnd x50 (kLoad h47.ob true 2 x44 fun x51 => kStore b none 2 x29 x51 h47 fun _ h53 => r497 b x29 tt h53) (j5_41 x28 x29 x30 x31 x32 h47)
def b497_2 (u : Fn) (b : Nat) (j5_20 : F5) (x28 x29 x30 x31 x32 : XV) (h33 : HS) : Ans :=
  join (fun x34 x35 x36 x37 x38 h39 => kAdd x38 n1 fun x40 => j5_20 x34 x35 x36 x37 x40 h39) fun j5_41 => kIaddr h33.ob 2 x30 x32 fun x42 => b497_1 u b j5_41 x42 x28 x29 x30 x31 x32 h33
def b497_3 (u : Fn) (b : Nat) (j1_18 : F1) (j5_20 : F5) (x21 x22 x23 x24 x25 : XV) (h26 : HS) : Ans :=
  kLss x25 x24 fun x27 => join (b497_2 u b j5_20) fun j5_54 => cnd x27 (j5_54 x21 x22 x23 x24 x25 h26) (j1_18 x22 h26)
def b497_4 (u : Fn) (b : Nat) (x8 x9 : XV) (h10 : HS) : Ans :=
  kAlloc 64 b 4 none [(.s 0 0), .nl] h10 fun x11 h12 => join (fun x13 h14 => kAgg [(.s 0 0), .nl] fun x15 => kStore b none 2 x13 x15 h14 fun _ h17 => r497 b x13 ff h17) fun j1_18 => kLen false x8 fun x19 => lp [1, 4, 8, 9, 10] 1000000 (b497_3 u b j1_18) x9 x11 x8 x19 n0 h12
def b497 : Bd := fun u l b segs => argK l fun x8 l => argK l fun x9 l => argN l (b497_4 u b x8 x9 (hs0 b segs))
def r498 (b : Nat) (x0 : XV) (h1 : HS) : Ans :=
  kCell h1.ob x0 true 7 fun x2 => kHand h1.ob x2 fun q3 s4 => retP b q3 (apL s4 []) h1
def b498_1 (u : Fn) (b : Nat) (x8 x10 : XV) (h11 : HS) : Ans :=
  kAlloc 46 b 4 none [n0, (.s 0 0), (.s 0 0), (.s 0 0), (.s 0 0), (.s 0 0), .nl] h11 fun x12 h13 => kLoad h13.ob true 7 x8 fun x14 => kLoad h13.ob true 7 x10 fun x15 => kElt h13.ob 7 0 x14 (repL 2 [n0, (.s 0 0), (.s 0 0), (.s 0 0), (.s 0 0), (.s 0 0), .nl]) fun c16 s17 => kElt h13.ob 7 1 x15 c16 fun c18 s19 => kSl b 2055 none 46 7 2 false c18 (apL s17 (apL s19 [])) h13 fun x20 h21 => kPart 0 1 n4 [n0, (.s 0 0), (.s 0 0), (.s 0 0), (.s 0 0), (.s 0 0), .nl] fun c22 => kPart 6 1 x20 c22 fun c23 => kAgg c23 fun x24 => kStore b none 7 x12 x24 h21 fun _ h26 => r498 b x12 h26
def b498_2 (u : Fn) (b : Nat) (x5 x6 : XV) (h7 : HS) : Ans :=
  kBox 46 b 2 none x5 h7 fun x8 h9 => kBox 46 b 3 none x6 h9 fun x10 h11 => b498_1 u b x8 x10 h11
def b498 : Bd := fun u l b segs => argK l fun x5 l => argK l fun x6 l => argN l (b498_2 u b x5 x6 (hs0 b segs))
def r500 (b : Nat) (x0 : XV) (h1 : HS) : Ans :=
  kHand h1.ob x0 fun q2 s3 => retP b q2 (apL s3 []) h1
def b500_1 (u : Fn) (b : Nat) (x10 x7 x5 : XV) (h8 : HS) : Ans :=
  kEql x10 n2 fun x11 => join (fun _ _ _ _ x16 h17 => kPick x11 x16 ff fun x18 => r500 b x18 h17) fun j5_19 => grdB x11 true (kFaddr 5 x7 fun x20 => kFaddr 0 x20 fun x21 => kLoad h8.ob true 2 x21 fun x22 => kLoad h8.ob true 2 x5 fun x23 => kEqs false x22 x23 fun x24 => j5_19 x20 x21 x22 x23 x24 h8) (j5_19 uu uu uu uu uu h8)
def b500_2 (u : Fn) (b : Nat) (x4 x5 : XV) (h6 : HS) : Ans :=
  kBox 74 b 2 none x4 h6 fun x7 h8 => kFaddr 0 x7 fun x9 => kLoad h8.ob false 1 x9 fun x10 => b500_1 u b x10 x7 x5 h8
def b500 : Bd := fun u l b segs => argK l fun x4 l => argK l fun x5 l => argN l (b500_2 u b x4 x5 (hs0 b segs))
def r501 (b : Nat) (x0 : XV) (h1 : HS) : Ans :=
  kHand h1.ob x0 fun q2 s3 => retP b q2 (apL s3 []) h1
def b501_1 (u : Fn) (b : Nat) (x4 x5 : XV) (h6 : HS) : Ans :=
  kHand h6.ob x4 fun x7 s8 => kHand h6.ob x5 fun x9 s10 => kGo u b none 557 [x7, x9] (apL s8 (apL s10 [])) h6 fun x11 h12 => kGeq x11 n0 fun x13 => r501 b x13 h12
def b501 : Bd := fun u l b segs => argK l fun x4 l => argK l fun x5 l => argN l (b501_1 u b x4 x5 (hs0 b segs))
def r512 (b : Nat) (x0 : XV) (h1 : HS) : Ans :=
  kHand h1.ob x0 fun q2 s3 => retP b q2 (apL s3 []) h1
def b512_1 (u : Fn) (b : Nat) (x4 x5 : XV) (h6 : HS) : Ans :=
  kHand h6.ob x4 fun x7 s8 => kHand h6.ob x5 fun x9 s10 => kGo u b none 566 [x7, x9] (apL s8 (apL s10 [])) h6 fun x11 h12 => r512 b x11 h12
def b512 : Bd := fun u l b segs => argK l fun x4 l => argK l fun x5 l => argN l (b512_1 u b x4 x5 (hs0 b segs))
def r523 (b : Nat) (x0 : XV) (h1 : HS) : Ans :=
  kHand h1.ob x0 fun q2 s3 => retP b q2 (apL s3 []) h1
def b523_1 (u : Fn) (b : Nat) (x33 x35 x37 x38 x39 : XV) (h40 : HS) : Ans :=
  join (fun x41 h42 => kPick x33 x41 ff fun x43 => r523 b x43 h42) fun j1_44 => grdB x33 true (kPick x35 tt x39 fun x45 => j1_44 x45 h40) (j1_44 uu h40)
def b523_2 (u : Fn) (b : Nat) (x33 x9 x34 x35 : XV) (h36 : HS) : Ans :=
  join (b523_1 u b x33 x35) fun j3_46 => grdB x35 false (kFaddr 5 x9 fun x47 => kLoad h36.ob false 1 x47 fun x48 => kEql x48 (.s 0 0) fun x49 => j3_46 x47 x48 x49 h36) (j3_46 uu uu uu h36)
def b523_3 (u : Fn) (b : Nat) (x22 x9 x7 x31 : XV) (h32 : HS) : Ans :=
  kPick x22 x31 ff fun x33 => join (b523_2 u b x33 x9) fun j2_50 => grdB x33 true (j2_50 x7 x7 h32) (j2_50 uu uu h32)
def b523_4 (u : Fn) (b : Nat) (x22 x9 x7 x24 x26 x27 x28 x29 : XV) (h30 : HS) : Ans :=
  join (b523_3 u b x22 x9 x7) fun j1_51 => grdB x22 true (kPick x24 tt x29 fun x52 => j1_51 x52 h30) (j1_51 uu h30)
def b523_5 (u : Fn) (b : Nat) (x22 x9 x7 x23 x24 : XV) (h25 : HS) : Ans :=
  join (b523_4 u b x22 x9 x7 x24) fun j4_53 => grdB x24 false (kFaddr 3 x9 fun x54 => kLoad h25.ob true 2 x54 fun x55 => kAgg [(.s 0 0), (.s 0 0)] fun x56 => kEqs false x55 x56 fun x57 => j4_53 x54 x55 x56 x57 h25) (j4_53 uu uu uu uu h25)
def b523_6 (u : Fn) (b : Nat) (x5 x9 x7 x6 x20 : XV) (h21 : HS) : Ans :=
  kPick x5 tt x20 fun x22 => join (b523_5 u b x22 x9 x7) fun j2_58 => grdB x22 true (j2_58 x6 x6 h21) (j2_58 uu uu h21)
def b523_7 (u : Fn) (b : Nat) (x5 x9 x7 x6 x14 x16 x17 x18 : XV) (h19 : HS) : Ans :=
  join (b523_6 u b x5 x9 x7 x6) fun j1_59 => grdB x5 false (kPick x14 x18 ff fun x60 => j1_59 x60 h19) (j1_59 uu h19)
def b523_8 (u : Fn) (b : Nat) (x5 x9 x7 x6 x11 x12 x13 x14 : XV) (h15 : HS) : Ans :=
  join (b523_7 u b x5 x9 x7 x6 x14) fun j3_61 => grdB x14 true (kFaddr 2 x9 fun x62 => kLoad h15.ob false 1 x62 fun x63 => kEql x63 (.s 0 0) fun x64 => j3_61 x62 x63 x64 h15) (j3_61 uu uu uu h15)
def b523_9 (u : Fn) (b : Nat) (x4 x5 x7 x6 : XV) (h8 : HS) : Ans :=
  kBox 46 b 4 none x4 h8 fun x9 h10 => join (b523_8 u b x5 x9 x7 x6) fun j4_65 => grdB x5 false (kFaddr 1 x9 fun x66 => kLoad h10.ob false 1 x66 fun x67 => kEql x67 (.s 0 0) fun x68 => j4_65 x66 x67 x68 x68 h10) (j4_65 uu uu uu uu h10)
def b523 : Bd := fun u l b segs => argK l fun x4 l => argK l fun x5 l => argK l fun x6 l => argK l fun x7 l => argN l (b523_9 u b x4 x5 x7 x6 (hs0 b segs))
def r525 (b : Nat) (x0 : XV) (h1 : HS) : Ans :=
  kHand h1.ob x0 fun q2 s3 => retP b q2 (apL s3 []) h1
def b525_1 (u : Fn) (b : Nat) (j3_30 : F3) (x39 x21 x22 x23 x59 : XV) (h60 : HS) : Ans :=
  kPick x39 x59 ff fun x61 => cnd x61 (r525 b ff h60) (j3_30 x21 x22 x23 h60)
def b525_2 (u : Fn) (b : Nat) (j3_30 : F3) (x39 x21 x22 x23 x42 x57 : XV) (h58 : HS) : Ans :=
  join (b525_1 u b j3_30 x39 x21 x22 x23) fun j1_62 => grdB x39 true (kPick x42 tt x57 fun x63 => j1_62 x63 h58) (j1_62 uu h58)
def b525_3 (u : Fn) (b : Nat) (j3_30 : F3) (x39 x21 x22 x23 x42 x46 x55 : XV) (h56 : HS) : Ans :=
  join (b525_2 u b j3_30 x39 x21 x22 x23 x42) fun j1_64 => grdB x42 false (kPick x46 x55 ff fun x65 => j1_64 x65 h56) (j1_64 uu h56)
def b525_4 (u : Fn) (b : Nat) (j3_30 : F3) (x39 x21 x22 x23 x42 x46 x50 x52 x53 : XV) (h54 : HS) : Ans :=
  join (b525_3 u b j3_30 x39 x21 x22 x23 x42 x46) fun j1_66 => grdB x46 true (kPick x50 tt x53 fun x67 => j1_66 x67 h54) (j1_66 uu h54)
def b525_5 (u : Fn) (b : Nat) (j3_30 : F3) (x39 x21 x22 x23 x42 x46 x33 x48 x49 x50 : XV) (h51 : HS) : Ans :=
  join (b525_4 u b j3_30 x39 x21 x22 x23 x42 x46 x50) fun j2_68 => grdB x50 false (kGtr x33 u57 fun x69 => j2_68 x33 x69 h51) (j2_68 uu uu h51)
def b525_6 (u : Fn) (b : Nat) (j3_30 : F3) (x39 x21 x22 x23 x42 x33 x44 x45 x46 : XV) (h47 : HS) : Ans :=
  join (b525_5 u b j3_30 x39 x21 x22 x23 x42 x46 x33) fun j3_70 => grdB x46 true (kLss x33 u48 fun x71 => j3_70 x33 x71 x71 h47) (j3_70 uu uu uu h47)
def b525_7 (u : Fn) (b : Nat) (j3_30 : F3) (x39 x21 x22 x23 x33 x40 x41 x42 : XV) (h43 : HS) : Ans :=
  join (b525_6 u b j3_30 x39 x21 x22 x23 x42 x33) fun j3_72 => grdB x42 false (kNeq x33 u45 fun x73 => j3_72 x33 x73 x73 h43) (j3_72 uu uu uu h43)
def b525_8 (u : Fn) (b : Nat) (j3_30 : F3) (x34 x21 x22 x23 x33 x35 x36 : XV) (h37 : HS) : Ans :=
  kPick x34 x36 ff fun x38 => kNot x38 fun x39 => join (b525_7 u b j3_30 x39 x21 x22 x23 x33) fun j3_74 => grdB x39 true (kEql x23 n0 fun x75 => j3_74 x23 x75 x75 h37) (j3_74 uu uu uu h37)
def b525_9 (u : Fn) (b : Nat) (j3_15 : F3) (x21 x22 x23 : XV) (h24 : HS) : Ans :=
  join (fun x25 x26 x27 h28 => kAdd x27 n1 fun x29 => j3_15 x25 x26 x29 h28) fun j3_30 => kFaddr 0 x21 fun x31 => kLoad h24.ob false 1 x31 fun x32 => kSidx x32 x23 fun x33 => kGeq x33 u97 fun x34 => join (b525_8 u b j3_30 x34 x21 x22 x23 x33) fun j2_76 => grdB x34 true (kLeq x33 u122 fun x77 => j2_76 x33 x77 h24) (j2_76 uu uu h24)
def b525_10 (u : Fn) (b : Nat) (j0_11 : F0) (j3_15 : F3) (x16 x17 x18 : XV) (h19 : HS) : Ans :=
  kLss x18 x17 fun x20 => join (b525_9 u b j3_15) fun j3_78 => cnd x20 (j3_78 x16 x17 x18 h19) (j0_11 h19)
def b525_11 (u : Fn) (b : Nat) (x8 : XV) (h9 : HS) : Ans :=
  join (fun h10 => r525 b tt h10) fun j0_11 => kFaddr 0 x8 fun x12 => kLoad h9.ob false 1 x12 fun x13 => kLen true x13 fun x14 => lp [1, 30, 31] 1000000 (b525_10 u b j0_11) x8 x14 n0 h9
def b525_12 (u : Fn) (b : Nat) (j1_79 : F1) (x95 x6 x96 x97 x98 x99 : XV) (h100 : HS) : Ans :=
  kPick x95 tt x99 fun x101 => cnd x101 (r525 b ff h100) (j1_79 x6 h100)
def b525_13 (u : Fn) (b : Nat) (j1_79 : F1) (x89 x6 x90 x91 x92 x93 : XV) (h94 : HS) : Ans :=
  kPick x89 tt x93 fun x95 => join (b525_12 u b j1_79 x95 x6) fun j4_102 => grdB x95 false (kFaddr 1 x6 fun x103 => kLoad h94.ob false 1 x103 fun x104 => kLen true x104 fun x105 => kGtr x105 n40 fun x106 => j4_102 x103 x104 x105 x106 h94) (j4_102 uu uu uu uu h94)
def b525_14 (u : Fn) (b : Nat) (j1_79 : F1) (x83 x6 x84 x85 x86 x87 : XV) (h88 : HS) : Ans :=
  kPick x83 tt x87 fun x89 => join (b525_13 u b j1_79 x89 x6) fun j4_107 => grdB x89 false (kFaddr 1 x6 fun x108 => kLoad h88.ob false 1 x108 fun x109 => kLen true x109 fun x110 => kLss x110 n1 fun x111 => j4_107 x108 x109 x110 x111 h88) (j4_107 uu uu uu uu h88)
def b525_15 (u : Fn) (b : Nat) (j1_79 : F1) (x80 x6 : XV) (h7 : HS) : Ans :=
  kLoad h7.ob false 1 x80 fun x81 => kLen true x81 fun x82 => kLss x82 n1 fun x83 => join (b525_14 u b j1_79 x83 x6) fun j4_112 => grdB x83 false (kFaddr 0 x6 fun x113 => kLoad h7.ob false 1 x113 fun x114 => kLen true x114 fun x115 => kGtr x115 n40 fun x116 => j4_112 x113 x114 x115 x116 h7) (j4_112 uu uu uu uu h7)
def b525_16 (u : Fn) (b : Nat) (x4 : XV) (h5 : HS) : Ans :=
  kBox 43 b 1 none x4 h5 fun x6 h7 => join (b525_11 u b) fun j1_79 => kFaddr 0 x6 fun x80 => b525_15 u b j1_79 x80 x6 h7
def b525 : Bd := fun u l b segs => argK l fun x4 l => argN l (b525_16 u b x4 (hs0 b segs))
def r544 (b : Nat) (x0 : XV) (h1 : HS) : Ans :=
  kHand h1.ob x0 fun q2 s3 => retP b q2 (apL s3 []) h1
def b544_1 (u : Fn) (b : Nat) (x4 x5 : XV) (h6 : HS) : Ans :=
  kHand h6.ob x4 fun x7 s8 => kHand h6.ob x5 fun x9 s10 => kGo u b none 602 [x7, x9] (apL s8 (apL s10 [])) h6 fun x11 h12 => kGeq x11 n0 fun x13 => r544 b x13 h12
def b544 : Bd := fun u l b segs => argK l fun x4 l => argK l fun x5 l => argN l (b544_1 u b x4 x5 (hs0 b segs))
def r545 (b : Nat) (x0 : XV) (h1 : HS) : Ans :=
  kHand h1.ob x0 fun q2 s3 => retP b q2 (apL s3 []) h1
def b545_1 (u : Fn) (b : Nat) (x4 x5 : XV) (h6 : HS) : Ans :=
  kHand h6.ob x4 fun x7 s8 => kHand h6.ob x5 fun x9 s10 => kGo u b none 603 [x7, x9] (apL s8 (apL s10 [])) h6 fun x11 h12 => r545 b x11 h12
def b545 : Bd := fun u l b segs => argK l fun x4 l => argK l fun x5 l => argN l (b545_1 u b x4 x5 (hs0 b segs))
def r546 (b : Nat) (x0 : XV) (h1 : HS) : Ans :=
  kHand h1.ob x0 fun q2 s3 => retP b q2 (apL s3 []) h1
def b546_1 (u : Fn) (b : Nat) (x8 x4 x5 : XV) (h6 : HS) : Ans :=
  met b [4096, 4098] [x8] <| kLoad h6.ob false 1 x8 fun x9 => kNil x4 fun x10 => kFaddr 1 x10 fun x11 => met b [4096, 4098] [x11] <| kLoad h6.ob false 1 x11 fun x12 => kSslice x9 (some x12) none fun x13 => met b [] [x13, x5] <| kHand h6.ob x13 fun x14 s15 => kHand h6.ob x5 fun x16 s17 => kGo u b (some []) 604 [x14, x16] (apL s15 (apL s17 [])) h6 fun x18 h19 => r546 b x18 h19
def b546_2 (u : Fn) (b : Nat) (x4 x5 : XV) (h6 : HS) : Ans :=
  kNil x4 fun x7 => kFaddr 0 x7 fun x8 => b546_1 u b x8 x4 x5 h6
def b546 : Bd := fun u l b segs => argK l fun x4 l => argK l fun x5 l => argN l (b546_2 u b x4 x5 (hs0 b segs))
def r549 (b : Nat) (x0 x1 x2 : XV) (h3 : HS) : Ans :=
  kHand h3.ob x0 fun q4 s5 => kHand h3.ob x1 fun q6 s7 => kHand h3.ob x2 fun q8 s9 => retP b (.tup [q4, q6, q8]) (apL s5 (apL s7 (apL s9 []))) h3
def b549_1 (u : Fn) (b : Nat) (x19 x20 : XV) (h21 : HS) : Ans :=
  kHand h21.ob x19 fun x22 s23 => kGo u b none 607 [x22, (.s 1 0x2d)] (apL s23 []) h21 fun x24 h25 => kHand h25.ob x24 fun x26 s27 => kGo u b none 606 [x26] (apL s27 []) h25 fun x28 h29 => join (fun _ x31 h32 => kPick x28 x31 ff fun x33 => r549 b x19 x20 x33 h32) fun j2_34 => grdB x28 true (kHand h29.ob x20 fun x35 s36 => kGo u b none 606 [x35] (apL s36 []) h29 fun x37 h38 => j2_34 x20 x37 h38) (j2_34 uu uu h29)
def b549_2 (u : Fn) (b : Nat) (x10 : XV) (h11 : HS) : Ans :=
  kHand h11.ob x10 fun x12 s13 => kGo u b none 605 [x12, (.s 1 0x2f)] (apL s13 []) h11 fun x14 h15 => kExt x14 0 fun x16 => kExt x14 1 fun x17 => kExt x14 2 fun x18 => join (b549_1 u b) fun j2_39 => kNot x18 fun x40 => cnd x40 (j2_39 x16 (.s 1 0x31) h15) (j2_39 x16 x17 h15)
def b549 : Bd := fun u l b segs => argK l fun x10 l => argN l (b549_2 u b x10 (hs0 b segs))
def r550 (b : Nat) (x0 : XV) (h1 : HS) : Ans :=
  kHand h1.ob x0 fun q2 s3 => retP b q2 (apL s3 []) h1
def b550_1 (u : Fn) (b : Nat) (x13 x14 : XV) (h15 : HS) : Ans :=
  kHand h15.ob x13 fun x16 s17 => kHand h15.ob x14 fun x18 s19 => kGo u b none 614 [x16, x18] (apL s17 (apL s19 [])) h15 fun x20 h21 => kHand h21.ob x20 fun x22 s23 => kHand h21.ob x14 fun x24 s25 => kGo u b none 613 [x22, x24] (apL s23 (apL s25 [])) h21 fun x26 h27 => r550 b x26 h27
def b550_2 (u : Fn) (b : Nat) (x10 x35 : XV) (h38 : HS) : Ans :=
  kHand h38.ob x10 fun x39 s40 => kGoH u b 612 [x39, x35] (apL s40 []) h38 fun x41 h42 => kHand h42.ob x41 fun x43 s44 => kGoH u b 611 [x43, x35] (apL s44 []) h42 fun x45 h46 => r550 b x45 h46
def b550_3 (u : Fn) (b : Nat) (x10 x11 : XV) (h12 : HS) : Ans :=
  join (b550_1 u b) fun j2_28 => kHand h12.ob x11 fun x29 s30 => kGo u b none 610 [x29] (apL s30 []) h12 fun x31 h32 => kExt x31 0 fun x33 => kExt x31 1 fun x34 => kAlloc 563 b 5 none [ff, ff, ff, ff, ff, ff, ff, ff, ff, ff, ff, ff, ff, ff, ff, ff, ff, ff, ff, ff, ff, ff, ff, ff, ff, ff, ff, ff, ff, ff, ff, ff, ff, ff, ff, ff, ff, ff, ff, ff, ff, ff, ff, ff, ff, ff, ff, ff, ff, ff, ff, ff, ff, ff, ff, ff, ff, ff, ff, ff, ff, ff, ff, ff, ff, ff, ff, ff, ff, ff, ff, ff, ff, ff, ff, ff, ff, ff, ff, ff, ff, ff, ff, ff, ff, ff, ff, ff, ff, ff, ff, ff, ff, ff, ff, ff, ff, ff, ff, ff, ff, ff, ff, ff, ff, ff, ff, ff, ff, ff, ff, ff, ff, ff, ff, ff, ff, ff, ff, ff, ff, ff, ff, ff, ff, ff, ff, ff, ff, ff, ff, ff, ff, ff, ff, ff, ff, ff, ff, ff, ff, ff, ff, ff, ff, ff, ff, ff, ff, ff, ff, ff, ff, ff, ff, ff, ff, ff, ff, ff, ff, ff, ff, ff, ff, ff, ff, ff, ff, ff, ff, ff, ff, ff, ff, ff, ff, ff, ff, ff, ff, ff, ff, ff, ff, ff, ff, ff, ff, ff, ff, ff, ff, ff, ff, ff, ff, ff, ff, ff, ff, ff, ff, ff, ff, ff, ff, ff, ff, ff, ff, ff, ff, ff, ff, ff, ff, ff, ff, ff, ff, ff, ff, ff, ff, ff, ff, ff, ff, ff, ff, ff, ff, ff, ff, ff, ff, ff, ff, ff, ff, ff, ff, ff, ff, ff, ff, ff, ff, ff, ff, ff, ff, ff, ff, ff] h32 fun x35 h36 => kStore b none 256 x35 x33 h36 fun _ h38 => cnd x34 (b550_2 u b x10 x35 h38) (j2_28 x10 x11 h38)
def b550_4 (u : Fn) (b : Nat) (x8 x7 : XV) (h53 : HS) : Ans :=
  kSidx x8 n0 fun x55 => met b [] [x7, x55] <| kHand h53.ob x7 fun x56 s57 => kHand h53.ob x55 fun x58 s59 => kGo u b (some []) 609 [x56, x58] (apL s57 (apL s59 [])) h53 fun x60 h61 => kSidx x8 n0 fun x62 => met b [] [x60, x62] <| kHand h61.ob x60 fun x63 s64 => kHand h61.ob x62 fun x65 s66 => kGo u b (some []) 608 [x63, x65] (apL s64 (apL s66 [])) h61 fun x67 h68 => r550 b x67 h68
def b550_5 (u : Fn) (b : Nat) (j2_47 : F2) (x49 x8 x7 x50 x51 x52 : XV) (h53 : HS) : Ans :=
  kPick x49 x52 ff fun x54 => cnd x54 (b550_4 u b x8 x7 h53) (j2_47 x7 x8 h53)
def b550_6 (u : Fn) (b : Nat) (x7 x8 : XV) (h9 : HS) : Ans :=
  join (b550_3 u b) fun j2_47 => kLen true x8 fun x48 => kEql x48 n1 fun x49 => join (b550_5 u b j2_47 x49 x8 x7) fun j3_69 => grdB x49 true (kSidx x8 n0 fun x70 => kLss x70 u128 fun x71 => j3_69 x8 x70 x71 h9) (j3_69 uu uu uu h9)
def b550_7 (u : Fn) (b : Nat) (j2_72 : F2) (x73 x4 x5 x74 x75 : XV) (h76 : HS) : Ans :=
  kPick x73 tt x75 fun x77 => cnd x77 (r550 b x4 h76) (j2_72 x4 x5 h76)
def b550_8 (u : Fn) (b : Nat) (x4 x5 : XV) (h6 : HS) : Ans :=
  join (b550_6 u b) fun j2_72 => kEql x4 (.s 0 0) fun x73 => join (b550_7 u b j2_72 x73 x4 x5) fun j2_78 => grdB x73 false (kEql x5 (.s 0 0) fun x79 => j2_78 x5 x79 h6) (j2_78 uu uu h6)
def b550 : Bd := fun u l b segs => argK l fun x4 l => argK l fun x5 l => argN l (b550_8 u b x4 x5 (hs0 b segs))
def r553 (b : Nat) (x0 : XV) (h1 : HS) : Ans :=
  kHand h1.ob x0 fun q2 s3 => retP b q2 (apL s3 []) h1
def b553_1 (u : Fn) (b : Nat) (x4 : XV) (h5 : HS) : Ans :=
  join (fun h6 => r553 b (.s 1 0x30) h6) fun j0_7 => kHand h5.ob x4 fun x8 s9 => kGo u b none 574 [x8] (apL s9 []) h5 fun x10 h11 => cnd x10 (r553 b x4 h11) (j0_7 h11)
def b553 : Bd := fun u l b segs => argK l fun x4 l => argN l (b553_1 u b x4 (hs0 b segs))
def r557 (b : Nat) (x0 : XV) (h1 : HS) : Ans :=
  kHand h1.ob x0 fun q2 s3 => retP b q2 (apL s3 []) h1
def b557_1 (u : Fn) (b : Nat) (j4_10 : F4) (x17 x18 x19 x20 : XV) (h21 : HS) : Ans :=
  join (fun x22 x23 x24 x25 h26 => kAdd x25 n1 fun x27 => j4_10 x22 x23 x24 x27 h26) fun j4_28 => kIaddr h21.ob 1 x17 x20 fun x29 => kLoad h21.ob false 1 x29 fun x30 => kEql x18 x30 fun x31 => cnd x31 (r557 b x20 h21) (j4_28 x17 x18 x19 x20 h21)
def b557_2 (u : Fn) (b : Nat) (j0_8 : F0) (j4_10 : F4) (x11 x12 x13 x14 : XV) (h15 : HS) : Ans :=
  kLss x14 x13 fun x16 => join (b557_1 u b j4_10) fun j4_32 => cnd x16 (j4_32 x11 x12 x13 x14 h15) (j0_8 h15)
def b557_3 (u : Fn) (b : Nat) (x4 x5 : XV) (h6 : HS) : Ans :=
  join (fun h7 => r557 b m1 h7) fun j0_8 => kLen false x4 fun x9 => lp [0, 1, 7, 8] 1000000 (b557_2 u b j0_8) x4 x5 x9 n0 h6
def b557 : Bd := fun u l b segs => argK l fun x4 l => argK l fun x5 l => argN l (b557_3 u b x4 x5 (hs0 b segs))
def r566 (b : Nat) (x0 : XV) (h1 : HS) : Ans :=
  kHand h1.ob x0 fun q2 s3 => retP b q2 (apL s3 []) h1
def b566_1 (u : Fn) (b : Nat) (x47 x56 x48 : XV) (h64 : HS) : Ans :=
  kSslice x47 (some x56) none fun x66 => kHand h64.ob x66 fun x67 s68 => kHand h64.ob x48 fun x69 s70 => kGo u b none 622 [x67, x69] (apL s68 (apL s70 [])) h64 fun x71 h72 => join (fun h73 => r566 b m1 h73) fun j0_74 => kGeq x71 n0 fun x75 => cnd x75 (kAdd x71 x56 fun x76 => r566 b x76 h72) (j0_74 h72)
def b566_2 (u : Fn) (b : Nat) (x47 x56 x48 : XV) (h89 : HS) : Ans :=
  kSslice x47 (some x56) none fun x91 => kHand h89.ob x91 fun x92 s93 => kHand h89.ob x48 fun x94 s95 => kGo u b none 624 [x92, x94] (apL s93 (apL s95 [])) h89 fun x96 h97 => join (fun x98 x99 h100 => kAdd x98 x99 fun x101 => r566 b x101 h100) fun j2_102 => kLss x96 n0 fun x103 => cnd x103 (r566 b m1 h97) (j2_102 x56 x96 h97)
def b566_3 (u : Fn) (b : Nat) (j8_19 : F8) (x85 x47 x56 x48 x49 x50 x51 x53 x57 x86 x87 x88 : XV) (h89 : HS) : Ans :=
  kPick x85 x88 ff fun x90 => cnd x90 (b566_2 u b x47 x56 x48 h89) (j8_19 x47 x48 x49 x50 x51 x56 x53 x57 h89)
def b566_4 (u : Fn) (b : Nat) (j8_19 : F8) (x78 x47 x56 x48 x49 x50 x51 x53 x57 x79 x80 x81 x82 x83 : XV) (h84 : HS) : Ans :=
  kPick x78 x83 ff fun x85 => join (b566_3 u b j8_19 x85 x47 x56 x48 x49 x50 x51 x53 x57) fun j3_104 => grdB x85 true (kLss x56 x53 fun x105 => j3_104 x56 x53 x105 h84) (j3_104 uu uu uu h84)
def b566_5 (u : Fn) (b : Nat) (j8_19 : F8) (x49 x47 x56 x48 x50 x51 x53 x57 : XV) (h64 : HS) : Ans :=
  kLoad h64.ob false 1 .undef fun x77 => kGtr x49 x77 fun x78 => join (b566_4 u b j8_19 x78 x47 x56 x48 x49 x50 x51 x53 x57) fun j5_106 => grdB x78 true (kv (vSh .shr x56 (.i .u64 18446744073709551620)) fun x107 => kAdd n4 x107 fun x108 => kGeq x57 x108 fun x109 => j5_106 x57 x56 x107 x108 x109 h64) (j5_106 uu uu uu uu uu h64)
def b566_6 (u : Fn) (b : Nat) (j8_19 : F8) (x59 x47 x56 x48 x49 x50 x51 x53 x57 x60 x61 x62 x63 : XV) (h64 : HS) : Ans :=
  kPick x59 x63 ff fun x65 => cnd x65 (b566_1 u b x47 x56 x48 h64) (b566_5 u b j8_19 x49 x47 x56 x48 x50 x51 x53 x57 h64)
def b566_7 (u : Fn) (b : Nat) (j8_19 : F8) (x47 x48 x49 x50 x51 x52 x53 x54 : XV) (h55 : HS) : Ans :=
  kAdd x52 n1 fun x56 => kAdd x54 n1 fun x57 => kLoad h55.ob false 1 .undef fun x58 => kLeq x49 x58 fun x59 => join (b566_6 u b j8_19 x59 x47 x56 x48 x49 x50 x51 x53 x57) fun j4_110 => grdB x59 true (kHand h55.ob x56 fun x111 s112 => kGo u b none 623 [x111] (apL s112 []) h55 fun x113 h114 => kGtr x57 x113 fun x115 => j4_110 x57 x56 x113 x115 h114) (j4_110 uu uu uu uu h55)
def b566_8 (u : Fn) (b : Nat) (j8_116 : F8) (x119 x43 x38 x39 x40 x41 x42 x44 x45 x120 x121 x122 x123 x124 x125 x126 x127 : XV) (h128 : HS) : Ans :=
  kPick x119 x127 ff fun x129 => cnd x129 (r566 b x43 h128) (j8_116 x38 x39 x40 x41 x42 x43 x44 x45 h128)
def b566_9 (u : Fn) (b : Nat) (j8_19 : F8) (x38 x39 x40 x41 x42 x43 x44 x45 : XV) (h46 : HS) : Ans :=
  join (b566_7 u b j8_19) fun j8_116 => kAdd x43 n1 fun x117 => kSidx x38 x117 fun x118 => kEql x118 x42 fun x119 => join (b566_8 u b j8_116 x119 x43 x38 x39 x40 x41 x42 x44 x45) fun j8_130 => grdB x119 true (kAdd x43 x40 fun x131 => kSslice x38 (some x43) (some x131) fun x132 => kEql x132 x39 fun x133 => j8_130 x38 x43 x43 x40 x131 x132 x39 x133 h46) (j8_130 uu uu uu uu uu uu uu uu h46)
def b566_10 (u : Fn) (b : Nat) (j8_134 : F8) (x138 x32 x29 x30 x31 x33 x34 x35 x36 : XV) (h37 : HS) : Ans :=
  kHand h37.ob x138 fun x139 s140 => kHand h37.ob x32 fun x141 s142 => kGo u b none 603 [x139, x141] (apL s140 (apL s142 [])) h37 fun x143 h144 => join (fun x145 x146 x147 x148 x149 x150 x151 x152 x153 h154 => kAdd x153 n1 fun x155 => kAdd x150 x155 fun x156 => j8_134 x145 x146 x147 x148 x149 x156 x151 x152 h154) fun j9_157 => kLss x143 n0 fun x158 => cnd x158 (r566 b m1 h144) (j9_157 x29 x30 x31 x32 x33 x34 x35 x36 x143 h144)
def b566_11 (u : Fn) (b : Nat) (j8_19 : F8) (x29 x30 x31 x32 x33 x34 x35 x36 : XV) (h37 : HS) : Ans :=
  join (b566_9 u b j8_19) fun j8_134 => kSidx x29 x34 fun x135 => kNeq x135 x32 fun x136 => cnd x136 (kAdd x34 n1 fun x137 => kSslice x29 (some x137) (some x35) fun x138 => b566_10 u b j8_134 x138 x32 x29 x30 x31 x33 x34 x35 x36 h37) (j8_134 x29 x30 x31 x32 x33 x34 x35 x36 h37)
def b566_12 (u : Fn) (b : Nat) (j0_18 : F0) (j8_19 : F8) (x20 x21 x22 x23 x24 x25 x26 x27 : XV) (h28 : HS) : Ans :=
  join (b566_11 u b j8_19) fun j8_159 => kLss x25 x26 fun x160 => cnd x160 (j8_159 x20 x21 x22 x23 x24 x25 x26 x27 h28) (j0_18 h28)
def b566_13 (u : Fn) (b : Nat) (x8 x9 x10 : XV) (h11 : HS) : Ans :=
  kSidx x9 n0 fun x12 => kSidx x9 n1 fun x13 => kLen true x8 fun x14 => kSub x14 x10 fun x15 => kAdd x15 n1 fun x16 => join (fun h17 => r566 b m1 h17) fun j0_18 => lp [0, 1, 5, 6, 7, 8, 9, 10] 1000000 (b566_12 u b j0_18) x8 x9 x10 x12 x13 n0 x16 n0 h11
def b566_14 (u : Fn) (b : Nat) (x5 x4 : XV) (h166 : HS) : Ans :=
  kSidx x5 n0 fun x169 => kHand h166.ob x4 fun x170 s171 => kHand h166.ob x169 fun x172 s173 => kGo u b none 603 [x170, x172] (apL s171 (apL s173 [])) h166 fun x174 h175 => r566 b x174 h175
def b566_15 (u : Fn) (b : Nat) (x4 x5 : XV) (h183 : HS) : Ans :=
  kHand h183.ob x4 fun x185 s186 => kHand h183.ob x5 fun x187 s188 => kGo u b none 622 [x185, x187] (apL s186 (apL s188 [])) h183 fun x189 h190 => r566 b x189 h190
def b566_16 (u : Fn) (b : Nat) (j3_161 : F3) (x179 x4 x5 x7 x180 x181 x182 : XV) (h183 : HS) : Ans :=
  kPick x179 x182 ff fun x184 => cnd x184 (b566_15 u b x4 x5 h183) (j3_161 x4 x5 x7 h183)
def b566_17 (u : Fn) (b : Nat) (j3_161 : F3) (x7 x4 x5 : XV) (h166 : HS) : Ans :=
  kLoad h166.ob false 1 .undef fun x178 => kLeq x7 x178 fun x179 => join (b566_16 u b j3_161 x179 x4 x5 x7) fun j3_191 => grdB x179 true (kLen true x4 fun x192 => kLeq x192 n64 fun x193 => j3_191 x4 x192 x193 h166) (j3_191 uu uu uu h166)
def b566_18 (u : Fn) (b : Nat) (j3_161 : F3) (x4 x7 x5 : XV) (h166 : HS) : Ans :=
  kLen true x4 fun x176 => kGeq x7 x176 fun x177 => cnd x177 (r566 b m1 h166) (b566_17 u b j3_161 x7 x4 x5 h166)
def b566_19 (u : Fn) (b : Nat) (j3_161 : F3) (x7 x5 x4 : XV) (h166 : HS) : Ans :=
  kEql x7 n1 fun x168 => cnd x168 (b566_14 u b x5 x4 h166) (b566_18 u b j3_161 x4 x7 x5 h166)
def b566_20 (u : Fn) (b : Nat) (j3_161 : F3) (x162 x7 x5 x4 x163 x164 x165 : XV) (h166 : HS) : Ans :=
  kPick x162 tt x165 fun x167 => cnd x167 (r566 b n0 h166) (b566_19 u b j3_161 x7 x5 x4 h166)
def b566_21 (u : Fn) (b : Nat) (x5 x4 : XV) (h6 : HS) : Ans :=
  kLen true x5 fun x7 => join (b566_13 u b) fun j3_161 => kEql x7 n0 fun x162 => join (b566_20 u b j3_161 x162 x7 x5 x4) fun j3_194 => grdB x162 false (kEql x5 x4 fun x195 => j3_194 x5 x4 x195 h6) (j3_194 uu uu uu h6)
def b566 : Bd := fun u l b segs => argK l fun x4 l => argK l fun x5 l => argN l (b566_21 u b x5 x4 (hs0 b segs))
def r574 (b : Nat) (x0 : XV) (h1 : HS) : Ans :=
  kHand h1.ob x0 fun q2 s3 => retP b q2 (apL s3 []) h1
def b574_1 (u : Fn) (b : Nat) (j3_30 : F3) (x32 x21 x22 x23 x33 x34 x35 x36 : XV) (h37 : HS) : Ans :=
  kPick x32 tt x36 fun x38 => cnd x38 (r574 b ff h37) (j3_30 x21 x22 x23 h37)
def b574_2 (u : Fn) (b : Nat) (j3_15 : F3) (x21 x22 x23 : XV) (h24 : HS) : Ans :=
  join (fun x25 x26 x27 h28 => kAdd x27 n1 fun x29 => j3_15 x25 x26 x29 h28) fun j3_30 => kSidx x21 x23 fun x31 => kLss x31 u48 fun x32 => join (b574_1 u b j3_30 x32 x21 x22 x23) fun j4_39 => grdB x32 false (kSidx x21 x23 fun x40 => kGtr x40 u57 fun x41 => j4_39 x21 x23 x40 x41 h24) (j4_39 uu uu uu uu h24)
def b574_3 (u : Fn) (b : Nat) (j0_13 : F0) (j3_15 : F3) (x16 x17 x18 : XV) (h19 : HS) : Ans :=
  kLss x18 x17 fun x20 => join (b574_2 u b j3_15) fun j3_42 => cnd x20 (j3_42 x16 x17 x18 h19) (j0_13 h19)
def b574_4 (u : Fn) (b : Nat) (x10 : XV) (h11 : HS) : Ans :=
  join (fun h12 => r574 b tt h12) fun j0_13 => kLen true x10 fun x14 => lp [3, 17, 18] 1000000 (b574_3 u b j0_13) x10 x14 n0 h11
def b574_5 (u : Fn) (b : Nat) (j1_43 : F1) (x44 x4 x8 x45 x46 x47 : XV) (h48 : HS) : Ans :=
  kPick x44 tt x47 fun x49 => cnd x49 (kEql x4 (.s 1 0x30) fun x50 => r574 b x50 h48) (j1_43 x8 h48)
def b574_6 (u : Fn) (b : Nat) (x4 : XV) (h5 : HS) : Ans :=
  kHand h5.ob x4 fun x6 s7 => kGo u b none 607 [x6, (.s 1 0x2d)] (apL s7 []) h5 fun x8 h9 => join (b574_4 u b) fun j1_43 => kEql x8 (.s 0 0) fun x44 => join (b574_5 u b j1_43 x44 x4 x8) fun j3_51 => grdB x44 false (kSidx x8 n0 fun x52 => kEql x52 u48 fun x53 => j3_51 x8 x52 x53 h9) (j3_51 uu uu uu h9)
def b574 : Bd := fun u l b segs => argK l fun x4 l => argN l (b574_6 u b x4 (hs0 b segs))
def r602 (b : Nat) (x0 : XV) (h1 : HS) : Ans :=
  kHand h1.ob x0 fun q2 s3 => retP b q2 (apL s3 []) h1
def b602_1 (u : Fn) (b : Nat) (x5 x4 : XV) (h10 : HS) : Ans :=
  kv (vCint .u8 x5) fun x12 => kHand h10.ob x4 fun x13 s14 => kHand h10.ob x12 fun x15 s16 => kGo u b none 545 [x13, x15] (apL s14 (apL s16 [])) h10 fun x17 h18 => r602 b x17 h18
def b602_2 (u : Fn) (b : Nat) (x5 : XV) (h10 : HS) : Ans :=
  kHand h10.ob x5 fun x22 s23 => kGo u b none 563 [x22] (apL s23 []) h10 fun x24 h25 => kNot x24 fun x26 => cnd x26 (r602 b m1 h25) (cnd (.sc .nilIface) (r602 b n0 h25) (r602 b n0 h25))
def b602_3 (u : Fn) (b : Nat) (x5 : XV) (h10 : HS) : Ans :=
  kEql x5 (.i .i32 18446744073709617149) fun x19 => cnd x19 (join (fun h20 => r602 b m1 h20) fun j0_21 => .no) (b602_2 u b x5 h10)
def b602_4 (u : Fn) (b : Nat) (x7 x5 x4 x8 x9 : XV) (h10 : HS) : Ans :=
  kPick x7 x9 ff fun x11 => cnd x11 (b602_1 u b x5 x4 h10) (b602_3 u b x5 h10)
def b602_5 (u : Fn) (b : Nat) (x5 x4 : XV) (h6 : HS) : Ans :=
  kLeq (.i .i32 18446744073709551616) x5 fun x7 => join (b602_4 u b x7 x5 x4) fun j2_27 => grdB x7 true (kLss x5 (.i .i32 18446744073709551744) fun x28 => j2_27 x5 x28 h6) (j2_27 uu uu h6)
def b602 : Bd := fun u l b segs => argK l fun x4 l => argK l fun x5 l => argN l (b602_5 u b x5 x4 (hs0 b segs))
def r604 (b : Nat) (x0 : XV) (h1 : HS) : Ans :=
  kHand h1.ob x0 fun q2 s3 => retP b q2 (apL s3 []) h1
def b604_1 (u : Fn) (b : Nat) (x4 x5 : XV) (h6 : HS) : Ans :=
  kHand h6.ob x4 fun x7 s8 => kHand h6.ob x5 fun x9 s10 => kGo u b none 651 [x7, x9] (apL s8 (apL s10 [])) h6 fun x11 h12 => r604 b x11 h12
def b604 : Bd := fun u l b segs => argK l fun x4 l => argK l fun x5 l => argN l (b604_1 u b x4 x5 (hs0 b segs))
def r605 (b : Nat) (x0 x1 x2 : XV) (h3 : HS) : Ans :=
  kHand h3.ob x0 fun q4 s5 => kHand h3.ob x1 fun q6 s7 => kHand h3.ob x2 fun q8 s9 => retP b (.tup [q4, q6, q8]) (apL s5 (apL s7 (apL s9 []))) h3
def b605_1 (u : Fn) (b : Nat) (x10 x11 : XV) (h12 : HS) : Ans :=
  kHand h12.ob x10 fun x13 s14 => kHand h12.ob x11 fun x15 s16 => kGo u b none 652 [x13, x15] (apL s14 (apL s16 [])) h12 fun x17 h18 => kExt x17 0 fun x19 => kExt x17 1 fun x20 => kExt x17 2 fun x21 => r605 b x19 x20 x21 h18
def b605 : Bd := fun u l b segs => argK l fun x10 l => argK l fun x11 l => argN l (b605_1 u b x10 x11 (hs0 b segs))
def r606 (b : Nat) (x0 : XV) (h1 : HS) : Ans :=
  kHand h1.ob x0 fun q2 s3 => retP b q2 (apL s3 []) h1
def b606_1 (u : Fn) (b : Nat) (x4 : XV) (h5 : HS) : Ans :=
  kNeq x4 (.s 0 0) fun x6 => join (fun _ _ x9 h10 => kPick x6 x9 ff fun x11 => r606 b x11 h10) fun j3_12 => grdB x6 true (kHand h5.ob x4 fun x13 s14 => kGo u b none 550 [x13, (.s 10 0x30313233343536373839)] (apL s14 []) h5 fun x15 h16 => kEql x15 (.s 0 0) fun x17 => j3_12 x4 x15 x17 h16) (j3_12 uu uu uu h5)
def b606 : Bd := fun u l b segs => argK l fun x4 l => argN l (b606_1 u b x4 (hs0 b segs))
def r607 (b : Nat) (x0 : XV) (h1 : HS) : Ans :=
  kHand h1.ob x0 fun q2 s3 => retP b q2 (apL s3 []) h1
def b607_1 (u : Fn) (b : Nat) (x4 x5 : XV) (h6 : HS) : Ans :=
  kHand h6.ob x4 fun x7 s8 => kHand h6.ob x5 fun x9 s10 => kGo u b none 653 [x7, x9] (apL s8 (apL s10 [])) h6 fun x11 h12 => r607 b x11 h12
def b607 : Bd := fun u l b segs => argK l fun x4 l => argK l fun x5 l => argN l (b607_1 u b x4 x5 (hs0 b segs))
def r610 (b : Nat) (x0 x1 : XV) (h2 : HS) : Ans :=
  kCell h2.ob x0 true 256 fun x3 => kHand h2.ob x3 fun q4 s5 => kHand h2.ob x1 fun q6 s7 => retP b (.tup [q4, q6]) (apL s5 (apL s7 [])) h2
def b610_1 (u : Fn) (b : Nat) (j3_18 : F3) (x23 x24 x25 : XV) (h26 : HS) : Ans :=
  join (fun x27 x28 x29 h30 => kAdd x29 n1 fun x31 => j3_18 x27 x28 x31 h30) fun j3_32 => kSidx x23 x25 fun x33 => join (fun x34 x35 x36 x37 h38 => kv (vAaddr 256 1 x35 x37) fun x39 => kStore b none 1 x39 tt h38 fun _ h41 => j3_32 x34 x35 x36 h41) fun j4_42 => kGeq x33 u128 fun x43 => cnd x43 (kLoad h26.ob true 256 x24 fun x44 => kStore b none 256 x24 x44 h26 fun _ h46 => r610 b x24 ff h46) (j4_42 x23 x24 x25 x33 h26)
def b610_2 (u : Fn) (b : Nat) (j1_17 : F1) (j3_18 : F3) (x19 x20 x21 : XV) (h22 : HS) : Ans :=
  join (b610_1 u b j3_18) fun j3_47 => kLen true x19 fun x48 => kLss x21 x48 fun x49 => cnd x49 (j3_47 x19 x20 x21 h22) (j1_17 x20 h22)
def b610_3 (u : Fn) (b : Nat) (x8 : XV) (h9 : HS) : Ans :=
  kAlloc 563 b 2 none [ff, ff, ff, ff, ff, ff, ff, ff, ff, ff, ff, ff, ff, ff, ff, ff, ff, ff, ff, ff, ff, ff, ff, ff, ff, ff, ff, ff, ff, ff, ff, ff, ff, ff, ff, ff, ff, ff, ff, ff, ff, ff, ff, ff, ff, ff, ff, ff, ff, ff, ff, ff, ff, ff, ff, ff, ff, ff, ff, ff, ff, ff, ff, ff, ff, ff, ff, ff, ff, ff, ff, ff, ff, ff, ff, ff, ff, ff, ff, ff, ff, ff, ff, ff, ff, ff, ff, ff, ff, ff, ff, ff, ff, ff, ff, ff, ff, ff, ff, ff, ff, ff, ff, ff, ff, ff, ff, ff, ff, ff, ff, ff, ff, ff, ff, ff, ff, ff, ff, ff, ff, ff, ff, ff, ff, ff, ff, ff, ff, ff, ff, ff, ff, ff, ff, ff, ff, ff, ff, ff, ff, ff, ff, ff, ff, ff, ff, ff, ff, ff, ff, ff, ff, ff, ff, ff, ff, ff, ff, ff, ff, ff, ff, ff, ff, ff, ff, ff, ff, ff, ff, ff, ff, ff, ff, ff, ff, ff, ff, ff, ff, ff, ff, ff, ff, ff, ff, ff, ff, ff, ff, ff, ff, ff, ff, ff, ff, ff, ff, ff, ff, ff, ff, ff, ff, ff, ff, ff, ff, ff, ff, ff, ff, ff, ff, ff, ff, ff, ff, ff, ff, ff, ff, ff, ff, ff, ff, ff, ff, ff, ff, ff, ff, ff, ff, ff, ff, ff, ff, ff, ff, ff, ff, ff, ff, ff, ff, ff, ff, ff, ff, ff, ff, ff, ff, ff] h9 fun x10 h11 => join (fun x12 h13 => kLoad h13.ob true 256 x12 fun x14 => kStore b none 256 x12 x14 h13 fun _ h16 => r610 b x12 tt h16) fun j1_17 => lp [0, 2, 4] 1000000 (b610_2 u b j1_17) x8 x10 n0 h11
def b610 : Bd := fun u l b segs => argK l fun x8 l => argN l (b610_3 u b x8 (hs0 b segs))
def r611 (b : Nat) (x0 : XV) (h1 : HS) : Ans :=
  kHand h1.ob x0 fun q2 s3 => retP b q2 (apL s3 []) h1
def b611_1 (u : Fn) (b : Nat) (j2_10 : F2) (j1_9 : F1) (x14 x15 : XV) (h16 : HS) : Ans :=
  join (fun x17 x18 h19 => kSslice x17 (some n1) none fun x20 => j2_10 x20 x18 h19) fun j2_21 => kSidx x14 n0 fun x22 => kHand h16.ob x22 fun x23 s24 => kGoH u b 654 [x15, x23] (apL s24 []) h16 fun x25 h26 => kNot x25 fun x27 => cnd x27 (j1_9 x14 h26) (j2_21 x14 x15 h26)
def b611_2 (u : Fn) (b : Nat) (j1_9 : F1) (j2_10 : F2) (x11 x12 : XV) (h13 : HS) : Ans :=
  join (b611_1 u b j2_10 j1_9) fun j2_28 => kLen true x11 fun x29 => kGtr x29 n0 fun x30 => cnd x30 (j2_28 x11 x12 h13) (j1_9 x11 h13)
def b611_3 (u : Fn) (b : Nat) (x4 x5 : XV) (h6 : HS) : Ans :=
  join (fun x7 h8 => r611 b x7 h8) fun j1_9 => lp [0, 1] 1000000 (b611_2 u b j1_9) x4 x5 h6
def b611 : Bd := fun u l b segs => argK l fun x4 l => argK l fun x5 l => argN l (b611_3 u b x4 x5 (hs0 b segs))
def r612 (b : Nat) (x0 : XV) (h1 : HS) : Ans :=
  kHand h1.ob x0 fun q2 s3 => retP b q2 (apL s3 []) h1
def b612_1 (u : Fn) (b : Nat) (j2_10 : F2) (x17 x18 : XV) (h19 : HS) : Ans :=
  kLen true x17 fun x20 => kSub x20 n1 fun x21 => kSslice x17 none (some x21) fun x22 => j2_10 x22 x18 h19
def b612_2 (u : Fn) (b : Nat) (j2_10 : F2) (j1_9 : F1) (x14 x15 : XV) (h16 : HS) : Ans :=
  join (b612_1 u b j2_10) fun j2_23 => kLen true x14 fun x24 => kSub x24 n1 fun x25 => kSidx x14 x25 fun x26 => kHand h16.ob x26 fun x27 s28 => kGoH u b 654 [x15, x27] (apL s28 []) h16 fun x29 h30 => kNot x29 fun x31 => cnd x31 (j1_9 x14 h30) (j2_23 x14 x15 h30)
def b612_3 (u : Fn) (b : Nat) (j1_9 : F1) (j2_10 : F2) (x11 x12 : XV) (h13 : HS) : Ans :=
  join (b612_2 u b j2_10 j1_9) fun j2_32 => kLen true x11 fun x33 => kGtr x33 n0 fun x34 => cnd x34 (j2_32 x11 x12 h13) (j1_9 x11 h13)
def b612_4 (u : Fn) (b : Nat) (x4 x5 : XV) (h6 : HS) : Ans :=
  join (fun x7 h8 => r612 b x7 h8) fun j1_9 => lp [0, 1] 1000000 (b612_3 u b j1_9) x4 x5 h6
def b612 : Bd := fun u l b segs => argK l fun x4 l => argK l fun x5 l => argN l (b612_4 u b x4 x5 (hs0 b segs))
def r651 (b : Nat) (x0 : XV) (h1 : HS) : Ans :=
  kHand h1.ob x0 fun q2 s3 => retP b q2 (apL s3 []) h1
def b651_1 (u : Fn) (b : Nat) (x4 x5 : XV) (h6 : HS) : Ans :=
  kLen true x4 fun x7 => kLen true x5 fun x8 => kGeq x7 x8 fun x9 => join (fun _ _ _ _ _ x15 h16 => kPick x9 x15 ff fun x17 => r651 b x17 h16) fun j6_18 => grdB x9 true (kLen true x5 fun x19 => kSslice x4 none (some x19) fun x20 => kEql x20 x5 fun x21 => j6_18 x4 x5 x19 x20 x5 x21 h6) (j6_18 uu uu uu uu uu uu h6)
def b651 : Bd := fun u l b segs => argK l fun x4 l => argK l fun x5 l => argN l (b651_1 u b x4 x5 (hs0 b segs))
def r652 (b : Nat) (x0 x1 x2 : XV) (h3 : HS) : Ans :=
  kHand h3.ob x0 fun q4 s5 => kHand h3.ob x1 fun q6 s7 => kHand h3.ob x2 fun q8 s9 => retP b (.tup [q4, q6, q8]) (apL s5 (apL s7 (apL s9 []))) h3
def b652_1 (u : Fn) (b : Nat) (x10 x20 x11 : XV) (h21 : HS) : Ans :=
  kSslice x10 none (some x20) fun x23 => kLen true x11 fun x24 => kAdd x20 x24 fun x25 => kSslice x10 (some x25) none fun x26 => r652 b x23 x26 tt h21
def b652_2 (u : Fn) (b : Nat) (x10 x11 : XV) (h12 : HS) : Ans :=
  join (fun x13 h14 => r652 b x13 (.s 0 0) ff h14) fun j1_15 => kHand h12.ob x10 fun x16 s17 => kHand h12.ob x11 fun x18 s19 => kGo u b none 566 [x16, x18] (apL s17 (apL s19 [])) h12 fun x20 h21 => kGeq x20 n0 fun x22 => cnd x22 (b652_1 u b x10 x20 x11 h21) (j1_15 x10 h21)
def b652 : Bd := fun u l b segs => argK l fun x10 l => argK l fun x11 l => argN l (b652_2 u b x10 x11 (hs0 b segs))
def r653 (b : Nat) (x0 : XV) (h1 : HS) : Ans :=
  kHand h1.ob x0 fun q2 s3 => retP b q2 (apL s3 []) h1
def b653_1 (u : Fn) (b : Nat) (x4 x5 : XV) (h6 : HS) : Ans :=
  join (fun x7 h8 => r653 b x7 h8) fun j1_9 => kHand h6.ob x4 fun x10 s11 => kHand h6.ob x5 fun x12 s13 => kGo u b none 651 [x10, x12] (apL s11 (apL s13 [])) h6 fun x14 h15 => cnd x14 (kLen true x5 fun x16 => kSslice x4 (some x16) none fun x17 => r653 b x17 h15) (j1_9 x4 h15)
def b653 : Bd := fun u l b segs => argK l fun x4 l => argK l fun x5 l => argN l (b653_1 u b x4 x5 (hs0 b segs))
def r654 (b : Nat) (x0 : XV) (h1 : HS) : Ans :=
  kHand h1.ob x0 fun q2 s3 => retP b q2 (apL s3 []) h1
def b654_1 (u : Fn) (b : Nat) (x4 x5 : XV) (h6 : HS) : Ans :=
  kNil x4 fun x7 => kv (vAaddr 256 1 x7 x5) fun x8 => kLoad h6.ob false 1 x8 fun x9 => r654 b x9 h6
def b654 : Bd := fun u l b segs => argK l fun x4 l => argK l fun x5 l => argN l (b654_1 u b x4 x5 (hs0 b segs))
end
end Go.Hf

/- Parts of the proof. -/
import Derived.Test.YtlefgpakmgbgaaaGreatDoorFh
set_option linter.unusedVariables false
set_option linter.unusedSimpArgs false
set_option linter.unusedSectionVars false
set_option maxRecDepth 100000
namespace Go.Hf
noncomputable section
abbrev F0 := HS → Ans
abbrev F1 := XV → F0
abbrev F2 := XV → F1
abbrev F3 := XV → F2
abbrev F4 := XV → F3
abbrev F5 := XV → F4
abbrev F6 := XV → F5
abbrev F7 := XV → F6
abbrev F8 := XV → F7
abbrev F9 := XV → F8
abbrev F10 := XV → F9
abbrev F11 := XV → F10
abbrev F12 := XV → F11
abbrev F13 := XV → F12
abbrev F14 := XV → F13
abbrev F15 := XV → F14
abbrev F16 := XV → F15
abbrev F17 := XV → F16
abbrev F18 := XV → F17
abbrev F19 := XV → F18
abbrev F20 := XV → F19
abbrev F21 := XV → F20
abbrev F22 := XV → F21
abbrev F23 := XV → F22
abbrev F24 := XV → F23
abbrev F25 := XV → F24
abbrev F26 := XV → F25
abbrev F27 := XV → F26
abbrev F28 := XV → F27
abbrev F29 := XV → F28
abbrev F30 := XV → F29
abbrev F31 := XV → F30
abbrev F32 := XV → F31
abbrev F33 := XV → F32
abbrev F34 := XV → F33
abbrev F35 := XV → F34
abbrev F36 := XV → F35
abbrev F37 := XV → F36
abbrev F38 := XV → F37
abbrev F39 := XV → F38
def tt : XV := .b true
def ff : XV := .b false
def uu : XV := .tup []
def hcT : List (Nat × List Bool) := [(7, [false]), (9, [false]), (14, [true]), (23, [false]), (24, [false]), (25, [false]), (27, [false]), (37, [false]), (84, [true]), (86, [true]), (90, [true, false]), (91, [true]), (111, [true]), (127, [false]), (128, [false]), (129, [false]), (147, [true]), (158, [true]), (161, [false]), (165, [false]), (176, [true]), (179, [true]), (181, [false]), (183, [false]), (203, [false]), (205, [true, false]), (208, [true]), (218, [true, false]), (219, [true]), (224, [false]), (229, [false]), (234, [false]), (238, [false]), (246, [false]), (249, [false]), (258, [true, false]), (276, [true, false]), (285, [true, false]), (289, [false]), (317, [false]), (319, [false]), (325, [false]), (327, [false]), (413, [false]), (418, [false]), (443, [true, false]), (444, [true]), (489, [false]), (490, [false]), (494, [false]), (495, [false]), (500, [true]), (502, [true]), (546, [false]), (611, [true, false]), (612, [true, false]), (654, [false])]
def n64 : XV := .i .i64 18446744073709551680
def u128 : XV := .i .u8 18446744073709551744
def u127 : XV := .i .u8 18446744073709551743
def u97 : XV := .i .u8 18446744073709551713
def u122 : XV := .i .u8 18446744073709551738
def u47 : XV := .i .u8 18446744073709551663
def u33 : XV := .i .u8 18446744073709551649
def u126 : XV := .i .u8 18446744073709551742
def u32 : XV := .i .u8 18446744073709551648
def u13 : XV := .i .u8 18446744073709551629
def u9 : XV := .i .u8 18446744073709551625
def n20 : XV := .i .i64 18446744073709551636
def u57 : XV := .i .u8 18446744073709551673
def m1 : XV := .i .i64 18446744073709551615
def n201 : XV := .i .i64 18446744073709551817
def n20000 : XV := .i .i64 18446744073709571616
def u58 : XV := .i .u8 18446744073709551674
def u39 : XV := .i .u8 18446744073709551655
def u34 : XV := .i .u8 18446744073709551650
def u59 : XV := .i .u8 18446744073709551675
def u10 : XV := .i .u8 18446744073709551626
def u35 : XV := .i .u8 18446744073709551651
def u124 : XV := .i .u8 18446744073709551740
def n2015 : XV := .i .i64 18446744073709553631
def n48 : XV := .i .i64 18446744073709551664
def u45 : XV := .i .u8 18446744073709551661
def u48 : XV := .i .u8 18446744073709551664
def n15 : XV := .i .i64 18446744073709551631
def n16 : XV := .i .i64 18446744073709551632
def n21 : XV := .i .i64 18446744073709551637
def n13 : XV := .i .i64 18446744073709551629
def n6000 : XV := .i .i64 18446744073709557616
def n1536 : XV := .i .i64 18446744073709553152
def n224 : XV := .i .i64 18446744073709551840
def n256 : XV := .i .i64 18446744073709551872
def n31 : XV := .i .i64 18446744073709551647
def n33 : XV := .i .i64 18446744073709551649
def n60 : XV := .i .i64 18446744073709551676
def u0 : XV := .i .u8 18446744073709551616
def u118 : XV := .i .u8 18446744073709551734
def u99 : XV := .i .u8 18446744073709551715
def u40 : XV := .i .u8 18446744073709551656
def u41 : XV := .i .u8 18446744073709551657
def n500 : XV := .i .i64 18446744073709552116
def n3000 : XV := .i .i64 18446744073709554616
def n32 : XV := .i .i64 18446744073709551648
def n3001 : XV := .i .i64 18446744073709554617
def n14 : XV := .i .i64 18446744073709551630
def n9 : XV := .i .i64 18446744073709551625
def n10 : XV := .i .i64 18446744073709551626
def n11 : XV := .i .i64 18446744073709551627
def n12 : XV := .i .i64 18446744073709551628
def n41 : XV := .i .i64 18446744073709551657
def n40 : XV := .i .i64 18446744073709551656
def n2047 : XV := .i .i64 18446744073709553663
def n24 : XV := .i .i64 18446744073709551640
def n8 : XV := .i .i64 18446744073709551624
def n7 : XV := .i .i64 18446744073709551623
def n5 : XV := .i .i64 18446744073709551621
def n200 : XV := .i .i64 18446744073709551816
def n30 : XV := .i .i64 18446744073709551646
def n6 : XV := .i .i64 18446744073709551622
def n2 : XV := .i .i64 18446744073709551618
def n4 : XV := .i .i64 18446744073709551620
def n0 : XV := .i .i64 18446744073709551616
def n3 : XV := .i .i64 18446744073709551619
def n1 : XV := .i .i64 18446744073709551617
def n100 : XV := .i .i64 18446744073709551716
def r3 (b : Nat) (x0 : XV) (h1 : HS) : Ans :=
  kHand h1.ob x0 fun q2 s3 => retP b q2 (apL s3 []) h1
def b3_1 (u : Fn) (b : Nat) (x10 x34 x38 x27 : XV) (h39 : HS) : Ans :=
  kHand h39.ob x10 fun x40 s41 => kHand h39.ob x34 fun x42 s43 => kHand h39.ob x38 fun x44 s45 => kGo u b none 8 [x40, .nl, x42, x44] (apL s41 (apL s43 (apL s45 []))) h39 fun x46 h47 => kLen false x46 fun x48 => kEql x48 n0 fun x49 => join (fun _ x51 h52 => kPick x49 x51 ff fun x53 => r3 b x53 h52) fun j2_54 => grdB x49 true (kNot x27 fun x55 => j2_54 x27 x55 h47) (j2_54 uu uu h47)
def b3_2 (u : Fn) (b : Nat) (x10 x18 x14 : XV) (h19 : HS) : Ans :=
  kHand h19.ob x10 fun x20 s21 => kHand h19.ob x18 fun x22 s23 => kGo u b none 6 [x20, .nl, x22, .nl, n0] (apL s21 (apL s23 [])) h19 fun x24 h25 => kExt x24 0 fun x26 => kExt x24 1 fun x27 => kAlloc 33 b 5 none [.nl, .nl] h25 fun x28 h29 => kStore b none 2 x28 x26 h29 fun _ h31 => kHand h31.ob x10 fun x32 s33 => kGoH u b 9 [x14, x32] (apL s33 []) h31 fun x34 h35 => kHand h35.ob x10 fun x36 s37 => kGoH u b 9 [x14, x36] (apL s37 []) h35 fun x38 h39 => b3_1 u b x10 x34 x38 x27 h39
def b3_3 (u : Fn) (b : Nat) (x8 : XV) (h9 : HS) : Ans :=
  kGo u b none 5 [(.i .u32 18446744073709551616)] [] h9 fun x10 h11 => kPart 0 1 x8 [.nl, n0] fun c12 => kAgg c12 fun x13 => kBox 29 b 15 none x13 h11 fun x14 h15 => kHand h15.ob x10 fun x16 s17 => kGoH u b 7 [x14, x16, n3, n1] (apL s17 []) h15 fun x18 h19 => b3_2 u b x10 x18 x14 h19
def b3_4 (u : Fn) (b : Nat) (x6 : XV) (h7 : HS) : Ans :=
  join (b3_3 u b) fun j1_56 => kLen false x6 fun x57 => kGtr x57 n100 fun x58 => cnd x58 (r3 b tt h7) (j1_56 x6 h7)
def b3_5 (u : Fn) (b : Nat) (x4 : XV) (h5 : HS) : Ans :=
  join (b3_4 u b) fun j1_59 => kGo u b none 4 [] [] h5 fun x60 h61 => kNot x60 fun x62 => cnd x62 (r3 b ff h61) (j1_59 x4 h61)
def b3 : Bd := fun u l b segs => argK l fun x4 l => argN l (b3_5 u b x4 (hs0 b segs))
def r7 (b : Nat) (x0 : XV) (h1 : HS) : Ans :=
  retK b [x0] [] h1
def b7_1 (u : Fn) (b : Nat) (j6_38 : F6) (x49 x50 x51 x52 x53 x54 x55 : XV) (h56 : HS) : Ans :=
  kLoad h56.ob true 11 x55 fun x57 => kElt h56.ob 11 0 x57 (repL 1 [n0, (.s 0 0), (.s 0 0), n0, (.s 0 0), (.s 0 0), (.s 0 0), (.s 0 0), (.s 0 0), .nl, .nl]) fun c58 s59 => kSl b 2100 none 48 11 1 false c58 (apL s59 []) h56 fun x60 h61 => kAppend b 2101 none 48 11 176 x52 x60 false h61 fun x62 h63 => j6_38 x49 x50 x51 x62 x53 x54 h63
def b7_2 (u : Fn) (b : Nat) (j7_64 : F7) (x23 x45 x24 x25 x26 x27 x28 : XV) (h66 : HS) : Ans :=
  kGoH u b 25 [x23] [] h66 fun x68 h69 => kElt h69.ob 11 0 x68 (repL 1 [n0, (.s 0 0), (.s 0 0), n0, (.s 0 0), (.s 0 0), (.s 0 0), (.s 0 0), (.s 0 0), .nl, .nl]) fun c70 s71 => kSl b 2080 none 48 11 1 false c70 (apL s71 []) h69 fun x72 h73 => kHand h73.ob x72 fun x74 s75 => kGo u b none 11 [(.s 5 0x636f6e7370), x74] (apL s75 []) h73 fun x76 h77 => kStore b none 11 x45 x76 h77 fun _ h79 => j7_64 x23 x24 x25 x26 x27 x28 x45 h79
def b7_3 (u : Fn) (b : Nat) (j7_64 : F7) (x23 x45 x24 x25 x26 x27 x28 : XV) (h66 : HS) : Ans :=
  kGoH u b 25 [x23] [] h66 fun x81 h82 => kGoH u b 27 [x23, n0] [] h82 fun x83 h84 => kHand h84.ob x83 fun x85 s86 => kGo u b none 26 [x85] (apL s86 []) h84 fun x87 h88 => kElt h88.ob 11 0 x81 (repL 2 [n0, (.s 0 0), (.s 0 0), n0, (.s 0 0), (.s 0 0), (.s 0 0), (.s 0 0), (.s 0 0), .nl, .nl]) fun c89 s90 => kElt h88.ob 11 1 x87 c89 fun c91 s92 => kSl b 2089 none 48 11 2 false c91 (apL s90 (apL s92 [])) h88 fun x93 h94 => kHand h94.ob x93 fun x95 s96 => kGo u b none 11 [(.s 5 0x657175616c), x95] (apL s96 []) h94 fun x97 h98 => kStore b none 11 x45 x97 h98 fun _ h100 => j7_64 x23 x24 x25 x26 x27 x28 x45 h100
def b7_4 (u : Fn) (b : Nat) (j7_64 : F7) (x23 x45 x24 x25 x26 x27 x28 : XV) (h66 : HS) : Ans :=
  kGo u b none 28 [n0] [] h66 fun x102 h103 => kGoH u b 25 [x23] [] h103 fun x104 h105 => kElt h105.ob 11 0 x102 (repL 2 [n0, (.s 0 0), (.s 0 0), n0, (.s 0 0), (.s 0 0), (.s 0 0), (.s 0 0), (.s 0 0), .nl, .nl]) fun c106 s107 => kElt h105.ob 11 1 x104 c106 fun c108 s109 => kSl b 2096 none 48 11 2 false c108 (apL s107 (apL s109 [])) h105 fun x110 h111 => kHand h111.ob x110 fun x112 s113 => kGo u b none 11 [(.s 1 0x3c), x112] (apL s113 []) h111 fun x114 h115 => kStore b none 11 x45 x114 h115 fun _ h117 => j7_64 x23 x24 x25 x26 x27 x28 x45 h117
def b7_5 (u : Fn) (b : Nat) (j7_64 : F7) (x65 x23 x45 x24 x25 x26 x27 x28 : XV) (h66 : HS) : Ans :=
  kEql x65 n2 fun x101 => cnd x101 (b7_4 u b j7_64 x23 x45 x24 x25 x26 x27 x28 h66) (j7_64 x23 x24 x25 x26 x27 x28 x45 h66)
def b7_6 (u : Fn) (b : Nat) (j7_64 : F7) (x65 x23 x45 x24 x25 x26 x27 x28 : XV) (h66 : HS) : Ans :=
  kEql x65 n1 fun x80 => cnd x80 (b7_3 u b j7_64 x23 x45 x24 x25 x26 x27 x28 h66) (b7_5 u b j7_64 x65 x23 x45 x24 x25 x26 x27 x28 h66)
def b7_7 (u : Fn) (b : Nat) (j6_15 : F6) (x23 x24 x25 x26 x27 x28 : XV) (h29 : HS) : Ans :=
  join (fun x30 x31 x32 x33 x34 x35 h36 => kAdd x35 n1 fun x37 => j6_15 x30 x31 x32 x33 x34 x37 h36) fun j6_38 => kHand h29.ob x24 fun x39 s40 => kHand h29.ob x25 fun x41 s42 => kGoH u b 24 [x23, x39, x41] (apL s40 (apL s42 [])) h29 fun x43 h44 => kAlloc 48 b 12 none [n0, (.s 0 0), (.s 0 0), n0, (.s 0 0), (.s 0 0), (.s 0 0), (.s 0 0), (.s 0 0), .nl, .nl] h44 fun x45 h46 => kStore b none 11 x45 x43 h46 fun _ h48 => join (b7_1 u b j6_38) fun j7_64 => kGoH u b 23 [x23, n6] [] h48 fun x65 h66 => kEql x65 n0 fun x67 => cnd x67 (b7_2 u b j7_64 x23 x45 x24 x25 x26 x27 x28 h66) (b7_6 u b j7_64 x65 x23 x45 x24 x25 x26 x27 x28 h66)
def b7_8 (u : Fn) (b : Nat) (j1_14 : F1) (j6_15 : F6) (x16 x17 x18 x19 x20 x21 : XV) (h22 : HS) : Ans :=
  join (b7_7 u b j6_15) fun j6_118 => kLss x21 x20 fun x119 => cnd x119 (j6_118 x16 x17 x18 x19 x20 x21 h22) (j1_14 x19 h22)
def b7_9 (u : Fn) (b : Nat) (x4 x2 x3 x5 : XV) (h6 : HS) : Ans :=
  kAdd x4 n1 fun x7 => kHand h6.ob x7 fun x8 s9 => kGoH u b 23 [x2, x8] (apL s9 []) h6 fun x10 h11 => join (fun x12 h13 => r7 b x12 h13) fun j1_14 => lp [0, 1, 3, 9, 10, 11] 1000000 (b7_8 u b j1_14) x2 x3 x5 .nl x10 n0 h11
def b7 : Bd := fun u l b segs => argK l fun x2 l => argK l fun x3 l => argK l fun x4 l => argK l fun x5 l => argN l (b7_9 u b x4 x2 x3 x5 (hs0 b segs))
def r9 (b : Nat) (x0 : XV) (h1 : HS) : Ans :=
  kHand h1.ob x0 fun q2 s3 => retP b q2 (apL s3 []) h1
def b9_1 (u : Fn) (b : Nat) (j5_36 : F5) (x45 x46 x47 x48 x49 x50 : XV) (h51 : HS) : Ans :=
  kLoad h51.ob true 11 x50 fun x52 => kElt h51.ob 11 0 x52 (repL 1 [n0, (.s 0 0), (.s 0 0), n0, (.s 0 0), (.s 0 0), (.s 0 0), (.s 0 0), (.s 0 0), .nl, .nl]) fun c53 s54 => kSl b 2101 none 48 11 1 false c53 (apL s54 []) h51 fun x55 h56 => kAppend b 2102 none 48 11 176 x47 x55 false h56 fun x57 h58 => j5_36 x45 x46 x57 x48 x49 h58
def b9_2 (u : Fn) (b : Nat) (j6_59 : F6) (x41 x23 x24 x25 x26 x27 : XV) (h61 : HS) : Ans :=
  kLoad h61.ob true 11 x41 fun x63 => kElt h61.ob 11 0 x63 (repL 1 [n0, (.s 0 0), (.s 0 0), n0, (.s 0 0), (.s 0 0), (.s 0 0), (.s 0 0), (.s 0 0), .nl, .nl]) fun c64 s65 => kSl b 2075 none 48 11 1 false c64 (apL s65 []) h61 fun x66 h67 => kHand h67.ob x66 fun x68 s69 => kGo u b none 11 [(.s 4 0x706f7370), x68] (apL s69 []) h67 fun x70 h71 => kStore b none 11 x41 x70 h71 fun _ h73 => j6_59 x23 x24 x25 x26 x27 x41 h73
def b9_3 (u : Fn) (b : Nat) (j6_59 : F6) (x41 x23 x24 x25 x26 x27 : XV) (h61 : HS) : Ans :=
  kLoad h61.ob true 11 x41 fun x75 => kElt h61.ob 11 0 x75 (repL 1 [n0, (.s 0 0), (.s 0 0), n0, (.s 0 0), (.s 0 0), (.s 0 0), (.s 0 0), (.s 0 0), .nl, .nl]) fun c76 s77 => kSl b 2080 none 48 11 1 false c76 (apL s77 []) h61 fun x78 h79 => kHand h79.ob x78 fun x80 s81 => kGo u b none 11 [(.s 4 0x6e617470), x80] (apL s81 []) h79 fun x82 h83 => kStore b none 11 x41 x82 h83 fun _ h85 => j6_59 x23 x24 x25 x26 x27 x41 h85
def b9_4 (u : Fn) (b : Nat) (j6_59 : F6) (x87 x23 x41 x24 x25 x26 x27 : XV) (h61 : HS) : Ans :=
  kElt h61.ob 11 0 x87 (repL 1 [n0, (.s 0 0), (.s 0 0), n0, (.s 0 0), (.s 0 0), (.s 0 0), (.s 0 0), (.s 0 0), .nl, .nl]) fun c88 s89 => kSl b 2085 none 48 11 1 false c88 (apL s89 []) h61 fun x90 h91 => kHand h91.ob x90 fun x92 s93 => kGo u b none 11 [(.s 3 0x6c656e), x92] (apL s93 []) h91 fun x94 h95 => kGoH u b 25 [x23] [] h95 fun x96 h97 => kElt h97.ob 11 0 x94 (repL 2 [n0, (.s 0 0), (.s 0 0), n0, (.s 0 0), (.s 0 0), (.s 0 0), (.s 0 0), (.s 0 0), .nl, .nl]) fun c98 s99 => kElt h97.ob 11 1 x96 c98 fun c100 s101 => kSl b 2089 none 48 11 2 false c100 (apL s99 (apL s101 [])) h97 fun x102 h103 => kHand h103.ob x102 fun x104 s105 => kGo u b none 11 [(.s 1 0x3c), x104] (apL s105 []) h103 fun x106 h107 => kStore b none 11 x41 x106 h107 fun _ h109 => j6_59 x23 x24 x25 x26 x27 x41 h109
def b9_5 (u : Fn) (b : Nat) (j6_59 : F6) (x23 x41 x24 x25 x26 x27 : XV) (h61 : HS) : Ans :=
  kGoH u b 25 [x23] [] h61 fun x111 h112 => kGoH u b 25 [x23] [] h112 fun x113 h114 => kElt h114.ob 11 0 x111 (repL 2 [n0, (.s 0 0), (.s 0 0), n0, (.s 0 0), (.s 0 0), (.s 0 0), (.s 0 0), (.s 0 0), .nl, .nl]) fun c115 s116 => kElt h114.ob 11 1 x113 c115 fun c117 s118 => kSl b 2097 none 48 11 2 false c117 (apL s116 (apL s118 [])) h114 fun x119 h120 => kHand h120.ob x119 fun x121 s122 => kGo u b none 38 [(.s 6 0x6c696e6b6564), x121] (apL s122 []) h120 fun x123 h124 => kStore b none 11 x41 x123 h124 fun _ h126 => j6_59 x23 x24 x25 x26 x27 x41 h126
def b9_6 (u : Fn) (b : Nat) (j6_59 : F6) (x60 x23 x41 x24 x25 x26 x27 : XV) (h61 : HS) : Ans :=
  kEql x60 n3 fun x110 => cnd x110 (b9_5 u b j6_59 x23 x41 x24 x25 x26 x27 h61) (j6_59 x23 x24 x25 x26 x27 x41 h61)
def b9_7 (u : Fn) (b : Nat) (j6_59 : F6) (x60 x41 x23 x24 x25 x26 x27 : XV) (h61 : HS) : Ans :=
  kEql x60 n2 fun x86 => cnd x86 (kLoad h61.ob true 11 x41 fun x87 => b9_4 u b j6_59 x87 x23 x41 x24 x25 x26 x27 h61) (b9_6 u b j6_59 x60 x23 x41 x24 x25 x26 x27 h61)
def b9_8 (u : Fn) (b : Nat) (j6_59 : F6) (x60 x41 x23 x24 x25 x26 x27 : XV) (h61 : HS) : Ans :=
  kEql x60 n1 fun x74 => cnd x74 (b9_3 u b j6_59 x41 x23 x24 x25 x26 x27 h61) (b9_7 u b j6_59 x60 x41 x23 x24 x25 x26 x27 h61)
def b9_9 (u : Fn) (b : Nat) (j5_16 : F5) (x23 x24 x25 x26 x27 : XV) (h28 : HS) : Ans :=
  join (fun x29 x30 x31 x32 x33 h34 => kAdd x33 n1 fun x35 => j5_16 x29 x30 x31 x32 x35 h34) fun j5_36 => kHand h28.ob x24 fun x37 s38 => kGoH u b 37 [x23, x37, n1] (apL s38 []) h28 fun x39 h40 => kAlloc 48 b 8 none [n0, (.s 0 0), (.s 0 0), n0, (.s 0 0), (.s 0 0), (.s 0 0), (.s 0 0), (.s 0 0), .nl, .nl] h40 fun x41 h42 => kStore b none 11 x41 x39 h42 fun _ h44 => join (b9_1 u b j5_36) fun j6_59 => kGoH u b 23 [x23, n5] [] h44 fun x60 h61 => kEql x60 n0 fun x62 => cnd x62 (b9_2 u b j6_59 x41 x23 x24 x25 x26 x27 h61) (b9_8 u b j6_59 x60 x41 x23 x24 x25 x26 x27 h61)
def b9_10 (u : Fn) (b : Nat) (j1_15 : F1) (j5_16 : F5) (x17 x18 x19 x20 x21 : XV) (h22 : HS) : Ans :=
  join (b9_9 u b j5_16) fun j5_127 => kLss x21 x20 fun x128 => cnd x128 (j5_127 x17 x18 x19 x20 x21 h22) (j1_15 x19 h22)
def b9_11 (u : Fn) (b : Nat) (x5 x4 : XV) (h6 : HS) : Ans :=
  kHand h6.ob x5 fun x7 s8 => kGoH u b 7 [x4, x7, n3, n2] (apL s8 []) h6 fun x9 h10 => kGoH u b 23 [x4, n4] [] h10 fun x11 h12 => join (fun x13 h14 => r9 b x13 h14) fun j1_15 => lp [0, 1, 5, 6, 7] 1000000 (b9_10 u b j1_15) x4 x5 x9 x11 n0 h12
def b9 : Bd := fun u l b segs => argK l fun x4 l => argK l fun x5 l => argN l (b9_11 u b x5 x4 (hs0 b segs))
def r11 (b : Nat) (x0 : XV) (h1 : HS) : Ans :=
  kCell h1.ob x0 true 11 fun x2 => kHand h1.ob x2 fun q3 s4 => retP b q3 (apL s4 []) h1
def b11_1 (u : Fn) (b : Nat) (x5 x6 : XV) (h7 : HS) : Ans :=
  kAlloc 48 b 4 none [n0, (.s 0 0), (.s 0 0), n0, (.s 0 0), (.s 0 0), (.s 0 0), (.s 0 0), (.s 0 0), .nl, .nl] h7 fun x8 h9 => kHand h9.ob x5 fun x10 s11 => kHand h9.ob x6 fun x12 s13 => kGo u b none 40 [x10, x12] (apL s11 (apL s13 [])) h9 fun x14 h15 => kStore b none 11 x8 x14 h15 fun _ h17 => r11 b x8 h17
def b11 : Bd := fun u l b segs => argK l fun x5 l => argK l fun x6 l => argN l (b11_1 u b x5 x6 (hs0 b segs))
def r23 (b : Nat) (x0 : XV) (h1 : HS) : Ans :=
  kHand h1.ob x0 fun q2 s3 => retP b q2 (apL s3 []) h1
def b23_1 (u : Fn) (b : Nat) (x21 x20 x8 : XV) (h17 : HS) : Ans :=
  kFaddr 1 x21 fun x22 => met b [4096, 4098] [x22] <| kLoad h17.ob false 1 x22 fun x23 => kSub x23 n1 fun x24 => met b [4096, 4098] [x20, x24] <| kIaddr h17.ob 1 x20 x24 fun x25 => met b [4098] [x25] <| kLoad h17.ob false 1 x25 fun x26 => kv (vCint .i64 x26) fun x27 => kv (vBin .rem x27 x8) fun x28 => r23 b x28 h17
def b23_2 (u : Fn) (b : Nat) (x11 x7 x8 : XV) (h9 : HS) : Ans :=
  kLoad h9.ob false 1 x11 fun x12 => kAdd x12 n1 fun x13 => kNil x7 fun x14 => kFaddr 1 x14 fun x15 => kStore b none 1 x15 x13 h9 fun _ h17 => kNil x7 fun x18 => kFaddr 0 x18 fun x19 => met b [4096, 4098] [x19] <| kLoad h17.ob false 1 x19 fun x20 => kNil x7 fun x21 => b23_1 u b x21 x20 x8 h17
def b23_3 (u : Fn) (b : Nat) (j2_29 : F2) (x37 x4 x5 x38 x39 : XV) (h40 : HS) : Ans :=
  kPick x37 tt x39 fun x41 => cnd x41 (r23 b n0 h40) (j2_29 x4 x5 h40)
def b23_4 (u : Fn) (b : Nat) (j2_29 : F2) (x4 x32 x5 : XV) (h6 : HS) : Ans :=
  kNil x4 fun x33 => kFaddr 0 x33 fun x34 => met b [4096, 4098] [x34] <| kLoad h6.ob false 1 x34 fun x35 => kLen false x35 fun x36 => kGeq x32 x36 fun x37 => join (b23_3 u b j2_29 x37 x4 x5) fun j2_42 => grdB x37 false (kLss x5 n1 fun x43 => j2_42 x5 x43 h6) (j2_42 uu uu h6)
def b23_5 (u : Fn) (b : Nat) (x4 x5 : XV) (h6 : HS) : Ans :=
  join (fun x7 x8 h9 => kNil x7 fun x10 => kFaddr 1 x10 fun x11 => b23_2 u b x11 x7 x8 h9) fun j2_29 => kNil x4 fun x30 => kFaddr 1 x30 fun x31 => met b [4096, 4098] [x31] <| kLoad h6.ob false 1 x31 fun x32 => b23_4 u b j2_29 x4 x32 x5 h6
def b23 : Bd := fun u l b segs => argK l fun x4 l => argK l fun x5 l => argN l (b23_5 u b x4 x5 (hs0 b segs))
def r24 (b : Nat) (x0 : XV) (h1 : HS) : Ans :=
  kCell h1.ob x0 true 11 fun x2 => kHand h1.ob x2 fun q3 s4 => retP b q3 (apL s4 []) h1
def b24_1 (u : Fn) (b : Nat) (x34 x33 : XV) (h37 : HS) : Ans :=
  kLoad h37.ob true 11 x34 fun x38 => kElt h37.ob 11 0 x38 (repL 1 [n0, (.s 0 0), (.s 0 0), n0, (.s 0 0), (.s 0 0), (.s 0 0), (.s 0 0), (.s 0 0), .nl, .nl]) fun c39 s40 => kSl b 2066 none 48 11 1 false c39 (apL s40 []) h37 fun x41 h42 => kHand h42.ob x41 fun x43 s44 => kGo u b none 11 [(.s 3 0x6e6f74), x43] (apL s44 []) h42 fun x45 h46 => kStore b none 11 x33 x45 h46 fun _ h48 => r24 b x33 h48
def b24_2 (u : Fn) (b : Nat) (x62 x33 : XV) (h63 : HS) : Ans :=
  met b [2076] [x62] <| kHand h63.ob x62 fun x64 s65 => kGo u b (some []) 11 [(.s 5 0x657175616c), x64] (apL s65 []) h63 fun x66 h67 => met b [] [x66] <| kElt h67.ob 11 0 x66 (repL 1 [n0, (.s 0 0), (.s 0 0), n0, (.s 0 0), (.s 0 0), (.s 0 0), (.s 0 0), (.s 0 0), .nl, .nl]) fun c68 s69 => kSl b 2078 (some [2078]) 48 11 1 false c68 (apL s69 []) h67 fun x70 h71 => met b [2078] [x70] <| kHand h71.ob x70 fun x72 s73 => kGo u b (some []) 11 [(.s 3 0x6e6f74), x72] (apL s73 []) h71 fun x74 h75 => met b [6] [x33] <| kStore b (some [6]) 11 x33 x74 h75 fun _ h77 => r24 b x33 h77
def b24_3 (u : Fn) (b : Nat) (x34 x32 x31 x30 x33 : XV) (h37 : HS) : Ans :=
  met b [7] [x34] <| kLoad h37.ob true 11 x34 fun x50 => kSub x32 n1 fun x51 => kHand h37.ob x31 fun x52 s53 => kHand h37.ob x51 fun x54 s55 => kGoHD u b [4096, 4098] 37 [x30, x52, x54] (apL s53 (apL s55 [])) h37 fun x56 h57 => met b [4096, 4098, 4096, 4098] [x50, x56] <| kElt h57.ob 11 0 x50 (repL 2 [n0, (.s 0 0), (.s 0 0), n0, (.s 0 0), (.s 0 0), (.s 0 0), (.s 0 0), (.s 0 0), .nl, .nl]) fun c58 s59 => kElt h57.ob 11 1 x56 c58 fun c60 s61 => kSl b 2076 (some [2076]) 48 11 2 false c60 (apL s59 (apL s61 [])) h57 fun x62 h63 => b24_2 u b x62 x33 h63
def b24_4 (u : Fn) (b : Nat) (x30 x33 : XV) (h37 : HS) : Ans :=
  kGoH u b 25 [x30] [] h37 fun x79 h80 => kElt h80.ob 11 0 x79 (repL 1 [n0, (.s 0 0), (.s 0 0), n0, (.s 0 0), (.s 0 0), (.s 0 0), (.s 0 0), (.s 0 0), .nl, .nl]) fun c81 s82 => kSl b 2084 none 48 11 1 false c81 (apL s82 []) h80 fun x83 h84 => kHand h84.ob x83 fun x85 s86 => kGo u b none 11 [(.s 5 0x636f6e7370), x85] (apL s86 []) h84 fun x87 h88 => kElt h88.ob 11 0 x87 (repL 1 [n0, (.s 0 0), (.s 0 0), n0, (.s 0 0), (.s 0 0), (.s 0 0), (.s 0 0), (.s 0 0), .nl, .nl]) fun c89 s90 => kSl b 2086 none 48 11 1 false c89 (apL s90 []) h88 fun x91 h92 => kHand h92.ob x91 fun x93 s94 => kGo u b none 11 [(.s 3 0x6e6f74), x93] (apL s94 []) h92 fun x95 h96 => kStore b none 11 x33 x95 h96 fun _ h98 => r24 b x33 h98
def b24_5 (u : Fn) (b : Nat) (x31 x101 x30 x100 x33 : XV) (h37 : HS) : Ans :=
  kHand h37.ob x31 fun x102 s103 => kHand h37.ob x101 fun x104 s105 => kGoHD u b [4096, 4098] 37 [x30, x102, x104] (apL s103 (apL s105 [])) h37 fun x106 h107 => met b [4096, 4098, 4096, 4098] [x100, x106] <| kElt h107.ob 11 0 x100 (repL 2 [n0, (.s 0 0), (.s 0 0), n0, (.s 0 0), (.s 0 0), (.s 0 0), (.s 0 0), (.s 0 0), .nl, .nl]) fun c108 s109 => kElt h107.ob 11 1 x106 c108 fun c110 s111 => kSl b 2096 (some [2096]) 48 11 2 false c110 (apL s109 (apL s111 [])) h107 fun x112 h113 => met b [2096] [x112] <| kHand h113.ob x112 fun x114 s115 => kGo u b (some []) 11 [(.s 5 0x657175616c), x114] (apL s115 []) h113 fun x116 h117 => met b [6] [x33] <| kStore b (some [6]) 11 x33 x116 h117 fun _ h119 => r24 b x33 h119
def b24_6 (u : Fn) (b : Nat) (x34 x32 x31 x30 x33 : XV) (h37 : HS) : Ans :=
  met b [7] [x34] <| kLoad h37.ob true 11 x34 fun x100 => kSub x32 n1 fun x101 => b24_5 u b x31 x101 x30 x100 x33 h37
def b24_7 (u : Fn) (b : Nat) (x121 x128 x33 : XV) (h129 : HS) : Ans :=
  kElt h129.ob 11 0 x121 (repL 2 [n0, (.s 0 0), (.s 0 0), n0, (.s 0 0), (.s 0 0), (.s 0 0), (.s 0 0), (.s 0 0), .nl, .nl]) fun c130 s131 => kElt h129.ob 11 1 x128 c130 fun c132 s133 => kSl b 2107 none 48 11 2 false c132 (apL s131 (apL s133 [])) h129 fun x134 h135 => kHand h135.ob x134 fun x136 s137 => kGo u b none 11 [(.s 1 0x3c), x136] (apL s137 []) h135 fun x138 h139 => kElt h139.ob 11 0 x138 (repL 1 [n0, (.s 0 0), (.s 0 0), n0, (.s 0 0), (.s 0 0), (.s 0 0), (.s 0 0), (.s 0 0), .nl, .nl]) fun c140 s141 => kSl b 2109 none 48 11 1 false c140 (apL s141 []) h139 fun x142 h143 => kHand h143.ob x142 fun x144 s145 => kGo u b none 11 [(.s 3 0x6e6f74), x144] (apL s145 []) h143 fun x146 h147 => kStore b none 11 x33 x146 h147 fun _ h149 => r24 b x33 h149
def b24_8 (u : Fn) (b : Nat) (x30 x32 x31 x33 : XV) (h37 : HS) : Ans :=
  kGoH u b 25 [x30] [] h37 fun x121 h122 => kSub x32 n1 fun x123 => kHand h122.ob x31 fun x124 s125 => kHand h122.ob x123 fun x126 s127 => kGoH u b 37 [x30, x124, x126] (apL s125 (apL s127 [])) h122 fun x128 h129 => b24_7 u b x121 x128 x33 h129
def b24_9 (u : Fn) (b : Nat) (j2_27 : F2) (x35 x30 x32 x31 x33 x34 : XV) (h37 : HS) : Ans :=
  kEql x35 n5 fun x120 => cnd x120 (b24_8 u b x30 x32 x31 x33 h37) (j2_27 x33 x34 h37)
def b24_10 (u : Fn) (b : Nat) (j2_27 : F2) (x35 x34 x32 x31 x30 x33 : XV) (h37 : HS) : Ans :=
  kEql x35 n4 fun x99 => cnd x99 (b24_6 u b x34 x32 x31 x30 x33 h37) (b24_9 u b j2_27 x35 x30 x32 x31 x33 x34 h37)
def b24_11 (u : Fn) (b : Nat) (j2_27 : F2) (x35 x30 x33 x34 x32 x31 : XV) (h37 : HS) : Ans :=
  kEql x35 n3 fun x78 => cnd x78 (b24_4 u b x30 x33 h37) (b24_10 u b j2_27 x35 x34 x32 x31 x30 x33 h37)
def b24_12 (u : Fn) (b : Nat) (j2_27 : F2) (x35 x34 x32 x31 x30 x33 : XV) (h37 : HS) : Ans :=
  kEql x35 n2 fun x49 => cnd x49 (b24_3 u b x34 x32 x31 x30 x33 h37) (b24_11 u b j2_27 x35 x30 x33 x34 x32 x31 h37)
def b24_13 (u : Fn) (b : Nat) (x5 x6 x7 x9 x17 : XV) (h20 : HS) : Ans :=
  join (fun x21 x22 h23 => kLoad h23.ob true 11 x22 fun x24 => kStore b none 11 x21 x24 h23 fun _ h26 => r24 b x21 h26) fun j2_27 => kGoH u b 23 [x5, n8] [] h20 fun x28 h29 => join (fun x30 x31 x32 x33 x34 x35 x36 h37 => cnd x36 (b24_1 u b x34 x33 h37) (b24_12 u b j2_27 x35 x34 x32 x31 x30 x33 h37)) fun j7_150 => kEql x28 n0 fun x151 => cnd x151 (j7_150 x5 x6 x7 x9 x17 x28 x151 h29) (kEql x28 n1 fun x152 => j7_150 x5 x6 x7 x9 x17 x28 x152 h29)
def b24_14 (u : Fn) (b : Nat) (x6 x7 x5 : XV) (h8 : HS) : Ans :=
  kAlloc 48 b 6 none [n0, (.s 0 0), (.s 0 0), n0, (.s 0 0), (.s 0 0), (.s 0 0), (.s 0 0), (.s 0 0), .nl, .nl] h8 fun x9 h10 => kHand h10.ob x6 fun x11 s12 => kHand h10.ob x7 fun x13 s14 => kGoH u b 37 [x5, x11, x13] (apL s12 (apL s14 [])) h10 fun x15 h16 => kAlloc 48 b 7 none [n0, (.s 0 0), (.s 0 0), n0, (.s 0 0), (.s 0 0), (.s 0 0), (.s 0 0), (.s 0 0), .nl, .nl] h16 fun x17 h18 => kStore b none 11 x17 x15 h18 fun _ h20 => b24_13 u b x5 x6 x7 x9 x17 h20
def b24 : Bd := fun u l b segs => argK l fun x5 l => argK l fun x6 l => argK l fun x7 l => argN l (b24_14 u b x6 x7 x5 (hs0 b segs))
def r25 (b : Nat) (x0 : XV) (h1 : HS) : Ans :=
  kCell h1.ob x0 true 11 fun x2 => kHand h1.ob x2 fun q3 s4 => retP b q3 (apL s4 []) h1
def b25_1 (u : Fn) (b : Nat) (x5 : XV) (h6 : HS) : Ans :=
  kAlloc 48 b 2 none [n0, (.s 0 0), (.s 0 0), n0, (.s 0 0), (.s 0 0), (.s 0 0), (.s 0 0), (.s 0 0), .nl, .nl] h6 fun x7 h8 => kGoH u b 23 [x5, n3] [] h8 fun x9 h10 => kSslice (.s 3 0x78797a) (some x9) none fun x11 => kSslice x11 none (some n1) fun x12 => kHand h10.ob x12 fun x13 s14 => kGo u b none 10 [x13] (apL s14 []) h10 fun x15 h16 => kStore b none 11 x7 x15 h16 fun _ h18 => r25 b x7 h18
def b25 : Bd := fun u l b segs => argK l fun x5 l => argN l (b25_1 u b x5 (hs0 b segs))
def r26 (b : Nat) (x0 : XV) (h1 : HS) : Ans :=
  kCell h1.ob x0 true 11 fun x2 => kHand h1.ob x2 fun q3 s4 => retP b q3 (apL s4 []) h1
def b26_1 (u : Fn) (b : Nat) (x5 : XV) (h6 : HS) : Ans :=
  kBox 46 b 1 none x5 h6 fun x7 h8 => kAlloc 48 b 2 none [n0, (.s 0 0), (.s 0 0), n0, (.s 0 0), (.s 0 0), (.s 0 0), (.s 0 0), (.s 0 0), .nl, .nl] h8 fun x9 h10 => kLoad h10.ob true 7 x7 fun x11 => kPart 0 1 n2 [n0, (.s 0 0), (.s 0 0), n0, (.s 0 0), (.s 0 0), (.s 0 0), (.s 0 0), (.s 0 0), .nl, .nl] fun c12 => kPart 3 7 x11 c12 fun c13 => kAgg c13 fun x14 => kStore b none 11 x9 x14 h10 fun _ h16 => r26 b x9 h16
def b26 : Bd := fun u l b segs => argK l fun x5 l => argN l (b26_1 u b x5 (hs0 b segs))
def r27 (b : Nat) (x0 : XV) (h1 : HS) : Ans :=
  kCell h1.ob x0 true 7 fun x2 => kHand h1.ob x2 fun q3 s4 => retP b q3 (apL s4 []) h1
def b27_1 (u : Fn) (b : Nat) (x26 x18 x17 x19 : XV) (h29 : HS) : Ans :=
  met b [9] [x26] <| kLoad h29.ob true 7 x26 fun x30 => kSub x18 n1 fun x31 => kHand h29.ob x31 fun x32 s33 => kGoHD u b [4096, 4098] 27 [x17, x32] (apL s33 []) h29 fun x34 h35 => met b [4096, 4098, 4096, 4098] [x30, x34] <| kHand h35.ob x30 fun x36 s37 => kHand h35.ob x34 fun x38 s39 => kGo u b (some []) 83 [x36, x38] (apL s37 (apL s39 [])) h35 fun x40 h41 => met b [4] [x19] <| kStore b (some [4]) 7 x19 x40 h41 fun _ h43 => r27 b x19 h43
def b27_2 (u : Fn) (b : Nat) (x17 x18 x19 : XV) (h20 : HS) : Ans :=
  kSub x18 n1 fun x21 => kHand h20.ob x21 fun x22 s23 => kGoH u b 27 [x17, x22] (apL s23 []) h20 fun x24 h25 => kAlloc 46 b 9 none [n0, (.s 0 0), (.s 0 0), (.s 0 0), (.s 0 0), (.s 0 0), .nl] h25 fun x26 h27 => kStore b none 7 x26 x24 h27 fun _ h29 => b27_1 u b x26 x18 x17 x19 h29
def b27_3 (u : Fn) (b : Nat) (x55 x57 : XV) (h60 : HS) : Ans :=
  kGoH u b 23 [x55, n7] [] h60 fun x61 h62 => kSub x61 n3 fun x63 => kHand h62.ob x63 fun x64 s65 => kGo u b none 78 [x64] (apL s65 []) h62 fun x66 h67 => kStore b none 7 x57 x66 h67 fun _ h69 => r27 b x57 h69
def b27_4 (u : Fn) (b : Nat) (x55 x57 : XV) (h60 : HS) : Ans :=
  kGoH u b 23 [x55, n3] [] h60 fun x81 h82 => kSslice (.s 3 0x616263) (some x81) none fun x83 => kSslice x83 none (some n1) fun x84 => kHand h82.ob x84 fun x85 s86 => kGo u b none 13 [x85] (apL s86 []) h82 fun x87 h88 => kHand h88.ob x87 fun x89 s90 => kGo u b none 80 [x89] (apL s90 []) h88 fun x91 h92 => kStore b none 7 x57 x91 h92 fun _ h94 => r27 b x57 h94
def b27_5 (u : Fn) (b : Nat) (x55 x57 : XV) (h60 : HS) : Ans :=
  kGoH u b 23 [x55, n3] [] h60 fun x96 h97 => kSslice (.s 2 0x7071) none (some x96) fun x98 => kHand h97.ob x98 fun x99 s100 => kGo u b none 81 [x99] (apL s100 []) h97 fun x101 h102 => kStore b none 7 x57 x101 h102 fun _ h104 => r27 b x57 h104
def b27_6 (u : Fn) (b : Nat) (x122 x123 : XV) (h124 : HS) : Ans :=
  kHand h124.ob x123 fun x125 s126 => kGo u b none 82 [x125] (apL s126 []) h124 fun x127 h128 => kStore b none 7 x122 x127 h128 fun _ h130 => r27 b x122 h130
def b27_7 (u : Fn) (b : Nat) (j6_132 : F6) (x140 x141 x142 x143 x144 x145 : XV) (h146 : HS) : Ans :=
  join (fun x147 x148 x149 x150 x151 x152 h153 => kAdd x152 n1 fun x154 => j6_132 x147 x148 x149 x150 x151 x154 h153) fun j6_155 => kSub x141 n1 fun x156 => kHand h146.ob x156 fun x157 s158 => kGoH u b 27 [x140, x157] (apL s158 []) h146 fun x159 h160 => kElt h160.ob 7 0 x159 (repL 1 [n0, (.s 0 0), (.s 0 0), (.s 0 0), (.s 0 0), (.s 0 0), .nl]) fun c161 s162 => kSl b 2124 none 46 7 1 false c161 (apL s162 []) h160 fun x163 h164 => kAppend b 2125 none 46 7 112 x143 x163 false h164 fun x165 h166 => j6_155 x140 x141 x142 x165 x144 x145 h166
def b27_8 (u : Fn) (b : Nat) (j2_131 : F2) (j6_132 : F6) (x133 x134 x135 x136 x137 x138 : XV) (h139 : HS) : Ans :=
  join (b27_7 u b j6_132) fun j6_167 => kLss x138 x137 fun x168 => cnd x168 (j6_167 x133 x134 x135 x136 x137 x138 h139) (j2_131 x135 x136 h139)
def b27_9 (u : Fn) (b : Nat) (x115 x116 x117 : XV) (h119 : HS) : Ans :=
  kGoH u b 23 [x115, n4] [] h119 fun x120 h121 => join (b27_6 u b) fun j2_131 => lp [0, 1, 4, 6, 7, 8] 1000000 (b27_8 u b j2_131) x115 x116 x117 .nl x120 n0 h121
def b27_10 (u : Fn) (b : Nat) (j4_169 : F4) (x58 x55 x56 x57 : XV) (h60 : HS) : Ans :=
  kEql x58 n11 fun x171 => cnd x171 (j4_169 x55 x56 x57 x171 h60) (kEql x58 n12 fun x172 => j4_169 x55 x56 x57 x172 h60)
def b27_11 (u : Fn) (b : Nat) (j3_44 : F3) (x58 x55 x56 x57 : XV) (h60 : HS) : Ans :=
  join (fun x115 x116 x117 x118 h119 => cnd x118 (b27_9 u b x115 x116 x117 h119) (j3_44 x115 x116 x117 h119)) fun j4_169 => kEql x58 n10 fun x170 => cnd x170 (j4_169 x55 x56 x57 x170 h60) (b27_10 u b j4_169 x58 x55 x56 x57 h60)
def b27_12 (u : Fn) (b : Nat) (j3_44 : F3) (x58 x57 x55 x56 : XV) (h60 : HS) : Ans :=
  kEql x58 n9 fun x110 => cnd x110 (kGo u b none 78 [n1] [] h60 fun x111 h112 => kStore b none 7 x57 x111 h112 fun _ h114 => r27 b x57 h114) (b27_11 u b j3_44 x58 x55 x56 x57 h60)
def b27_13 (u : Fn) (b : Nat) (j3_44 : F3) (x58 x57 x55 x56 : XV) (h60 : HS) : Ans :=
  kEql x58 n8 fun x105 => cnd x105 (kGo u b none 78 [n0] [] h60 fun x106 h107 => kStore b none 7 x57 x106 h107 fun _ h109 => r27 b x57 h109) (b27_12 u b j3_44 x58 x57 x55 x56 h60)
def b27_14 (u : Fn) (b : Nat) (j3_44 : F3) (x58 x55 x57 x56 : XV) (h60 : HS) : Ans :=
  kEql x58 n7 fun x95 => cnd x95 (b27_5 u b x55 x57 h60) (b27_13 u b j3_44 x58 x57 x55 x56 h60)
def b27_15 (u : Fn) (b : Nat) (j3_44 : F3) (x58 x55 x57 x56 : XV) (h60 : HS) : Ans :=
  kEql x58 n6 fun x80 => cnd x80 (b27_4 u b x55 x57 h60) (b27_14 u b j3_44 x58 x55 x57 x56 h60)
def b27_16 (u : Fn) (b : Nat) (j3_44 : F3) (x58 x57 x55 x56 : XV) (h60 : HS) : Ans :=
  kEql x58 n5 fun x75 => cnd x75 (kGo u b none 79 [(.s 2 0x2d35), (.s 1 0x33)] [] h60 fun x76 h77 => kStore b none 7 x57 x76 h77 fun _ h79 => r27 b x57 h79) (b27_15 u b j3_44 x58 x55 x57 x56 h60)
def b27_17 (u : Fn) (b : Nat) (j3_44 : F3) (x58 x57 x55 x56 : XV) (h60 : HS) : Ans :=
  kEql x58 n4 fun x70 => cnd x70 (kGo u b none 79 [(.s 1 0x31), (.s 1 0x32)] [] h60 fun x71 h72 => kStore b none 7 x57 x71 h72 fun _ h74 => r27 b x57 h74) (b27_16 u b j3_44 x58 x57 x55 x56 h60)
def b27_18 (u : Fn) (b : Nat) (j3_44 : F3) (x15 x12 x13 x14 : XV) (h16 : HS) : Ans :=
  join (fun x55 x56 x57 x58 x59 h60 => cnd x59 (b27_3 u b x55 x57 h60) (b27_17 u b j3_44 x58 x57 x55 x56 h60)) fun j5_173 => kEql x15 n2 fun x174 => cnd x174 (j5_173 x12 x13 x14 x15 x174 h16) (kEql x15 n3 fun x175 => j5_173 x12 x13 x14 x15 x175 h16)
def b27_19 (u : Fn) (b : Nat) (j3_44 : F3) (x15 x14 x12 x13 : XV) (h16 : HS) : Ans :=
  kEql x15 n1 fun x50 => cnd x50 (kGo u b none 60 [] [] h16 fun x51 h52 => kStore b none 7 x14 x51 h52 fun _ h54 => r27 b x14 h54) (b27_18 u b j3_44 x15 x12 x13 x14 h16)
def b27_20 (u : Fn) (b : Nat) (x12 x13 x14 x15 : XV) (h16 : HS) : Ans :=
  join (b27_2 u b) fun j3_44 => kEql x15 n0 fun x45 => cnd x45 (kGo u b none 77 [] [] h16 fun x46 h47 => kStore b none 7 x14 x46 h47 fun _ h49 => r27 b x14 h49) (b27_19 u b j3_44 x15 x14 x12 x13 h16)
def b27_21 (u : Fn) (b : Nat) (j4_176 : F4) (x177 x10 x5 x6 x8 x178 x179 : XV) (h180 : HS) : Ans :=
  kPick x177 x179 ff fun x181 => cnd x181 (kSub x10 n8 fun x182 => j4_176 x5 x6 x8 x182 h180) (j4_176 x5 x6 x8 x10 h180)
def b27_22 (u : Fn) (b : Nat) (x5 x6 : XV) (h7 : HS) : Ans :=
  kAlloc 46 b 4 none [n0, (.s 0 0), (.s 0 0), (.s 0 0), (.s 0 0), (.s 0 0), .nl] h7 fun x8 h9 => kGoH u b 23 [x5, n14] [] h9 fun x10 h11 => join (b27_20 u b) fun j4_176 => kLss x6 n1 fun x177 => join (b27_21 u b j4_176 x177 x10 x5 x6 x8) fun j2_183 => grdB x177 true (kGtr x10 n9 fun x184 => j2_183 x10 x184 h11) (j2_183 uu uu h11)
def b27 : Bd := fun u l b segs => argK l fun x5 l => argK l fun x6 l => argN l (b27_22 u b x5 x6 (hs0 b segs))
def r35 (b : Nat) (x0 : XV) (h1 : HS) : Ans :=
  kHand h1.ob x0 fun q2 s3 => retP b q2 (apL s3 []) h1
def b35_1 (u : Fn) (b : Nat) (x4 : XV) (h5 : HS) : Ans :=
  kBox 48 b 1 none x4 h5 fun x6 h7 => kLoad h7.ob true 11 x6 fun x8 => kHand h7.ob x8 fun x9 s10 => kGo u b none 92 [x9, n3001] (apL s10 []) h7 fun x11 h12 => kv (vMx true n0 x11) fun x13 => kSub n3001 x13 fun x14 => r35 b x14 h12
def b35 : Bd := fun u l b segs => argK l fun x4 l => argN l (b35_1 u b x4 (hs0 b segs))
def r37 (b : Nat) (x0 : XV) (h1 : HS) : Ans :=
  kCell h1.ob x0 true 11 fun x2 => kHand h1.ob x2 fun q3 s4 => retP b q3 (apL s4 []) h1
def b37_1 (u : Fn) (b : Nat) (x41 x42 x43 : XV) (h44 : HS) : Ans :=
  kLoad h44.ob true 2 x42 fun x45 => kHand h44.ob x45 fun x46 s47 => kHand h44.ob x43 fun x48 s49 => kGo u b none 54 [x46, x48] (apL s47 (apL s49 [])) h44 fun x50 h51 => kStore b none 11 x41 x50 h51 fun _ h53 => r37 b x41 h53
def b37_2 (u : Fn) (b : Nat) (j8_55 : F8) (x65 x66 x67 x68 x69 x70 x71 x72 : XV) (h73 : HS) : Ans :=
  join (fun x74 x75 x76 x77 x78 x79 x80 x81 h82 => kAdd x81 n1 fun x83 => j8_55 x74 x75 x76 x77 x78 x79 x80 x83 h82) fun j8_84 => kSub x67 n1 fun x85 => kHand h73.ob x66 fun x86 s87 => kHand h73.ob x85 fun x88 s89 => kGoH u b 37 [x65, x86, x88] (apL s87 (apL s89 [])) h73 fun x90 h91 => kElt h91.ob 11 0 x90 (repL 1 [n0, (.s 0 0), (.s 0 0), n0, (.s 0 0), (.s 0 0), (.s 0 0), (.s 0 0), (.s 0 0), .nl, .nl]) fun c92 s93 => kSl b 2122 none 48 11 1 false c92 (apL s93 []) h91 fun x94 h95 => kAppend b 2123 none 48 11 176 x71 x94 false h95 fun x96 h97 => j8_84 x65 x66 x67 x68 x69 x70 x96 x72 h97
def b37_3 (u : Fn) (b : Nat) (j3_54 : F3) (j8_55 : F8) (x56 x57 x58 x59 x60 x61 x62 x63 : XV) (h64 : HS) : Ans :=
  join (b37_2 u b j8_55) fun j8_98 => kLss x63 x61 fun x99 => cnd x99 (j8_98 x56 x57 x58 x59 x60 x61 x62 x63 h64) (j3_54 x59 x60 x62 h64)
def b37_4 (u : Fn) (b : Nat) (x26 x27 x28 x29 x30 : XV) (h31 : HS) : Ans :=
  kLoad h31.ob true 2 x30 fun x32 => kHand h31.ob x27 fun x33 s34 => kHand h31.ob x32 fun x35 s36 => kGo u b none 104 [x33, x35] (apL s34 (apL s36 [])) h31 fun x37 h38 => kExt x37 0 fun x39 => kExt x37 1 fun _ => join (b37_1 u b) fun j3_54 => lp [0, 1, 2, 6, 8, 11, 13, 14] 1000000 (b37_3 u b j3_54) x26 x27 x28 x29 x30 x39 .nl n0 h38
def b37_5 (u : Fn) (b : Nat) (j5_100 : F5) (x101 x19 x24 x20 x21 x22 : XV) (h106 : HS) : Ans :=
  kLen false x101 fun x108 => kHand h106.ob x108 fun x109 s110 => kGoH u b 23 [x19, x109] (apL s110 []) h106 fun x111 h112 => kIaddr h112.ob 1 x101 x111 fun x113 => kLoad h112.ob false 1 x113 fun x114 => kHand h112.ob x114 fun x115 s116 => kGo u b none 103 [x115] (apL s116 []) h112 fun x117 h118 => kStore b none 2 x24 x117 h118 fun _ h120 => j5_100 x19 x20 x21 x22 x24 h120
def b37_6 (u : Fn) (b : Nat) (j5_100 : F5) (x103 x19 x24 x20 x21 x22 : XV) (h106 : HS) : Ans :=
  kLen false x103 fun x121 => kHand h106.ob x121 fun x122 s123 => kGoH u b 23 [x19, x122] (apL s123 []) h106 fun x124 h125 => kIaddr h125.ob 1 x103 x124 fun x126 => kLoad h125.ob false 1 x126 fun x127 => kHand h125.ob x127 fun x128 s129 => kGo u b none 13 [x128] (apL s129 []) h125 fun x130 h131 => kStore b none 2 x24 x130 h131 fun _ h133 => j5_100 x19 x20 x21 x22 x24 h133
def b37_7 (u : Fn) (b : Nat) (x19 x20 x21 x22 : XV) (h23 : HS) : Ans :=
  kAlloc 43 b 8 none [(.s 0 0), (.s 0 0)] h23 fun x24 h25 => join (b37_4 u b) fun j5_100 => kGo u b none 101 [] [] h25 fun x101 h102 => kGo u b none 102 [] [] h102 fun x103 h104 => kGoH u b 23 [x19, n4] [] h104 fun x105 h106 => kLss x105 n3 fun x107 => cnd x107 (b37_5 u b j5_100 x101 x19 x24 x20 x21 x22 h106) (b37_6 u b j5_100 x103 x19 x24 x20 x21 x22 h106)
def b37_8 (u : Fn) (b : Nat) (x13 x16 : XV) (h18 : HS) : Ans :=
  kGoH u b 27 [x13, n1] [] h18 fun x141 h142 => kHand h142.ob x141 fun x143 s144 => kGo u b none 26 [x143] (apL s144 []) h142 fun x145 h146 => kStore b none 11 x16 x145 h146 fun _ h148 => r37 b x16 h148
def b37_9 (u : Fn) (b : Nat) (j4_134 : F4) (x17 x13 x16 x14 x15 : XV) (h18 : HS) : Ans :=
  kEql x17 n3 fun x140 => cnd x140 (b37_8 u b x13 x16 h18) (j4_134 x13 x14 x15 x16 h18)
def b37_10 (u : Fn) (b : Nat) (x13 x14 x15 x16 x17 : XV) (h18 : HS) : Ans :=
  join (b37_7 u b) fun j4_134 => kLss x17 n3 fun x135 => cnd x135 (kGoH u b 25 [x13] [] h18 fun x136 h137 => kStore b none 11 x16 x136 h137 fun _ h139 => r37 b x16 h139) (b37_9 u b j4_134 x17 x13 x16 x14 x15 h18)
def b37_11 (u : Fn) (b : Nat) (j5_149 : F5) (x150 x11 x5 x6 x7 x9 x151 x152 : XV) (h153 : HS) : Ans :=
  kPick x150 x152 ff fun x154 => cnd x154 (kv (vBin .rem x11 n4) fun x155 => j5_149 x5 x6 x7 x9 x155 h153) (j5_149 x5 x6 x7 x9 x11 h153)
def b37_12 (u : Fn) (b : Nat) (x5 x7 x6 : XV) (h8 : HS) : Ans :=
  kAlloc 48 b 6 none [n0, (.s 0 0), (.s 0 0), n0, (.s 0 0), (.s 0 0), (.s 0 0), (.s 0 0), (.s 0 0), .nl, .nl] h8 fun x9 h10 => kGoH u b 23 [x5, n12] [] h10 fun x11 h12 => join (b37_10 u b) fun j5_149 => kLss x7 n1 fun x150 => join (b37_11 u b j5_149 x150 x11 x5 x6 x7 x9) fun j2_156 => grdB x150 true (kGtr x11 n3 fun x157 => j2_156 x11 x157 h12) (j2_156 uu uu h12)
def b37 : Bd := fun u l b segs => argK l fun x5 l => argK l fun x6 l => argK l fun x7 l => argN l (b37_12 u b x5 x7 x6 (hs0 b segs))
def r39 (b : Nat) (x0 : XV) (h1 : HS) : Ans :=
  kCell h1.ob x0 true 11 fun x2 => kHand h1.ob x2 fun q3 s4 => retP b q3 (apL s4 []) h1
def b39_1 (u : Fn) (b : Nat) (x5 : XV) (h6 : HS) : Ans :=
  kBox 43 b 1 none x5 h6 fun x7 h8 => kAlloc 48 b 2 none [n0, (.s 0 0), (.s 0 0), n0, (.s 0 0), (.s 0 0), (.s 0 0), (.s 0 0), (.s 0 0), .nl, .nl] h8 fun x9 h10 => kLoad h10.ob true 2 x7 fun x11 => kPart 0 1 n1 [n0, (.s 0 0), (.s 0 0), n0, (.s 0 0), (.s 0 0), (.s 0 0), (.s 0 0), (.s 0 0), .nl, .nl] fun c12 => kPart 1 2 x11 c12 fun c13 => kAgg c13 fun x14 => kStore b none 11 x9 x14 h10 fun _ h16 => r39 b x9 h16
def b39 : Bd := fun u l b segs => argK l fun x5 l => argN l (b39_1 u b x5 (hs0 b segs))
def r40 (b : Nat) (x0 : XV) (h1 : HS) : Ans :=
  kCell h1.ob x0 true 11 fun x2 => kHand h1.ob x2 fun q3 s4 => retP b q3 (apL s4 []) h1
def b40_1 (u : Fn) (b : Nat) (x5 x6 : XV) (h7 : HS) : Ans :=
  kAlloc 48 b 4 none [n0, (.s 0 0), (.s 0 0), n0, (.s 0 0), (.s 0 0), (.s 0 0), (.s 0 0), (.s 0 0), .nl, .nl] h7 fun x8 h9 => kHand h9.ob x5 fun x10 s11 => kGo u b none 45 [x10] (apL s11 []) h9 fun x12 h13 => kHand h13.ob x12 fun x14 s15 => kHand h13.ob x6 fun x16 s17 => kGo u b none 54 [x14, x16] (apL s15 (apL s17 [])) h13 fun x18 h19 => kStore b none 11 x8 x18 h19 fun _ h21 => r40 b x8 h21
def b40 : Bd := fun u l b segs => argK l fun x5 l => argK l fun x6 l => argN l (b40_1 u b x5 x6 (hs0 b segs))
def r41 (b : Nat) (x0 : XV) (h1 : HS) : Ans :=
  kHand h1.ob x0 fun q2 s3 => retP b q2 (apL s3 []) h1
def b41_1 (u : Fn) (b : Nat) (j3_30 : F3) (x36 x23 x34 x21 x22 : XV) (h24 : HS) : Ans :=
  met b [] [x36, x23] <| kIaddr h24.ob 7 x36 x23 fun x37 => met b [] [x37] <| kLoad h24.ob true 7 x37 fun x38 => met b [] [x34, x38] <| kHand h24.ob x34 fun x39 s40 => kHand h24.ob x38 fun x41 s42 => kGo u b (some []) 41 [x39, x41] (apL s40 (apL s42 [])) h24 fun x43 h44 => kNot x43 fun x45 => cnd x45 (r41 b ff h44) (j3_30 x21 x22 x23 h44)
def b41_2 (u : Fn) (b : Nat) (j3_16 : F3) (x21 x22 x23 : XV) (h24 : HS) : Ans :=
  join (fun x25 x26 x27 h28 => kAdd x27 n1 fun x29 => j3_16 x25 x26 x29 h28) fun j3_30 => kFaddr 6 x21 fun x31 => met b [2] [x31] <| kLoad h24.ob false 1 x31 fun x32 => met b [] [x32, x23] <| kIaddr h24.ob 7 x32 x23 fun x33 => met b [] [x33] <| kLoad h24.ob true 7 x33 fun x34 => kFaddr 6 x22 fun x35 => met b [3] [x35] <| kLoad h24.ob false 1 x35 fun x36 => b41_1 u b j3_30 x36 x23 x34 x21 x22 h24
def b41_3 (u : Fn) (b : Nat) (j0_15 : F0) (j3_16 : F3) (x17 x18 x19 : XV) (h20 : HS) : Ans :=
  join (b41_2 u b j3_16) fun j3_46 => kFaddr 6 x17 fun x47 => kLoad h20.ob false 1 x47 fun x48 => kLen false x48 fun x49 => kLss x19 x49 fun x50 => cnd x50 (j3_46 x17 x18 x19 h20) (j0_15 h20)
def b41_4 (u : Fn) (b : Nat) (x11 x12 : XV) (h13 : HS) : Ans :=
  join (fun h14 => r41 b tt h14) fun j0_15 => lp [2, 3, 5] 1000000 (b41_3 u b j0_15) x11 x12 n0 h13
def b41_5 (u : Fn) (b : Nat) (j2_51 : F2) (x84 x7 x9 x85 x86 x87 x88 x89 x90 x91 : XV) (h92 : HS) : Ans :=
  kPick x84 tt x91 fun x93 => cnd x93 (r41 b ff h92) (j2_51 x7 x9 h92)
def b41_6 (u : Fn) (b : Nat) (j7_94 : F7) (x7 x9 : XV) (h83 : HS) : Ans :=
  kFaddr 6 x7 fun x95 => kLoad h83.ob false 1 x95 fun x96 => kLen false x96 fun x97 => kFaddr 6 x9 fun x98 => kLoad h83.ob false 1 x98 fun x99 => kLen false x99 fun x100 => kNeq x97 x100 fun x101 => j7_94 x95 x96 x97 x98 x99 x100 x101 h83
def b41_7 (u : Fn) (b : Nat) (j2_51 : F2) (x77 x7 x9 x78 x79 x80 x81 x82 : XV) (h83 : HS) : Ans :=
  kPick x77 tt x82 fun x84 => join (b41_5 u b j2_51 x84 x7 x9) fun j7_94 => grdB x84 false (b41_6 u b j7_94 x7 x9 h83) (j7_94 uu uu uu uu uu uu uu h83)
def b41_8 (u : Fn) (b : Nat) (j2_51 : F2) (x70 x7 x9 x71 x72 x73 x74 x75 : XV) (h76 : HS) : Ans :=
  kPick x70 tt x75 fun x77 => join (b41_7 u b j2_51 x77 x7 x9) fun j5_102 => grdB x77 false (kFaddr 5 x7 fun x103 => kLoad h76.ob false 1 x103 fun x104 => kFaddr 5 x9 fun x105 => kLoad h76.ob false 1 x105 fun x106 => kNeq x104 x106 fun x107 => j5_102 x103 x104 x105 x106 x107 h76) (j5_102 uu uu uu uu uu h76)
def b41_9 (u : Fn) (b : Nat) (j2_51 : F2) (x63 x7 x9 x64 x65 x66 x67 x68 : XV) (h69 : HS) : Ans :=
  kPick x63 tt x68 fun x70 => join (b41_8 u b j2_51 x70 x7 x9) fun j5_108 => grdB x70 false (kFaddr 3 x7 fun x109 => kLoad h69.ob true 2 x109 fun x110 => kFaddr 3 x9 fun x111 => kLoad h69.ob true 2 x111 fun x112 => kEqs true x110 x112 fun x113 => j5_108 x109 x110 x111 x112 x113 h69) (j5_108 uu uu uu uu uu h69)
def b41_10 (u : Fn) (b : Nat) (j2_51 : F2) (x56 x7 x9 x57 x58 x59 x60 x61 : XV) (h62 : HS) : Ans :=
  kPick x56 tt x61 fun x63 => join (b41_9 u b j2_51 x63 x7 x9) fun j5_114 => grdB x63 false (kFaddr 2 x7 fun x115 => kLoad h62.ob false 1 x115 fun x116 => kFaddr 2 x9 fun x117 => kLoad h62.ob false 1 x117 fun x118 => kNeq x116 x118 fun x119 => j5_114 x115 x116 x117 x118 x119 h62) (j5_114 uu uu uu uu uu h62)
def b41_11 (u : Fn) (b : Nat) (j2_51 : F2) (x54 x53 x7 x9 : XV) (h10 : HS) : Ans :=
  kLoad h10.ob false 1 x54 fun x55 => kNeq x53 x55 fun x56 => join (b41_10 u b j2_51 x56 x7 x9) fun j5_120 => grdB x56 false (kFaddr 1 x7 fun x121 => kLoad h10.ob false 1 x121 fun x122 => kFaddr 1 x9 fun x123 => kLoad h10.ob false 1 x123 fun x124 => kNeq x122 x124 fun x125 => j5_120 x121 x122 x123 x124 x125 h10) (j5_120 uu uu uu uu uu h10)
def b41_12 (u : Fn) (b : Nat) (x4 x5 : XV) (h6 : HS) : Ans :=
  kBox 46 b 2 none x4 h6 fun x7 h8 => kBox 46 b 3 none x5 h8 fun x9 h10 => join (b41_4 u b) fun j2_51 => kFaddr 0 x7 fun x52 => kLoad h10.ob false 1 x52 fun x53 => kFaddr 0 x9 fun x54 => b41_11 u b j2_51 x54 x53 x7 x9 h10
def b41 : Bd := fun u l b segs => argK l fun x4 l => argK l fun x5 l => argN l (b41_12 u b x4 x5 (hs0 b segs))
def r45 (b : Nat) (x0 : XV) (h1 : HS) : Ans :=
  kCell h1.ob x0 true 2 fun x2 => kHand h1.ob x2 fun q3 s4 => retP b q3 (apL s4 []) h1
def b45_1 (u : Fn) (b : Nat) (x5 : XV) (h6 : HS) : Ans :=
  kAlloc 43 b 2 none [(.s 0 0), (.s 0 0)] h6 fun x7 h8 => kPart 0 1 (.s 4 0x6c697370) [(.s 0 0), (.s 0 0)] fun c9 => kPart 1 1 x5 c9 fun c10 => kAgg c10 fun x11 => kStore b none 2 x7 x11 h8 fun _ h13 => r45 b x7 h13
def b45 : Bd := fun u l b segs => argK l fun x5 l => argN l (b45_1 u b x5 (hs0 b segs))
def r54 (b : Nat) (x0 : XV) (h1 : HS) : Ans :=
  kCell h1.ob x0 true 11 fun x2 => kHand h1.ob x2 fun q3 s4 => retP b q3 (apL s4 []) h1
def b54_1 (u : Fn) (b : Nat) (x5 x6 : XV) (h7 : HS) : Ans :=
  kBox 43 b 2 none x5 h7 fun x8 h9 => kAlloc 48 b 4 none [n0, (.s 0 0), (.s 0 0), n0, (.s 0 0), (.s 0 0), (.s 0 0), (.s 0 0), (.s 0 0), .nl, .nl] h9 fun x10 h11 => kLoad h11.ob true 2 x8 fun x12 => kPart 0 1 n3 [n0, (.s 0 0), (.s 0 0), n0, (.s 0 0), (.s 0 0), (.s 0 0), (.s 0 0), (.s 0 0), .nl, .nl] fun c13 => kPart 1 2 x12 c13 fun c14 => kPart 10 1 x6 c14 fun c15 => kAgg c15 fun x16 => kStore b none 11 x10 x16 h11 fun _ h18 => r54 b x10 h18
def b54 : Bd := fun u l b segs => argK l fun x5 l => argK l fun x6 l => argN l (b54_1 u b x5 x6 (hs0 b segs))
def r77 (b : Nat) (x0 : XV) (h1 : HS) : Ans :=
  kCell h1.ob x0 true 7 fun x2 => kHand h1.ob x2 fun q3 s4 => retP b q3 (apL s4 []) h1
def b77_1 (u : Fn) (b : Nat) (h5 : HS) : Ans :=
  kAlloc 46 b 0 none [n0, (.s 0 0), (.s 0 0), (.s 0 0), (.s 0 0), (.s 0 0), .nl] h5 fun x6 h7 => kGo u b none 45 [(.s 3 0x6e696c)] [] h7 fun x8 h9 => kHand h9.ob x8 fun x10 s11 => kGo u b none 80 [x10] (apL s11 []) h9 fun x12 h13 => kStore b none 7 x6 x12 h13 fun _ h15 => r77 b x6 h15
def b77 : Bd := fun u l b segs => argN l (b77_1 u b (hs0 b segs))
def r80 (b : Nat) (x0 : XV) (h1 : HS) : Ans :=
  kCell h1.ob x0 true 7 fun x2 => kHand h1.ob x2 fun q3 s4 => retP b q3 (apL s4 []) h1
def b80_1 (u : Fn) (b : Nat) (x5 : XV) (h6 : HS) : Ans :=
  kBox 43 b 1 none x5 h6 fun x7 h8 => kAlloc 46 b 2 none [n0, (.s 0 0), (.s 0 0), (.s 0 0), (.s 0 0), (.s 0 0), .nl] h8 fun x9 h10 => kLoad h10.ob true 2 x7 fun x11 => kPart 0 1 n2 [n0, (.s 0 0), (.s 0 0), (.s 0 0), (.s 0 0), (.s 0 0), .nl] fun c12 => kPart 3 2 x11 c12 fun c13 => kAgg c13 fun x14 => kStore b none 7 x9 x14 h10 fun _ h16 => r80 b x9 h16
def b80 : Bd := fun u l b segs => argK l fun x5 l => argN l (b80_1 u b x5 (hs0 b segs))
def r82 (b : Nat) (x0 : XV) (h1 : HS) : Ans :=
  kCell h1.ob x0 true 7 fun x2 => kHand h1.ob x2 fun q3 s4 => retP b q3 (apL s4 []) h1
def b82_1 (u : Fn) (b : Nat) (j4_41 : F4) (x42 x32 x30 x31 x33 : XV) (h34 : HS) : Ans :=
  met b [] [x42] <| kLoad h34.ob true 7 x42 fun x43 => met b [3] [x32] <| kLoad h34.ob true 7 x32 fun x44 => met b [] [x43, x44] <| kHand h34.ob x43 fun x45 s46 => kHand h34.ob x44 fun x47 s48 => kGo u b (some []) 83 [x45, x47] (apL s46 (apL s48 [])) h34 fun x49 h50 => met b [3] [x32] <| kStore b (some [3]) 7 x32 x49 h50 fun _ h52 => j4_41 x30 x31 x32 x33 h52
def b82_2 (u : Fn) (b : Nat) (j4_24 : F4) (x30 x31 x32 x33 : XV) (h34 : HS) : Ans :=
  join (fun x35 x36 x37 x38 h39 => kSub x38 n1 fun x40 => j4_24 x35 x36 x37 x40 h39) fun j4_41 => met b [] [x30, x33] <| kIaddr h34.ob 7 x30 x33 fun x42 => b82_1 u b j4_41 x42 x32 x30 x31 x33 h34
def b82_3 (u : Fn) (b : Nat) (j2_21 : F2) (j4_24 : F4) (x25 x26 x27 x28 : XV) (h29 : HS) : Ans :=
  join (b82_2 u b j4_24) fun j4_53 => kGeq x28 n0 fun x54 => cnd x54 (j4_53 x25 x26 x27 x28 h29) (j2_21 x26 x27 h29)
def b82_4 (u : Fn) (b : Nat) (x5 x7 : XV) (h8 : HS) : Ans :=
  kGo u b none 77 [] [] h8 fun x9 h10 => kAlloc 46 b 3 none [n0, (.s 0 0), (.s 0 0), (.s 0 0), (.s 0 0), (.s 0 0), .nl] h10 fun x11 h12 => kStore b none 7 x11 x9 h12 fun _ h14 => join (fun x15 x16 h17 => kLoad h17.ob true 7 x16 fun x18 => kStore b none 7 x15 x18 h17 fun _ h20 => r82 b x15 h20) fun j2_21 => kLen false x5 fun x22 => kSub x22 n1 fun x23 => lp [0, 2, 3, 4] 1000000 (b82_3 u b j2_21) x5 x7 x11 x23 h14
def b82_5 (u : Fn) (b : Nat) (x5 : XV) (h6 : HS) : Ans :=
  kAlloc 46 b 2 none [n0, (.s 0 0), (.s 0 0), (.s 0 0), (.s 0 0), (.s 0 0), .nl] h6 fun x7 h8 => b82_4 u b x5 x7 h8
def b82 : Bd := fun u l b segs => argK l fun x5 l => argN l (b82_5 u b x5 (hs0 b segs))
def r83 (b : Nat) (x0 : XV) (h1 : HS) : Ans :=
  kCell h1.ob x0 true 7 fun x2 => kHand h1.ob x2 fun q3 s4 => retP b q3 (apL s4 []) h1
def b83_1 (u : Fn) (b : Nat) (x8 x10 : XV) (h11 : HS) : Ans :=
  kAlloc 46 b 4 none [n0, (.s 0 0), (.s 0 0), (.s 0 0), (.s 0 0), (.s 0 0), .nl] h11 fun x12 h13 => kLoad h13.ob true 7 x8 fun x14 => kLoad h13.ob true 7 x10 fun x15 => kElt h13.ob 7 0 x14 (repL 2 [n0, (.s 0 0), (.s 0 0), (.s 0 0), (.s 0 0), (.s 0 0), .nl]) fun c16 s17 => kElt h13.ob 7 1 x15 c16 fun c18 s19 => kSl b 2055 none 46 7 2 false c18 (apL s17 (apL s19 [])) h13 fun x20 h21 => kPart 0 1 n4 [n0, (.s 0 0), (.s 0 0), (.s 0 0), (.s 0 0), (.s 0 0), .nl] fun c22 => kPart 6 1 x20 c22 fun c23 => kAgg c23 fun x24 => kStore b none 7 x12 x24 h21 fun _ h26 => r83 b x12 h26
def b83_2 (u : Fn) (b : Nat) (x5 x6 : XV) (h7 : HS) : Ans :=
  kBox 46 b 2 none x5 h7 fun x8 h9 => kBox 46 b 3 none x6 h9 fun x10 h11 => b83_1 u b x8 x10 h11
def b83 : Bd := fun u l b segs => argK l fun x5 l => argK l fun x6 l => argN l (b83_2 u b x5 x6 (hs0 b segs))
def r92 (b : Nat) (x0 : XV) (h1 : HS) : Ans :=
  kHand h1.ob x0 fun q2 s3 => retP b q2 (apL s3 []) h1
def b92_1 (u : Fn) (b : Nat) (x7 x5 : XV) (h8 : HS) : Ans :=
  kFaddr 3 x7 fun x16 => kLoad h8.ob true 7 x16 fun x17 => kHand h8.ob x17 fun x18 s19 => kGo u b none 151 [x18] (apL s19 []) h8 fun x20 h21 => kSub x5 x20 fun x22 => r92 b x22 h21
def b92_2 (u : Fn) (b : Nat) (j4_49 : F4) (x56 x57 x58 x59 x60 : XV) (h61 : HS) : Ans :=
  kLoad h61.ob true 11 x57 fun x62 => kHand h61.ob x62 fun x63 s64 => kHand h61.ob x56 fun x65 s66 => kGo u b none 92 [x63, x65] (apL s64 (apL s66 [])) h61 fun x67 h68 => j4_49 x67 x58 x59 x60 h68
def b92_3 (u : Fn) (b : Nat) (j4_31 : F4) (x38 x39 x40 x41 : XV) (h42 : HS) : Ans :=
  join (fun x43 x44 x45 x46 h47 => kAdd x46 n1 fun x48 => j4_31 x43 x44 x45 x48 h47) fun j4_49 => kIaddr h42.ob 11 x39 x41 fun x50 => kLoad h42.ob true 11 x50 fun x51 => kAlloc 48 b 6 none [n0, (.s 0 0), (.s 0 0), n0, (.s 0 0), (.s 0 0), (.s 0 0), (.s 0 0), (.s 0 0), .nl, .nl] h42 fun x52 h53 => kStore b none 11 x52 x51 h53 fun _ h55 => join (b92_2 u b j4_49) fun j5_69 => kLeq x38 n0 fun x70 => cnd x70 (kv (vMx false x38 n0) fun x71 => r92 b x71 h55) (j5_69 x38 x52 x39 x40 x41 h55)
def b92_4 (u : Fn) (b : Nat) (j1_27 : F1) (j4_31 : F4) (x32 x33 x34 x35 : XV) (h36 : HS) : Ans :=
  kLss x35 x34 fun x37 => join (b92_3 u b j4_31) fun j4_72 => cnd x37 (j4_72 x32 x33 x34 x35 h36) (j1_27 x32 h36)
def b92_5 (u : Fn) (b : Nat) (x5 x7 : XV) (h8 : HS) : Ans :=
  kSub x5 n1 fun x24 => join (fun x25 h26 => r92 b x25 h26) fun j1_27 => kFaddr 10 x7 fun x28 => kLoad h8.ob false 1 x28 fun x29 => kLen false x29 fun x30 => lp [1, 21, 22, 23] 1000000 (b92_4 u b j1_27) x24 x29 x30 n0 h8
def b92_6 (u : Fn) (b : Nat) (j1_12 : F1) (x14 x5 x7 : XV) (h8 : HS) : Ans :=
  kEql x14 n3 fun x23 => cnd x23 (b92_5 u b x5 x7 h8) (j1_12 x5 h8)
def b92_7 (u : Fn) (b : Nat) (x4 x5 : XV) (h6 : HS) : Ans :=
  kBox 48 b 2 none x4 h6 fun x7 h8 => join (fun x9 h10 => kSub x9 n1 fun x11 => r92 b x11 h10) fun j1_12 => kFaddr 0 x7 fun x13 => kLoad h8.ob false 1 x13 fun x14 => kEql x14 n2 fun x15 => cnd x15 (b92_1 u b x7 x5 h8) (b92_6 u b j1_12 x14 x5 x7 h8)
def b92 : Bd := fun u l b segs => argK l fun x4 l => argK l fun x5 l => argN l (b92_7 u b x4 x5 (hs0 b segs))
def r94 (b : Nat) (x0 : XV) (h1 : HS) : Ans :=
  kHand h1.ob x0 fun q2 s3 => retP b q2 (apL s3 []) h1
def b94_1 (u : Fn) (b : Nat) (j4_17 : F4) (x6 : XV) (h7 : HS) : Ans :=
  kFaddr 3 x6 fun x18 => kLoad h7.ob true 2 x18 fun x19 => kPart 0 1 (.s 4 0x6c697370) [(.s 0 0), (.s 0 0)] fun c20 => kPart 1 1 (.s 3 0x6e696c) c20 fun c21 => kAgg c21 fun x22 => kEqs false x19 x22 fun x23 => j4_17 x18 x19 x22 x23 h7
def b94_2 (u : Fn) (b : Nat) (x4 : XV) (h5 : HS) : Ans :=
  kBox 46 b 1 none x4 h5 fun x6 h7 => kFaddr 0 x6 fun x8 => kLoad h7.ob false 1 x8 fun x9 => kEql x9 n2 fun x10 => join (fun _ _ _ x14 h15 => kPick x10 x14 ff fun x16 => r94 b x16 h15) fun j4_17 => grdB x10 true (b94_1 u b j4_17 x6 h7) (j4_17 uu uu uu uu h7)
def b94 : Bd := fun u l b segs => argK l fun x4 l => argN l (b94_2 u b x4 (hs0 b segs))
def r98 (b : Nat) (x0 : XV) (h1 : HS) : Ans :=
  kHand h1.ob x0 fun q2 s3 => retP b q2 (apL s3 []) h1
def b98_1 (u : Fn) (b : Nat) (j5_37 : F5) (x7 x9 : XV) (h28 : HS) : Ans :=
  kFaddr 10 x7 fun x38 => kLoad h28.ob false 1 x38 fun x39 => kFaddr 10 x9 fun x40 => kLoad h28.ob false 1 x40 fun x41 => kHand h28.ob x39 fun x42 s43 => kHand h28.ob x41 fun x44 s45 => kGo u b none 153 [x42, x44, (.sc (.func (.func 98) #[] #[]))] (apL s43 (apL s45 [])) h28 fun x46 h47 => j5_37 x38 x39 x40 x41 x46 h47
def b98_2 (u : Fn) (b : Nat) (x22 x7 x9 x23 x24 x25 x26 x27 : XV) (h28 : HS) : Ans :=
  kPick x22 x27 ff fun x29 => join (fun _ _ _ _ x34 h35 => kPick x29 x34 ff fun x36 => r98 b x36 h35) fun j5_37 => grdB x29 true (b98_1 u b j5_37 x7 x9 h28) (j5_37 uu uu uu uu uu h28)
def b98_3 (u : Fn) (b : Nat) (j5_48 : F5) (x7 x9 : XV) (h21 : HS) : Ans :=
  kFaddr 3 x7 fun x49 => kLoad h21.ob true 7 x49 fun x50 => kFaddr 3 x9 fun x51 => kLoad h21.ob true 7 x51 fun x52 => kHand h21.ob x50 fun x53 s54 => kHand h21.ob x52 fun x55 s56 => kGo u b none 152 [x53, x55] (apL s54 (apL s56 [])) h21 fun x57 h58 => j5_48 x49 x50 x51 x52 x57 h58
def b98_4 (u : Fn) (b : Nat) (x15 x7 x9 x16 x17 x18 x19 x20 : XV) (h21 : HS) : Ans :=
  kPick x15 x20 ff fun x22 => join (b98_2 u b x22 x7 x9) fun j5_48 => grdB x22 true (b98_3 u b j5_48 x7 x9 h21) (j5_48 uu uu uu uu uu h21)
def b98_5 (u : Fn) (b : Nat) (x13 x12 x7 x9 : XV) (h10 : HS) : Ans :=
  kLoad h10.ob false 1 x13 fun x14 => kEql x12 x14 fun x15 => join (b98_4 u b x15 x7 x9) fun j5_59 => grdB x15 true (kFaddr 1 x7 fun x60 => kLoad h10.ob true 2 x60 fun x61 => kFaddr 1 x9 fun x62 => kLoad h10.ob true 2 x62 fun x63 => kEqs false x61 x63 fun x64 => j5_59 x60 x61 x62 x63 x64 h10) (j5_59 uu uu uu uu uu h10)
def b98_6 (u : Fn) (b : Nat) (x4 x5 : XV) (h6 : HS) : Ans :=
  kBox 48 b 2 none x4 h6 fun x7 h8 => kBox 48 b 3 none x5 h8 fun x9 h10 => kFaddr 0 x7 fun x11 => kLoad h10.ob false 1 x11 fun x12 => kFaddr 0 x9 fun x13 => b98_5 u b x13 x12 x7 x9 h10
def b98 : Bd := fun u l b segs => argK l fun x4 l => argK l fun x5 l => argN l (b98_6 u b x4 x5 (hs0 b segs))
def r104 (b : Nat) (x0 x1 : XV) (h2 : HS) : Ans :=
  kHand h2.ob x0 fun q3 s4 => kHand h2.ob x1 fun q5 s6 => retP b (.tup [q3, q5]) (apL s4 (apL s6 [])) h2
def b104_1 (u : Fn) (b : Nat) (x35 : XV) (h36 : HS) : Ans :=
  kFaddr 2 x35 fun x37 => kLoad h36.ob false 1 x37 fun x38 => kLen false x38 fun x39 => r104 b x39 tt h36
def b104_2 (u : Fn) (b : Nat) (x19 x22 : XV) (h21 : HS) : Ans :=
  kHand h21.ob x19 fun x23 s24 => kHand h21.ob x22 fun x25 s26 => kGo u b none 67 [x23, x25] (apL s24 (apL s26 [])) h21 fun x27 h28 => kExt x27 0 fun x29 => kExt x27 1 fun x30 => kAlloc 61 b 8 none [(.s 0 0), (.s 0 0), .nl, n0, n0, (.s 0 0), (.s 0 0), n0, (.s 0 0), (.s 0 0), (.s 0 0), (.s 0 0), (.s 0 0), .nl, .nl, n0, (.s 0 0), (.s 0 0), n0, (.s 0 0), (.s 0 0), (.s 0 0), (.s 0 0), (.s 0 0), .nl, .nl, n0, (.s 0 0), (.s 0 0), n0, (.s 0 0), (.s 0 0), (.s 0 0), (.s 0 0), (.s 0 0), .nl, .nl] h28 fun x31 h32 => kStore b none 37 x31 x29 h32 fun _ h34 => join (b104_1 u b) fun j1_40 => kNot x30 fun x41 => cnd x41 (r104 b n0 ff h34) (j1_40 x31 h34)
def b104_3 (u : Fn) (b : Nat) (x10 x7 : XV) (h11 : HS) : Ans :=
  kLoad h11.ob true 2 x10 fun x12 => kHand h11.ob x12 fun x13 s14 => kGo u b none 118 [x13] (apL s14 []) h11 fun x15 h16 => kExt x15 0 fun x17 => kExt x15 1 fun x18 => join (fun x19 x20 h21 => kLoad h21.ob true 2 x20 fun x22 => b104_2 u b x19 x22 h21) fun j2_42 => cnd x18 (r104 b x17 tt h16) (j2_42 x7 x10 h16)
def b104_4 (u : Fn) (b : Nat) (x8 x7 : XV) (h9 : HS) : Ans :=
  kBox 43 b 3 none x8 h9 fun x10 h11 => b104_3 u b x10 x7 h11
def b104 : Bd := fun u l b segs => argK l fun x7 l => argK l fun x8 l => argN l (b104_4 u b x8 x7 (hs0 b segs))
def r108 (b : Nat) (x0 x1 : XV) (h2 : HS) : Ans :=
  kHand h2.ob x0 fun q3 s4 => kHand h2.ob x1 fun q5 s6 => retP b (.tup [q3, q5]) (apL s4 (apL s6 [])) h2
def b108_1 (u : Fn) (b : Nat) (x11 x12 : XV) (h13 : HS) : Ans :=
  join (fun x14 h15 => r108 b x14 tt h15) fun j1_16 => kLoad h13.ob true 7 x11 fun x17 => kHand h13.ob x17 fun x18 s19 => kGo u b none 164 [x18] (apL s19 []) h13 fun x20 h21 => kNot x20 fun x22 => cnd x22 (r108 b .nl ff h21) (j1_16 x12 h21)
def b108_2 (u : Fn) (b : Nat) (j2_24 : F2) (x32 x29 x28 : XV) (h30 : HS) : Ans :=
  kIaddr h30.ob 7 x32 n0 fun x33 => kLoad h30.ob true 7 x33 fun x34 => kElt h30.ob 7 0 x34 (repL 1 [n0, (.s 0 0), (.s 0 0), (.s 0 0), (.s 0 0), (.s 0 0), .nl]) fun c35 s36 => kSl b 2060 none 46 7 1 false c35 (apL s36 []) h30 fun x37 h38 => kAppend b 2061 none 46 7 112 x29 x37 false h38 fun x39 h40 => kFaddr 6 x28 fun x41 => kLoad h40.ob false 1 x41 fun x42 => kIaddr h40.ob 7 x42 n1 fun x43 => kLoad h40.ob true 7 x43 fun x44 => kStore b none 7 x28 x44 h40 fun _ h46 => j2_24 x28 x39 h46
def b108_3 (u : Fn) (b : Nat) (j2_23 j2_24 : F2) (x25 x26 : XV) (h27 : HS) : Ans :=
  join (fun x28 x29 h30 => kFaddr 6 x28 fun x31 => kLoad h30.ob false 1 x31 fun x32 => b108_2 u b j2_24 x32 x29 x28 h30) fun j2_47 => kLoad h27.ob true 7 x25 fun x48 => kHand h27.ob x48 fun x49 s50 => kGo u b none 163 [x49] (apL s50 []) h27 fun x51 h52 => cnd x51 (j2_47 x25 x26 h52) (j2_23 x25 x26 h52)
def b108_4 (u : Fn) (b : Nat) (x7 : XV) (h8 : HS) : Ans :=
  kBox 46 b 1 none x7 h8 fun x9 h10 => join (b108_1 u b) fun j2_23 => lp [1, 4] 1000000 (b108_3 u b j2_23) x9 .nl h10
def b108 : Bd := fun u l b segs => argK l fun x7 l => argN l (b108_4 u b x7 (hs0 b segs))
def r114 (b : Nat) (x0 : XV) (h1 : HS) : Ans :=
  kHand h1.ob x0 fun q2 s3 => retP b q2 (apL s3 []) h1
def b114_1 (u : Fn) (b : Nat) (x4 : XV) (h5 : HS) : Ans :=
  kBox 48 b 1 none x4 h5 fun x6 h7 => join (fun x8 h9 => kFaddr 10 x8 fun x10 => kLoad h9.ob false 1 x10 fun x11 => r114 b x11 h9) fun j1_12 => kFaddr 0 x6 fun x13 => kLoad h7.ob false 1 x13 fun x14 => kNeq x14 n3 fun x15 => cnd x15 (r114 b .nl h7) (j1_12 x6 h7)
def b114 : Bd := fun u l b segs => argK l fun x4 l => argN l (b114_1 u b x4 (hs0 b segs))
def r118 (b : Nat) (x0 x1 : XV) (h2 : HS) : Ans :=
  kHand h2.ob x0 fun q3 s4 => kHand h2.ob x1 fun q5 s6 => retP b (.tup [q3, q5]) (apL s4 (apL s6 [])) h2
def b118_1 (u : Fn) (b : Nat) (x23 x24 : XV) (h25 : HS) : Ans :=
  kIaddr h25.ob 2 x23 x24 fun x38 => kFaddr 1 x38 fun x39 => kLoad h25.ob false 1 x39 fun x40 => r118 b x40 tt h25
def b118_2 (u : Fn) (b : Nat) (j3_17 : F3) (x22 x23 x24 : XV) (h25 : HS) : Ans :=
  join (fun x26 x27 x28 h29 => kAdd x28 n1 fun x30 => j3_17 x26 x27 x30 h29) fun j3_31 => met b [] [x23, x24] <| kIaddr h25.ob 2 x23 x24 fun x32 => kFaddr 0 x32 fun x33 => met b [] [x33] <| kLoad h25.ob false 1 x33 fun x34 => kFaddr 1 x22 fun x35 => met b [1] [x35] <| kLoad h25.ob false 1 x35 fun x36 => kEql x34 x36 fun x37 => cnd x37 (b118_1 u b x23 x24 h25) (j3_31 x22 x23 x24 h25)
def b118_3 (u : Fn) (b : Nat) (j0_16 : F0) (j3_17 : F3) (x18 x19 x20 : XV) (h21 : HS) : Ans :=
  join (b118_2 u b j3_17) fun j3_41 => kLen false x19 fun x42 => kLss x20 x42 fun x43 => cnd x43 (j3_41 x18 x19 x20 h21) (j0_16 h21)
def b118_4 (u : Fn) (b : Nat) (x11 : XV) (h12 : HS) : Ans :=
  kGo u b none 167 [] [] h12 fun x13 h14 => join (fun h15 => r118 b n0 ff h15) fun j0_16 => lp [1, 4, 5] 1000000 (b118_3 u b j0_16) x11 x13 n0 h14
def b118_5 (u : Fn) (b : Nat) (x7 : XV) (h8 : HS) : Ans :=
  kBox 43 b 1 none x7 h8 fun x9 h10 => join (b118_4 u b) fun j1_44 => kFaddr 0 x9 fun x45 => kLoad h10.ob false 1 x45 fun x46 => kNeq x46 (.s 4 0x6c697370) fun x47 => cnd x47 (r118 b n0 ff h10) (j1_44 x9 h10)
def b118 : Bd := fun u l b segs => argK l fun x7 l => argN l (b118_5 u b x7 (hs0 b segs))
def r120 (b : Nat) (x0 x1 x2 : XV) (h3 : HS) : Ans :=
  kHand h3.ob x0 fun q4 s5 => kHand h3.ob x1 fun q6 s7 => kHand h3.ob x2 fun q8 s9 => retP b (.tup [q4, q6, q8]) (apL s5 (apL s7 (apL s9 []))) h3
def b120_1 (u : Fn) (b : Nat) (j5_38 : F5) (x45 x46 x47 x48 x49 : XV) (h50 : HS) : Ans :=
  join (fun x51 x52 x53 x54 x55 h56 => kAdd x55 n1 fun x57 => j5_38 x51 x52 x53 x54 x57 h56) fun j5_58 => met b [] [x48, x49] <| kIaddr h50.ob 37 x48 x49 fun x59 => kFaddr 0 x59 fun x60 => met b [] [x60] <| kLoad h50.ob true 2 x60 fun x61 => met b [3] [x46] <| kLoad h50.ob true 2 x46 fun x62 => kEqs false x61 x62 fun x63 => cnd x63 (r120 b x47 x49 tt h50) (j5_58 x45 x46 x47 x48 x49 h50)
def b120_2 (u : Fn) (b : Nat) (j3_31 : F3) (j5_38 : F5) (x39 x40 x41 x42 x43 : XV) (h44 : HS) : Ans :=
  join (b120_1 u b j5_38) fun j5_64 => kLen false x42 fun x65 => kLss x43 x65 fun x66 => cnd x66 (j5_64 x39 x40 x41 x42 x43 h44) (j3_31 x39 x40 x41 h44)
def b120_3 (u : Fn) (b : Nat) (j3_17 : F3) (x22 x23 x24 : XV) (h25 : HS) : Ans :=
  join (fun x26 x27 x28 h29 => kAdd x28 n1 fun x30 => j3_17 x26 x27 x30 h29) fun j3_31 => kIaddr h25.ob 32 x22 x24 fun x32 => kLoad h25.ob true 32 x32 fun x33 => kHand h25.ob x33 fun x34 s35 => kGo u b none 121 [x34] (apL s35 []) h25 fun x36 h37 => lp [0, 3, 7, 8, 9] 1000000 (b120_2 u b j3_31) x22 x23 x24 x36 n0 h37
def b120_4 (u : Fn) (b : Nat) (j0_16 : F0) (j3_17 : F3) (x18 x19 x20 : XV) (h21 : HS) : Ans :=
  join (b120_3 u b j3_17) fun j3_67 => kLen false x18 fun x68 => kLss x20 x68 fun x69 => cnd x69 (j3_67 x18 x19 x20 h21) (j0_16 h21)
def b120_5 (u : Fn) (b : Nat) (x11 x10 : XV) (h12 : HS) : Ans :=
  kBox 43 b 3 none x11 h12 fun x13 h14 => join (fun h15 => r120 b n0 n0 ff h15) fun j0_16 => lp [0, 3, 7] 1000000 (b120_4 u b j0_16) x10 x13 n0 h14
def b120 : Bd := fun u l b segs => argK l fun x10 l => argK l fun x11 l => argN l (b120_5 u b x11 x10 (hs0 b segs))
def r121 (b : Nat) (x0 : XV) (h1 : HS) : Ans :=
  kHand h1.ob x0 fun q2 s3 => retP b q2 (apL s3 []) h1
def b121_1 (u : Fn) (b : Nat) (j0_9 : F0) (x12 x13 : XV) (h14 : HS) : Ans :=
  cnd x13 (kFaddr 20 x12 fun x15 => kLoad h14.ob false 1 x15 fun x16 => r121 b x16 h14) (j0_9 h14)
def b121_2 (u : Fn) (b : Nat) (j2_17 : F2) (x11 x6 : XV) (h7 : HS) : Ans :=
  kEql x11 n6 fun x20 => cnd x20 (j2_17 x6 x20 h7) (kEql x11 n7 fun x21 => j2_17 x6 x21 h7)
def b121_3 (u : Fn) (b : Nat) (j2_17 : F2) (x11 x6 : XV) (h7 : HS) : Ans :=
  kEql x11 n5 fun x19 => cnd x19 (j2_17 x6 x19 h7) (b121_2 u b j2_17 x11 x6 h7)
def b121_4 (u : Fn) (b : Nat) (x4 : XV) (h5 : HS) : Ans :=
  kBox 74 b 1 none x4 h5 fun x6 h7 => join (fun h8 => r121 b .nl h8) fun j0_9 => kFaddr 0 x6 fun x10 => kLoad h7.ob false 1 x10 fun x11 => join (b121_1 u b j0_9) fun j2_17 => kEql x11 n3 fun x18 => cnd x18 (j2_17 x6 x18 h7) (b121_3 u b j2_17 x11 x6 h7)
def b121 : Bd := fun u l b segs => argK l fun x4 l => argN l (b121_4 u b x4 (hs0 b segs))
def r146 (b : Nat) (x0 x1 : XV) (h2 : HS) : Ans :=
  kHand h2.ob x0 fun q3 s4 => kHand h2.ob x1 fun q5 s6 => retP b (.tup [q3, q5]) (apL s4 (apL s6 [])) h2
def b146_1 (u : Fn) (b : Nat) (x19 x38 x25 x18 x45 : XV) (h44 : HS) : Ans :=
  kHand h44.ob x19 fun x47 s48 => kHand h44.ob x38 fun x49 s50 => kGo u b none 213 [x47, x49] (apL s48 (apL s50 [])) h44 fun x51 h52 => kExt x51 0 fun x53 => kExt x51 1 fun _ => kBinb true x25 x18 fun x55 => kHand h52.ob x55 fun x56 s57 => kHand h52.ob x45 fun x58 s59 => kGo u b none 214 [x56, x58] (apL s57 (apL s59 [])) h52 fun x60 h61 => kHand h61.ob x53 fun x62 s63 => kGo u b none 214 [ff, x62] (apL s63 []) h61 fun x64 h65 => r146 b x60 x64 h65
def b146_2 (u : Fn) (b : Nat) (x16 x17 x26 x19 x25 x18 : XV) (h24 : HS) : Ans :=
  kHand h24.ob x16 fun x27 s28 => kHand h24.ob x17 fun x29 s30 => kGo u b none 212 [x27, x29] (apL s28 (apL s30 [])) h24 fun x31 h32 => kHand h32.ob x31 fun x33 s34 => kGo u b none 211 [x33] (apL s34 []) h32 fun x35 h36 => kExt x35 0 fun _ => kExt x35 1 fun x38 => kHand h36.ob x26 fun x39 s40 => kHand h36.ob x38 fun x41 s42 => kGo u b none 213 [x39, x41] (apL s40 (apL s42 [])) h36 fun x43 h44 => kExt x43 0 fun x45 => kExt x43 1 fun _ => b146_1 u b x19 x38 x25 x18 x45 h44
def b146_3 (u : Fn) (b : Nat) (x16 x17 x18 x19 : XV) (h20 : HS) : Ans :=
  kHand h20.ob x16 fun x21 s22 => kGo u b none 211 [x21] (apL s22 []) h20 fun x23 h24 => kExt x23 0 fun x25 => kExt x23 1 fun x26 => b146_2 u b x16 x17 x26 x19 x25 x18 h24
def b146_4 (u : Fn) (b : Nat) (x8 x7 : XV) (h9 : HS) : Ans :=
  kHand h9.ob x8 fun x10 s11 => kGo u b none 211 [x10] (apL s11 []) h9 fun x12 h13 => kExt x12 0 fun x14 => kExt x12 1 fun x15 => join (b146_3 u b) fun j4_66 => kLen false x15 fun x67 => kEql x67 n0 fun x68 => cnd x68 (r146 b (.s 1 0x30) (.s 1 0x31) h13) (j4_66 x7 x8 x14 x15 h13)
def b146 : Bd := fun u l b segs => argK l fun x7 l => argK l fun x8 l => argN l (b146_4 u b x8 x7 (hs0 b segs))
def r151 (b : Nat) (x0 : XV) (h1 : HS) : Ans :=
  kHand h1.ob x0 fun q2 s3 => retP b q2 (apL s3 []) h1
def b151_1 (u : Fn) (b : Nat) (x4 : XV) (h5 : HS) : Ans :=
  kBox 46 b 1 none x4 h5 fun x6 h7 => kLoad h7.ob true 7 x6 fun x8 => kHand h7.ob x8 fun x9 s10 => kGo u b none 221 [x9, n3001] (apL s10 []) h7 fun x11 h12 => kv (vMx true n0 x11) fun x13 => kSub n3001 x13 fun x14 => r151 b x14 h12
def b151 : Bd := fun u l b segs => argK l fun x4 l => argN l (b151_1 u b x4 (hs0 b segs))
def r152 (b : Nat) (x0 : XV) (h1 : HS) : Ans :=
  kHand h1.ob x0 fun q2 s3 => retP b q2 (apL s3 []) h1
def b152_1 (u : Fn) (b : Nat) (j2_11 : F2) (x34 x27 x25 x33 x26 : XV) (h28 : HS) : Ans :=
  met b [3] [x34] <| kLoad h28.ob false 1 x34 fun x35 => kSub x27 n1 fun x36 => met b [] [x35, x36] <| kIaddr h28.ob 7 x35 x36 fun x37 => met b [] [x37] <| kLoad h28.ob true 7 x37 fun x38 => met b [2] [x25] <| kStore b (some [2]) 7 x25 x33 h28 fun _ h40 => met b [3] [x26] <| kStore b (some [3]) 7 x26 x38 h40 fun _ h42 => j2_11 x25 x26 h42
def b152_2 (u : Fn) (b : Nat) (j2_11 : F2) (x25 x26 x27 : XV) (h28 : HS) : Ans :=
  kFaddr 6 x25 fun x29 => met b [2] [x29] <| kLoad h28.ob false 1 x29 fun x30 => kSub x27 n1 fun x31 => met b [] [x30, x31] <| kIaddr h28.ob 7 x30 x31 fun x32 => met b [] [x32] <| kLoad h28.ob true 7 x32 fun x33 => kFaddr 6 x26 fun x34 => b152_1 u b j2_11 x34 x27 x25 x33 x26 h28
def b152_3 (u : Fn) (b : Nat) (j5_66 : F5) (x72 x57 x70 x53 x54 x55 x56 : XV) (h58 : HS) : Ans :=
  met b [] [x72, x57] <| kIaddr h58.ob 7 x72 x57 fun x73 => met b [] [x73] <| kLoad h58.ob true 7 x73 fun x74 => met b [] [x70, x74] <| kHand h58.ob x70 fun x75 s76 => kHand h58.ob x74 fun x77 s78 => kGo u b (some []) 152 [x75, x77] (apL s76 (apL s78 [])) h58 fun x79 h80 => kNot x79 fun x81 => cnd x81 (r152 b ff h80) (j5_66 x53 x54 x55 x56 x57 h80)
def b152_4 (u : Fn) (b : Nat) (j5_45 : F5) (x53 x54 x55 x56 x57 : XV) (h58 : HS) : Ans :=
  join (fun x59 x60 x61 x62 x63 h64 => kAdd x63 n1 fun x65 => j5_45 x59 x60 x61 x62 x65 h64) fun j5_66 => kFaddr 6 x53 fun x67 => met b [2] [x67] <| kLoad h58.ob false 1 x67 fun x68 => met b [] [x68, x57] <| kIaddr h58.ob 7 x68 x57 fun x69 => met b [] [x69] <| kLoad h58.ob true 7 x69 fun x70 => kFaddr 6 x54 fun x71 => met b [3] [x71] <| kLoad h58.ob false 1 x71 fun x72 => b152_3 u b j5_66 x72 x57 x70 x53 x54 x55 x56 h58
def b152_5 (u : Fn) (b : Nat) (j3_43 : F3) (j5_45 : F5) (x46 x47 x48 x49 x50 : XV) (h51 : HS) : Ans :=
  kLss x50 x49 fun x52 => join (b152_4 u b j5_45) fun j5_82 => cnd x52 (j5_82 x46 x47 x48 x49 x50 h51) (j3_43 x46 x47 x48 h51)
def b152_6 (u : Fn) (b : Nat) (j2_11 : F2) (x21 x22 x23 : XV) (h24 : HS) : Ans :=
  join (b152_2 u b j2_11) fun j3_43 => kSub x23 n1 fun x44 => lp [2, 3, 5, 55, 56] 1000000 (b152_5 u b j3_43) x21 x22 x23 x44 n0 h24
def b152_7 (u : Fn) (b : Nat) (j2_11 : F2) (x15 x16 : XV) (h17 : HS) : Ans :=
  kFaddr 6 x15 fun x18 => kLoad h17.ob false 1 x18 fun x19 => kLen false x19 fun x20 => join (b152_6 u b j2_11) fun j3_83 => kEql x20 n0 fun x84 => cnd x84 (r152 b tt h17) (j3_83 x15 x16 x20 h17)
def b152_8 (u : Fn) (b : Nat) (j2_85 : F2) (x118 x12 x13 x119 x120 x121 x122 x123 x124 x125 : XV) (h126 : HS) : Ans :=
  kPick x118 tt x125 fun x127 => cnd x127 (r152 b ff h126) (j2_85 x12 x13 h126)
def b152_9 (u : Fn) (b : Nat) (j7_128 : F7) (x12 x13 : XV) (h117 : HS) : Ans :=
  kFaddr 6 x12 fun x129 => kLoad h117.ob false 1 x129 fun x130 => kLen false x130 fun x131 => kFaddr 6 x13 fun x132 => kLoad h117.ob false 1 x132 fun x133 => kLen false x133 fun x134 => kNeq x131 x134 fun x135 => j7_128 x129 x130 x131 x132 x133 x134 x135 h117
def b152_10 (u : Fn) (b : Nat) (j2_85 : F2) (x111 x12 x13 x112 x113 x114 x115 x116 : XV) (h117 : HS) : Ans :=
  kPick x111 tt x116 fun x118 => join (b152_8 u b j2_85 x118 x12 x13) fun j7_128 => grdB x118 false (b152_9 u b j7_128 x12 x13 h117) (j7_128 uu uu uu uu uu uu uu h117)
def b152_11 (u : Fn) (b : Nat) (j2_85 : F2) (x104 x12 x13 x105 x106 x107 x108 x109 : XV) (h110 : HS) : Ans :=
  kPick x104 tt x109 fun x111 => join (b152_10 u b j2_85 x111 x12 x13) fun j5_136 => grdB x111 false (kFaddr 5 x12 fun x137 => kLoad h110.ob false 1 x137 fun x138 => kFaddr 5 x13 fun x139 => kLoad h110.ob false 1 x139 fun x140 => kNeq x138 x140 fun x141 => j5_136 x137 x138 x139 x140 x141 h110) (j5_136 uu uu uu uu uu h110)
def b152_12 (u : Fn) (b : Nat) (j2_85 : F2) (x97 x12 x13 x98 x99 x100 x101 x102 : XV) (h103 : HS) : Ans :=
  kPick x97 tt x102 fun x104 => join (b152_11 u b j2_85 x104 x12 x13) fun j5_142 => grdB x104 false (kFaddr 3 x12 fun x143 => kLoad h103.ob true 2 x143 fun x144 => kFaddr 3 x13 fun x145 => kLoad h103.ob true 2 x145 fun x146 => kEqs true x144 x146 fun x147 => j5_142 x143 x144 x145 x146 x147 h103) (j5_142 uu uu uu uu uu h103)
def b152_13 (u : Fn) (b : Nat) (j2_85 : F2) (x90 x12 x13 x91 x92 x93 x94 x95 : XV) (h96 : HS) : Ans :=
  kPick x90 tt x95 fun x97 => join (b152_12 u b j2_85 x97 x12 x13) fun j5_148 => grdB x97 false (kFaddr 2 x12 fun x149 => kLoad h96.ob false 1 x149 fun x150 => kFaddr 2 x13 fun x151 => kLoad h96.ob false 1 x151 fun x152 => kNeq x150 x152 fun x153 => j5_148 x149 x150 x151 x152 x153 h96) (j5_148 uu uu uu uu uu h96)
def b152_14 (u : Fn) (b : Nat) (j2_85 : F2) (x88 x87 x12 x13 : XV) (h14 : HS) : Ans :=
  kLoad h14.ob false 1 x88 fun x89 => kNeq x87 x89 fun x90 => join (b152_13 u b j2_85 x90 x12 x13) fun j5_154 => grdB x90 false (kFaddr 1 x12 fun x155 => kLoad h14.ob false 1 x155 fun x156 => kFaddr 1 x13 fun x157 => kLoad h14.ob false 1 x157 fun x158 => kNeq x156 x158 fun x159 => j5_154 x155 x156 x157 x158 x159 h14) (j5_154 uu uu uu uu uu h14)
def b152_15 (u : Fn) (b : Nat) (j2_11 : F2) (x12 x13 : XV) (h14 : HS) : Ans :=
  join (b152_7 u b j2_11) fun j2_85 => kFaddr 0 x12 fun x86 => kLoad h14.ob false 1 x86 fun x87 => kFaddr 0 x13 fun x88 => b152_14 u b j2_85 x88 x87 x12 x13 h14
def b152_16 (u : Fn) (b : Nat) (x4 x5 : XV) (h6 : HS) : Ans :=
  kBox 46 b 2 none x4 h6 fun x7 h8 => kBox 46 b 3 none x5 h8 fun x9 h10 => lp [2, 3] 1000000 (b152_15 u b) x7 x9 h10
def b152 : Bd := fun u l b segs => argK l fun x4 l => argK l fun x5 l => argN l (b152_16 u b x4 x5 (hs0 b segs))
def r153 (b : Nat) (x0 : XV) (h1 : HS) : Ans :=
  kHand h1.ob x0 fun q2 s3 => retP b q2 (apL s3 []) h1
def b153_1 (u : Fn) (b : Nat) (j5_36 : F5) (x23 x27 x39 x24 x25 x26 : XV) (h42 : HS) : Ans :=
  kIaddr h42.ob 11 x23 x27 fun x43 => kLoad h42.ob true 11 x43 fun x44 => kAlloc 48 b 9 none [n0, (.s 0 0), (.s 0 0), n0, (.s 0 0), (.s 0 0), (.s 0 0), (.s 0 0), (.s 0 0), .nl, .nl] h42 fun x45 h46 => kStore b none 11 x45 x44 h46 fun _ h48 => kLoad h48.ob true 11 x39 fun x49 => kLoad h48.ob true 11 x45 fun x50 => kHCallV u b x24 [x49, x50] [] h48 fun x51 h52 => kNot x51 fun x53 => cnd x53 (r153 b ff h52) (j5_36 x23 x24 x25 x26 x27 h52)
def b153_2 (u : Fn) (b : Nat) (j5_15 : F5) (x23 x24 x25 x26 x27 : XV) (h28 : HS) : Ans :=
  join (fun x29 x30 x31 x32 x33 h34 => kAdd x33 n1 fun x35 => j5_15 x29 x30 x31 x32 x35 h34) fun j5_36 => kIaddr h28.ob 11 x25 x27 fun x37 => kLoad h28.ob true 11 x37 fun x38 => kAlloc 48 b 8 none [n0, (.s 0 0), (.s 0 0), n0, (.s 0 0), (.s 0 0), (.s 0 0), (.s 0 0), (.s 0 0), .nl, .nl] h28 fun x39 h40 => kStore b none 11 x39 x38 h40 fun _ h42 => b153_1 u b j5_36 x23 x27 x39 x24 x25 x26 h42
def b153_3 (u : Fn) (b : Nat) (j0_13 : F0) (j5_15 : F5) (x16 x17 x18 x19 x20 : XV) (h21 : HS) : Ans :=
  kLss x20 x19 fun x22 => join (b153_2 u b j5_15) fun j5_54 => cnd x22 (j5_54 x16 x17 x18 x19 x20 h21) (j0_13 h21)
def b153_4 (u : Fn) (b : Nat) (x8 x9 x10 : XV) (h11 : HS) : Ans :=
  join (fun h12 => r153 b tt h12) fun j0_13 => kLen false x8 fun x14 => lp [1, 2, 15, 16, 17] 1000000 (b153_3 u b j0_13) x9 x10 x8 x14 n0 h11
def b153_5 (u : Fn) (b : Nat) (x4 x5 x6 : XV) (h7 : HS) : Ans :=
  join (b153_4 u b) fun j3_55 => kLen false x4 fun x56 => kLen false x5 fun x57 => kNeq x56 x57 fun x58 => cnd x58 (r153 b ff h7) (j3_55 x4 x5 x6 h7)
def b153 : Bd := fun u l b segs => argK l fun x4 l => argK l fun x5 l => argK l fun x6 l => argN l (b153_5 u b x4 x5 x6 (hs0 b segs))
def r156 (b : Nat) (x0 x1 : XV) (h2 : HS) : Ans :=
  kHand h2.ob x0 fun q3 s4 => kHand h2.ob x1 fun q5 s6 => retP b (.tup [q3, q5]) (apL s4 (apL s6 [])) h2
def b156_1 (u : Fn) (b : Nat) (j1_23 : F1) (x18 : XV) (h20 : HS) : Ans :=
  kEql x18 (.s 13 0x737472696e672d6c656e677468) fun x38 => cnd x38 (j1_23 x38 h20) (kEql x18 (.s 11 0x627974652d737472696e67) fun x39 => j1_23 x39 h20)
def b156_2 (u : Fn) (b : Nat) (j1_23 : F1) (x18 : XV) (h20 : HS) : Ans :=
  kEql x18 (.s 19 0x73796d626f6c2d7061636b6167652d6e616d65) fun x37 => cnd x37 (j1_23 x37 h20) (b156_1 u b j1_23 x18 h20)
def b156_3 (u : Fn) (b : Nat) (j1_23 : F1) (x18 : XV) (h20 : HS) : Ans :=
  kEql x18 (.s 11 0x73796d626f6c2d6e616d65) fun x36 => cnd x36 (j1_23 x36 h20) (b156_2 u b j1_23 x18 h20)
def b156_4 (u : Fn) (b : Nat) (j1_23 : F1) (x18 : XV) (h20 : HS) : Ans :=
  kEql x18 (.s 5 0x666c6f6f72) fun x35 => cnd x35 (j1_23 x35 h20) (b156_3 u b j1_23 x18 h20)
def b156_5 (u : Fn) (b : Nat) (j1_23 : F1) (x18 : XV) (h20 : HS) : Ans :=
  kEql x18 (.s 11 0x64656e6f6d696e61746f72) fun x34 => cnd x34 (j1_23 x34 h20) (b156_4 u b j1_23 x18 h20)
def b156_6 (u : Fn) (b : Nat) (j1_23 : F1) (x18 : XV) (h20 : HS) : Ans :=
  kEql x18 (.s 9 0x6e756d657261746f72) fun x33 => cnd x33 (j1_23 x33 h20) (b156_5 u b j1_23 x18 h20)
def b156_7 (u : Fn) (b : Nat) (j1_23 : F1) (x18 : XV) (h20 : HS) : Ans :=
  kEql x18 (.s 7 0x756e6172792d2f) fun x32 => cnd x32 (j1_23 x32 h20) (b156_6 u b j1_23 x18 h20)
def b156_8 (u : Fn) (b : Nat) (j1_23 : F1) (x18 : XV) (h20 : HS) : Ans :=
  kEql x18 (.s 7 0x756e6172792d2d) fun x31 => cnd x31 (j1_23 x31 h20) (b156_7 u b j1_23 x18 h20)
def b156_9 (u : Fn) (b : Nat) (j1_23 : F1) (x18 : XV) (h20 : HS) : Ans :=
  kEql x18 (.s 8 0x696e746567657270) fun x30 => cnd x30 (j1_23 x30 h20) (b156_8 u b j1_23 x18 h20)
def b156_10 (u : Fn) (b : Nat) (j1_23 : F1) (x18 : XV) (h20 : HS) : Ans :=
  kEql x18 (.s 9 0x726174696f6e616c70) fun x29 => cnd x29 (j1_23 x29 h20) (b156_9 u b j1_23 x18 h20)
def b156_11 (u : Fn) (b : Nat) (j1_23 : F1) (x18 : XV) (h20 : HS) : Ans :=
  kEql x18 (.s 7 0x737472696e6770) fun x28 => cnd x28 (j1_23 x28 h20) (b156_10 u b j1_23 x18 h20)
def b156_12 (u : Fn) (b : Nat) (j1_23 : F1) (x18 : XV) (h20 : HS) : Ans :=
  kEql x18 (.s 7 0x73796d626f6c70) fun x27 => cnd x27 (j1_23 x27 h20) (b156_11 u b j1_23 x18 h20)
def b156_13 (u : Fn) (b : Nat) (j1_23 : F1) (x18 : XV) (h20 : HS) : Ans :=
  kEql x18 (.s 5 0x636f6e7370) fun x26 => cnd x26 (j1_23 x26 h20) (b156_12 u b j1_23 x18 h20)
def b156_14 (u : Fn) (b : Nat) (j1_23 : F1) (x18 : XV) (h20 : HS) : Ans :=
  kEql x18 (.s 3 0x636472) fun x25 => cnd x25 (j1_23 x25 h20) (b156_13 u b j1_23 x18 h20)
def b156_15 (u : Fn) (b : Nat) (j0_14 : F0) (x18 : XV) (h20 : HS) : Ans :=
  join (fun x21 h22 => cnd x21 (r156 b n1 tt h22) (j0_14 h22)) fun j1_23 => kEql x18 (.s 3 0x636172) fun x24 => cnd x24 (j1_23 x24 h20) (b156_14 u b j1_23 x18 h20)
def b156_16 (u : Fn) (b : Nat) (j2_40 : F2) (x16 : XV) (h12 : HS) : Ans :=
  kEql x16 (.s 13 0x737472696e672d617070656e64) fun x47 => cnd x47 (j2_40 x16 x47 h12) (kEql x16 (.s 11 0x737472696e672d62797465) fun x48 => j2_40 x16 x48 h12)
def b156_17 (u : Fn) (b : Nat) (j2_40 : F2) (x16 : XV) (h12 : HS) : Ans :=
  kEql x16 (.s 6 0x696e7465726e) fun x46 => cnd x46 (j2_40 x16 x46 h12) (b156_16 u b j2_40 x16 h12)
def b156_18 (u : Fn) (b : Nat) (j2_40 : F2) (x16 : XV) (h12 : HS) : Ans :=
  kEql x16 (.s 1 0x3c) fun x45 => cnd x45 (j2_40 x16 x45 h12) (b156_17 u b j2_40 x16 h12)
def b156_19 (u : Fn) (b : Nat) (j2_40 : F2) (x16 : XV) (h12 : HS) : Ans :=
  kEql x16 (.s 8 0x62696e6172792d2a) fun x44 => cnd x44 (j2_40 x16 x44 h12) (b156_18 u b j2_40 x16 h12)
def b156_20 (u : Fn) (b : Nat) (j2_40 : F2) (x16 : XV) (h12 : HS) : Ans :=
  kEql x16 (.s 8 0x62696e6172792d2b) fun x43 => cnd x43 (j2_40 x16 x43 h12) (b156_19 u b j2_40 x16 h12)
def b156_21 (u : Fn) (b : Nat) (j2_40 : F2) (x16 : XV) (h12 : HS) : Ans :=
  kEql x16 (.s 4 0x636f6e73) fun x42 => cnd x42 (j2_40 x16 x42 h12) (b156_20 u b j2_40 x16 h12)
def b156_22 (u : Fn) (b : Nat) (j0_14 : F0) (x16 : XV) (h12 : HS) : Ans :=
  join (fun x18 x19 h20 => cnd x19 (r156 b n2 tt h20) (b156_15 u b j0_14 x18 h20)) fun j2_40 => kEql x16 (.s 5 0x657175616c) fun x41 => cnd x41 (j2_40 x16 x41 h12) (b156_21 u b j2_40 x16 h12)
def b156_23 (u : Fn) (b : Nat) (x11 : XV) (h12 : HS) : Ans :=
  join (fun h13 => r156 b n0 ff h13) fun j0_14 => kFaddr 1 x11 fun x15 => kLoad h12.ob false 1 x15 fun x16 => kEql x16 (.s 2 0x6966) fun x17 => cnd x17 (r156 b n3 tt h12) (b156_22 u b j0_14 x16 h12)
def b156_24 (u : Fn) (b : Nat) (x7 : XV) (h8 : HS) : Ans :=
  kBox 43 b 1 none x7 h8 fun x9 h10 => join (b156_23 u b) fun j1_49 => kFaddr 0 x9 fun x50 => kLoad h10.ob false 1 x50 fun x51 => kNeq x51 (.s 4 0x6c697370) fun x52 => cnd x52 (r156 b n0 ff h10) (j1_49 x9 h10)
def b156 : Bd := fun u l b segs => argK l fun x7 l => argN l (b156_24 u b x7 (hs0 b segs))
def r159 (b : Nat) (x0 x1 : XV) (h2 : HS) : Ans :=
  kHand h2.ob x0 fun q3 s4 => kCell h2.ob x1 true 2 fun x5 => kHand h2.ob x5 fun q6 s7 => retP b (.tup [q3, q6]) (apL s4 (apL s7 [])) h2
def b159_1 (u : Fn) (b : Nat) (j4_15 : F4) (x56 x57 x58 x59 x60 : XV) (h61 : HS) : Ans :=
  kLoad h61.ob true 5 x59 fun x62 => kElt h61.ob 5 0 x62 (repL 1 [n0, n0, (.s 0 0), (.s 0 0), (.s 0 0)]) fun c63 s64 => kSl b 2098 none 237 5 1 false c63 (apL s64 []) h61 fun x65 h66 => kAppend b 2099 none 237 5 64 x58 x65 false h66 fun x67 h68 => j4_15 x56 x57 x67 x60 h68
def b159_2 (u : Fn) (b : Nat) (x50 x35 : XV) (h55 : HS) : Ans :=
  met b [10] [x50] <| kLoad h55.ob true 2 x50 fun x73 => met b [3] [x35] <| kStore b (some [3]) 2 x35 x73 h55 fun _ h75 => r159 b .nl x35 h75
def b159_3 (u : Fn) (b : Nat) (j4_15 : F4) (x48 x45 x47 x35 x34 x36 x46 : XV) (h49 : HS) : Ans :=
  kAlloc 166 b 10 none [n0, n0] h49 fun x50 h51 => kStore b none 5 x48 x45 h51 fun _ h53 => kStore b none 2 x50 x47 h53 fun _ h55 => join (b159_1 u b j4_15) fun j5_69 => kFaddr 0 x50 fun x70 => kLoad h55.ob false 1 x70 fun x71 => kNeq x71 n0 fun x72 => cnd x72 (b159_2 u b x50 x35 h55) (j5_69 x34 x35 x36 x48 x46 h55)
def b159_4 (u : Fn) (b : Nat) (j4_15 : F4) (x34 x35 x36 x37 : XV) (h38 : HS) : Ans :=
  kHand h38.ob x34 fun x39 s40 => kHand h38.ob x37 fun x41 s42 => kGo u b none 227 [x39, x41] (apL s40 (apL s42 [])) h38 fun x43 h44 => kExt x43 0 fun x45 => kExt x43 1 fun x46 => kExt x43 2 fun x47 => kAlloc 237 b 8 none [n0, n0, (.s 0 0), (.s 0 0), (.s 0 0)] h44 fun x48 h49 => b159_3 u b j4_15 x48 x45 x47 x35 x34 x36 x46 h49
def b159_5 (u : Fn) (b : Nat) (x29 x31 x30 : XV) (h33 : HS) : Ans :=
  kLen true x29 fun x79 => kPart 0 1 n0 [n0, n0, (.s 0 0), (.s 0 0), (.s 0 0)] fun c80 => kPart 1 1 x79 c80 fun c81 => kAgg c81 fun x82 => kElt h33.ob 5 0 x82 (repL 1 [n0, n0, (.s 0 0), (.s 0 0), (.s 0 0)]) fun c83 s84 => kSl b 2082 none 237 5 1 false c83 (apL s84 []) h33 fun x85 h86 => kAppend b 2083 none 237 5 64 x31 x85 false h86 fun x87 h88 => kAgg [n0, n0] fun x89 => kStore b none 2 x30 x89 h88 fun _ h91 => r159 b x87 x30 h91
def b159_6 (u : Fn) (b : Nat) (j4_15 : F4) (x29 x30 x31 x32 : XV) (h33 : HS) : Ans :=
  join (b159_4 u b j4_15) fun j4_76 => kLen true x29 fun x77 => kGeq x32 x77 fun x78 => cnd x78 (b159_5 u b x29 x31 x30 h33) (j4_76 x29 x30 x31 x32 h33)
def b159_7 (u : Fn) (b : Nat) (x16 x17 : XV) (h26 : HS) : Ans :=
  kLen true x16 fun x94 => kHand h26.ob x94 fun x95 s96 => kGo u b none 160 [n11, x95] (apL s96 []) h26 fun x97 h98 => kStore b none 2 x17 x97 h98 fun _ h100 => r159 b .nl x17 h100
def b159_8 (u : Fn) (b : Nat) (j4_15 : F4) (x16 x17 x18 x19 : XV) (h20 : HS) : Ans :=
  kHand h20.ob x16 fun x21 s22 => kHand h20.ob x19 fun x23 s24 => kGo u b none 226 [x21, x23] (apL s22 (apL s24 [])) h20 fun x25 h26 => kExt x25 0 fun x27 => kExt x25 1 fun x28 => join (b159_6 u b j4_15) fun j4_92 => kNot x28 fun x93 => cnd x93 (b159_7 u b x16 x17 h26) (j4_92 x16 x17 x18 x27 h26)
def b159_9 (u : Fn) (b : Nat) (x8 : XV) (h9 : HS) : Ans :=
  kAlloc 166 b 3 none [n0, n0] h9 fun x10 h11 => join (fun x12 x13 h14 => lp [0, 3, 4, 5] 1000000 (b159_8 u b) x12 x13 .nl n0 h14) fun j2_101 => kLen true x8 fun x102 => kGtr x102 n6000 fun x103 => cnd x103 (kGo u b none 160 [n2, n0] [] h11 fun x104 h105 => kStore b none 2 x10 x104 h105 fun _ h107 => r159 b .nl x10 h107) (j2_101 x8 x10 h11)
def b159 : Bd := fun u l b segs => argK l fun x8 l => argN l (b159_9 u b x8 (hs0 b segs))
def r161 (b : Nat) (x0 x1 : XV) (h2 : HS) : Ans :=
  kCell h2.ob x0 true 7 fun x3 => kHand h2.ob x3 fun q4 s5 => kCell h2.ob x1 true 2 fun x6 => kHand h2.ob x6 fun q7 s8 => retP b (.tup [q4, q7]) (apL s5 (apL s8 [])) h2
def b161_1 (u : Fn) (b : Nat) (x52 x53 x54 x55 : XV) (h56 : HS) : Ans :=
  kAdd x53 n1 fun x57 => kHand h56.ob x57 fun x58 s59 => kGoH u b 229 [x52, x58] (apL s59 []) h56 fun x60 h61 => kExt x60 0 fun x62 => kExt x60 1 fun x63 => kStore b none 7 x54 x62 h61 fun _ h65 => kStore b none 2 x55 x63 h65 fun _ h67 => r161 b x54 x55 h67
def b161_2 (u : Fn) (b : Nat) (x96 x98 x90 x87 x88 : XV) (h97 : HS) : Ans :=
  met b [4096, 4098] [x96, x98] <| kElt h97.ob 7 0 x96 (repL 2 [n0, (.s 0 0), (.s 0 0), (.s 0 0), (.s 0 0), (.s 0 0), .nl]) fun c99 s100 => kElt h97.ob 7 1 x98 c99 fun c101 s102 => kSl b 2183 (some [2183]) 46 7 2 false c101 (apL s100 (apL s102 [])) h97 fun x103 h104 => met b [2183] [x103] <| kHand h104.ob x103 fun x105 s106 => kGo u b (some []) 82 [x105] (apL s106 []) h104 fun x107 h108 => met b [12] [x90] <| kLoad h108.ob true 2 x90 fun x109 => met b [4] [x87] <| kStore b (some [4]) 7 x87 x107 h108 fun _ h111 => met b [5] [x88] <| kStore b (some [5]) 2 x88 x109 h111 fun _ h113 => r161 b x87 x88 h113
def b161_3 (u : Fn) (b : Nat) (x87 x88 x89 x90 : XV) (h91 : HS) : Ans :=
  kGo u b (some []) 45 [(.s 5 0x71756f7465)] [] h91 fun x92 h93 => met b [] [x92] <| kHand h93.ob x92 fun x94 s95 => kGo u b (some []) 80 [x94] (apL s95 []) h93 fun x96 h97 => met b [11] [x89] <| kLoad h97.ob true 7 x89 fun x98 => b161_2 u b x96 x98 x90 x87 x88 h97
def b161_4 (u : Fn) (b : Nat) (x42 x81 x39 x40 : XV) (h86 : HS) : Ans :=
  met b [7] [x42] <| kLoad h86.ob true 7 x42 fun x118 => met b [12] [x81] <| kLoad h86.ob true 2 x81 fun x119 => met b [4] [x39] <| kStore b (some [4]) 7 x39 x118 h86 fun _ h121 => met b [5] [x40] <| kStore b (some [5]) 2 x40 x119 h121 fun _ h123 => r161 b x39 x40 h123
def b161_5 (u : Fn) (b : Nat) (x79 x77 x78 x42 x39 x40 : XV) (h80 : HS) : Ans :=
  kAlloc 166 b 12 none [n0, n0] h80 fun x81 h82 => kStore b none 7 x79 x77 h82 fun _ h84 => kStore b none 2 x81 x78 h84 fun _ h86 => join (b161_3 u b) fun j4_114 => kFaddr 0 x81 fun x115 => kLoad h86.ob false 1 x115 fun x116 => kNeq x116 n0 fun x117 => cnd x117 (b161_4 u b x42 x81 x39 x40 h86) (j4_114 x39 x40 x79 x81 h86)
def b161_6 (u : Fn) (b : Nat) (x38 x37 x42 x39 x40 : XV) (h51 : HS) : Ans :=
  kAdd x38 n1 fun x72 => kHand h51.ob x72 fun x73 s74 => kGoH u b 161 [x37, x73] (apL s74 []) h51 fun x75 h76 => kExt x75 0 fun x77 => kExt x75 1 fun x78 => kAlloc 46 b 11 none [n0, (.s 0 0), (.s 0 0), (.s 0 0), (.s 0 0), (.s 0 0), .nl] h76 fun x79 h80 => b161_5 u b x79 x77 x78 x42 x39 x40 h80
def b161_7 (u : Fn) (b : Nat) (x37 x47 x41 x38 x42 x39 x40 : XV) (h43 : HS) : Ans :=
  kNil x37 fun x48 => kFaddr 3 x48 fun x49 => kStore b none 1 x49 x47 h43 fun _ h51 => join (b161_1 u b) fun j4_68 => kFaddr 0 x41 fun x69 => kLoad h51.ob false 1 x69 fun x70 => kEql x70 n4 fun x71 => cnd x71 (b161_6 u b x38 x37 x42 x39 x40 h51) (j4_68 x37 x38 x39 x40 h51)
def b161_8 (u : Fn) (b : Nat) (x37 x38 x39 x40 x41 x42 : XV) (h43 : HS) : Ans :=
  kNil x37 fun x44 => kFaddr 3 x44 fun x45 => kLoad h43.ob false 1 x45 fun x46 => kAdd x46 n1 fun x47 => b161_7 u b x37 x47 x41 x38 x42 x39 x40 h43
def b161_9 (u : Fn) (b : Nat) (x34 x32 x126 x33 : XV) (h36 : HS) : Ans :=
  kFaddr 1 x34 fun x127 => met b [6] [x127] <| kLoad h36.ob false 1 x127 fun x128 => met b [4096, 4098] [x128] <| kHand h36.ob x128 fun x129 s130 => kGo u b (some []) 160 [n2, x129] (apL s130 []) h36 fun x131 h132 => met b [4] [x32] <| kStore b (some [4]) 7 x32 x126 h132 fun _ h134 => met b [5] [x33] <| kStore b (some [5]) 2 x33 x131 h134 fun _ h136 => r161 b x32 x33 h136
def b161_10 (u : Fn) (b : Nat) (x30 x31 x32 x33 x34 x35 : XV) (h36 : HS) : Ans :=
  join (b161_8 u b) fun j6_124 => kGtr x31 n200 fun x125 => cnd x125 (met b [7] [x35] <| kLoad h36.ob true 7 x35 fun x126 => b161_9 u b x34 x32 x126 x33 h36) (j6_124 x30 x31 x32 x33 x34 x35 h36)
def b161_11 (u : Fn) (b : Nat) (x24 x12 x141 x14 : XV) (h29 : HS) : Ans :=
  kFaddr 1 x24 fun x142 => met b [6] [x142] <| kLoad h29.ob false 1 x142 fun x143 => met b [4096, 4098] [x143] <| kHand h29.ob x143 fun x144 s145 => kGo u b (some []) 160 [n11, x144] (apL s145 []) h29 fun x146 h147 => met b [4] [x12] <| kStore b (some [4]) 7 x12 x141 h147 fun _ h149 => met b [5] [x14] <| kStore b (some [5]) 2 x14 x146 h149 fun _ h151 => r161 b x12 x14 h151
def b161_12 (u : Fn) (b : Nat) (x156 x154 x161 x155 : XV) (h160 : HS) : Ans :=
  kFaddr 1 x156 fun x162 => met b [6] [x162] <| kLoad h160.ob false 1 x162 fun x163 => met b [4096, 4098] [x163] <| kHand h160.ob x163 fun x164 s165 => kGo u b (some []) 160 [n12, x164] (apL s165 []) h160 fun x166 h167 => met b [4] [x154] <| kStore b (some [4]) 7 x154 x161 h167 fun _ h169 => met b [5] [x155] <| kStore b (some [5]) 2 x155 x166 h169 fun _ h171 => r161 b x154 x155 h171
def b161_13 (u : Fn) (b : Nat) (x181 x156 x154 x155 : XV) (h180 : HS) : Ans :=
  kLoad h180.ob false 1 x181 fun x182 => kFaddr 4 x156 fun x183 => kLoad h180.ob false 1 x183 fun x184 => kPart 0 1 n1 [n0, (.s 0 0), (.s 0 0), (.s 0 0), (.s 0 0), (.s 0 0), .nl] fun c185 => kPart 1 1 x182 c185 fun c186 => kPart 2 1 x184 c186 fun c187 => kAgg c187 fun x188 => kAgg [n0, n0] fun x189 => kStore b none 7 x154 x188 h180 fun _ h191 => kStore b none 2 x155 x189 h191 fun _ h193 => r161 b x154 x155 h193
def b161_14 (u : Fn) (b : Nat) (x152 x156 x154 x155 : XV) (h160 : HS) : Ans :=
  kNil x152 fun x173 => kFaddr 3 x173 fun x174 => kLoad h160.ob false 1 x174 fun x175 => kAdd x175 n1 fun x176 => kNil x152 fun x177 => kFaddr 3 x177 fun x178 => kStore b none 1 x178 x176 h160 fun _ h180 => kFaddr 3 x156 fun x181 => b161_13 u b x181 x156 x154 x155 h180
def b161_15 (u : Fn) (b : Nat) (x152 x198 x156 x154 x155 : XV) (h160 : HS) : Ans :=
  kNil x152 fun x199 => kFaddr 3 x199 fun x200 => kStore b none 1 x200 x198 h160 fun _ h202 => kFaddr 3 x156 fun x203 => kLoad h202.ob false 1 x203 fun x204 => kHand h202.ob x204 fun x205 s206 => kGo u b none 81 [x205] (apL s206 []) h202 fun x207 h208 => kAgg [n0, n0] fun x209 => kStore b none 7 x154 x207 h208 fun _ h211 => kStore b none 2 x155 x209 h211 fun _ h213 => r161 b x154 x155 h213
def b161_16 (u : Fn) (b : Nat) (x152 x156 x154 x155 : XV) (h160 : HS) : Ans :=
  kNil x152 fun x195 => kFaddr 3 x195 fun x196 => kLoad h160.ob false 1 x196 fun x197 => kAdd x197 n1 fun x198 => b161_15 u b x152 x198 x156 x154 x155 h160
def b161_17 (u : Fn) (b : Nat) (x251 x252 x253 : XV) (h254 : HS) : Ans :=
  kLoad h254.ob true 2 x253 fun x255 => kHand h254.ob x255 fun x256 s257 => kGo u b none 80 [x256] (apL s257 []) h254 fun x258 h259 => kAgg [n0, n0] fun x260 => kStore b none 7 x251 x258 h259 fun _ h262 => kStore b none 2 x252 x260 h262 fun _ h264 => r161 b x251 x252 h264
def b161_18 (u : Fn) (b : Nat) (x268 x246 x226 x267 x227 : XV) (h250 : HS) : Ans :=
  met b [6] [x268] <| kLoad h250.ob false 1 x268 fun x269 => met b [4096, 4098] [x246, x269] <| kHand h250.ob x246 fun x270 s271 => kHand h250.ob x269 fun x272 s273 => kGo u b (some []) 160 [x270, x272] (apL s271 (apL s273 [])) h250 fun x274 h275 => met b [4] [x226] <| kStore b (some [4]) 7 x226 x267 h275 fun _ h277 => met b [5] [x227] <| kStore b (some [5]) 2 x227 x274 h277 fun _ h279 => r161 b x226 x227 h279
def b161_19 (u : Fn) (b : Nat) (x229 x228 x246 x226 x227 : XV) (h250 : HS) : Ans :=
  met b [7] [x229] <| kLoad h250.ob true 7 x229 fun x267 => kFaddr 1 x228 fun x268 => b161_18 u b x268 x246 x226 x267 x227 h250
def b161_20 (u : Fn) (b : Nat) (x243 x229 x228 x226 x227 : XV) (h244 : HS) : Ans :=
  kExt x243 0 fun x245 => kExt x243 1 fun x246 => kAlloc 43 b 9 (some [9]) [(.s 0 0), (.s 0 0)] h244 fun x247 h248 => met b [9] [x247] <| kStore b (some [9]) 2 x247 x245 h248 fun _ h250 => join (b161_17 u b) fun j3_265 => kNeq x246 n0 fun x266 => cnd x266 (b161_19 u b x229 x228 x246 x226 x227 h250) (j3_265 x226 x227 x247 h250)
def b161_21 (u : Fn) (b : Nat) (x233 x228 x230 x229 x226 x227 : XV) (h231 : HS) : Ans :=
  met b [4096, 4098] [x233] <| kLoad h231.ob false 1 x233 fun x234 => kFaddr 3 x228 fun x235 => met b [6] [x235] <| kLoad h231.ob false 1 x235 fun x236 => met b [4096, 4098, 4096, 4098, 4096, 4098] [x234, x230, x236] <| kHand h231.ob x234 fun x237 s238 => kHand h231.ob x230 fun x239 s240 => kHand h231.ob x236 fun x241 s242 => kGo u b (some []) 228 [x237, x239, x241] (apL s238 (apL s240 (apL s242 []))) h231 fun x243 h244 => b161_20 u b x243 x229 x228 x226 x227 h244
def b161_22 (u : Fn) (b : Nat) (j6_280 : F6) (x152 x154 x155 x156 x157 : XV) (h222 : HS) : Ans :=
  kNil x152 fun x282 => kFaddr 1 x282 fun x283 => kLoad h222.ob false 1 x283 fun x284 => j6_280 x152 x154 x155 x156 x157 x284 h222
def b161_23 (u : Fn) (b : Nat) (x220 x218 x156 x152 x154 x155 x157 : XV) (h160 : HS) : Ans :=
  kStore b none 1 x220 x218 h160 fun _ h222 => kFaddr 2 x156 fun x223 => kLoad h222.ob false 1 x223 fun x224 => join (fun x225 x226 x227 x228 x229 x230 h231 => kNil x225 fun x232 => kFaddr 0 x232 fun x233 => b161_21 u b x233 x228 x230 x229 x226 x227 h231) fun j6_280 => kEql x224 (.s 0 0) fun x281 => cnd x281 (b161_22 u b j6_280 x152 x154 x155 x156 x157 h222) (j6_280 x152 x154 x155 x156 x157 x224 h222)
def b161_24 (u : Fn) (b : Nat) (x152 x156 x154 x155 x157 : XV) (h160 : HS) : Ans :=
  kNil x152 fun x215 => kFaddr 3 x215 fun x216 => kLoad h160.ob false 1 x216 fun x217 => kAdd x217 n1 fun x218 => kNil x152 fun x219 => kFaddr 3 x219 fun x220 => b161_23 u b x220 x218 x156 x152 x154 x155 x157 h160
def b161_25 (u : Fn) (b : Nat) (j6_137 : F6) (x158 x152 x156 x154 x155 x157 x153 : XV) (h160 : HS) : Ans :=
  kEql x158 n6 fun x214 => cnd x214 (b161_24 u b x152 x156 x154 x155 x157 h160) (j6_137 x152 x153 x154 x155 x156 x157 h160)
def b161_26 (u : Fn) (b : Nat) (j6_137 : F6) (x158 x152 x156 x154 x155 x157 x153 : XV) (h160 : HS) : Ans :=
  kEql x158 n7 fun x194 => cnd x194 (b161_16 u b x152 x156 x154 x155 h160) (b161_25 u b j6_137 x158 x152 x156 x154 x155 x157 x153 h160)
def b161_27 (u : Fn) (b : Nat) (j6_137 : F6) (x158 x152 x156 x154 x155 x157 x153 : XV) (h160 : HS) : Ans :=
  kEql x158 n5 fun x172 => cnd x172 (b161_14 u b x152 x156 x154 x155 h160) (b161_26 u b j6_137 x158 x152 x156 x154 x155 x157 x153 h160)
def b161_28 (u : Fn) (b : Nat) (j6_137 : F6) (x152 x153 x154 x155 x156 x157 x158 x159 : XV) (h160 : HS) : Ans :=
  cnd x159 (met b [7] [x157] <| kLoad h160.ob true 7 x157 fun x161 => b161_12 u b x156 x154 x161 x155 h160) (b161_27 u b j6_137 x158 x152 x156 x154 x155 x157 x153 h160)
def b161_29 (u : Fn) (b : Nat) (j6_137 : F6) (x139 x9 x10 x12 x14 x24 x28 : XV) (h29 : HS) : Ans :=
  join (b161_28 u b j6_137) fun j8_285 => kEql x139 n2 fun x286 => cnd x286 (j8_285 x9 x10 x12 x14 x24 x28 x139 x286 h29) (kEql x139 n3 fun x287 => j8_285 x9 x10 x12 x14 x24 x28 x139 x287 h29)
def b161_30 (u : Fn) (b : Nat) (x24 x12 x14 x9 x10 : XV) (h27 : HS) : Ans :=
  kAlloc 46 b 7 none [n0, (.s 0 0), (.s 0 0), (.s 0 0), (.s 0 0), (.s 0 0), .nl] h27 fun x28 h29 => join (b161_10 u b) fun j6_137 => kFaddr 0 x24 fun x138 => kLoad h29.ob false 1 x138 fun x139 => kEql x139 n0 fun x140 => cnd x140 (met b [7] [x28] <| kLoad h29.ob true 7 x28 fun x141 => b161_11 u b x24 x12 x141 x14 h29) (b161_29 u b j6_137 x139 x9 x10 x12 x14 x24 x28 h29)
def b161_31 (u : Fn) (b : Nat) (x19 x18 x12 x14 x9 x10 : XV) (h15 : HS) : Ans :=
  kFaddr 3 x19 fun x20 => met b [4096, 4098] [x20] <| kLoad h15.ob false 1 x20 fun x21 => met b [4096, 4098, 4096, 4098] [x18, x21] <| kIaddr h15.ob 5 x18 x21 fun x22 => met b [4098] [x22] <| kLoad h15.ob true 5 x22 fun x23 => kAlloc 237 b 6 (some [6]) [n0, n0, (.s 0 0), (.s 0 0), (.s 0 0)] h15 fun x24 h25 => met b [6] [x24] <| kStore b (some [6]) 5 x24 x23 h25 fun _ h27 => b161_30 u b x24 x12 x14 x9 x10 h27
def b161_32 (u : Fn) (b : Nat) (x9 x10 : XV) (h11 : HS) : Ans :=
  kAlloc 46 b 4 none [n0, (.s 0 0), (.s 0 0), (.s 0 0), (.s 0 0), (.s 0 0), .nl] h11 fun x12 h13 => kAlloc 166 b 5 none [n0, n0] h13 fun x14 h15 => kNil x9 fun x16 => kFaddr 2 x16 fun x17 => met b [4096, 4098] [x17] <| kLoad h15.ob false 1 x17 fun x18 => kNil x9 fun x19 => b161_31 u b x19 x18 x12 x14 x9 x10 h15
def b161 : Bd := fun u l b segs => argK l fun x9 l => argK l fun x10 l => argN l (b161_32 u b x9 x10 (hs0 b segs))
def r162 (b : Nat) (x0 : XV) (h1 : HS) : Ans :=
  kHand h1.ob x0 fun q2 s3 => retP b q2 (apL s3 []) h1
def b162_1 (u : Fn) (b : Nat) (x4 : XV) (h5 : HS) : Ans :=
  kBox 46 b 1 none x4 h5 fun x6 h7 => kLoad h7.ob true 7 x6 fun x8 => kHand h7.ob x8 fun x9 s10 => kGo u b none 230 [x9, n3001] (apL s10 []) h7 fun x11 h12 => r162 b x11 h12
def b162 : Bd := fun u l b segs => argK l fun x4 l => argN l (b162_1 u b x4 (hs0 b segs))
def r163 (b : Nat) (x0 : XV) (h1 : HS) : Ans :=
  kHand h1.ob x0 fun q2 s3 => retP b q2 (apL s3 []) h1
def b163_1 (u : Fn) (b : Nat) (x8 x6 : XV) (h7 : HS) : Ans :=
  kLoad h7.ob false 1 x8 fun x9 => kEql x9 n4 fun x10 => join (fun _ _ _ x14 h15 => kPick x10 x14 ff fun x16 => r163 b x16 h15) fun j4_17 => grdB x10 true (kFaddr 6 x6 fun x18 => kLoad h7.ob false 1 x18 fun x19 => kLen false x19 fun x20 => kEql x20 n2 fun x21 => j4_17 x18 x19 x20 x21 h7) (j4_17 uu uu uu uu h7)
def b163_2 (u : Fn) (b : Nat) (x4 : XV) (h5 : HS) : Ans :=
  kBox 46 b 1 none x4 h5 fun x6 h7 => kFaddr 0 x6 fun x8 => b163_1 u b x8 x6 h7
def b163 : Bd := fun u l b segs => argK l fun x4 l => argN l (b163_2 u b x4 (hs0 b segs))
def r164 (b : Nat) (x0 : XV) (h1 : HS) : Ans :=
  kHand h1.ob x0 fun q2 s3 => retP b q2 (apL s3 []) h1
def b164_1 (u : Fn) (b : Nat) (x4 : XV) (h5 : HS) : Ans :=
  kBox 46 b 1 none x4 h5 fun x6 h7 => met b [1] [x6] <| kLoad h7.ob true 7 x6 fun x8 => kGo u b (some []) 77 [] [] h7 fun x9 h10 => met b [] [x8, x9] <| kHand h10.ob x8 fun x11 s12 => kHand h10.ob x9 fun x13 s14 => kGo u b (some []) 41 [x11, x13] (apL s12 (apL s14 [])) h10 fun x15 h16 => r164 b x15 h16
def b164 : Bd := fun u l b segs => argK l fun x4 l => argN l (b164_1 u b x4 (hs0 b segs))
def r165 (b : Nat) (x0 x1 : XV) (h2 : HS) : Ans :=
  kCell h2.ob x0 true 11 fun x3 => kHand h2.ob x3 fun q4 s5 => kHand h2.ob x1 fun q6 s7 => retP b (.tup [q4, q6]) (apL s5 (apL s7 [])) h2
def b165_1 (u : Fn) (b : Nat) (x72 x73 x74 : XV) (h75 : HS) : Ans :=
  kLoad h75.ob true 2 x73 fun x76 => kHand h75.ob x76 fun x77 s78 => kHand h75.ob x74 fun x79 s80 => kGo u b none 54 [x77, x79] (apL s78 (apL s80 [])) h75 fun x81 h82 => kStore b none 11 x72 x81 h82 fun _ h84 => r165 b x72 n0 h84
def b165_2 (u : Fn) (b : Nat) (x67 x68 x69 x70 : XV) (h71 : HS) : Ans :=
  join (b165_1 u b) fun j3_85 => kLen false x69 fun x86 => kNeq x70 x86 fun x87 => cnd x87 (kAgg [n0, (.s 0 0), (.s 0 0), n0, (.s 0 0), (.s 0 0), (.s 0 0), (.s 0 0), (.s 0 0), .nl, .nl] fun x88 => kStore b none 11 x67 x88 h71 fun _ h90 => r165 b x67 n5 h90) (j3_85 x67 x68 x69 h71)
def b165_3 (u : Fn) (b : Nat) (x60 x55 x56 x57 x58 : XV) (h59 : HS) : Ans :=
  kHand h59.ob x60 fun x61 s62 => kGoH u b 238 [x55, x61] (apL s62 []) h59 fun x63 h64 => kExt x63 0 fun x65 => kExt x63 1 fun x66 => join (b165_2 u b) fun j4_91 => kNot x66 fun x92 => cnd x92 (kAgg [n0, (.s 0 0), (.s 0 0), n0, (.s 0 0), (.s 0 0), (.s 0 0), (.s 0 0), (.s 0 0), .nl, .nl] fun x93 => kStore b none 11 x56 x93 h64 fun _ h95 => r165 b x56 n7 h95) (j4_91 x56 x57 x58 x65 h64)
def b165_4 (u : Fn) (b : Nat) (j7_123 : F7) (x138 x139 x140 x141 x142 x143 x144 x145 : XV) (h146 : HS) : Ans :=
  kLoad h146.ob true 11 x145 fun x147 => kElt h146.ob 11 0 x147 (repL 1 [n0, (.s 0 0), (.s 0 0), n0, (.s 0 0), (.s 0 0), (.s 0 0), (.s 0 0), (.s 0 0), .nl, .nl]) fun c148 s149 => kSl b 2243 none 48 11 1 false c148 (apL s149 []) h146 fun x150 h151 => kAppend b 2244 none 48 11 176 x143 x150 false h151 fun x152 h153 => j7_123 x138 x139 x140 x141 x142 x152 x144 h153
def b165_5 (u : Fn) (b : Nat) (j7_123 : F7) (x130 x132 x108 x106 x107 x109 x110 x111 x112 : XV) (h131 : HS) : Ans :=
  kExt x130 1 fun x133 => kAlloc 48 b 25 none [n0, (.s 0 0), (.s 0 0), n0, (.s 0 0), (.s 0 0), (.s 0 0), (.s 0 0), (.s 0 0), .nl, .nl] h131 fun x134 h135 => kStore b none 11 x134 x132 h135 fun _ h137 => join (b165_4 u b j7_123) fun j8_154 => kNeq x133 n0 fun x155 => cnd x155 (kAgg [n0, (.s 0 0), (.s 0 0), n0, (.s 0 0), (.s 0 0), (.s 0 0), (.s 0 0), (.s 0 0), .nl, .nl] fun x156 => kStore b none 11 x108 x156 h137 fun _ h158 => r165 b x108 x133 h158) (j8_154 x106 x107 x108 x109 x110 x111 x112 x134 h137)
def b165_6 (u : Fn) (b : Nat) (j7_97 : F7) (x106 x107 x108 x109 x110 x111 x112 : XV) (h113 : HS) : Ans :=
  join (fun x114 x115 x116 x117 x118 x119 x120 h121 => kAdd x120 n1 fun x122 => j7_97 x114 x115 x116 x117 x118 x119 x122 h121) fun j7_123 => kIaddr h113.ob 7 x110 x112 fun x124 => kLoad h113.ob true 7 x124 fun x125 => kHand h113.ob x125 fun x126 s127 => kHand h113.ob x107 fun x128 s129 => kGoH u b 165 [x106, x126, x128] (apL s127 (apL s129 [])) h113 fun x130 h131 => kExt x130 0 fun x132 => b165_5 u b j7_123 x130 x132 x108 x106 x107 x109 x110 x111 x112 h131
def b165_7 (u : Fn) (b : Nat) (j4_96 : F4) (j7_97 : F7) (x98 x99 x100 x101 x102 x103 x104 : XV) (h105 : HS) : Ans :=
  join (b165_6 u b j7_97) fun j7_159 => kLen false x102 fun x160 => kLss x104 x160 fun x161 => cnd x161 (j7_159 x98 x99 x100 x101 x102 x103 x104 h105) (j4_96 x98 x100 x101 x103 h105)
def b165_8 (u : Fn) (b : Nat) (x49 x50 x51 x52 x53 : XV) (h54 : HS) : Ans :=
  join (fun x55 x56 x57 x58 h59 => kLoad h59.ob true 2 x57 fun x60 => b165_3 u b x60 x55 x56 x57 x58 h59) fun j4_96 => lp [0, 2, 6, 12, 13, 23, 24] 1000000 (b165_7 u b j4_96) x49 x50 x51 x52 x53 .nl n0 h54
def b165_9 (u : Fn) (b : Nat) (x205 x206 x207 x208 : XV) (h209 : HS) : Ans :=
  kLoad h209.ob true 7 x208 fun x210 => kHand h209.ob x210 fun x211 s212 => kHand h209.ob x206 fun x213 s214 => kGoH u b 165 [x205, x211, x213] (apL s212 (apL s214 [])) h209 fun x215 h216 => kExt x215 0 fun x217 => kExt x215 1 fun x218 => kStore b none 11 x207 x217 h216 fun _ h220 => r165 b x207 x218 h220
def b165_10 (u : Fn) (b : Nat) (x198 x200 x186 x183 x184 : XV) (h197 : HS) : Ans :=
  kAlloc 46 b 20 (some [20]) [n0, (.s 0 0), (.s 0 0), (.s 0 0), (.s 0 0), (.s 0 0), .nl] h197 fun x201 h202 => met b [20] [x201] <| kStore b (some [20]) 7 x201 x198 h202 fun _ h204 => join (b165_9 u b) fun j4_221 => kNeq x200 n0 fun x222 => cnd x222 (kAgg [n0, (.s 0 0), (.s 0 0), n0, (.s 0 0), (.s 0 0), (.s 0 0), (.s 0 0), (.s 0 0), .nl, .nl] fun x223 => kStore b none 11 x186 x223 h204 fun _ h225 => r165 b x186 x200 h225) (j4_221 x183 x184 x186 x201 h204)
def b165_11 (u : Fn) (b : Nat) (x189 x185 x186 x183 x184 : XV) (h187 : HS) : Ans :=
  met b [4096, 4098] [x189] <| kLoad h187.ob false 1 x189 fun x190 => met b [4] [x185] <| kLoad h187.ob true 7 x185 fun x191 => met b [4096, 4098] [x190, x191] <| kHand h187.ob x190 fun x192 s193 => kHand h187.ob x191 fun x194 s195 => kGo u b (some []) 237 [x192, x194] (apL s193 (apL s195 [])) h187 fun x196 h197 => kExt x196 0 fun x198 => kExt x196 1 fun _ => kExt x196 2 fun x200 => b165_10 u b x198 x200 x186 x183 x184 h197
def b165_12 (u : Fn) (b : Nat) (x42 x45 x43 x44 : XV) (h181 : HS) : Ans :=
  join (fun x183 x184 x185 x186 h187 => kNil x183 fun x188 => kFaddr 0 x188 fun x189 => b165_11 u b x189 x185 x186 x183 x184 h187) fun j4_226 => kGoH u b 234 [x42] [] h181 fun x227 h228 => kNot x227 fun x229 => cnd x229 (kAgg [n0, (.s 0 0), (.s 0 0), n0, (.s 0 0), (.s 0 0), (.s 0 0), (.s 0 0), (.s 0 0), .nl, .nl] fun x230 => kStore b none 11 x45 x230 h228 fun _ h232 => r165 b x45 n2 h232) (j4_226 x42 x43 x44 x45 h228)
def b165_13 (u : Fn) (b : Nat) (j5_162 : F5) (x174 x42 x45 x43 x44 x46 x47 x179 x180 : XV) (h181 : HS) : Ans :=
  kPick x174 tt x180 fun x182 => cnd x182 (b165_12 u b x42 x45 x43 x44 h181) (j5_162 x42 x43 x45 x46 x47 h181)
def b165_14 (u : Fn) (b : Nat) (j5_162 : F5) (x171 x173 x42 x45 x43 x44 x46 x47 : XV) (h172 : HS) : Ans :=
  kExt x171 1 fun x174 => kAlloc 66 b 18 (some [18]) [(.s 0 0), (.s 0 0), .nl, ff, n0, (.s 0 0), (.s 0 0), n0, (.s 0 0), (.s 0 0), (.s 0 0), (.s 0 0), (.s 0 0), .nl, .nl] h172 fun x175 h176 => met b [18] [x175] <| kStore b (some [18]) 15 x175 x173 h176 fun _ h178 => join (b165_13 u b j5_162 x174 x42 x45 x43 x44 x46 x47) fun j2_233 => grdB x174 false (kLoad h178.ob true 2 x46 fun x234 => kHand h178.ob x234 fun x235 s236 => kGo u b none 236 [x235] (apL s236 []) h178 fun x237 h238 => j2_233 x234 x237 h238) (j2_233 uu uu h178)
def b165_15 (u : Fn) (b : Nat) (j5_162 : F5) (x163 x46 x42 x45 x43 x44 x47 : XV) (h48 : HS) : Ans :=
  kFaddr 0 x163 fun x164 => met b [4096, 4098] [x164] <| kLoad h48.ob false 1 x164 fun x165 => met b [12] [x46] <| kLoad h48.ob true 2 x46 fun x166 => met b [4096, 4098] [x165, x166] <| kHand h48.ob x165 fun x167 s168 => kHand h48.ob x166 fun x169 s170 => kGo u b (some []) 235 [x167, x169] (apL s168 (apL s170 [])) h48 fun x171 h172 => kExt x171 0 fun x173 => b165_14 u b j5_162 x171 x173 x42 x45 x43 x44 x46 x47 h172
def b165_16 (u : Fn) (b : Nat) (x42 x43 x44 x45 x46 x47 : XV) (h48 : HS) : Ans :=
  join (b165_8 u b) fun j5_162 => kNil x42 fun x163 => b165_15 u b j5_162 x163 x46 x42 x45 x43 x44 x47 h48
def b165_17 (u : Fn) (b : Nat) (x244 x245 : XV) (h246 : HS) : Ans :=
  kIaddr h246.ob 7 x245 n0 fun x247 => kLoad h246.ob true 7 x247 fun x248 => kHand h246.ob x248 fun x249 s250 => kGo u b none 26 [x249] (apL s250 []) h246 fun x251 h252 => kStore b none 11 x244 x251 h252 fun _ h254 => r165 b x244 n0 h254
def b165_18 (u : Fn) (b : Nat) (x37 x31 : XV) (h242 : HS) : Ans :=
  join (b165_17 u b) fun j2_255 => kLen false x37 fun x256 => kNeq x256 n1 fun x257 => cnd x257 (kAgg [n0, (.s 0 0), (.s 0 0), n0, (.s 0 0), (.s 0 0), (.s 0 0), (.s 0 0), (.s 0 0), .nl, .nl] fun x258 => kStore b none 11 x31 x258 h242 fun _ h260 => r165 b x31 n1 h260) (j2_255 x31 x37 h242)
def b165_19 (u : Fn) (b : Nat) (x28 x37 x29 x31 : XV) (h262 : HS) : Ans :=
  kHand h262.ob x28 fun x264 s265 => kHand h262.ob x37 fun x266 s267 => kHand h262.ob x29 fun x268 s269 => kGo u b none 232 [x264, x266, x268] (apL s265 (apL s267 (apL s269 []))) h262 fun x270 h271 => kExt x270 0 fun x272 => kExt x270 1 fun x273 => kStore b none 11 x31 x272 h271 fun _ h275 => r165 b x31 x273 h275
def b165_20 (u : Fn) (b : Nat) (x303 x304 x305 x306 : XV) (h307 : HS) : Ans :=
  kLoad h307.ob true 7 x306 fun x308 => kHand h307.ob x308 fun x309 s310 => kHand h307.ob x304 fun x311 s312 => kGoH u b 165 [x303, x309, x311] (apL s310 (apL s312 [])) h307 fun x313 h314 => kExt x313 0 fun x315 => kExt x313 1 fun x316 => kStore b none 11 x305 x315 h314 fun _ h318 => r165 b x305 x316 h318
def b165_21 (u : Fn) (b : Nat) (j4_319 : F4) (x321 x291 x289 x290 x293 x322 x323 x324 : XV) (h325 : HS) : Ans :=
  kPick x321 x324 ff fun x326 => cnd x326 (kAgg [n0, (.s 0 0), (.s 0 0), n0, (.s 0 0), (.s 0 0), (.s 0 0), (.s 0 0), (.s 0 0), .nl, .nl] fun x327 => kStore b none 11 x291 x327 h325 fun _ h329 => r165 b x291 n2 h329) (j4_319 x289 x290 x291 x293 h325)
def b165_22 (u : Fn) (b : Nat) (x299 x301 x291 x289 x290 x293 : XV) (h300 : HS) : Ans :=
  kExt x299 1 fun _ => join (b165_20 u b) fun j4_319 => kLen false x301 fun x320 => kGtr x320 n0 fun x321 => join (b165_21 u b j4_319 x321 x291 x289 x290 x293) fun j3_330 => grdB x321 true (kGoH u b 234 [x289] [] h300 fun x331 h332 => kNot x331 fun x333 => j3_330 x289 x331 x333 h332) (j3_330 uu uu uu h300)
def b165_23 (u : Fn) (b : Nat) (x289 x290 x291 x292 x293 : XV) (h294 : HS) : Ans :=
  kIaddr h294.ob 7 x292 n0 fun x295 => kLoad h294.ob true 7 x295 fun x296 => kHand h294.ob x296 fun x297 s298 => kGo u b none 108 [x297] (apL s298 []) h294 fun x299 h300 => kExt x299 0 fun x301 => b165_22 u b x299 x301 x291 x289 x290 x293 h300
def b165_24 (u : Fn) (b : Nat) (x281 x283 x31 x28 x29 x37 : XV) (h282 : HS) : Ans :=
  kExt x281 1 fun x284 => kAlloc 46 b 14 none [n0, (.s 0 0), (.s 0 0), (.s 0 0), (.s 0 0), (.s 0 0), .nl] h282 fun x285 h286 => kStore b none 7 x285 x283 h286 fun _ h288 => join (b165_23 u b) fun j5_334 => kNot x284 fun x335 => cnd x335 (kAgg [n0, (.s 0 0), (.s 0 0), n0, (.s 0 0), (.s 0 0), (.s 0 0), (.s 0 0), (.s 0 0), .nl, .nl] fun x336 => kStore b none 11 x31 x336 h288 fun _ h338 => r165 b x31 n1 h338) (j5_334 x28 x29 x31 x37 x285 h288)
def b165_25 (u : Fn) (b : Nat) (x37 x31 x28 x29 : XV) (h277 : HS) : Ans :=
  kHand h277.ob x37 fun x279 s280 => kGo u b none 233 [x279] (apL s280 []) h277 fun x281 h282 => kExt x281 0 fun x283 => b165_24 u b x281 x283 x31 x28 x29 x37 h282
def b165_26 (u : Fn) (b : Nat) (j6_239 : F6) (x240 x37 x31 x28 x29 x30 x38 : XV) (h262 : HS) : Ans :=
  kGo u b none 45 [(.s 4 0x6c65742a)] [] h262 fun x276 h277 => kEqs false x240 x276 fun x278 => cnd x278 (b165_25 u b x37 x31 x28 x29 h277) (j6_239 x28 x29 x30 x31 x38 x37 h277)
def b165_27 (u : Fn) (b : Nat) (j6_239 : F6) (x240 x28 x37 x29 x31 x30 x38 : XV) (h242 : HS) : Ans :=
  kGo u b none 45 [(.s 3 0x6c6574)] [] h242 fun x261 h262 => kEqs false x240 x261 fun x263 => cnd x263 (b165_19 u b x28 x37 x29 x31 h262) (b165_26 u b j6_239 x240 x37 x31 x28 x29 x30 x38 h262)
def b165_28 (u : Fn) (b : Nat) (x36 x37 x31 x28 x29 x30 : XV) (h33 : HS) : Ans :=
  kAlloc 43 b 12 (some [12]) [(.s 0 0), (.s 0 0)] h33 fun x38 h39 => met b [12] [x38] <| kStore b (some [12]) 2 x38 x36 h39 fun _ h41 => join (b165_16 u b) fun j6_239 => kLoad h41.ob true 2 x38 fun x240 => kGo u b none 45 [(.s 5 0x71756f7465)] [] h41 fun x241 h242 => kEqs false x240 x241 fun x243 => cnd x243 (b165_18 u b x37 x31 h242) (b165_27 u b j6_239 x240 x28 x37 x29 x31 x30 x38 h242)
def b165_29 (u : Fn) (b : Nat) (x28 x29 x30 x31 x32 : XV) (h33 : HS) : Ans :=
  met b [] [x32] <| kIaddr h33.ob 7 x32 n0 fun x34 => kFaddr 3 x34 fun x35 => met b [] [x35] <| kLoad h33.ob true 2 x35 fun x36 => met b [] [x32] <| kSlc h33.ob 7 x32 (some n1) none fun x37 => b165_28 u b x36 x37 x31 x28 x29 x30 h33
def b165_30 (u : Fn) (b : Nat) (j5_339 : F5) (x345 x19 x16 x17 x18 x26 x346 x347 x348 x349 x350 : XV) (h351 : HS) : Ans :=
  kPick x345 tt x350 fun x352 => cnd x352 (kAgg [n0, (.s 0 0), (.s 0 0), n0, (.s 0 0), (.s 0 0), (.s 0 0), (.s 0 0), (.s 0 0), .nl, .nl] fun x353 => kStore b none 11 x19 x353 h351 fun _ h355 => r165 b x19 n1 h355) (j5_339 x16 x17 x18 x19 x26 h351)
def b165_31 (u : Fn) (b : Nat) (j5_339 : F5) (x340 x19 x16 x17 x18 x26 x341 x342 x343 : XV) (h344 : HS) : Ans :=
  kPick x340 tt x343 fun x345 => join (b165_30 u b j5_339 x345 x19 x16 x17 x18 x26) fun j5_356 => grdB x345 false (kIaddr h344.ob 7 x26 n0 fun x357 => kFaddr 0 x357 fun x358 => kLoad h344.ob false 1 x358 fun x359 => kNeq x359 n2 fun x360 => j5_356 x26 x357 x358 x359 x360 h344) (j5_356 uu uu uu uu uu h344)
def b165_32 (u : Fn) (b : Nat) (x24 x19 x16 x17 x18 : XV) (h25 : HS) : Ans :=
  kExt x24 0 fun x26 => kExt x24 1 fun x27 => join (b165_29 u b) fun j5_339 => kNot x27 fun x340 => join (b165_31 u b j5_339 x340 x19 x16 x17 x18 x26) fun j3_361 => grdB x340 false (kLen false x26 fun x362 => kEql x362 n0 fun x363 => j3_361 x26 x362 x363 h25) (j3_361 uu uu uu h25)
def b165_33 (u : Fn) (b : Nat) (x16 x17 x18 x19 : XV) (h20 : HS) : Ans :=
  kLoad h20.ob true 7 x18 fun x21 => kHand h20.ob x21 fun x22 s23 => kGo u b none 108 [x22] (apL s23 []) h20 fun x24 h25 => b165_32 u b x24 x19 x16 x17 x18 h25
def b165_34 (u : Fn) (b : Nat) (x369 x370 : XV) (h373 : HS) : Ans :=
  kLoad h373.ob true 7 x369 fun x374 => kHand h373.ob x374 fun x375 s376 => kGo u b none 26 [x375] (apL s376 []) h373 fun x377 h378 => kStore b none 11 x370 x377 h378 fun _ h380 => r165 b x370 n0 h380
def b165_35 (u : Fn) (b : Nat) (x386 x387 : XV) (h388 : HS) : Ans :=
  kFaddr 3 x386 fun x389 => kLoad h388.ob true 2 x389 fun x390 => kHand h388.ob x390 fun x391 s392 => kGo u b none 39 [x391] (apL s392 []) h388 fun x393 h394 => kStore b none 11 x387 x393 h394 fun _ h396 => r165 b x387 n0 h396
def b165_36 (u : Fn) (b : Nat) (j2_397 : F2) (x382 x399 x384 x383 : XV) (h385 : HS) : Ans :=
  kHand h385.ob x382 fun x400 s401 => kHand h385.ob x399 fun x402 s403 => kGo u b none 169 [x400, x402] (apL s401 (apL s403 [])) h385 fun x404 h405 => kExt x404 0 fun x406 => kExt x404 1 fun x407 => kAlloc 48 b 8 none [n0, (.s 0 0), (.s 0 0), n0, (.s 0 0), (.s 0 0), (.s 0 0), (.s 0 0), (.s 0 0), .nl, .nl] h405 fun x408 h409 => kStore b none 11 x408 x406 h409 fun _ h411 => cnd x407 (kLoad h411.ob true 11 x408 fun x412 => kStore b none 11 x384 x412 h411 fun _ h414 => r165 b x384 n0 h414) (j2_397 x383 x384 h411)
def b165_37 (u : Fn) (b : Nat) (x382 x383 x384 : XV) (h385 : HS) : Ans :=
  join (b165_35 u b) fun j2_397 => kFaddr 3 x383 fun x398 => kLoad h385.ob true 2 x398 fun x399 => b165_36 u b j2_397 x382 x399 x384 x383 h385
def b165_38 (u : Fn) (b : Nat) (x369 x370 : XV) (h421 : HS) : Ans :=
  kLoad h421.ob true 7 x369 fun x423 => kHand h421.ob x423 fun x424 s425 => kGo u b none 26 [x424] (apL s425 []) h421 fun x426 h427 => kStore b none 11 x370 x426 h427 fun _ h429 => r165 b x370 n0 h429
def b165_39 (u : Fn) (b : Nat) (x369 x370 x368 : XV) (h373 : HS) : Ans :=
  join (b165_37 u b) fun j3_415 => kFaddr 3 x369 fun x416 => kLoad h373.ob true 2 x416 fun x417 => kHand h373.ob x417 fun x418 s419 => kGo u b none 231 [x418] (apL s419 []) h373 fun x420 h421 => kNot x420 fun x422 => cnd x422 (b165_38 u b x369 x370 h421) (j3_415 x368 x369 x370 h421)
def b165_40 (u : Fn) (b : Nat) (j4_364 : F4) (x371 x369 x370 x368 x367 : XV) (h373 : HS) : Ans :=
  kEql x371 n2 fun x381 => cnd x381 (b165_39 u b x369 x370 x368 h373) (j4_364 x367 x368 x369 x370 h373)
def b165_41 (u : Fn) (b : Nat) (x12 x8 x10 x14 : XV) (h15 : HS) : Ans :=
  join (b165_33 u b) fun j4_364 => kFaddr 0 x12 fun x365 => kLoad h15.ob false 1 x365 fun x366 => join (fun x367 x368 x369 x370 x371 x372 h373 => cnd x372 (b165_34 u b x369 x370 h373) (b165_40 u b j4_364 x371 x369 x370 x368 x367 h373)) fun j6_430 => kEql x366 n1 fun x431 => cnd x431 (j6_430 x8 x10 x12 x14 x366 x431 h15) (kEql x366 n3 fun x432 => j6_430 x8 x10 x12 x14 x366 x432 h15)
def b165_42 (u : Fn) (b : Nat) (x9 x8 x10 : XV) (h11 : HS) : Ans :=
  kBox 46 b 4 none x9 h11 fun x12 h13 => kAlloc 48 b 6 none [n0, (.s 0 0), (.s 0 0), n0, (.s 0 0), (.s 0 0), (.s 0 0), (.s 0 0), (.s 0 0), .nl, .nl] h13 fun x14 h15 => b165_41 u b x12 x8 x10 x14 h15
def b165 : Bd := fun u l b segs => argK l fun x8 l => argK l fun x9 l => argK l fun x10 l => argN l (b165_42 u b x9 x8 x10 (hs0 b segs))
def r167 (b : Nat) (x0 : XV) (h1 : HS) : Ans :=
  kHand h1.ob x0 fun q2 s3 => retP b q2 (apL s3 []) h1
def b167_1 (u : Fn) (b : Nat) (x7 x10 x13 x16 x19 x22 x25 x28 x31 x34 x37 x40 x43 x46 x49 x52 x55 x58 x61 x64 x67 x70 x73 x76 x79 : XV) (h4 : HS) : Ans :=
  kElt h4.ob 2 0 x7 (repL 25 [(.s 0 0), n0]) fun c80 s81 => kElt h4.ob 2 1 x10 c80 fun c82 s83 => kElt h4.ob 2 2 x13 c82 fun c84 s85 => kElt h4.ob 2 3 x16 c84 fun c86 s87 => kElt h4.ob 2 4 x19 c86 fun c88 s89 => kElt h4.ob 2 5 x22 c88 fun c90 s91 => kElt h4.ob 2 6 x25 c90 fun c92 s93 => kElt h4.ob 2 7 x28 c92 fun c94 s95 => kElt h4.ob 2 8 x31 c94 fun c96 s97 => kElt h4.ob 2 9 x34 c96 fun c98 s99 => kElt h4.ob 2 10 x37 c98 fun c100 s101 => kElt h4.ob 2 11 x40 c100 fun c102 s103 => kElt h4.ob 2 12 x43 c102 fun c104 s105 => kElt h4.ob 2 13 x46 c104 fun c106 s107 => kElt h4.ob 2 14 x49 c106 fun c108 s109 => kElt h4.ob 2 15 x52 c108 fun c110 s111 => kElt h4.ob 2 16 x55 c110 fun c112 s113 => kElt h4.ob 2 17 x58 c112 fun c114 s115 => kElt h4.ob 2 18 x61 c114 fun c116 s117 => kElt h4.ob 2 19 x64 c116 fun c118 s119 => kElt h4.ob 2 20 x67 c118 fun c120 s121 => kElt h4.ob 2 21 x70 c120 fun c122 s123 => kElt h4.ob 2 22 x73 c122 fun c124 s125 => kElt h4.ob 2 23 x76 c124 fun c126 s127 => kElt h4.ob 2 24 x79 c126 fun c128 s129 => kSl b 2074 none 249 2 25 false c128 (apL s81 (apL s83 (apL s85 (apL s87 (apL s89 (apL s91 (apL s93 (apL s95 (apL s97 (apL s99 (apL s101 (apL s103 (apL s105 (apL s107 (apL s109 (apL s111 (apL s113 (apL s115 (apL s117 (apL s119 (apL s121 (apL s123 (apL s125 (apL s127 (apL s129 []))))))))))))))))))))))))) h4 fun x130 h131 => r167 b x130 h131
def b167_2 (u : Fn) (b : Nat) (x7 x10 x13 x16 x19 x22 x25 x28 x31 x34 x37 x40 x43 x46 x49 x52 x55 x58 x61 x64 x67 : XV) (h4 : HS) : Ans :=
  kPart 0 1 (.s 13 0x737472696e672d617070656e64) [(.s 0 0), n0] fun c68 => kPart 1 1 n2 c68 fun c69 => kAgg c69 fun x70 => kPart 0 1 (.s 13 0x737472696e672d6c656e677468) [(.s 0 0), n0] fun c71 => kPart 1 1 n1 c71 fun c72 => kAgg c72 fun x73 => kPart 0 1 (.s 11 0x737472696e672d62797465) [(.s 0 0), n0] fun c74 => kPart 1 1 n2 c74 fun c75 => kAgg c75 fun x76 => kPart 0 1 (.s 11 0x627974652d737472696e67) [(.s 0 0), n0] fun c77 => kPart 1 1 n1 c77 fun c78 => kAgg c78 fun x79 => b167_1 u b x7 x10 x13 x16 x19 x22 x25 x28 x31 x34 x37 x40 x43 x46 x49 x52 x55 x58 x61 x64 x67 x70 x73 x76 x79 h4
def b167_3 (u : Fn) (b : Nat) (x7 x10 x13 x16 x19 x22 x25 x28 x31 x34 x37 x40 x43 x46 x49 x52 x55 : XV) (h4 : HS) : Ans :=
  kPart 0 1 (.s 5 0x666c6f6f72) [(.s 0 0), n0] fun c56 => kPart 1 1 n1 c56 fun c57 => kAgg c57 fun x58 => kPart 0 1 (.s 11 0x73796d626f6c2d6e616d65) [(.s 0 0), n0] fun c59 => kPart 1 1 n1 c59 fun c60 => kAgg c60 fun x61 => kPart 0 1 (.s 19 0x73796d626f6c2d7061636b6167652d6e616d65) [(.s 0 0), n0] fun c62 => kPart 1 1 n1 c62 fun c63 => kAgg c63 fun x64 => kPart 0 1 (.s 6 0x696e7465726e) [(.s 0 0), n0] fun c65 => kPart 1 1 n2 c65 fun c66 => kAgg c66 fun x67 => b167_2 u b x7 x10 x13 x16 x19 x22 x25 x28 x31 x34 x37 x40 x43 x46 x49 x52 x55 x58 x61 x64 x67 h4
def b167_4 (u : Fn) (b : Nat) (x7 x10 x13 x16 x19 x22 x25 x28 x31 x34 x37 x40 x43 : XV) (h4 : HS) : Ans :=
  kPart 0 1 (.s 7 0x756e6172792d2f) [(.s 0 0), n0] fun c44 => kPart 1 1 n1 c44 fun c45 => kAgg c45 fun x46 => kPart 0 1 (.s 1 0x3c) [(.s 0 0), n0] fun c47 => kPart 1 1 n2 c47 fun c48 => kAgg c48 fun x49 => kPart 0 1 (.s 9 0x6e756d657261746f72) [(.s 0 0), n0] fun c50 => kPart 1 1 n1 c50 fun c51 => kAgg c51 fun x52 => kPart 0 1 (.s 11 0x64656e6f6d696e61746f72) [(.s 0 0), n0] fun c53 => kPart 1 1 n1 c53 fun c54 => kAgg c54 fun x55 => b167_3 u b x7 x10 x13 x16 x19 x22 x25 x28 x31 x34 x37 x40 x43 x46 x49 x52 x55 h4
def b167_5 (u : Fn) (b : Nat) (x7 x10 x13 x16 x19 x22 x25 x28 x31 : XV) (h4 : HS) : Ans :=
  kPart 0 1 (.s 8 0x696e746567657270) [(.s 0 0), n0] fun c32 => kPart 1 1 n1 c32 fun c33 => kAgg c33 fun x34 => kPart 0 1 (.s 8 0x62696e6172792d2b) [(.s 0 0), n0] fun c35 => kPart 1 1 n2 c35 fun c36 => kAgg c36 fun x37 => kPart 0 1 (.s 8 0x62696e6172792d2a) [(.s 0 0), n0] fun c38 => kPart 1 1 n2 c38 fun c39 => kAgg c39 fun x40 => kPart 0 1 (.s 7 0x756e6172792d2d) [(.s 0 0), n0] fun c41 => kPart 1 1 n1 c41 fun c42 => kAgg c42 fun x43 => b167_4 u b x7 x10 x13 x16 x19 x22 x25 x28 x31 x34 x37 x40 x43 h4
def b167_6 (u : Fn) (b : Nat) (x7 x10 x13 x16 x19 : XV) (h4 : HS) : Ans :=
  kPart 0 1 (.s 5 0x636f6e7370) [(.s 0 0), n0] fun c20 => kPart 1 1 n1 c20 fun c21 => kAgg c21 fun x22 => kPart 0 1 (.s 7 0x73796d626f6c70) [(.s 0 0), n0] fun c23 => kPart 1 1 n1 c23 fun c24 => kAgg c24 fun x25 => kPart 0 1 (.s 7 0x737472696e6770) [(.s 0 0), n0] fun c26 => kPart 1 1 n1 c26 fun c27 => kAgg c27 fun x28 => kPart 0 1 (.s 9 0x726174696f6e616c70) [(.s 0 0), n0] fun c29 => kPart 1 1 n1 c29 fun c30 => kAgg c30 fun x31 => b167_5 u b x7 x10 x13 x16 x19 x22 x25 x28 x31 h4
def b167_7 (u : Fn) (b : Nat) (x7 : XV) (h4 : HS) : Ans :=
  kPart 0 1 (.s 5 0x657175616c) [(.s 0 0), n0] fun c8 => kPart 1 1 n2 c8 fun c9 => kAgg c9 fun x10 => kPart 0 1 (.s 4 0x636f6e73) [(.s 0 0), n0] fun c11 => kPart 1 1 n2 c11 fun c12 => kAgg c12 fun x13 => kPart 0 1 (.s 3 0x636172) [(.s 0 0), n0] fun c14 => kPart 1 1 n1 c14 fun c15 => kAgg c15 fun x16 => kPart 0 1 (.s 3 0x636472) [(.s 0 0), n0] fun c17 => kPart 1 1 n1 c17 fun c18 => kAgg c18 fun x19 => b167_6 u b x7 x10 x13 x16 x19 h4
def b167_8 (u : Fn) (b : Nat) (h4 : HS) : Ans :=
  kPart 0 1 (.s 2 0x6966) [(.s 0 0), n0] fun c5 => kPart 1 1 n3 c5 fun c6 => kAgg c6 fun x7 => b167_7 u b x7 h4
def b167 : Bd := fun u l b segs => argN l (b167_8 u b (hs0 b segs))
def r173 (b : Nat) (x0 x1 : XV) (h2 : HS) : Ans :=
  kHand h2.ob x0 fun q3 s4 => kHand h2.ob x1 fun q5 s6 => retP b (.tup [q3, q5]) (apL s4 (apL s6 [])) h2
def b173_1 (u : Fn) (b : Nat) (x11 x12 : XV) (h13 : HS) : Ans :=
  join (fun x14 h15 => r173 b x14 tt h15) fun j1_16 => kLoad h13.ob true 7 x11 fun x17 => kHand h13.ob x17 fun x18 s19 => kGo u b none 94 [x18] (apL s19 []) h13 fun x20 h21 => kNot x20 fun x22 => cnd x22 (r173 b .nl ff h21) (j1_16 x12 h21)
def b173_2 (u : Fn) (b : Nat) (j2_24 : F2) (x32 x29 x28 : XV) (h30 : HS) : Ans :=
  kIaddr h30.ob 7 x32 n0 fun x33 => kLoad h30.ob true 7 x33 fun x34 => kElt h30.ob 7 0 x34 (repL 1 [n0, (.s 0 0), (.s 0 0), (.s 0 0), (.s 0 0), (.s 0 0), .nl]) fun c35 s36 => kSl b 2060 none 46 7 1 false c35 (apL s36 []) h30 fun x37 h38 => kAppend b 2061 none 46 7 112 x29 x37 false h38 fun x39 h40 => kFaddr 6 x28 fun x41 => kLoad h40.ob false 1 x41 fun x42 => kIaddr h40.ob 7 x42 n1 fun x43 => kLoad h40.ob true 7 x43 fun x44 => kStore b none 7 x28 x44 h40 fun _ h46 => j2_24 x28 x39 h46
def b173_3 (u : Fn) (b : Nat) (j2_23 j2_24 : F2) (x25 x26 : XV) (h27 : HS) : Ans :=
  join (fun x28 x29 h30 => kFaddr 6 x28 fun x31 => kLoad h30.ob false 1 x31 fun x32 => b173_2 u b j2_24 x32 x29 x28 h30) fun j2_47 => kLoad h27.ob true 7 x25 fun x48 => kHand h27.ob x48 fun x49 s50 => kGo u b none 244 [x49] (apL s50 []) h27 fun x51 h52 => cnd x51 (j2_47 x25 x26 h52) (j2_23 x25 x26 h52)
def b173_4 (u : Fn) (b : Nat) (x7 : XV) (h8 : HS) : Ans :=
  kBox 46 b 1 none x7 h8 fun x9 h10 => join (b173_1 u b) fun j2_23 => lp [1, 4] 1000000 (b173_3 u b j2_23) x9 .nl h10
def b173 : Bd := fun u l b segs => argK l fun x7 l => argN l (b173_4 u b x7 (hs0 b segs))
def r175 (b : Nat) (x0 : XV) (h1 : HS) : Ans :=
  kCell h1.ob x0 true 7 fun x2 => kHand h1.ob x2 fun q3 s4 => retP b q3 (apL s4 []) h1
def b175_1 (u : Fn) (b : Nat) (h5 : HS) : Ans :=
  kAlloc 46 b 0 none [n0, (.s 0 0), (.s 0 0), (.s 0 0), (.s 0 0), (.s 0 0), .nl] h5 fun x6 h7 => kPart 0 1 (.s 4 0x6c697370) [(.s 0 0), (.s 0 0)] fun c8 => kPart 1 1 (.s 1 0x74) c8 fun c9 => kAgg c9 fun x10 => kHand h7.ob x10 fun x11 s12 => kGo u b none 245 [x11] (apL s12 []) h7 fun x13 h14 => kStore b none 7 x6 x13 h14 fun _ h16 => r175 b x6 h16
def b175 : Bd := fun u l b segs => argN l (b175_1 u b (hs0 b segs))
def r207 (b : Nat) (x0 : XV) (h1 : HS) : Ans :=
  kHand h1.ob x0 fun q2 s3 => retP b q2 (apL s3 []) h1
def b207_1 (u : Fn) (b : Nat) (x13 x6 x14 x15 x16 : XV) (h17 : HS) : Ans :=
  kPick x13 x16 ff fun x18 => join (fun _ x20 h21 => kPick x18 x20 ff fun x22 => r207 b x22 h21) fun j2_23 => grdB x18 true (kLoad h17.ob true 11 x6 fun x24 => kHand h17.ob x24 fun x25 s26 => kGo u b none 278 [x25] (apL s26 []) h17 fun x27 h28 => j2_23 x24 x27 h28) (j2_23 uu uu h17)
def b207_2 (u : Fn) (b : Nat) (x8 x6 : XV) (h7 : HS) : Ans :=
  kHand h7.ob x8 fun x9 s10 => kGo u b none 35 [x9] (apL s10 []) h7 fun x11 h12 => kLeq x11 n3000 fun x13 => join (b207_1 u b x13 x6) fun j3_29 => grdB x13 true (kLoad h12.ob true 11 x6 fun x30 => kHand h12.ob x30 fun x31 s32 => kGo u b none 277 [x31] (apL s32 []) h12 fun x33 h34 => kLeq x33 n200 fun x35 => j3_29 x30 x33 x35 h34) (j3_29 uu uu uu h12)
def b207_3 (u : Fn) (b : Nat) (x4 : XV) (h5 : HS) : Ans :=
  kBox 48 b 1 none x4 h5 fun x6 h7 => kLoad h7.ob true 11 x6 fun x8 => b207_2 u b x8 x6 h7
def b207 : Bd := fun u l b segs => argK l fun x4 l => argN l (b207_3 u b x4 (hs0 b segs))
def r209 (b : Nat) (x0 : XV) (h1 : HS) : Ans :=
  kCell h1.ob x0 true 11 fun x2 => kHand h1.ob x2 fun q3 s4 => retP b q3 (apL s4 []) h1
def b209_1 (u : Fn) (b : Nat) (x5 x6 : XV) (h7 : HS) : Ans :=
  kBox 43 b 2 none x5 h7 fun x8 h9 => kAlloc 48 b 4 none [n0, (.s 0 0), (.s 0 0), n0, (.s 0 0), (.s 0 0), (.s 0 0), (.s 0 0), (.s 0 0), .nl, .nl] h9 fun x10 h11 => kLoad h11.ob true 2 x8 fun x12 => kPart 0 1 n3 [n0, (.s 0 0), (.s 0 0), n0, (.s 0 0), (.s 0 0), (.s 0 0), (.s 0 0), (.s 0 0), .nl, .nl] fun c13 => kPart 1 2 x12 c13 fun c14 => kPart 10 1 x6 c14 fun c15 => kAgg c15 fun x16 => kStore b none 11 x10 x16 h11 fun _ h18 => r209 b x10 h18
def b209 : Bd := fun u l b segs => argK l fun x5 l => argK l fun x6 l => argN l (b209_1 u b x5 x6 (hs0 b segs))
def r211 (b : Nat) (x0 x1 : XV) (h2 : HS) : Ans :=
  kHand h2.ob x0 fun q3 s4 => kHand h2.ob x1 fun q5 s6 => retP b (.tup [q3, q5]) (apL s4 (apL s6 [])) h2
def b211_1 (u : Fn) (b : Nat) (j5_23 : F5) (x30 x31 x32 x33 x34 : XV) (h35 : HS) : Ans :=
  join (fun x36 x37 x38 x39 x40 h41 => kSub x40 n1 fun x42 => j5_23 x36 x37 x38 x39 x42 h41) fun j5_43 => kSidx x30 x34 fun x44 => kSub x44 u48 fun x45 => kv (vCint .i64 x45) fun x46 => kElt h35.ob 1 0 x46 (repL 1 [n0]) fun c47 s48 => kSl b 2081 none 3 1 1 false c47 (apL s48 []) h35 fun x49 h50 => kAppend b 2082 none 3 1 8 x33 x49 false h50 fun x51 h52 => j5_43 x30 x31 x32 x51 x34 h52
def b211_2 (u : Fn) (b : Nat) (j2_20 : F2) (j5_23 : F5) (x24 x25 x26 x27 x28 : XV) (h29 : HS) : Ans :=
  join (b211_1 u b j5_23) fun j5_53 => kGeq x28 x26 fun x54 => cnd x54 (j5_53 x24 x25 x26 x27 x28 h29) (j2_20 x25 x27 h29)
def b211_3 (u : Fn) (b : Nat) (x13 x14 x15 : XV) (h16 : HS) : Ans :=
  join (fun x17 x18 h19 => r211 b x17 x18 h19) fun j2_20 => kLen true x13 fun x21 => kSub x21 n1 fun x22 => lp [0, 4, 5, 6, 7] 1000000 (b211_2 u b j2_20) x13 x14 x15 .nl x22 h16
def b211_4 (u : Fn) (b : Nat) (x9 : XV) (h10 : HS) : Ans :=
  kSidx x9 n0 fun x11 => kEql x11 u45 fun x12 => join (b211_3 u b) fun j3_55 => cnd x12 (j3_55 x9 x12 n1 h10) (j3_55 x9 x12 n0 h10)
def b211_5 (u : Fn) (b : Nat) (j1_56 : F1) (x61 x7 x62 x63 : XV) (h64 : HS) : Ans :=
  kPick x61 tt x63 fun x65 => cnd x65 (r211 b ff .nl h64) (j1_56 x7 h64)
def b211_6 (u : Fn) (b : Nat) (x7 : XV) (h8 : HS) : Ans :=
  join (b211_4 u b) fun j1_56 => kHand h8.ob x7 fun x57 s58 => kGo u b none 280 [x57] (apL s58 []) h8 fun x59 h60 => kNot x59 fun x61 => join (b211_5 u b j1_56 x61 x7) fun j2_66 => grdB x61 false (kEql x7 (.s 1 0x30) fun x67 => j2_66 x7 x67 h60) (j2_66 uu uu h60)
def b211 : Bd := fun u l b segs => argK l fun x7 l => argN l (b211_6 u b x7 (hs0 b segs))
def r212 (b : Nat) (x0 : XV) (h1 : HS) : Ans :=
  kHand h1.ob x0 fun q2 s3 => retP b q2 (apL s3 []) h1
def b212_1 (u : Fn) (b : Nat) (j2_26 : F2) (x30 x31 : XV) (h32 : HS) : Ans :=
  kHand h32.ob x30 fun x33 s34 => kHand h32.ob x31 fun x35 s36 => kGo u b none 213 [x33, x35] (apL s34 (apL s36 [])) h32 fun x37 h38 => kExt x37 0 fun _ => kExt x37 1 fun x40 => j2_26 x31 x40 h38
def b212_2 (u : Fn) (b : Nat) (j1_25 : F1) (j2_26 : F2) (x27 x28 : XV) (h29 : HS) : Ans :=
  join (b212_1 u b j2_26) fun j2_41 => kLen false x28 fun x42 => kGtr x42 n0 fun x43 => cnd x43 (j2_41 x27 x28 h29) (j1_25 x27 h29)
def b212_3 (u : Fn) (b : Nat) (x9 x5 : XV) (h10 : HS) : Ans :=
  kExt x9 1 fun x12 => kHand h10.ob x5 fun x13 s14 => kGo u b none 211 [x13] (apL s14 []) h10 fun x15 h16 => kExt x15 0 fun _ => kExt x15 1 fun x18 => join (fun x19 h20 => kHand h20.ob x19 fun x21 s22 => kGo u b none 214 [ff, x21] (apL s22 []) h20 fun x23 h24 => r212 b x23 h24) fun j1_25 => lp [6, 8] 1000000 (b212_2 u b j1_25) x12 x18 h16
def b212_4 (u : Fn) (b : Nat) (x4 x5 : XV) (h6 : HS) : Ans :=
  kHand h6.ob x4 fun x7 s8 => kGo u b none 211 [x7] (apL s8 []) h6 fun x9 h10 => kExt x9 0 fun _ => b212_3 u b x9 x5 h10
def b212 : Bd := fun u l b segs => argK l fun x4 l => argK l fun x5 l => argN l (b212_4 u b x4 x5 (hs0 b segs))
def r213 (b : Nat) (x0 x1 : XV) (h2 : HS) : Ans :=
  kHand h2.ob x0 fun q3 s4 => kHand h2.ob x1 fun q5 s6 => retP b (.tup [q3, q5]) (apL s4 (apL s6 [])) h2
def b213_1 (u : Fn) (b : Nat) (j5_56 : F5) (x63 x64 x65 x66 x67 : XV) (h68 : HS) : Ans :=
  kHand h68.ob x66 fun x69 s70 => kHand h68.ob x64 fun x71 s72 => kGo u b none 283 [x69, x71] (apL s70 (apL s72 [])) h68 fun x73 h74 => kIaddr h74.ob 1 x65 x67 fun x75 => kLoad h74.ob false 1 x75 fun x76 => kAdd x76 n1 fun x77 => kIaddr h74.ob 1 x65 x67 fun x78 => kStore b none 1 x78 x77 h74 fun _ h80 => j5_56 x63 x64 x65 x73 x67 h80
def b213_2 (u : Fn) (b : Nat) (j5_43 j5_56 : F5) (x57 x58 x59 x60 x61 : XV) (h62 : HS) : Ans :=
  join (b213_1 u b j5_56) fun j5_81 => kHand h62.ob x60 fun x82 s83 => kHand h62.ob x58 fun x84 s85 => kGo u b none 282 [x82, x84] (apL s83 (apL s85 [])) h62 fun x86 h87 => kGeq x86 n0 fun x88 => cnd x88 (j5_81 x57 x58 x59 x60 x61 h87) (j5_43 x57 x58 x59 x60 x61 h87)
def b213_3 (u : Fn) (b : Nat) (j5_23 : F5) (x30 x31 x32 x33 x34 : XV) (h35 : HS) : Ans :=
  join (fun x36 x37 x38 x39 x40 h41 => kSub x40 n1 fun x42 => j5_23 x36 x37 x38 x39 x42 h41) fun j5_43 => kIaddr h35.ob 1 x30 x34 fun x44 => kLoad h35.ob false 1 x44 fun x45 => kElt h35.ob 1 0 x45 (repL 1 [n0]) fun c46 s47 => kSl b 2071 none 3 1 1 false c46 (apL s47 []) h35 fun x48 h49 => kAppend b 2073 none 3 1 8 x48 x33 false h49 fun x50 h51 => kHand h51.ob x50 fun x52 s53 => kGo u b none 281 [x52] (apL s53 []) h51 fun x54 h55 => lp [0, 1, 6, 7, 8] 1000000 (b213_2 u b j5_43) x30 x31 x32 x54 x34 h55
def b213_4 (u : Fn) (b : Nat) (j2_20 : F2) (j5_23 : F5) (x24 x25 x26 x27 x28 : XV) (h29 : HS) : Ans :=
  join (b213_3 u b j5_23) fun j5_89 => kGeq x28 n0 fun x90 => cnd x90 (j5_89 x24 x25 x26 x27 x28 h29) (j2_20 x26 x27 h29)
def b213_5 (u : Fn) (b : Nat) (x7 x8 : XV) (h9 : HS) : Ans :=
  kLen false x7 fun x10 => ku b none (uMkslice (Nat.add b 2059) 3 1 8 (h9.ob (Nat.add b 2059)).stamp [n0] x10 x10) h9 fun x11 h12 => join (fun x13 x14 h15 => kHand h15.ob x13 fun x16 s17 => kGo u b none 281 [x16] (apL s17 []) h15 fun x18 h19 => r213 b x18 x14 h19) fun j2_20 => kLen false x7 fun x21 => kSub x21 n1 fun x22 => lp [0, 1, 6, 7, 8] 1000000 (b213_4 u b j2_20) x7 x8 x11 .nl x22 h12
def b213 : Bd := fun u l b segs => argK l fun x7 l => argK l fun x8 l => argN l (b213_5 u b x7 x8 (hs0 b segs))
def r214 (b : Nat) (x0 : XV) (h1 : HS) : Ans :=
  kHand h1.ob x0 fun q2 s3 => retP b q2 (apL s3 []) h1
def b214_1 (u : Fn) (b : Nat) (j3_23 : F3) (x28 x29 x30 : XV) (h31 : HS) : Ans :=
  join (fun x32 x33 x34 h35 => kSub x34 n1 fun x36 => j3_23 x32 x33 x36 h35) fun j3_37 => kIaddr h31.ob 1 x28 x30 fun x38 => kLoad h31.ob false 1 x38 fun x39 => kAdd n48 x39 fun x40 => kv (vCint .u8 x40) fun x41 => kElt h31.ob 1 0 x41 (repL 1 [u0]) fun c42 s43 => kSl b 2078 none 5 1 1 false c42 (apL s43 []) h31 fun x44 h45 => kAppend b 2079 none 5 1 1 x29 x44 false h45 fun x46 h47 => j3_37 x28 x46 x30 h47
def b214_2 (u : Fn) (b : Nat) (j1_20 : F1) (j3_23 : F3) (x24 x25 x26 : XV) (h27 : HS) : Ans :=
  join (b214_1 u b j3_23) fun j3_48 => kGeq x26 n0 fun x49 => cnd x49 (j3_48 x24 x25 x26 h27) (j1_20 x25 h27)
def b214_3 (u : Fn) (b : Nat) (x14 x15 : XV) (h16 : HS) : Ans :=
  join (fun x17 h18 => kv (vB2s h18.ob x17) fun x19 => r214 b x19 h18) fun j1_20 => kLen false x14 fun x21 => kSub x21 n1 fun x22 => lp [1, 5, 6] 1000000 (b214_2 u b j1_20) x14 x15 x22 h16
def b214_4 (u : Fn) (b : Nat) (j2_50 : F2) (x12 : XV) (h13 : HS) : Ans :=
  kElt h13.ob 1 0 u45 (repL 1 [u0]) fun c51 s52 => kSl b 2062 none 5 1 1 false c51 (apL s52 []) h13 fun x53 h54 => kAppend b 2063 none 5 1 1 .nl x53 false h54 fun x55 h56 => j2_50 x12 x55 h56
def b214_5 (u : Fn) (b : Nat) (x11 x12 : XV) (h13 : HS) : Ans :=
  join (b214_3 u b) fun j2_50 => cnd x11 (b214_4 u b j2_50 x12 h13) (j2_50 x12 .nl h13)
def b214_6 (u : Fn) (b : Nat) (x5 x4 : XV) (h6 : HS) : Ans :=
  kHand h6.ob x5 fun x7 s8 => kGo u b none 281 [x7] (apL s8 []) h6 fun x9 h10 => join (b214_5 u b) fun j2_57 => kLen false x9 fun x58 => kEql x58 n0 fun x59 => cnd x59 (r214 b (.s 1 0x30) h10) (j2_57 x4 x9 h10)
def b214 : Bd := fun u l b segs => argK l fun x4 l => argK l fun x5 l => argN l (b214_6 u b x5 x4 (hs0 b segs))
def r218 (b : Nat) (x0 : XV) (h1 : HS) : Ans :=
  kHand h1.ob x0 fun q2 s3 => retP b q2 (apL s3 []) h1
def b218_1 (u : Fn) (b : Nat) (j4_20 : F4) (x27 x28 x29 x30 : XV) (h31 : HS) : Ans :=
  join (fun x32 x33 x34 x35 h36 => kAdd x35 n1 fun x37 => j4_20 x32 x33 x34 x37 h36) fun j4_38 => kIaddr h31.ob 11 x28 x30 fun x39 => kLoad h31.ob true 11 x39 fun x40 => kAlloc 48 b 6 none [n0, (.s 0 0), (.s 0 0), n0, (.s 0 0), (.s 0 0), (.s 0 0), (.s 0 0), (.s 0 0), .nl, .nl] h31 fun x41 h42 => kStore b none 11 x41 x40 h42 fun _ h44 => kLoad h44.ob true 11 x41 fun x45 => kHand h44.ob x45 fun x46 s47 => kGoH u b 218 [x46, x27] (apL s47 []) h44 fun x48 h49 => kNot x48 fun x50 => cnd x50 (r218 b ff h49) (j4_38 x27 x28 x29 x30 h49)
def b218_2 (u : Fn) (b : Nat) (j0_13 : F0) (j4_20 : F4) (x21 x22 x23 x24 : XV) (h25 : HS) : Ans :=
  kLss x24 x23 fun x26 => join (b218_1 u b j4_20) fun j4_51 => cnd x26 (j4_51 x21 x22 x23 x24 h25) (j0_13 h25)
def b218_3 (u : Fn) (b : Nat) (j0_13 : F0) (x10 x9 : XV) (h11 : HS) : Ans :=
  kFaddr 10 x10 fun x17 => kLoad h11.ob false 1 x17 fun x18 => kLen false x18 fun x19 => lp [1, 15, 16, 17] 1000000 (b218_2 u b j0_13) x9 x18 x19 n0 h11
def b218_4 (u : Fn) (b : Nat) (x9 x10 : XV) (h11 : HS) : Ans :=
  join (fun h12 => r218 b tt h12) fun j0_13 => kFaddr 0 x10 fun x14 => kLoad h11.ob false 1 x14 fun x15 => kEql x15 n3 fun x16 => cnd x16 (b218_3 u b j0_13 x10 x9 h11) (j0_13 h11)
def b218_5 (u : Fn) (b : Nat) (x4 x5 : XV) (h6 : HS) : Ans :=
  kBox 48 b 2 none x4 h6 fun x7 h8 => join (b218_4 u b) fun j2_52 => kLoad h8.ob true 11 x7 fun x53 => kHCallV u b x5 [x53] [] h8 fun x54 h55 => kNot x54 fun x56 => cnd x56 (r218 b ff h55) (j2_52 x5 x7 h55)
def b218 : Bd := fun u l b segs => argK l fun x4 l => argK l fun x5 l => argN l (b218_5 u b x4 x5 (hs0 b segs))
def r219 (b : Nat) (x0 : XV) (h1 : HS) : Ans :=
  kHand h1.ob x0 fun q2 s3 => retP b q2 (apL s3 []) h1
def b219_1 (u : Fn) (b : Nat) (j0_11 : F0) (x6 x8 : XV) (h21 : HS) : Ans :=
  kLoad h21.ob false 1 x6 fun x23 => kFaddr 1 x8 fun x24 => kLoad h21.ob true 2 x24 fun x25 => kElt h21.ob 2 0 x25 (repL 1 [(.s 0 0), (.s 0 0)]) fun c26 s27 => kSl b 2067 none 43 2 1 false c26 (apL s27 []) h21 fun x28 h29 => kAppend b 2068 none 43 2 32 x23 x28 false h29 fun x30 h31 => kStore b none 1 x6 x30 h31 fun _ h33 => j0_11 h33
def b219_2 (u : Fn) (b : Nat) (j0_11 : F0) (x15 x6 x8 x16 x17 x18 x19 x20 : XV) (h21 : HS) : Ans :=
  kPick x15 x20 ff fun x22 => cnd x22 (b219_1 u b j0_11 x6 x8 h21) (j0_11 h21)
def b219_3 (u : Fn) (b : Nat) (j5_34 : F5) (x6 x8 : XV) (h9 : HS) : Ans :=
  kLoad h9.ob false 1 x6 fun x35 => kFaddr 1 x8 fun x36 => kLoad h9.ob true 2 x36 fun x37 => kHand h9.ob x35 fun x38 s39 => kHand h9.ob x37 fun x40 s41 => kGo u b none 220 [x38, x40] (apL s39 (apL s41 [])) h9 fun x42 h43 => kNot x42 fun x44 => j5_34 x35 x36 x37 x42 x44 h43
def b219_4 (u : Fn) (b : Nat) (x4 x5 x6 : XV) (h7 : HS) : Ans :=
  kBox 48 b 3 none x4 h7 fun x8 h9 => join (fun h10 => r219 b tt h10) fun j0_11 => kFaddr 0 x8 fun x12 => kLoad h9.ob false 1 x12 fun x13 => kLoad h9.ob false 1 x5 fun x14 => kEql x13 x14 fun x15 => join (b219_2 u b j0_11 x15 x6 x8) fun j5_34 => grdB x15 true (b219_3 u b j5_34 x6 x8 h9) (j5_34 uu uu uu uu uu h9)
def b219 : Bd := fun u l b segs => argK l fun x4 l => argK l fun x5 l => argK l fun x6 l => argN l (b219_4 u b x4 x5 x6 (hs0 b segs))
def r221 (b : Nat) (x0 : XV) (h1 : HS) : Ans :=
  kHand h1.ob x0 fun q2 s3 => retP b q2 (apL s3 []) h1
def b221_1 (u : Fn) (b : Nat) (j2_13 : F2) (x22 x17 x18 : XV) (h19 : HS) : Ans :=
  kLoad h19.ob true 7 x22 fun x23 => kSub x17 n1 fun x24 => kHand h19.ob x23 fun x25 s26 => kHand h19.ob x24 fun x27 s28 => kGo u b none 221 [x25, x27] (apL s26 (apL s28 [])) h19 fun x29 h30 => kFaddr 6 x18 fun x31 => kLoad h30.ob false 1 x31 fun x32 => kIaddr h30.ob 7 x32 n1 fun x33 => kLoad h30.ob true 7 x33 fun x34 => kStore b none 7 x18 x34 h30 fun _ h36 => j2_13 x29 x18 h36
def b221_2 (u : Fn) (b : Nat) (j2_13 : F2) (x17 x18 : XV) (h19 : HS) : Ans :=
  kFaddr 6 x18 fun x20 => kLoad h19.ob false 1 x20 fun x21 => kIaddr h19.ob 7 x21 n0 fun x22 => b221_1 u b j2_13 x22 x17 x18 h19
def b221_3 (u : Fn) (b : Nat) (j2_37 : F2) (j1_12 : F1) (x38 x14 x15 x39 x40 x41 x42 : XV) (h43 : HS) : Ans :=
  kPick x38 x42 ff fun x44 => cnd x44 (j2_37 x14 x15 h43) (j1_12 x14 h43)
def b221_4 (u : Fn) (b : Nat) (j1_12 : F1) (j2_13 : F2) (x14 x15 : XV) (h16 : HS) : Ans :=
  join (b221_2 u b j2_13) fun j2_37 => kGtr x14 n0 fun x38 => join (b221_3 u b j2_37 j1_12 x38 x14 x15) fun j4_45 => grdB x38 true (kFaddr 6 x15 fun x46 => kLoad h16.ob false 1 x46 fun x47 => kLen false x47 fun x48 => kEql x48 n2 fun x49 => j4_45 x46 x47 x48 x49 h16) (j4_45 uu uu uu uu h16)
def b221_5 (u : Fn) (b : Nat) (x4 x5 : XV) (h6 : HS) : Ans :=
  kBox 46 b 2 none x4 h6 fun x7 h8 => join (fun x9 h10 => kSub x9 n1 fun x11 => r221 b x11 h10) fun j1_12 => lp [1, 2] 1000000 (b221_4 u b j1_12) x5 x7 h8
def b221 : Bd := fun u l b segs => argK l fun x4 l => argK l fun x5 l => argN l (b221_5 u b x4 x5 (hs0 b segs))
def r226 (b : Nat) (x0 x1 : XV) (h2 : HS) : Ans :=
  kHand h2.ob x0 fun q3 s4 => kHand h2.ob x1 fun q5 s6 => retP b (.tup [q3, q5]) (apL s4 (apL s6 [])) h2
def b226_1 (u : Fn) (b : Nat) (j2_36 j2_13 : F2) (x38 x29 x30 x39 x40 x41 x42 : XV) (h43 : HS) : Ans :=
  kPick x38 x42 ff fun x44 => cnd x44 (j2_36 x29 x30 h43) (j2_13 x29 x30 h43)
def b226_2 (u : Fn) (b : Nat) (j2_13 j2_28 : F2) (x29 x30 : XV) (h31 : HS) : Ans :=
  join (fun x32 x33 h34 => kAdd x33 n1 fun x35 => j2_28 x32 x35 h34) fun j2_36 => kLen true x29 fun x37 => kLss x30 x37 fun x38 => join (b226_1 u b j2_36 j2_13 x38 x29 x30) fun j4_45 => grdB x38 true (kSidx x29 x30 fun x46 => kNeq x46 u10 fun x47 => j4_45 x29 x30 x46 x47 h31) (j4_45 uu uu uu uu h31)
def b226_3 (u : Fn) (b : Nat) (j3_55 : F3) (x60 x61 x62 : XV) (h71 : HS) : Ans :=
  kHand h71.ob x60 fun x74 s75 => kHand h71.ob x61 fun x76 s77 => kGo u b none 297 [x74, x76, u124, u35] (apL s75 (apL s77 [])) h71 fun x78 h79 => cnd x78 (kSub x62 n1 fun x80 => kAdd x61 n2 fun x81 => j3_55 x60 x81 x80 h79) (kAdd x61 n1 fun x82 => j3_55 x60 x82 x62 h79)
def b226_4 (u : Fn) (b : Nat) (j3_55 : F3) (x60 x61 x62 : XV) (h63 : HS) : Ans :=
  kHand h63.ob x60 fun x66 s67 => kHand h63.ob x61 fun x68 s69 => kGo u b none 297 [x66, x68, u35, u124] (apL s67 (apL s69 [])) h63 fun x70 h71 => cnd x70 (kAdd x62 n1 fun x72 => kAdd x61 n2 fun x73 => j3_55 x60 x73 x72 h71) (b226_3 u b j3_55 x60 x61 x62 h71)
def b226_5 (u : Fn) (b : Nat) (j3_55 : F3) (x60 x61 x62 : XV) (h63 : HS) : Ans :=
  kLen true x60 fun x64 => kGeq x61 x64 fun x65 => cnd x65 (r226 b x61 ff h63) (b226_4 u b j3_55 x60 x61 x62 h63)
def b226_6 (u : Fn) (b : Nat) (j2_13 : F2) (j3_55 : F3) (x56 x57 x58 : XV) (h59 : HS) : Ans :=
  join (b226_5 u b j3_55) fun j3_83 => kGtr x58 n0 fun x84 => cnd x84 (j3_83 x56 x57 x58 h59) (j2_13 x56 x57 h59)
def b226_7 (u : Fn) (b : Nat) (j2_13 : F2) (x17 x18 : XV) (h24 : HS) : Ans :=
  kHand h24.ob x17 fun x48 s49 => kHand h24.ob x18 fun x50 s51 => kGo u b none 297 [x48, x50, u35, u124] (apL s49 (apL s51 [])) h24 fun x52 h53 => cnd x52 (kAdd x18 n2 fun x54 => lp [0, 1, 6] 1000000 (b226_6 u b j2_13) x17 x54 n1 h53) (r226 b x18 tt h53)
def b226_8 (u : Fn) (b : Nat) (j2_13 : F2) (x17 x18 : XV) (h24 : HS) : Ans :=
  kSidx x17 x18 fun x26 => kEql x26 u59 fun x27 => cnd x27 (lp [0, 1] 1000000 (b226_2 u b j2_13) x17 x18 h24) (b226_7 u b j2_13 x17 x18 h24)
def b226_9 (u : Fn) (b : Nat) (j2_13 : F2) (x17 x18 : XV) (h19 : HS) : Ans :=
  kSidx x17 x18 fun x20 => kHand h19.ob x20 fun x21 s22 => kGo u b none 296 [x21] (apL s22 []) h19 fun x23 h24 => cnd x23 (kAdd x18 n1 fun x25 => j2_13 x17 x25 h24) (b226_8 u b j2_13 x17 x18 h24)
def b226_10 (u : Fn) (b : Nat) (j1_12 : F1) (j2_13 : F2) (x14 x15 : XV) (h16 : HS) : Ans :=
  join (b226_9 u b j2_13) fun j2_85 => kLen true x14 fun x86 => kLss x15 x86 fun x87 => cnd x87 (j2_85 x14 x15 h16) (j1_12 x15 h16)
def b226_11 (u : Fn) (b : Nat) (x7 x8 : XV) (h9 : HS) : Ans :=
  join (fun x10 h11 => r226 b x10 tt h11) fun j1_12 => lp [0, 1] 1000000 (b226_10 u b j1_12) x7 x8 h9
def b226 : Bd := fun u l b segs => argK l fun x7 l => argK l fun x8 l => argN l (b226_11 u b x7 x8 (hs0 b segs))
def r227 (b : Nat) (x0 x1 x2 : XV) (h3 : HS) : Ans :=
  kCell h3.ob x0 true 5 fun x4 => kHand h3.ob x4 fun q5 s6 => kHand h3.ob x1 fun q7 s8 => kCell h3.ob x2 true 2 fun x9 => kHand h3.ob x9 fun q10 s11 => retP b (.tup [q5, q7, q10]) (apL s6 (apL s8 (apL s11 []))) h3
def b227_1 (u : Fn) (b : Nat) (x56 x57 x58 x59 x60 : XV) (h61 : HS) : Ans :=
  met b [7] [x58] <| kLoad h61.ob true 5 x58 fun x62 => met b [8] [x59] <| kLoad h61.ob true 2 x59 fun x63 => met b [4] [x56] <| kStore b (some [4]) 5 x56 x62 h61 fun _ h65 => met b [6] [x57] <| kStore b (some [6]) 2 x57 x63 h65 fun _ h67 => r227 b x56 x60 x57 h67
def b227_2 (u : Fn) (b : Nat) (x76 x73 x74 x75 x78 : XV) (h118 : HS) : Ans :=
  met b [7] [x76] <| kLoad h118.ob true 5 x76 fun x120 => met b [] [x73] <| kHand h118.ob x73 fun x121 s122 => kGo u b (some []) 160 [n2, x121] (apL s122 []) h118 fun x123 h124 => met b [4] [x74] <| kStore b (some [4]) 5 x74 x120 h124 fun _ h126 => met b [6] [x75] <| kStore b (some [6]) 2 x75 x123 h126 fun _ h128 => r227 b x74 x78 x75 h128
def b227_3 (u : Fn) (b : Nat) (j5_68 : F5) (x113 x76 x73 x74 x75 x78 x77 x114 x115 x116 x117 : XV) (h118 : HS) : Ans :=
  kPick x113 tt x117 fun x119 => cnd x119 (b227_2 u b x76 x73 x74 x75 x78 h118) (j5_68 x74 x75 x76 x77 x78 h118)
def b227_4 (u : Fn) (b : Nat) (j5_68 : F5) (x108 x76 x73 x74 x75 x78 x77 : XV) (h106 : HS) : Ans :=
  kHand h106.ob x108 fun x109 s110 => kGo u b none 305 [x109] (apL s110 []) h106 fun x111 h112 => kGtr x111 n100 fun x113 => join (b227_3 u b j5_68 x113 x76 x73 x74 x75 x78 x77) fun j4_129 => grdB x113 false (kFaddr 4 x76 fun x130 => kLoad h112.ob false 1 x130 fun x131 => kHand h112.ob x131 fun x132 s133 => kGo u b none 305 [x132] (apL s133 []) h112 fun x134 h135 => kGtr x134 n100 fun x136 => j4_129 x130 x131 x134 x136 h135) (j4_129 uu uu uu uu h112)
def b227_5 (u : Fn) (b : Nat) (j5_68 : F5) (x87 x91 x76 x73 x74 x75 x78 x77 : XV) (h92 : HS) : Ans :=
  kHand h92.ob x87 fun x93 s94 => kHand h92.ob x91 fun x95 s96 => kGo u b none 146 [x93, x95] (apL s94 (apL s96 [])) h92 fun x97 h98 => kExt x97 0 fun x99 => kExt x97 1 fun x100 => kFaddr 3 x76 fun x101 => kStore b none 1 x101 x99 h98 fun _ h103 => kFaddr 4 x76 fun x104 => kStore b none 1 x104 x100 h103 fun _ h106 => kFaddr 3 x76 fun x107 => kLoad h106.ob false 1 x107 fun x108 => b227_4 u b j5_68 x108 x76 x73 x74 x75 x78 x77 h106
def b227_6 (u : Fn) (b : Nat) (j5_68 : F5) (x73 x74 x75 x76 x77 x78 x79 x80 : XV) (h81 : HS) : Ans :=
  kFaddr 0 x76 fun x82 => kStore b none 1 x82 n5 h81 fun _ h84 => kHand h84.ob x79 fun x85 s86 => kGo u b none 304 [x85] (apL s86 []) h84 fun x87 h88 => kHand h88.ob x80 fun x89 s90 => kGo u b none 304 [x89] (apL s90 []) h88 fun x91 h92 => b227_5 u b j5_68 x87 x91 x76 x73 x74 x75 x78 x77 h92
def b227_7 (u : Fn) (b : Nat) (x44 x41 x42 x43 x46 : XV) (h141 : HS) : Ans :=
  met b [7] [x44] <| kLoad h141.ob true 5 x44 fun x143 => met b [] [x41] <| kHand h141.ob x41 fun x144 s145 => kGo u b (some []) 160 [n12, x144] (apL s145 []) h141 fun x146 h147 => met b [4] [x42] <| kStore b (some [4]) 5 x42 x143 h147 fun _ h149 => met b [6] [x43] <| kStore b (some [6]) 2 x43 x146 h149 fun _ h151 => r227 b x42 x46 x43 h151
def b227_8 (u : Fn) (b : Nat) (j5_68 : F5) (x54 x44 x41 x42 x43 x46 x45 x53 : XV) (h52 : HS) : Ans :=
  join (b227_6 u b j5_68) fun j8_137 => kHand h52.ob x54 fun x138 s139 => kGo u b none 304 [x138] (apL s139 []) h52 fun x140 h141 => kEql x140 (.s 1 0x30) fun x142 => cnd x142 (b227_7 u b x44 x41 x42 x43 x46 h141) (j8_137 x41 x42 x43 x44 x45 x46 x53 x54 h141)
def b227_9 (u : Fn) (b : Nat) (j5_68 : F5) (x44 x47 x45 x42 x43 x46 : XV) (h52 : HS) : Ans :=
  kFaddr 0 x44 fun x152 => kStore b none 1 x152 n6 h52 fun _ h154 => kFaddr 3 x44 fun x155 => kStore b none 1 x155 x47 h154 fun _ h157 => kLoad h157.ob true 5 x44 fun x158 => kHand h157.ob x158 fun x159 s160 => kGo u b none 299 [x159, ff] (apL s160 []) h157 fun x161 h162 => kStore b none 2 x45 x161 h162 fun _ h164 => j5_68 x42 x43 x44 x45 x46 h164
def b227_10 (u : Fn) (b : Nat) (x51 x47 x44 x42 x43 x45 x46 x54 x41 x53 : XV) (h52 : HS) : Ans :=
  kExt x51 2 fun x55 => join (b227_1 u b) fun j5_68 => kEql x47 (.s 1 0x2e) fun x69 => cnd x69 (kFaddr 0 x44 fun x70 => kStore b none 1 x70 n3 h52 fun _ h72 => j5_68 x42 x43 x44 x45 x46 h72) (cnd x55 (b227_8 u b j5_68 x54 x44 x41 x42 x43 x46 x45 x53 h52) (b227_9 u b j5_68 x44 x47 x45 x42 x43 x46 h52))
def b227_11 (u : Fn) (b : Nat) (x41 x42 x43 x44 x45 x46 x47 : XV) (h48 : HS) : Ans :=
  kHand h48.ob x47 fun x49 s50 => kGo u b none 303 [x49] (apL s50 []) h48 fun x51 h52 => kExt x51 0 fun x53 => kExt x51 1 fun x54 => b227_10 u b x51 x47 x44 x42 x43 x45 x46 x54 x41 x53 h52
def b227_12 (u : Fn) (b : Nat) (x27 x172 x40 x38 x29 x30 : XV) (h171 : HS) : Ans :=
  kHand h171.ob x27 fun x173 s174 => kHand h171.ob x172 fun x175 s176 => kHand h171.ob x40 fun x177 s178 => kHand h171.ob x38 fun x179 s180 => kGo u b none 302 [x173, x175, x177, x179] (apL s174 (apL s176 (apL s178 (apL s180 [])))) h171 fun x181 h182 => kExt x181 0 fun x183 => kExt x181 1 fun x184 => kExt x181 2 fun x185 => kStore b none 5 x29 x183 h182 fun _ h187 => kStore b none 2 x30 x185 h187 fun _ h189 => r227 b x29 x184 x30 h189
def b227_13 (u : Fn) (b : Nat) (x27 x28 x29 x30 x31 x32 : XV) (h33 : HS) : Ans :=
  kHand h33.ob x27 fun x34 s35 => kHand h33.ob x28 fun x36 s37 => kGo u b none 301 [x34, x36] (apL s35 (apL s37 [])) h33 fun x38 h39 => kSslice x27 (some x28) (some x38) fun x40 => join (b227_11 u b) fun j7_165 => kHand h39.ob x27 fun x166 s167 => kHand h39.ob x38 fun x168 s169 => kGo u b none 297 [x166, x168, u58, u58] (apL s167 (apL s169 [])) h39 fun x170 h171 => cnd x170 (kLoad h171.ob true 5 x31 fun x172 => b227_12 u b x27 x172 x40 x38 x29 x30 h171) (j7_165 x28 x29 x30 x31 x32 x38 x40 h171)
def b227_14 (u : Fn) (b : Nat) (x193 x21 x13 x25 x15 x17 : XV) (h26 : HS) : Ans :=
  kStore b none 1 x193 n1 h26 fun _ h195 => met b [7] [x21] <| kLoad h195.ob true 5 x21 fun x196 => kAdd x13 n1 fun x197 => met b [8] [x25] <| kLoad h195.ob true 2 x25 fun x198 => met b [4] [x15] <| kStore b (some [4]) 5 x15 x196 h195 fun _ h200 => met b [6] [x17] <| kStore b (some [6]) 2 x17 x198 h200 fun _ h202 => r227 b x15 x197 x17 h202
def b227_15 (u : Fn) (b : Nat) (x204 x21 x13 x25 x15 x17 : XV) (h26 : HS) : Ans :=
  kStore b none 1 x204 n2 h26 fun _ h206 => met b [7] [x21] <| kLoad h206.ob true 5 x21 fun x207 => kAdd x13 n1 fun x208 => met b [8] [x25] <| kLoad h206.ob true 2 x25 fun x209 => met b [4] [x15] <| kStore b (some [4]) 5 x15 x207 h206 fun _ h211 => met b [6] [x17] <| kStore b (some [6]) 2 x17 x209 h211 fun _ h213 => r227 b x15 x208 x17 h213
def b227_16 (u : Fn) (b : Nat) (x215 x21 x13 x25 x15 x17 : XV) (h26 : HS) : Ans :=
  kStore b none 1 x215 n4 h26 fun _ h217 => met b [7] [x21] <| kLoad h217.ob true 5 x21 fun x218 => kAdd x13 n1 fun x219 => met b [8] [x25] <| kLoad h217.ob true 2 x25 fun x220 => met b [4] [x15] <| kStore b (some [4]) 5 x15 x218 h217 fun _ h222 => met b [6] [x17] <| kStore b (some [6]) 2 x17 x220 h222 fun _ h224 => r227 b x15 x219 x17 h224
def b227_17 (u : Fn) (b : Nat) (x244 x245 x246 x247 x248 : XV) (h249 : HS) : Ans :=
  met b [7] [x247] <| kLoad h249.ob true 5 x247 fun x250 => met b [8] [x248] <| kLoad h249.ob true 2 x248 fun x251 => met b [4] [x245] <| kStore b (some [4]) 5 x245 x250 h249 fun _ h253 => met b [6] [x246] <| kStore b (some [6]) 2 x246 x251 h253 fun _ h255 => r227 b x245 x244 x246 h255
def b227_18 (u : Fn) (b : Nat) (j5_256 : F5) (x21 x25 x237 x15 x17 : XV) (h264 : HS) : Ans :=
  kFaddr 1 x21 fun x266 => kLoad h264.ob false 1 x266 fun x267 => kHand h264.ob x267 fun x268 s269 => kGo u b none 160 [n2, x268] (apL s269 []) h264 fun x270 h271 => kStore b none 2 x25 x270 h271 fun _ h273 => j5_256 x237 x15 x17 x21 x25 h273
def b227_19 (u : Fn) (b : Nat) (j5_256 : F5) (x259 x21 x25 x237 x15 x17 x260 x261 x262 x263 : XV) (h264 : HS) : Ans :=
  kPick x259 x263 ff fun x265 => cnd x265 (b227_18 u b j5_256 x21 x25 x237 x15 x17 h264) (j5_256 x237 x15 x17 x21 x25 h264)
def b227_20 (u : Fn) (b : Nat) (x25 x21 x237 x15 x17 : XV) (h243 : HS) : Ans :=
  join (b227_17 u b) fun j5_256 => kFaddr 0 x25 fun x257 => kLoad h243.ob false 1 x257 fun x258 => kEql x258 n0 fun x259 => join (b227_19 u b j5_256 x259 x21 x25 x237 x15 x17) fun j4_274 => grdB x259 true (kFaddr 3 x21 fun x275 => kLoad h243.ob false 1 x275 fun x276 => kLen true x276 fun x277 => kGtr x277 n200 fun x278 => j4_274 x275 x276 x277 x278 h243) (j4_274 uu uu uu uu h243)
def b227_21 (u : Fn) (b : Nat) (x13 x12 x21 x25 x15 x17 : XV) (h228 : HS) : Ans :=
  kAdd x13 n1 fun x229 => kHand h228.ob x12 fun x230 s231 => kHand h228.ob x229 fun x232 s233 => kGo u b none 298 [x230, x232, u34] (apL s231 (apL s233 [])) h228 fun x234 h235 => kExt x234 0 fun x236 => kExt x234 1 fun x237 => kExt x234 2 fun x238 => kFaddr 3 x21 fun x239 => kStore b none 1 x239 x236 h235 fun _ h241 => kStore b none 2 x25 x238 h241 fun _ h243 => b227_20 u b x25 x21 x237 x15 x17 h243
def b227_22 (u : Fn) (b : Nat) (x298 x299 x300 x301 x302 : XV) (h303 : HS) : Ans :=
  met b [7] [x301] <| kLoad h303.ob true 5 x301 fun x304 => met b [8] [x302] <| kLoad h303.ob true 2 x302 fun x305 => met b [4] [x299] <| kStore b (some [4]) 5 x299 x304 h303 fun _ h307 => met b [6] [x300] <| kStore b (some [6]) 2 x300 x305 h307 fun _ h309 => r227 b x299 x298 x300 h309
def b227_23 (u : Fn) (b : Nat) (j5_310 : F5) (x21 x25 x291 x15 x17 : XV) (h297 : HS) : Ans :=
  kLoad h297.ob true 5 x21 fun x314 => kHand h297.ob x314 fun x315 s316 => kGo u b none 299 [x315, tt] (apL s316 []) h297 fun x317 h318 => kStore b none 2 x25 x317 h318 fun _ h320 => j5_310 x291 x15 x17 x21 x25 h320
def b227_24 (u : Fn) (b : Nat) (x21 x290 x25 x292 x291 x15 x17 : XV) (h289 : HS) : Ans :=
  kFaddr 3 x21 fun x293 => kStore b none 1 x293 x290 h289 fun _ h295 => kStore b none 2 x25 x292 h295 fun _ h297 => join (b227_22 u b) fun j5_310 => kFaddr 0 x25 fun x311 => kLoad h297.ob false 1 x311 fun x312 => kEql x312 n0 fun x313 => cnd x313 (b227_23 u b j5_310 x21 x25 x291 x15 x17 h297) (j5_310 x291 x15 x17 x21 x25 h297)
def b227_25 (u : Fn) (b : Nat) (x21 x13 x12 x25 x15 x17 : XV) (h26 : HS) : Ans :=
  kFaddr 0 x21 fun x280 => kStore b none 1 x280 n6 h26 fun _ h282 => kAdd x13 n1 fun x283 => kHand h282.ob x12 fun x284 s285 => kHand h282.ob x283 fun x286 s287 => kGo u b none 298 [x284, x286, u124] (apL s285 (apL s287 [])) h282 fun x288 h289 => kExt x288 0 fun x290 => kExt x288 1 fun x291 => kExt x288 2 fun x292 => b227_24 u b x21 x290 x25 x292 x291 x15 x17 h289
def b227_26 (u : Fn) (b : Nat) (x21 x13 x15 x17 : XV) (h324 : HS) : Ans :=
  met b [7] [x21] <| kLoad h324.ob true 5 x21 fun x326 => met b [] [x13] <| kHand h324.ob x13 fun x327 s328 => kGo u b (some []) 160 [n12, x327] (apL s328 []) h324 fun x329 h330 => met b [4] [x15] <| kStore b (some [4]) 5 x15 x326 h330 fun _ h332 => met b [6] [x17] <| kStore b (some [6]) 2 x17 x329 h332 fun _ h334 => r227 b x15 x13 x17 h334
def b227_27 (u : Fn) (b : Nat) (j6_190 : F6) (x191 x21 x13 x15 x17 x12 x25 : XV) (h26 : HS) : Ans :=
  kHand h26.ob x191 fun x321 s322 => kGo u b none 300 [x321] (apL s322 []) h26 fun x323 h324 => kNot x323 fun x325 => cnd x325 (b227_26 u b x21 x13 x15 x17 h324) (j6_190 x12 x13 x15 x17 x21 x25 h324)
def b227_28 (u : Fn) (b : Nat) (j6_190 : F6) (x191 x21 x13 x12 x25 x15 x17 : XV) (h26 : HS) : Ans :=
  kEql x191 u124 fun x279 => cnd x279 (b227_25 u b x21 x13 x12 x25 x15 x17 h26) (b227_27 u b j6_190 x191 x21 x13 x15 x17 x12 x25 h26)
def b227_29 (u : Fn) (b : Nat) (j6_190 : F6) (x191 x21 x13 x12 x25 x15 x17 : XV) (h26 : HS) : Ans :=
  kEql x191 u34 fun x225 => cnd x225 (kFaddr 0 x21 fun x226 => kStore b none 1 x226 n7 h26 fun _ h228 => b227_21 u b x13 x12 x21 x25 x15 x17 h228) (b227_28 u b j6_190 x191 x21 x13 x12 x25 x15 x17 h26)
def b227_30 (u : Fn) (b : Nat) (j6_190 : F6) (x191 x21 x13 x25 x15 x17 x12 : XV) (h26 : HS) : Ans :=
  kEql x191 u39 fun x214 => cnd x214 (kFaddr 0 x21 fun x215 => b227_16 u b x215 x21 x13 x25 x15 x17 h26) (b227_29 u b j6_190 x191 x21 x13 x12 x25 x15 x17 h26)
def b227_31 (u : Fn) (b : Nat) (j6_190 : F6) (x191 x21 x13 x25 x15 x17 x12 : XV) (h26 : HS) : Ans :=
  kEql x191 u41 fun x203 => cnd x203 (kFaddr 0 x21 fun x204 => b227_15 u b x204 x21 x13 x25 x15 x17 h26) (b227_30 u b j6_190 x191 x21 x13 x25 x15 x17 x12 h26)
def b227_32 (u : Fn) (b : Nat) (x20 x12 x13 x15 x17 : XV) (h18 : HS) : Ans :=
  kAlloc 237 b 7 none [n0, n0, (.s 0 0), (.s 0 0), (.s 0 0)] h18 fun x21 h22 => kStore b none 5 x21 x20 h22 fun _ h24 => kAlloc 166 b 8 none [n0, n0] h24 fun x25 h26 => join (b227_13 u b) fun j6_190 => kSidx x12 x13 fun x191 => kEql x191 u40 fun x192 => cnd x192 (kFaddr 0 x21 fun x193 => b227_14 u b x193 x21 x13 x25 x15 x17 h26) (b227_31 u b j6_190 x191 x21 x13 x25 x15 x17 x12 h26)
def b227_33 (u : Fn) (b : Nat) (x13 x12 : XV) (h14 : HS) : Ans :=
  kAlloc 237 b 4 none [n0, n0, (.s 0 0), (.s 0 0), (.s 0 0)] h14 fun x15 h16 => kAlloc 166 b 6 none [n0, n0] h16 fun x17 h18 => kPart 1 1 x13 [n0, n0, (.s 0 0), (.s 0 0), (.s 0 0)] fun c19 => kAgg c19 fun x20 => b227_32 u b x20 x12 x13 x15 x17 h18
def b227 : Bd := fun u l b segs => argK l fun x12 l => argK l fun x13 l => argN l (b227_33 u b x13 x12 (hs0 b segs))
def r228 (b : Nat) (x0 x1 : XV) (h2 : HS) : Ans :=
  kCell h2.ob x0 true 2 fun x3 => kHand h2.ob x3 fun q4 s5 => kHand h2.ob x1 fun q6 s7 => retP b (.tup [q4, q6]) (apL s5 (apL s7 [])) h2
def b228_1 (u : Fn) (b : Nat) (x36 x37 x38 : XV) (h39 : HS) : Ans :=
  kPart 0 1 x36 [(.s 0 0), (.s 0 0)] fun c40 => kPart 1 1 x37 c40 fun c41 => kAgg c41 fun x42 => kStore b none 2 x38 x42 h39 fun _ h44 => r228 b x38 n0 h44
def b228_2 (u : Fn) (b : Nat) (x56 x57 x55 : XV) (h58 : HS) : Ans :=
  kFaddr 1 x56 fun x73 => kLoad h58.ob false 1 x73 fun x74 => kIaddr h58.ob 2 x74 x57 fun x75 => kLoad h58.ob true 2 x75 fun x76 => kStore b none 2 x55 x76 h58 fun _ h78 => r228 b x55 n0 h78
def b228_3 (u : Fn) (b : Nat) (j5_46 : F5) (x53 x54 x55 x56 x57 : XV) (h58 : HS) : Ans :=
  join (fun x59 x60 x61 x62 x63 h64 => kAdd x63 n1 fun x65 => j5_46 x59 x60 x61 x62 x65 h64) fun j5_66 => kFaddr 1 x56 fun x67 => kLoad h58.ob false 1 x67 fun x68 => kIaddr h58.ob 2 x68 x57 fun x69 => kFaddr 1 x69 fun x70 => kLoad h58.ob false 1 x70 fun x71 => kEql x71 x54 fun x72 => cnd x72 (b228_2 u b x56 x57 x55 h58) (j5_66 x53 x54 x55 x56 x57 h58)
def b228_4 (u : Fn) (b : Nat) (j3_45 : F3) (j5_46 : F5) (x47 x48 x49 x50 x51 : XV) (h52 : HS) : Ans :=
  join (b228_3 u b j5_46) fun j5_79 => kFaddr 1 x50 fun x80 => kLoad h52.ob false 1 x80 fun x81 => kLen false x81 fun x82 => kLss x51 x82 fun x83 => cnd x83 (j5_79 x47 x48 x49 x50 x51 h52) (j3_45 x47 x48 x49 h52)
def b228_5 (u : Fn) (b : Nat) (x31 x32 x33 x34 : XV) (h35 : HS) : Ans :=
  join (b228_1 u b) fun j3_45 => lp [1, 2, 6, 8, 10] 1000000 (b228_4 u b j3_45) x31 x32 x33 x34 n0 h35
def b228_6 (u : Fn) (b : Nat) (j4_84 : F4) (x86 x28 x26 x27 x29 x87 x88 x89 : XV) (h90 : HS) : Ans :=
  kPick x86 tt x89 fun x91 => cnd x91 (kAgg [(.s 0 0), (.s 0 0)] fun x92 => kStore b none 2 x28 x92 h90 fun _ h94 => r228 b x28 n3 h94) (j4_84 x26 x27 x28 x29 h90)
def b228_7 (u : Fn) (b : Nat) (x26 x27 x28 x29 : XV) (h30 : HS) : Ans :=
  join (b228_5 u b) fun j4_84 => kLen true x27 fun x85 => kLss x85 n1 fun x86 => join (b228_6 u b j4_84 x86 x28 x26 x27 x29) fun j3_95 => grdB x86 false (kLen true x27 fun x96 => kGtr x96 n40 fun x97 => j3_95 x27 x96 x97 h30) (j3_95 uu uu uu h30)
def b228_8 (u : Fn) (b : Nat) (x18 x20 x12 x9 x10 : XV) (h19 : HS) : Ans :=
  kExt x18 1 fun x21 => kAlloc 64 b 8 none [(.s 0 0), .nl] h19 fun x22 h23 => kStore b none 2 x22 x20 h23 fun _ h25 => join (b228_7 u b) fun j4_98 => kNot x21 fun x99 => cnd x99 (kAgg [(.s 0 0), (.s 0 0)] fun x100 => kStore b none 2 x12 x100 h25 fun _ h102 => r228 b x12 n13 h102) (j4_98 x9 x10 x12 x22 h25)
def b228_9 (u : Fn) (b : Nat) (x8 x9 x10 : XV) (h11 : HS) : Ans :=
  kAlloc 43 b 6 none [(.s 0 0), (.s 0 0)] h11 fun x12 h13 => kHand h13.ob x8 fun x14 s15 => kHand h13.ob x9 fun x16 s17 => kGo u b none 306 [x14, x16] (apL s15 (apL s17 [])) h13 fun x18 h19 => kExt x18 0 fun x20 => b228_8 u b x18 x20 x12 x9 x10 h19
def b228 : Bd := fun u l b segs => argK l fun x8 l => argK l fun x9 l => argK l fun x10 l => argN l (b228_9 u b x8 x9 x10 (hs0 b segs))
def r229 (b : Nat) (x0 x1 : XV) (h2 : HS) : Ans :=
  kCell h2.ob x0 true 7 fun x3 => kHand h2.ob x3 fun q4 s5 => kCell h2.ob x1 true 2 fun x6 => kHand h2.ob x6 fun q7 s8 => retP b (.tup [q4, q7]) (apL s5 (apL s8 [])) h2
def b229_1 (u : Fn) (b : Nat) (x36 x37 x38 : XV) (h39 : HS) : Ans :=
  kLoad h39.ob true 7 x38 fun x40 => kAgg [n0, n0] fun x41 => kStore b none 7 x36 x40 h39 fun _ h43 => kStore b none 2 x37 x41 h43 fun _ h45 => r229 b x36 x37 h45
def b229_2 (u : Fn) (b : Nat) (j5_69 : F5) (x70 x59 x56 x57 x58 x60 : XV) (h61 : HS) : Ans :=
  met b [2149] [x70] <| kLoad h61.ob true 7 x70 fun x71 => met b [7] [x59] <| kLoad h61.ob true 7 x59 fun x72 => met b [4096, 4098] [x71, x72] <| kHand h61.ob x71 fun x73 s74 => kHand h61.ob x72 fun x75 s76 => kGo u b (some []) 83 [x73, x75] (apL s74 (apL s76 [])) h61 fun x77 h78 => met b [7] [x59] <| kStore b (some [7]) 7 x59 x77 h78 fun _ h80 => j5_69 x56 x57 x58 x59 x60 h80
def b229_3 (u : Fn) (b : Nat) (j5_49 : F5) (x56 x57 x58 x59 x60 : XV) (h61 : HS) : Ans :=
  join (fun x62 x63 x64 x65 x66 h67 => kSub x66 n1 fun x68 => j5_49 x62 x63 x64 x65 x68 h67) fun j5_69 => met b [2149] [x58, x60] <| kIaddr h61.ob 7 x58 x60 fun x70 => b229_2 u b j5_69 x70 x59 x56 x57 x58 x60 h61
def b229_4 (u : Fn) (b : Nat) (j3_46 : F3) (j5_49 : F5) (x50 x51 x52 x53 x54 : XV) (h55 : HS) : Ans :=
  join (b229_3 u b j5_49) fun j5_81 => kGeq x54 n0 fun x82 => cnd x82 (j5_81 x50 x51 x52 x53 x54 h55) (j3_46 x50 x51 x53 h55)
def b229_5 (u : Fn) (b : Nat) (x29 x22 x25 x23 x24 x26 : XV) (h27 : HS) : Ans :=
  kLoad h27.ob false 1 x29 fun x30 => kAdd x30 n1 fun x31 => kNil x22 fun x32 => kFaddr 3 x32 fun x33 => kStore b none 1 x33 x31 h27 fun _ h35 => join (b229_1 u b) fun j3_46 => kLen false x25 fun x47 => kSub x47 n1 fun x48 => lp [4, 5, 6, 7, 13] 1000000 (b229_4 u b j3_46) x23 x24 x25 x26 x48 h35
def b229_6 (u : Fn) (b : Nat) (j6_84 : F6) (x120 x121 x122 x123 x124 x125 x126 : XV) (h127 : HS) : Ans :=
  kLoad h127.ob true 7 x126 fun x128 => kElt h127.ob 7 0 x128 (repL 1 [n0, (.s 0 0), (.s 0 0), (.s 0 0), (.s 0 0), (.s 0 0), .nl]) fun c129 s130 => kSl b 2148 none 46 7 1 false c129 (apL s130 []) h127 fun x131 h132 => kAppend b 2149 none 46 7 112 x124 x131 false h132 fun x133 h134 => j6_84 x120 x121 x122 x123 x133 x125 h134
def b229_7 (u : Fn) (b : Nat) (x114 x101 x102 : XV) (h119 : HS) : Ans :=
  kAgg [n0, (.s 0 0), (.s 0 0), (.s 0 0), (.s 0 0), (.s 0 0), .nl] fun x139 => met b [12] [x114] <| kLoad h119.ob true 2 x114 fun x140 => met b [4] [x101] <| kStore b (some [4]) 7 x101 x139 h119 fun _ h142 => met b [5] [x102] <| kStore b (some [5]) 2 x102 x140 h142 fun _ h144 => r229 b x101 x102 h144
def b229_8 (u : Fn) (b : Nat) (j6_84 : F6) (x112 x110 x111 x101 x102 x99 x100 x103 x104 : XV) (h113 : HS) : Ans :=
  kAlloc 166 b 12 none [n0, n0] h113 fun x114 h115 => kStore b none 7 x112 x110 h115 fun _ h117 => kStore b none 2 x114 x111 h117 fun _ h119 => join (b229_6 u b j6_84) fun j7_135 => kFaddr 0 x114 fun x136 => kLoad h119.ob false 1 x136 fun x137 => kNeq x137 n0 fun x138 => cnd x138 (b229_7 u b x114 x101 x102 h119) (j7_135 x99 x100 x101 x102 x103 x104 x112 h119)
def b229_9 (u : Fn) (b : Nat) (j6_84 : F6) (x99 x100 x101 x102 x103 x104 : XV) (h105 : HS) : Ans :=
  kHand h105.ob x100 fun x106 s107 => kGoH u b 161 [x99, x106] (apL s107 []) h105 fun x108 h109 => kExt x108 0 fun x110 => kExt x108 1 fun x111 => kAlloc 46 b 11 none [n0, (.s 0 0), (.s 0 0), (.s 0 0), (.s 0 0), (.s 0 0), .nl] h109 fun x112 h113 => b229_8 u b j6_84 x112 x110 x111 x101 x102 x99 x100 x103 x104 h113
def b229_10 (u : Fn) (b : Nat) (x201 x184 x185 : XV) (h204 : HS) : Ans :=
  kAgg [n0, (.s 0 0), (.s 0 0), (.s 0 0), (.s 0 0), (.s 0 0), .nl] fun x209 => kFaddr 1 x201 fun x210 => kLoad h204.ob false 1 x210 fun x211 => kHand h204.ob x211 fun x212 s213 => kGo u b none 160 [n11, x212] (apL s213 []) h204 fun x214 h215 => kStore b none 7 x184 x209 h215 fun _ h217 => kStore b none 2 x185 x214 h217 fun _ h219 => r229 b x184 x185 h219
def b229_11 (u : Fn) (b : Nat) (x201 x184 x185 : XV) (h204 : HS) : Ans :=
  kAgg [n0, (.s 0 0), (.s 0 0), (.s 0 0), (.s 0 0), (.s 0 0), .nl] fun x220 => kFaddr 1 x201 fun x221 => kLoad h204.ob false 1 x221 fun x222 => kHand h204.ob x222 fun x223 s224 => kGo u b none 160 [n12, x223] (apL s224 []) h204 fun x225 h226 => kStore b none 7 x184 x220 h226 fun _ h228 => kStore b none 2 x185 x225 h228 fun _ h230 => r229 b x184 x185 h230
def b229_12 (u : Fn) (b : Nat) (x206 x201 x184 x185 : XV) (h204 : HS) : Ans :=
  kEql x206 n0 fun x208 => cnd x208 (b229_10 u b x201 x184 x185 h204) (b229_11 u b x201 x184 x185 h204)
def b229_13 (u : Fn) (b : Nat) (j5_83 : F5) (x199 x183 x184 x185 x186 x187 : XV) (h192 : HS) : Ans :=
  met b [4098] [x199] <| kLoad h192.ob true 5 x199 fun x200 => kAlloc 237 b 10 (some [10]) [n0, n0, (.s 0 0), (.s 0 0), (.s 0 0)] h192 fun x201 h202 => met b [10] [x201] <| kStore b (some [10]) 5 x201 x200 h202 fun _ h204 => kFaddr 0 x201 fun x205 => kLoad h204.ob false 1 x205 fun x206 => kEql x206 n2 fun x207 => cnd x207 (j5_83 x183 x184 x185 x186 x187 h204) (b229_12 u b x206 x201 x184 x185 h204)
def b229_14 (u : Fn) (b : Nat) (j5_83 : F5) (x183 x184 x185 x186 x187 : XV) (h192 : HS) : Ans :=
  kNil x183 fun x193 => kFaddr 2 x193 fun x194 => met b [4096, 4098] [x194] <| kLoad h192.ob false 1 x194 fun x195 => kNil x183 fun x196 => kFaddr 3 x196 fun x197 => met b [4096, 4098] [x197] <| kLoad h192.ob false 1 x197 fun x198 => met b [4096, 4098, 4096, 4098] [x195, x198] <| kIaddr h192.ob 5 x195 x198 fun x199 => b229_13 u b j5_83 x199 x183 x184 x185 x186 x187 h192
def b229_15 (u : Fn) (b : Nat) (x177 x94 x95 : XV) (h182 : HS) : Ans :=
  kAgg [n0, (.s 0 0), (.s 0 0), (.s 0 0), (.s 0 0), (.s 0 0), .nl] fun x235 => met b [9] [x177] <| kLoad h182.ob true 2 x177 fun x236 => met b [4] [x94] <| kStore b (some [4]) 7 x94 x235 h182 fun _ h238 => met b [5] [x95] <| kStore b (some [5]) 2 x95 x236 h238 fun _ h240 => r229 b x94 x95 h240
def b229_16 (u : Fn) (b : Nat) (j5_83 : F5) (x177 x174 x94 x95 x92 x96 x97 x175 : XV) (h180 : HS) : Ans :=
  kStore b none 2 x177 x174 h180 fun _ h182 => join (fun x183 x184 x185 x186 x187 x188 h189 => kLoad h189.ob true 7 x188 fun x190 => kStore b none 7 x187 x190 h189 fun _ h192 => b229_14 u b j5_83 x183 x184 x185 x186 x187 h192) fun j6_231 => kFaddr 0 x177 fun x232 => kLoad h182.ob false 1 x232 fun x233 => kNeq x233 n0 fun x234 => cnd x234 (b229_15 u b x177 x94 x95 h182) (j6_231 x92 x94 x95 x96 x97 x175 h182)
def b229_17 (u : Fn) (b : Nat) (j5_83 : F5) (x92 x164 x93 x94 x95 x96 x97 : XV) (h159 : HS) : Ans :=
  kNil x92 fun x165 => kFaddr 3 x165 fun x166 => kStore b none 1 x166 x164 h159 fun _ h168 => kHand h168.ob x93 fun x169 s170 => kGoH u b 161 [x92, x169] (apL s170 []) h168 fun x171 h172 => kExt x171 0 fun x173 => kExt x171 1 fun x174 => kAlloc 46 b 8 none [n0, (.s 0 0), (.s 0 0), (.s 0 0), (.s 0 0), (.s 0 0), .nl] h172 fun x175 h176 => kAlloc 166 b 9 none [n0, n0] h176 fun x177 h178 => kStore b none 7 x175 x173 h178 fun _ h180 => b229_16 u b j5_83 x177 x174 x94 x95 x92 x96 x97 x175 h180
def b229_18 (u : Fn) (b : Nat) (j5_83 : F5) (x92 x93 x94 x95 x96 x97 : XV) (h159 : HS) : Ans :=
  kNil x92 fun x161 => kFaddr 3 x161 fun x162 => kLoad h159.ob false 1 x162 fun x163 => kAdd x163 n1 fun x164 => b229_17 u b j5_83 x92 x164 x93 x94 x95 x96 x97 h159
def b229_19 (u : Fn) (b : Nat) (j5_83 : F5) (j6_145 : F6) (x155 x92 x93 x94 x95 x96 x97 x156 x157 x158 : XV) (h159 : HS) : Ans :=
  kPick x155 x158 ff fun x160 => cnd x160 (b229_18 u b j5_83 x92 x93 x94 x95 x96 x97 h159) (j6_145 x92 x93 x94 x95 x96 x97 h159)
def b229_20 (u : Fn) (b : Nat) (j5_83 : F5) (j6_145 : F6) (x148 x151 x92 x93 x94 x95 x96 x97 : XV) (h98 : HS) : Ans :=
  met b [4096, 4098, 4096, 4098] [x148, x151] <| kIaddr h98.ob 5 x148 x151 fun x152 => kFaddr 0 x152 fun x153 => met b [4098] [x153] <| kLoad h98.ob false 1 x153 fun x154 => kEql x154 n3 fun x155 => join (b229_19 u b j5_83 j6_145 x155 x92 x93 x94 x95 x96 x97) fun j3_241 => grdB x155 true (kLen false x96 fun x242 => kGtr x242 n0 fun x243 => j3_241 x96 x242 x243 h98) (j3_241 uu uu uu h98)
def b229_21 (u : Fn) (b : Nat) (j6_84 : F6) (j5_83 : F5) (x92 x93 x94 x95 x96 x97 : XV) (h98 : HS) : Ans :=
  join (b229_9 u b j6_84) fun j6_145 => kNil x92 fun x146 => kFaddr 2 x146 fun x147 => met b [4096, 4098] [x147] <| kLoad h98.ob false 1 x147 fun x148 => kNil x92 fun x149 => kFaddr 3 x149 fun x150 => met b [4096, 4098] [x150] <| kLoad h98.ob false 1 x150 fun x151 => b229_20 u b j5_83 j6_145 x148 x151 x92 x93 x94 x95 x96 x97 h98
def b229_22 (u : Fn) (b : Nat) (j6_244 : F6) (j5_83 : F5) (x249 x247 x85 x86 x87 x88 x89 x90 : XV) (h91 : HS) : Ans :=
  met b [4096, 4098] [x249] <| kLoad h91.ob false 1 x249 fun x250 => met b [4096, 4098, 4096, 4098] [x247, x250] <| kIaddr h91.ob 5 x247 x250 fun x251 => kFaddr 0 x251 fun x252 => met b [4098] [x252] <| kLoad h91.ob false 1 x252 fun x253 => kNeq x253 n2 fun x254 => cnd x254 (j6_244 x85 x86 x87 x88 x89 x90 h91) (j5_83 x85 x87 x88 x89 x90 h91)
def b229_23 (u : Fn) (b : Nat) (j5_83 : F5) (j6_84 : F6) (x85 x86 x87 x88 x89 x90 : XV) (h91 : HS) : Ans :=
  join (b229_21 u b j6_84 j5_83) fun j6_244 => kNil x85 fun x245 => kFaddr 2 x245 fun x246 => met b [4096, 4098] [x246] <| kLoad h91.ob false 1 x246 fun x247 => kNil x85 fun x248 => kFaddr 3 x248 fun x249 => b229_22 u b j6_244 j5_83 x249 x247 x85 x86 x87 x88 x89 x90 h91
def b229_24 (u : Fn) (b : Nat) (x9 x10 : XV) (h11 : HS) : Ans :=
  kAlloc 46 b 4 none [n0, (.s 0 0), (.s 0 0), (.s 0 0), (.s 0 0), (.s 0 0), .nl] h11 fun x12 h13 => kAlloc 166 b 5 none [n0, n0] h13 fun x14 h15 => kGo u b none 77 [] [] h15 fun x16 h17 => kAlloc 46 b 7 none [n0, (.s 0 0), (.s 0 0), (.s 0 0), (.s 0 0), (.s 0 0), .nl] h17 fun x18 h19 => kStore b none 7 x18 x16 h19 fun _ h21 => join (fun x22 x23 x24 x25 x26 h27 => kNil x22 fun x28 => kFaddr 3 x28 fun x29 => b229_5 u b x29 x22 x25 x23 x24 x26 h27) fun j5_83 => lp [0, 1, 4, 5, 6, 7] 1000000 (b229_23 u b j5_83) x9 x10 x12 x14 .nl x18 h21
def b229 : Bd := fun u l b segs => argK l fun x9 l => argK l fun x10 l => argN l (b229_24 u b x9 x10 (hs0 b segs))
def r230 (b : Nat) (x0 : XV) (h1 : HS) : Ans :=
  kHand h1.ob x0 fun q2 s3 => retP b q2 (apL s3 []) h1
def b230_1 (u : Fn) (b : Nat) (x24 x25 x26 : XV) (h27 : HS) : Ans :=
  kFaddr 6 x25 fun x28 => kLoad h27.ob false 1 x28 fun x29 => kIaddr h27.ob 7 x29 n1 fun x30 => kLoad h27.ob true 7 x30 fun x31 => kSub x24 x26 fun x32 => kHand h27.ob x31 fun x33 s34 => kHand h27.ob x32 fun x35 s36 => kGo u b none 230 [x33, x35] (apL s34 (apL s36 [])) h27 fun x37 h38 => kAdd x26 x37 fun x39 => r230 b x39 h38
def b230_2 (u : Fn) (b : Nat) (x9 x15 x10 : XV) (h11 : HS) : Ans :=
  kSub x9 n1 fun x16 => kHand h11.ob x15 fun x17 s18 => kHand h11.ob x16 fun x19 s20 => kGo u b none 230 [x17, x19] (apL s18 (apL s20 [])) h11 fun x21 h22 => kAdd n1 x21 fun x23 => join (b230_1 u b) fun j3_40 => kGeq x23 x9 fun x41 => cnd x41 (r230 b x9 h22) (j3_40 x9 x10 x23 h22)
def b230_3 (u : Fn) (b : Nat) (x9 x10 : XV) (h11 : HS) : Ans :=
  kFaddr 6 x10 fun x12 => kLoad h11.ob false 1 x12 fun x13 => kIaddr h11.ob 7 x13 n0 fun x14 => kLoad h11.ob true 7 x14 fun x15 => b230_2 u b x9 x15 x10 h11
def b230_4 (u : Fn) (b : Nat) (j2_42 : F2) (x46 x5 x7 x47 x48 : XV) (h49 : HS) : Ans :=
  kPick x46 tt x48 fun x50 => cnd x50 (r230 b n1 h49) (j2_42 x5 x7 h49)
def b230_5 (u : Fn) (b : Nat) (x7 x5 : XV) (h8 : HS) : Ans :=
  join (b230_3 u b) fun j2_42 => kFaddr 6 x7 fun x43 => kLoad h8.ob false 1 x43 fun x44 => kLen false x44 fun x45 => kNeq x45 n2 fun x46 => join (b230_4 u b j2_42 x46 x5 x7) fun j2_51 => grdB x46 false (kLeq x5 n1 fun x52 => j2_51 x5 x52 h8) (j2_51 uu uu h8)
def b230_6 (u : Fn) (b : Nat) (x4 x5 : XV) (h6 : HS) : Ans :=
  kBox 46 b 2 none x4 h6 fun x7 h8 => b230_5 u b x7 x5 h8
def b230 : Bd := fun u l b segs => argK l fun x4 l => argK l fun x5 l => argN l (b230_6 u b x4 x5 (hs0 b segs))
def r231 (b : Nat) (x0 : XV) (h1 : HS) : Ans :=
  kHand h1.ob x0 fun q2 s3 => retP b q2 (apL s3 []) h1
def b231_1 (u : Fn) (b : Nat) (x11 x6 x13 x14 x15 : XV) (h16 : HS) : Ans :=
  kPick x11 x15 ff fun x17 => join (fun _ _ x20 h21 => kPick x17 x20 ff fun x22 => r231 b x22 h21) fun j3_23 => grdB x17 true (met b [1] [x6] <| kLoad h16.ob true 2 x6 fun x24 => kGo u b (some []) 45 [(.s 1 0x74)] [] h16 fun x25 h26 => kEqs true x24 x25 fun x27 => j3_23 x24 x25 x27 h26) (j3_23 uu uu uu h16)
def b231_2 (u : Fn) (b : Nat) (x8 x6 : XV) (h7 : HS) : Ans :=
  met b [] [x8] <| kHand h7.ob x8 fun x9 s10 => kGo u b (some []) 307 [x9] (apL s10 []) h7 fun x11 h12 => join (b231_1 u b x11 x6) fun j3_28 => grdB x11 true (met b [1] [x6] <| kLoad h12.ob true 2 x6 fun x29 => kGo u b (some []) 45 [(.s 3 0x6e696c)] [] h12 fun x30 h31 => kEqs true x29 x30 fun x32 => j3_28 x29 x30 x32 h31) (j3_28 uu uu uu h12)
def b231_3 (u : Fn) (b : Nat) (x4 : XV) (h5 : HS) : Ans :=
  kBox 43 b 1 none x4 h5 fun x6 h7 => met b [1] [x6] <| kLoad h7.ob true 2 x6 fun x8 => b231_2 u b x8 x6 h7
def b231 : Bd := fun u l b segs => argK l fun x4 l => argN l (b231_3 u b x4 (hs0 b segs))
def r234 (b : Nat) (x0 : XV) (h1 : HS) : Ans :=
  kHand h1.ob x0 fun q2 s3 => retP b q2 (apL s3 []) h1
def b234_1 (u : Fn) (b : Nat) (x6 x4 : XV) (h5 : HS) : Ans :=
  kFaddr 2 x6 fun x7 => kLoad h5.ob false 1 x7 fun x8 => kSub x8 n1 fun x9 => kNil x4 fun x10 => kFaddr 2 x10 fun x11 => kStore b none 1 x11 x9 h5 fun _ h13 => kNil x4 fun x14 => kFaddr 2 x14 fun x15 => kLoad h13.ob false 1 x15 fun x16 => kGeq x16 n0 fun x17 => r234 b x17 h13
def b234_2 (u : Fn) (b : Nat) (x4 : XV) (h5 : HS) : Ans :=
  kNil x4 fun x6 => b234_1 u b x6 x4 h5
def b234 : Bd := fun u l b segs => argK l fun x4 l => argN l (b234_2 u b x4 (hs0 b segs))
def r235 (b : Nat) (x0 x1 : XV) (h2 : HS) : Ans :=
  kCell h2.ob x0 true 15 fun x3 => kHand h2.ob x3 fun q4 s5 => kHand h2.ob x1 fun q6 s7 => retP b (.tup [q4, q6]) (apL s5 (apL s7 [])) h2
def b235_1 (u : Fn) (b : Nat) (x27 x30 x29 : XV) (h51 : HS) : Ans :=
  kIaddr h51.ob 32 x27 x30 fun x53 => kFaddr 5 x53 fun x54 => kLoad h51.ob true 15 x54 fun x55 => kStore b none 15 x29 x55 h51 fun _ h57 => r235 b x29 tt h57
def b235_2 (u : Fn) (b : Nat) (j4_38 : F4) (x42 x27 x30 x29 x28 x43 x44 x45 x46 x47 x48 x49 x50 : XV) (h51 : HS) : Ans :=
  kPick x42 x50 ff fun x52 => cnd x52 (b235_1 u b x27 x30 x29 h51) (j4_38 x27 x28 x29 x30 h51)
def b235_3 (u : Fn) (b : Nat) (j8_58 : F8) (x27 x30 x28 : XV) (h31 : HS) : Ans :=
  met b [] [x27, x30] <| kIaddr h31.ob 32 x27 x30 fun x59 => kFaddr 5 x59 fun x60 => kFaddr 0 x60 fun x61 => met b [] [x61] <| kLoad h31.ob true 2 x61 fun x62 => met b [3] [x28] <| kLoad h31.ob true 2 x28 fun x63 => kEqs false x62 x63 fun x64 => j8_58 x27 x30 x59 x60 x61 x62 x63 x64 h31
def b235_4 (u : Fn) (b : Nat) (j4_21 : F4) (x27 x28 x29 x30 : XV) (h31 : HS) : Ans :=
  join (fun x32 x33 x34 x35 h36 => kAdd x35 n1 fun x37 => j4_21 x32 x33 x34 x37 h36) fun j4_38 => met b [] [x27, x30] <| kIaddr h31.ob 32 x27 x30 fun x39 => kFaddr 0 x39 fun x40 => met b [] [x40] <| kLoad h31.ob false 1 x40 fun x41 => kEql x41 n2 fun x42 => join (b235_2 u b j4_38 x42 x27 x30 x29 x28) fun j8_58 => grdB x42 true (b235_3 u b j8_58 x27 x30 x28 h31) (j8_58 uu uu uu uu uu uu uu uu h31)
def b235_5 (u : Fn) (b : Nat) (j1_20 : F1) (j4_21 : F4) (x22 x23 x24 x25 : XV) (h26 : HS) : Ans :=
  join (b235_4 u b j4_21) fun j4_65 => kLen false x22 fun x66 => kLss x25 x66 fun x67 => cnd x67 (j4_65 x22 x23 x24 x25 h26) (j1_20 x24 h26)
def b235_6 (u : Fn) (b : Nat) (x9 x8 : XV) (h10 : HS) : Ans :=
  kBox 43 b 3 none x9 h10 fun x11 h12 => kAlloc 66 b 4 none [(.s 0 0), (.s 0 0), .nl, ff, n0, (.s 0 0), (.s 0 0), n0, (.s 0 0), (.s 0 0), (.s 0 0), (.s 0 0), (.s 0 0), .nl, .nl] h12 fun x13 h14 => join (fun x15 h16 => kAgg [(.s 0 0), (.s 0 0), .nl, ff, n0, (.s 0 0), (.s 0 0), n0, (.s 0 0), (.s 0 0), (.s 0 0), (.s 0 0), (.s 0 0), .nl, .nl] fun x17 => kStore b none 15 x15 x17 h16 fun _ h19 => r235 b x15 ff h19) fun j1_20 => lp [0, 3, 4, 6] 1000000 (b235_5 u b j1_20) x8 x11 x13 n0 h14
def b235 : Bd := fun u l b segs => argK l fun x8 l => argK l fun x9 l => argN l (b235_6 u b x9 x8 (hs0 b segs))
def r236 (b : Nat) (x0 : XV) (h1 : HS) : Ans :=
  kHand h1.ob x0 fun q2 s3 => retP b q2 (apL s3 []) h1
def b236_1 (u : Fn) (b : Nat) (j1_16 : F1) (x13 : XV) (h9 : HS) : Ans :=
  kEql x13 (.s 2 0x3e3d) fun x28 => cnd x28 (j1_16 x28 h9) (kEql x13 (.s 6 0x617070656e64) fun x29 => j1_16 x29 h9)
def b236_2 (u : Fn) (b : Nat) (j1_16 : F1) (x13 : XV) (h9 : HS) : Ans :=
  kEql x13 (.s 1 0x3e) fun x27 => cnd x27 (j1_16 x27 h9) (b236_1 u b j1_16 x13 h9)
def b236_3 (u : Fn) (b : Nat) (j1_16 : F1) (x13 : XV) (h9 : HS) : Ans :=
  kEql x13 (.s 2 0x3c3d) fun x26 => cnd x26 (j1_16 x26 h9) (b236_2 u b j1_16 x13 h9)
def b236_4 (u : Fn) (b : Nat) (j1_16 : F1) (x13 : XV) (h9 : HS) : Ans :=
  kEql x13 (.s 1 0x2f) fun x25 => cnd x25 (j1_16 x25 h9) (b236_3 u b j1_16 x13 h9)
def b236_5 (u : Fn) (b : Nat) (j1_16 : F1) (x13 : XV) (h9 : HS) : Ans :=
  kEql x13 (.s 1 0x2d) fun x24 => cnd x24 (j1_16 x24 h9) (b236_4 u b j1_16 x13 h9)
def b236_6 (u : Fn) (b : Nat) (j1_16 : F1) (x13 : XV) (h9 : HS) : Ans :=
  kEql x13 (.s 1 0x2a) fun x23 => cnd x23 (j1_16 x23 h9) (b236_5 u b j1_16 x13 h9)
def b236_7 (u : Fn) (b : Nat) (j1_16 : F1) (x13 : XV) (h9 : HS) : Ans :=
  kEql x13 (.s 1 0x2b) fun x22 => cnd x22 (j1_16 x22 h9) (b236_6 u b j1_16 x13 h9)
def b236_8 (u : Fn) (b : Nat) (j1_16 : F1) (x13 : XV) (h9 : HS) : Ans :=
  kEql x13 (.s 4 0x636f6e64) fun x21 => cnd x21 (j1_16 x21 h9) (b236_7 u b j1_16 x13 h9)
def b236_9 (u : Fn) (b : Nat) (j1_16 : F1) (x13 : XV) (h9 : HS) : Ans :=
  kEql x13 (.s 2 0x6f72) fun x20 => cnd x20 (j1_16 x20 h9) (b236_8 u b j1_16 x13 h9)
def b236_10 (u : Fn) (b : Nat) (j1_16 : F1) (x13 : XV) (h9 : HS) : Ans :=
  kEql x13 (.s 3 0x616e64) fun x19 => cnd x19 (j1_16 x19 h9) (b236_9 u b j1_16 x13 h9)
def b236_11 (u : Fn) (b : Nat) (j1_16 : F1) (x13 : XV) (h9 : HS) : Ans :=
  kEql x13 (.s 5 0x6c6973742a) fun x18 => cnd x18 (j1_16 x18 h9) (b236_10 u b j1_16 x13 h9)
def b236_12 (u : Fn) (b : Nat) (x8 : XV) (h9 : HS) : Ans :=
  join (fun h10 => r236 b ff h10) fun j0_11 => kFaddr 1 x8 fun x12 => kLoad h9.ob false 1 x12 fun x13 => join (fun x14 h15 => cnd x14 (r236 b tt h15) (j0_11 h15)) fun j1_16 => kEql x13 (.s 4 0x6c697374) fun x17 => cnd x17 (j1_16 x17 h9) (b236_11 u b j1_16 x13 h9)
def b236_13 (u : Fn) (b : Nat) (x4 : XV) (h5 : HS) : Ans :=
  kBox 43 b 1 none x4 h5 fun x6 h7 => join (b236_12 u b) fun j1_30 => kFaddr 0 x6 fun x31 => kLoad h7.ob false 1 x31 fun x32 => kNeq x32 (.s 4 0x6c697370) fun x33 => cnd x33 (r236 b ff h7) (j1_30 x6 h7)
def b236 : Bd := fun u l b segs => argK l fun x4 l => argN l (b236_13 u b x4 (hs0 b segs))
end
end Go.Hf

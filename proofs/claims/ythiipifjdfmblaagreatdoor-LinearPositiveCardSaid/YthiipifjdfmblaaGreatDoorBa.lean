import Derived.Test.YthiipifjdfmblaaGreatDoorAj
set_option maxRecDepth 1000000
set_option linter.all false
namespace Go.Hf
open Go.Proofs Go.RowKit
noncomputable section
variable[Tok] {gl:eI}
theorem aAt:bv gl 71 Se:=bw (dN 71 Tryz.f71 1 [.cell 2 true 2] 0x4182 1) Tryz.func71
theorem agj:bv gl 75 aaU:=bw (dN 75 Tryz.f75 2 [.cell 4 true 11] 0x4284 1) Tryz.func75
theorem akg:bv gl 81 AX:=bw (dN 81 Tryz.f81 2 [.cell 4 true 11] 0x10a08182 1) Tryz.func81
theorem ahs:bv gl 85 aau:=bw (dN 85 Tryz.f85 3 [.tmp 6] 0x1081c2040810203 1) Tryz.func85
theorem ajd:bv gl 96 uz:=bw (dN 96 Tryz.f96 3 [.cell 6 true 11] 0x12133f822133f81212ff810011001fe0484cfe3c0034007f85000d001fe0c0014007f840005001fe080020005001fe08003000c0040005001fe0884cfe1448100043864007f80 0x5cd5a0c20812073568308204b9ab418410240d41880000083082030000000c2080a03984101800) Tryz.func96
theorem aAu:bv gl 97 yA:=bw (dN 97 Tryz.f97 2 [.tmp 4] 0x4203 0x128c04014602146020020) Tryz.func97
theorem akn:bv gl 98 SX:=bw (dN 98 Tryz.f98 3 [.tmp 6] 0x1081c2040810203 1) Tryz.func98
theorem akY:bv gl 99 DG:=bw (dN 99 Tryz.f99 2 [.tmp 4,.tmp 5] 0x10804182 0x141860020c30000618c00) Tryz.func99
theorem aAW:bv gl 100 E4:=bw (dN 100 Tryz.f100 1 [.cell 2 true 7] 0x4182 1) Tryz.func100
theorem awY:bv gl 101 BH:=bw (dN 101 Tryz.f101 1 [.tmp 2] 1 1) Tryz.func101
theorem af7:bv gl 106 ES:=bw (dN 106 Tryz.f106 1 [.tmp 2] 0x4101 1) Tryz.func106
theorem ayD:bv gl 107 Dz:=bw (dN 107 Tryz.f107 1 [.tmp 2] 0x1041c1060414105041410904181050414109041410504141040440106041c105041c10204141040414101 0x8400) Tryz.func107
theorem afO:bv gl 109 Di:=bw (dN 109 Tryz.f109 2 [.cell 4 true 7] 0x43820c0c3820c143810c042810804182 1) Tryz.func109
theorem avd:bv gl 112 Im:=bw (dN 112 Tryz.f112 2 [.tmp 4] 0x10804182 1) Tryz.func112
theorem asc:bv gl 113 C5:=bw (dN 113 Tryz.f113 1 [.cell 2 true 7] 0x41010604101 0x8840) Tryz.func113
theorem azl:bv gl 114 CF:=bw (dN 114 Tryz.f114 2 [.cell 4 true 7] 0x4284 1) Tryz.func114
theorem atL:bv gl 115 GX:=bw (dN 115 Tryz.f115 1 [.tmp 2] 1 1) Tryz.func115
theorem avY:bv gl 116 yo:=bw (dN 116 Tryz.f116 1 [.tmp 2,.tmp 3,.tmp 4] 0x4101 1) Tryz.func116
theorem aid:bv gl 117 uL:=bw (dN 117 Tryz.f117 1 [.cell 2 true 7,.tmp 3] 0x4182 0x8840) Tryz.func117
theorem ary:bv gl 118 w1:=bw (dN 118 Tryz.f118 2 [.tmp 4,.tmp 5] 0x4001000400120abf8320abf8120a7f810004003160848120abf810004001000481dfe085821234001160848220abf810004004 0x349c9cd620c1552727358830540a4e4e6b1060a80073586099cd61826039ac304c030800 [41]) Tryz.func118
theorem av2:bv gl 119 yK:=bw (dN 119 Tryz.f119 1 [.tmp 2] 0x10a1c284 0x1398a4398a401cc520020) Tryz.func119
theorem auH:bv gl 120 y9:=bw (dN 120 Tryz.f120 1 [.cell 2 true 11] 0x1207ff9b0804182 0x9062014041880520c40280621800010060) Tryz.func120
theorem aoZ:bv gl 121 BY:=bw (dN 121 Tryz.f121 1 [.cell 2 true 11] 0x10604101 1) Tryz.func121
theorem arB:bv gl 122 acB:=bw (dN 122 Tryz.f122 2 [.cell 4 true 11] 0x4284 1) Tryz.func122
theorem akO:bv gl 123 Cd:=bw (dN 123 Tryz.f123 1 [.cell 2 true 11] 0x12017f820604101 1) Tryz.func123
theorem ax1:bv gl 127 adm:=bw (dN 127 Tryz.f127 1 [.cell 2 true 7] 0x10604101 1) Tryz.func127
theorem aqo:bv gl 129 zA:=bw (dN 129 Tryz.f129 1 [.cell 2 true 7] 0x10804182 0x483100a020c40290620140310c00) Tryz.func129
theorem ami:bv gl 130 zD:=bw (dN 130 Tryz.f130 2 [.cell 4 true 7] 0x4808fe04808fe0c2810804182 1) Tryz.func130
end
end Go.Hf

import Derived.Test.YthiipifjdfmblaaGreatDoorAj
set_option maxRecDepth 1000000
set_option linter.all false
namespace Go.Hf
open Go.Proofs Go.RowKit
noncomputable section
variable[Tok] {gl:eI}
theorem atF:bv gl 209 C6:=bw (dN 209 Tryz.f209 1 [.cell 2 true 7] 0x41010604101 0x8840) Tryz.func209
theorem aCE:bv gl 210 BR:=bw (dN 210 Tryz.f210 2 [.cell 4 true 7] 0x4284 1) Tryz.func210
theorem anz:bv gl 211 Bh:=bw (dN 211 Tryz.f211 2 [.tmp 4] 0x1140848314084911404488 0x108060) Tryz.func211
theorem arv:bv gl 212 XZ:=bw (dN 212 Tryz.f212 1 [.tmp 2] 0x4101 1) Tryz.func212
theorem anR:bv gl 213 C3:=bw (dN 213 Tryz.f213 1 [.tmp 2] 0x10408101 1) Tryz.func213
theorem aAa:bv gl 215 sq:=bw (dN 215 Tryz.f215 2 [.cell 4 true 7] 0x42020610182080c2020610202061020406142810804182 0x48311000) Tryz.func215
theorem awy:bv gl 216 aaE:=bw (dN 216 Tryz.f216 1 [.tmp 2] 1 0x100800) Tryz.func216
theorem asP:bv gl 219 ZJ:=bw (dN 219 Tryz.f219 2 [.tmp 4] 1 0xa0c34186610000) Tryz.func219
theorem amP:bv gl 220 RY:=bw (dN 220 Tryz.f220 2 [.tmp 4,.tmp 5] 0x12033f812033f832033f822033f89206bf802063f822063f8c2033f852033f86 0xa0e6080c8398203010730406020e6080c839820300e618000 [11]) Tryz.func220
theorem axg:bv gl 223 abB:=bw (dN 223 Tryz.f223 2 [.tmp 4] 0x12047f832047f862047f932047f842047f912047f8b2047f85 0x29418a101c08398a101c08398a101d07314203800628405018a1014c5080a028800 [16]) Tryz.func223
theorem atK:bv gl 224 wP:=bw (dN 224 Tryz.f224 2 [.tmp 4] 1 0x5073100041cc528000) Tryz.func224
theorem aEL:bv gl 225 aeR:=bw (dN 225 Tryz.f225 1 [.tmp 2] 0x10408101 0x420) Tryz.func225
theorem au0:bv gl 226 HU:=bw (dN 226 Tryz.f226 2 [.tmp 4] 1 0x50618000) Tryz.func226
theorem aBP:bv gl 229 Re:=bw (dN 229 Tryz.f229 1 [.tmp 2] 1 0x900301003200600800300c0300c0000040) Tryz.func229
theorem anF:bv gl 230 abK:=bw (dN 230 Tryz.f230 1 [.tmp 2] 1 0x8c031806300c00) Tryz.func230
theorem avL:bv gl 231 zP:=bw (dN 231 Tryz.f231 2 [.tmp 4] 0x1205ff81205ff82205ff81205ff82205ff82205ff81205ff86205ff82205ff85205ff84205ff80 0x804008060 [22] [false]) Tryz.func231
theorem aBB:bv gl 232 wS:=bw (dN 232 Tryz.f232 3 [] 0x1400ff93400ff890011003fe14004400ff8e400ff80 0x4c2080a000107308203a0e610407398410180030820298410140000107308203a0e6104073984101800) Tryz.func232
theorem ag5:bv gl 233 qK:=bw (dN 233 Tryz.f233 2 [.cell 4 true 3] 0x4181080c2030810182080c20308101810e082810804182 0x843f083e0ffc833043f083e0ffc8330021f841f07fe4198000000020c60) Tryz.func233
theorem ae6:bv gl 234 xC:=bw (dN 234 Tryz.f234 2 [.tmp 4] 1 0x1080000000b524c5081005a9210196a4840602d49080c008060) Tryz.func234
theorem axp:bv gl 236 v9:=bw (dN 236 Tryz.f236 2 [] 0x4003400ff81400ff84400ff80 1) Tryz.func236
theorem atk:bv gl 237 vO:=bw (dN 237 Tryz.f237 2 [.tmp 4] 0x10808184080c184080c1820804182 0x42018860) Tryz.func237
theorem ah1:bv gl 238 vH:=bw (dN 238 Tryz.f238 2 [.tmp 4] 0x5003fe04001400ff81400ff810005003fe08001400ff810004001400ff8200040020005003fe09003fe15003fe0c001400ff820004002400ff811008001400ff84400ff80 0x131420280c5080a62840501403000a101000 [] [false]) Tryz.func238
theorem aup:bv gl 239 Fb:=bw (dN 239 Tryz.f239 1 [.tmp 2] 0x10408101 1) Tryz.func239
theorem ahq:bv gl 240 vv:=bw (dN 240 Tryz.f240 1 [.tmp 2] 0x12023f80201bf82201bf832023f80201bf82 0x8040 [] [false]) Tryz.func240
theorem aiw:bv gl 241 CI:=bw (dN 241 Tryz.f241 1 [.cell 2 true 11] 0x12063f940804182 0x483100a020c40290620140310c00) Tryz.func241
theorem akX:bv gl 243 xp:=bw (dN 243 Tryz.f243 2 [.tmp 4] 1 0x420) Tryz.func243
theorem aCY:bv gl 245 xU:=bw (dN 245 Tryz.f245 2 [.cell 4 true 7] 0x4877fe50201081420108243020c183050c4c2060818206081820408443010a04203 0x2820c00000000000000000000000000000000000000008318004180806b0a4180e020800) Tryz.func245
theorem aFW:bv gl 246 zh:=bw (dN 246 Tryz.f246 3 [.cell 6 true 7] 0x429f0c102a610043810c04284 0x506210000000001cc300000000000000001840) Tryz.func246
end
end Go.Hf

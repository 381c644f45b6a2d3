import Derived.Test.YteehpeajjbkjnaaGreatDoorAk
import Derived.Test.YteehpeajjbkjnaaGreatDoorAh
import Derived.Test.YteehpeajjbkjnaaGreatDoorAj
import Derived.Test.YteehpeajjbkjnaaGreatDoorAa
set_option maxRecDepth 1000000
set_option linter.all false
noncomputable section
namespace Go.Hf
open Go.RowKit
section
open Go.Proofs
noncomputable section
def d13:bI:=bm 13 Tryz.f13 2 [.cell 4 true 11] 0x4284 1
def d14:bI:=bm 14 Tryz.f14 2 [.tmp 4] 0x108081850808185080818408081820804182 1
def d15:bI:=bm 15 Tryz.f15 1 [.cell 2 true 2] 0x4182 1
def d16:bI:=bm 16 Tryz.f16 0 [.tmp 0] 0x1206ff802053f81206bf852053f812053f81204ff862053f812053f8a2053f81206ff802053f80 0x118824 [] [false]
def d17:bI:=bm 17 Tryz.f17 0 [.tmp 0] 0x48c6fe048c5fe0c8c2fe088c0fe148bbfe148b6fe048b5fe0c8b2fe088b0fe108acfe088aafe088a8fe108a4fe0c8a1fe1089dfe10899fe10895fe08893fe0c890fe1088cfe0c889fe04888fe10884fe04883fe0c880fe0c87dfe0c87afe0c877fe0c874fe0c871fe0886ffe1086bfe0c868fe04867fe0c864fe0c861fe0885ffe0c85cfe0c859fe0c856fe04855fe0c852fe0c84ffe0884dfe0c84afe0c847fe0c844fe04843fe0c840fe0c83dfe0883bfe08839fe10835fe08833fe1082ffe0c82cfe0482bfe0c828fe08826fe0c823fe0c820fe0481ffe0c81cfe10818fe14813fe0c810fe0c80dfe144010e043010a042010604101231bf80 1
def d18:bI:=bm 18 Tryz.f18 0 [.tmp 0] 0x123c7f8323bbf8223b3f85239ff822397f852383f842373f85235ff822357f82234ff832343f82233bf83232ff822327f842317f82230ff832303f8322f7f8422e7f8322dbf8522c7f8222bff8222b7f8322abf83229ff89227bf822273f842263f82225bf83224ff822247f83223bf83222ff84221ff822217f83220bf8421fbf8221f3f8321e7f8421d7f8221cff8321c3f8421b3f8221abf84219bf822193f82218bf83217ff832173f842163f82215bf822153f85213ff822137f86211ff822117f842107f8520f3f8220ebf8220e3f8520cff8520bbf8220b3f8320a7f842097f842087f83207bf822073f85205ff832053f82204bf8b0e043010a04201060410123c7f80 1
def d23:bI:=bm 23 Tryz.f23 2 [.cell 4 true 11] 0x4284 1
def d27:bI:=bm 27 Tryz.f27 3 [.tmp 6,.tmp 7] 0x12033f82202bf850a04203 1
def d29:bI:=bm 29 Tryz.f29 2 [.tmp 4] 0x1143c80cfe085030e10182 0xd272735873054e6b025
def d30:bI:=bm 30 Tryz.f30 2 [.cell 4 true 11] 0x100042040e0c1820e241810e082810804182 0xb16a20c47
def d34:bI:=bm 34 Tryz.f34 0 [.tmp 0] 0x1200bf81200bf80 1
def d35:bI:=bm 35 Tryz.f35 0 [.tmp 0] 0x1200bf81200bf80 1
def d36:bI:=bm 36 Tryz.f36 1 [.cell 2 true 2] 0x4182 1
def d41:bI:=bm 41 Tryz.f41 0 [.cell 0 true 7] 0x4080 1
def d42:bI:=bm 42 Tryz.f42 1 [.cell 2 true 11] 0x10604101 1
def d43:bI:=bm 43 Tryz.f43 2 [.cell 4 true 11] 0x4284 1
def d44:bI:=bm 44 Tryz.f44 2 [.tmp 4] 1 0x128404
def d47:bI:=bm 47 Tryz.f47 1 [.cell 2 true 2] 0x4182 1
def d48:bI:=bm 48 Tryz.f48 0 [.tmp 0] 0x120bbf80207ff80000482efe0081ffe01003fe0482dfe0c820fe08820fe0482efe0081ffe000052083f822083f8120bbf80207ff80400ff81207bf8520bbf80207ff8000400022083f8520bbf80207ff80000482efe0081ffe00000 0x13982418824
def d49:bI:=bm 49 Tryz.f49 2 [.cell 4 true 11] 0x4811fe0880ffe1480afe142810804182 1
def d50:bI:=bm 50 Tryz.f50 4 [.cell 8 true 37] 0x12083f811404820fe0481ffe18820fe0450e14044811004386 0x2a4a025
def d51:bI:=bm 51 Tryz.f51 0 [.cell 0 true 11] 0x4080 1
def d52:bI:=bm 52 Tryz.f52 1 [.cell 2 true 11] 0x4182 1
def d53:bI:=bm 53 Tryz.f53 0 [.cell 0 true 11] 0x4080 1
def d54:bI:=bm 54 Tryz.f54 2 [.cell 4 true 11] 0x4809fe102810804182 1
def d55:bI:=bm 55 Tryz.f55 2 [.cell 4 true 11] 0x4808fe0c2810804182 1
def d56:bI:=bm 56 Tryz.f56 1 [.cell 2 true 11] 0x4833fe1482efe0c82bfe08829fe20821fe0881ffe18819fe14814fe2850112044010e043010a042010604101 1
def d57:bI:=bm 57 Tryz.f57 1 [.tmp 2,.cell 3 true 11] 0x480efe10101203bf810010101203bf83203bf81080480efe04101 0x120c24
def d58:bI:=bm 58 Tryz.f58 1 [.tmp 2] 0x120cff8120cff8120cbf822067f822067f8120cff842067f822067f8120cff852067f882067f932067f8220cff8120cff82 0x4c520c0620c04
def d60:bI:=bm 60 Tryz.f60 3 [.tmp 6] 0x1081c2040810203 1
def d61:bI:=bm 61 Tryz.f61 0 [.cell 0 true 11] 0x4080 1
def d62:bI:=bm 62 Tryz.f62 0 [.cell 0 true 7] 0x4080 1
def d63:bI:=bm 63 Tryz.f63 2 [.tmp 4] 1 0x128404
def d64:bI:=bm 64 Tryz.f64 2 [.tmp 4] 0x121b7f8121b7f8121b3f8c21b7fa520effb121b7f8521b7f810804182 0x162d492996a494a83944539444
def d65:bI:=bm 65 Tryz.f65 1 [.tmp 2,.tmp 3] 0x4103040c101 1
def d66:bI:=bm 66 Tryz.f66 1 [.tmp 2] 0x4101 1
def d67:bI:=bm 67 Tryz.f67 1 [.tmp 2] 0x400100140080004002 0x120c04
def d68:bI:=bm 68 Tryz.f68 1 [.tmp 2] 0x4101 1
def d72:bI:=bm 72 Tryz.f72 1 [.cell 2 true 7] 0x4182 1
def d74:bI:=bm 74 Tryz.f74 1 [.cell 2 true 7] 0x10604101 1
def d75:bI:=bm 75 Tryz.f75 1 [.cell 2 true 7] 0x4182 1
def d82:bI:=bm 82 Tryz.f82 3 [.tmp 6,.tmp 7] 0x458a 0x6d5a2026
def d83:bI:=bm 83 Tryz.f83 1 [.tmp 2] 1 1
def d84:bI:=bm 84 Tryz.f84 2 [.cell 4 true 11] 0x12043f810604810fe08810fe040020008810fe08810fe14810fe041812043f822043f810604810fe08810fe041811008810fe042820604001 0x19ca2520828 [15]
def d85:bI:=bm 85 Tryz.f85 2 [.cell 3 true 11] 0x1400ff8208041814007f81 1
def d88:bI:=bm 88 Tryz.f88 1 [.tmp 2] 0x41040408101 1
def d94:bI:=bm 94 Tryz.f94 1 [.tmp 2,.tmp 3] 0x1040c101 1
def d96:bI:=bm 96 Tryz.f96 1 [.tmp 2,.tmp 3] 0x410f0414101 0x129024
def d98:bI:=bm 98 Tryz.f98 3 [.tmp 6,.cell 7 true 2] 0x485ffe0485ffe0485efe04001217ff850004002000480100040010004f01003485ffe14f013c04f023c04f013c14f013c04f023c04f013c18f013c04f023c04f013c04f0814188011e0c85ffe04f011408401217ff86 0x15a8e4
def d99:bI:=bm 99 Tryz.f99 0 [.tmp 0] 0x1200ff82200ff80 1
def d100:bI:=bm 100 Tryz.f100 0 [.tmp 0] 1 1
def d101:bI:=bm 101 Tryz.f101 1 [.tmp 2,.tmp 3] 0x480efe1c101203bf812037f84040480efe0c80efe0880efe04101 0x9023
def d102:bI:=bm 102 Tryz.f102 3 [.cell 6 true 11,.tmp 7] 0x10010001000c00100040010008781000478400045011e040010e04305 1
def d103:bI:=bm 103 Tryz.f103 2 [.cell 4 true 7,.tmp 5] 0x4284 0x2620405
def d104:bI:=bm 104 Tryz.f104 0 [.tmp 0] 0x12053f812053f81204ff872053f892053f822053f80 0x118824 [] [false]
def d105:bI:=bm 105 Tryz.f105 2 [.cell 4 true 11] 0x4809fe102810804182 1
def d106:bI:=bm 106 Tryz.f106 1 [.tmp 2] 0x12067f82205ff80400ff81001010100101060410819fe00817fe01003fe04101 1 [] [false]
def d107:bI:=bm 107 Tryz.f107 1 [.tmp 2] 0x41030408101 1
def d108:bI:=bm 108 Tryz.f108 2 [.tmp 4] 0x4203 0x128c04
def d109:bI:=bm 109 Tryz.f109 2 [.tmp 4] 0x4203 0x128c04
def d110:bI:=bm 110 Tryz.f110 3 [.tmp 6,.tmp 7] 0x428208102020a1028820abf802093f80208bf8120a7f840804824fe00822fe08822fe44206080848220abf802093f80208bf820a04203 1
def d111:bI:=bm 111 Tryz.f111 2 [.tmp 4] 0x14007f80207bf80400ff8100142014007f80207bf80400ff860810201207bf80400ff812077f824007f80207bf80400ff85000481efe01003fe09001fe0081efe01003fe25001fe0081efe01003fe15001fe0081efe01003fe042034007f80207bf80400ff80 0x271808628c05 [] [false]
def d114:bI:=bm 114 Tryz.f114 3 [.cell 6 true 11] 0x1208ff820804823fe04822fe20201208ff860814206208ff810e043010a04203 0xa0e629067
def d115:bI:=bm 115 Tryz.f115 1 [.tmp 2] 1 1
def d117:bI:=bm 117 Tryz.f117 0 [.tmp 0] 0x481efe0881efe0481dfe0881efe3c808fe10808fe08304207bf81207bf80 0x2941c25 [] [false]
def d120:bI:=bm 120 Tryz.f120 1 [.tmp 2] 0x12023f80201bf82201bf832023f80201bf82 1 [] [false]
def d121:bI:=bm 121 Tryz.f121 3 [.tmp 6,.tmp 7] 0x428a0818283081028208202840814821fe04820fe102080814203180c4822087f820a04203 0x110fe217c41f9046
def d122:bI:=bm 122 Tryz.f122 2 [.tmp 4] 0x1000430008204020c08203 0x54941466
def d125:bI:=bm 125 Tryz.f125 2 [.cell 4 true 11] 0x4284 1
def d128:bI:=bm 128 Tryz.f128 1 [.tmp 2,.tmp 3] 0x4103040c101 1
def d129:bI:=bm 129 Tryz.f129 1 [.tmp 2] 0x41050410108042c10704101060414104040c101 0x422
def d130:bI:=bm 130 Tryz.f130 1 [.tmp 2,.tmp 3] 0x4103040c101 1
def d131:bI:=bm 131 Tryz.f131 2 [.tmp 4] 0x10004819fe0c1812067f912067f830008182 1
def d133:bI:=bm 133 Tryz.f133 0 [.tmp 0] 0x1206ff9a206ff80 1
def d138:bI:=bm 138 Tryz.f138 1 [.tmp 2,.cell 3 true 2] 0x120d3f8120cff8220d3f841624834fe00824fe04823fe10834fe505821210834fe0420120d3f802093f82 0x2520c05
def d140:bI:=bm 140 Tryz.f140 2 [.cell 4 true 7,.cell 5 true 2] 0x10004001000d001fe040022223f81000c00300046810004001000d001fe0400200043814007f814007f820005001fe05001fe05001fe080010e200010e200010e04001400ff814007f814007f814007f820005001fe05001fe05001fe0800100043814007f814007f820005001fe05001fe05001fe140010e05001fe05001fe080014007f814007f814007f8400040010e040010e05001fe05001fe080014007f814007f814007f840004386000438400043810005003fe040014007f814007f814007f81400ff814007f814007f814007f811a04602140400110043810c042844007f80 1
def d143:bI:=bm 143 Tryz.f143 1 [.tmp 2] 0x4101 1
def d144:bI:=bm 144 Tryz.f144 3 [.cell 6 true 11,.tmp 7] 0x12317f852317f81000c00100040010009001fe040012317f812313f8100048c5fe04003000400100040064007f81001c00100040034007f8a400ff814007f814007f814007f840005001fe29003fe05001fe05001fe05001fe0800100040034007f840005001fe71001fe900080a1c2880a24281000400134088c5fe0ca8226107821a0400312040010e082844007f80 0x1c5dac30808
def d145:bI:=bm 145 Tryz.f145 1 [.tmp 2] 0x4101 1
def d146:bI:=bm 146 Tryz.f146 1 [.tmp 2] 0x4101 1
def d147:bI:=bm 147 Tryz.f147 2 [.cell 4 true 11,.tmp 5] 0x10a04203 0x2620c05
def d148:bI:=bm 148 Tryz.f148 3 [.tmp 6,.tmp 7] 1 0x2810405
def d154:bI:=bm 154 Tryz.f154 4 [.cell 8 true 34,.tmp 9] 0x1000c00b00085861618586161000316600011a0858100044820e04305 1
def d155:bI:=bm 155 Tryz.f155 1 [.cell 2 true 2] 0x4182 1
def d156:bI:=bm 156 Tryz.f156 1 [.cell 2 true 11] 0x10c0c182 0x2628c45
def d160:bI:=bm 160 Tryz.f160 2 [.cell 4 true 11,.tmp 5] 0x4404101c4030a04203 0x54941066
def d161:bI:=bm 161 Tryz.f161 2 [.tmp 4] 0x40010020183060800200043840604001 0x3183c25
def d162:bI:=bm 162 Tryz.f162 3 [.tmp 4] 0x4815fe01003fe04814fe08201400ff850805003fe0c00208082014007f814007f81 1
def d163:bI:=bm 163 Tryz.f163 2 [.tmp 4] 0x4203 1
def d165:bI:=bm 165 Tryz.f165 2 [.cell 4 true 11] 0x10a08182 1
def d166:bI:=bm 166 Tryz.f166 1 [.tmp 2] 0x41040408101 1
def d167:bI:=bm 167 Tryz.f167 4 [.tmp 8] 0x4003400ff84400ff83400ff8c0005003fe20006400ff82 0xa92310407
def d173:bI:=bm 173 Tryz.f173 2 [.tmp 4,.tmp 5] 1 0x4c10102018403
def d174:bI:=bm 174 Tryz.f174 2 [.cell 4 true 5,.tmp 5,.cell 6 true 2] 0x44051004401102440a101840210a04811024409101440412044091020408102040f12044010e08284 1
def d175:bI:=bm 175 Tryz.f175 3 [.cell 6 true 2,.tmp 7] 0x448812184961208386 0x54830826
def d176:bI:=bm 176 Tryz.f176 2 [.cell 4 true 7,.cell 5 true 2] 0x10008002219bf82219bf87219bf814007f814007f820005001fe05001fe05001fe04866fe04865fe04001219bf81000c0011a0400100040024007f810008001161c00116080011604001400ff810005001fe05001fe05001fe05003fe05001fe05001fe05001fe04001000c001140400100040024007f810005001fe05001fe080014007f814007f814007f84219bf830005003fe05003fe040014007f814007f814007f81400ff814007f814007f814007f820005003fe05003fe040014007f814007f814007f81400ff814007f814007f814007f831a0460116045011204401219bf810c042844007f80 0x2d398a431cc520407
def d178:bI:=bm 178 Tryz.f178 1 [.tmp 2] 0x4101 1
def d181:bI:=bm 181 Tryz.f181 1 [.tmp 2] 0x10005001fe05001fe05001fe05001fe05001fe080014007f814007f814007f834007f80 1
def d182:bI:=bm 182 Tryz.f182 2 [.cell 4 true 15,.tmp 5] 0x10a04203 0x2620c05
def d183:bI:=bm 183 Tryz.f183 1 [.tmp 2] 0x41030408101 1
def d184:bI:=bm 184 Tryz.f184 2 [.cell 4 true 7,.tmp 5,.tmp 6] 0x486afe00861fe0085dfe087021c0c86afe00861fe0085dfe04869fe1486afe00861fe0085dfe087012187f802177f842177f8d1c247031c4c520220486afe00861fe0085dfe0870218085050a04203 1
def d185:bI:=bm 185 Tryz.f185 2 [.tmp 4,.tmp 5] 0x1400ff814007f814007f814007f82400ff81400ff81400ff82400ff814007f814007f814007f830005003fe05003fe09003fe05001fe05001fe05001fe15003fe05001fe05001fe05001fe142034007f80 0x130c04
def d186:bI:=bm 186 Tryz.f186 1 [.tmp 2] 0x4101 1
def d187:bI:=bm 187 Tryz.f187 1 [.tmp 2] 0x4101 1
def d188:bI:=bm 188 Tryz.f188 1 [.tmp 2] 0x10418106041810a0414105041c10504181040410101 0x9023
def d194:bI:=bm 194 Tryz.f194 1 [.tmp 2,.cell 3 true 11] 0x480efe10101203bf810010101203bf83203bf81080480efe04101 0x120c24
def d195:bI:=bm 195 Tryz.f195 3 [.tmp 6] 0x400100048ccfe01003fe048cbfe0c8012009003fe0400100040010014801201480d22a7f8100040010004002228ff81228bf821804601228ff841804601228ff84180460c0004001000400100040010004003000400100040010004001000400421cbf8021b7f81400ff810004001000486dfe0400100040010008867fe040010004001001000100040010004003000400100040010004001000400100040010018302000400100100010004001000400100103040c08301000400100103070c10302000400100040010004005000400100048021c08602228ff840c10001 0x963f2c3e57fcabf955f2a7ed385455fcaaf953f384c477c8df919f49c27
def d199:bI:=bm 199 Tryz.f199 2 [.tmp 4] 0x121a3f820e09003fe040010004001000400100040010004001216bf820c0c00100040080c1438c1208838fe243040810208082020808184820e04302080c000 0x218fc30f85ff31407
def d203:bI:=bm 203 Tryz.f203 3 [.tmp 6,.tmp 7] 0x100040010004004000881afe040010008001000400100048010004805000400120040010004305 1
def d204:bI:=bm 204 Tryz.f204 2 [.cell 4 true 11] 0x4808fe0c2810804182 1
def d208:bI:=bm 208 Tryz.f208 2 [.tmp 4] 0x4203 0x2838c05
def d209:bI:=bm 209 Tryz.f209 2 [.tmp 4] 0x4001400ff81400ff830005003fe05003fe10001400ff81400ff850005003fe05003fe0c001400ff81400ff8c0005003fe05003fe14001400ff81400ff850005003fe05003fe18001400ff81400ff900005003fe05003fe0c001400ff81400ff810005003fe05003fe10001400ff81400ff810005003fe05003fe08001400ff81400ff830005003fe38003400ff81 1
def d213:bI:=bm 213 Tryz.f213 1 [.cell 2 true 7] 0x4182 1
def d223:bI:=bm 223 Tryz.f223 1 [.tmp 2] 0x4101 1
def d226:bI:=bm 226 Tryz.f226 1 [.tmp 2] 1 1
def d227:bI:=bm 227 Tryz.f227 4 [.tmp 8] 1 1
def d229:bI:=bm 229 Tryz.f229 2 [.cell 4 true 2] 0x10618184061418606101820a08182 1
def d230:bI:=bm 230 Tryz.f230 1 [.tmp 2] 1 1
def d231:bI:=bm 231 Tryz.f231 2 [.tmp 4] 1 0x8403
def d233:bI:=bm 233 Tryz.f233 1 [.tmp 2,.tmp 3,.tmp 4] 1 0x13980431404
def d234:bI:=bm 234 Tryz.f234 1 [.tmp 2] 1 0x120c04
def d236:bI:=bm 236 Tryz.f236 2 [.cell 4 true 2,.tmp 5] 0x4284 0x2620405
def d238:bI:=bm 238 Tryz.f238 2 [.cell 4 true 7] 0x4284 1
def d239:bI:=bm 239 Tryz.f239 2 [.cell 4 true 7,.tmp 5] 0x48dafe088d8fe208d0fe288c6fe088c4fe448b3fe088b1fe288a7fe2489efe0889cfe28892fe4c87ffe8085ffe30853fe6483afe24831fe60819fe50284 1
def d240:bI:=bm 240 Tryz.f240 2 [.tmp 4] 0x41840618182 0x2731425
def d241:bI:=bm 241 Tryz.f241 2 [.tmp 4] 0x4182 0x2731425
def d243:bI:=bm 243 Tryz.f243 3 [.tmp 6] 0x1081c2040810203 1
def d244:bI:=bm 244 Tryz.f244 1 [.tmp 2] 0x12067f82205ff80400ff81001010100101060410819fe00817fe01003fe04101 1 [] [false]
def d245:bI:=bm 245 Tryz.f245 2 [.tmp 4] 0x4484121c3830e3c4820e0c203 0x3de6e7288d1394465
def d246:bI:=bm 246 Tryz.f246 1 [.cell 2 true 11] 0x10604101 1
def d247:bI:=bm 247 Tryz.f247 0 [.cell 0 true 7] 0x4080 1
def d248:bI:=bm 248 Tryz.f248 0 [.cell 0 true 7] 0x4080 1
def d249:bI:=bm 249 Tryz.f249 2 [.tmp 4] 0x4386 0x2941c25
def d253:bI:=bm 253 Tryz.f253 2 [.tmp 4] 0x10e0c203 0x2941c65
def d257:bI:=bm 257 Tryz.f257 1 [.tmp 2,.tmp 3] 0x10004284000428500042814007f8400042840004281000428500042814007f864007f864007f864007f864007f864007f840004284000428600042814007f8600042814007f852223f8100042814007f812213f8200042810004284000428600042814007f8600042814007f84219bf810005003fe040010a05003fe05003fe05003fe09003fe05001fe05001fe05001fe11003fe05003fe05003fe09003fe05001fe05001fe05001fe040010a0c0010a200010a05003fe05001fe05001fe05001fe10838fe144080004281400ff814007f814007f814007f8a000428400042810005001fe05001fe05001fe284030a080002213f80219bf8020e3f824007f80 1
def d258:bI:=bm 258 Tryz.f258 1 [.tmp 2] 1 0x2839865
def d259:bI:=bm 259 Tryz.f259 2 [.tmp 4] 0x40010014001 1
def d260:bI:=bm 260 Tryz.f260 1 [.tmp 2] 0x4101 1
def d261:bI:=bm 261 Tryz.f261 1 [.tmp 2] 0x4101 1
def d264:bI:=bm 264 Tryz.f264 2 [.tmp 4] 0x10005003fe05003fe14001400ff81400ff990005003fe05003fe14001400ff81400ff88400ff81 1
def d265:bI:=bm 265 Tryz.f265 1 [.cell 2 true 11] 0x10604101 1
def d266:bI:=bm 266 Tryz.f266 1 [.cell 2 true 7] 0x4182 1
def d267:bI:=bm 267 Tryz.f267 1 [.tmp 2] 0x410604101040408101 1
def d274:bI:=bm 274 Tryz.f274 1 [.tmp 2] 0x104181040408101 1
def d276:bI:=bm 276 Tryz.f276 1 [.cell 2 true 7] 0x4182 1
def d277:bI:=bm 277 Tryz.f277 2 [.cell 4 true 7] 0x4284 1
def d278:bI:=bm 278 Tryz.f278 4 [.cell 8 true 7] 0x482dfe28823fe2c818fe3c488 1
def d284:bI:=bm 284 Tryz.f284 1 [.cell 2 true 11] 0x10604101 1
def d285:bI:=bm 285 Tryz.f285 1 [.cell 2 true 7] 0x10604101 1
def d288:bI:=bm 288 Tryz.f288 1 [.cell 2 true 11] 0x10604101 1
def d291:bI:=bm 291 Tryz.f291 1 [.tmp 2,.tmp 3] 0x4850fe08850fe0484ffe08850fe14832fe00829fe5000220cbf8020a7f8120c7f8120bff8120bff8420cbf8020a7f8220cbf8020a7f8120a3f81209bf81209bf8420cbf8020a7f822073f842073f8c20047822143f83140448320cbf8020a7f832143f82 0x885f107e207d853779b29007 [] [] [(51,[4096,4098,8200,8201])]
def d306:bI:=bm 306 Tryz.f306 2 [.tmp 4] 0x4818fe08818fe04817fe08818fe10818fe244022063f812063f84 0x2c5a8a5
def d307:bI:=bm 307 Tryz.f307 2 [.tmp 4] 0x40050028001 0x2838405
def d308:bI:=bm 308 Tryz.f308 1 [.tmp 2] 0x4101 1
def d309:bI:=bm 309 Tryz.f309 1 [.tmp 2] 0x1041410704141070414105041c10604101040408101 1
def d311:bI:=bm 311 Tryz.f311 1 [.tmp 2] 1 1
def d312:bI:=bm 312 Tryz.f312 1 [.tmp 2] 1 1
def d313:bI:=bm 313 Tryz.f313 2 [.tmp 4] 0x40030020001000c001000c00e 1
def d314:bI:=bm 314 Tryz.f314 1 [.tmp 2] 1 1
def d315:bI:=bm 315 Tryz.f315 1 [.tmp 2] 1 1
def d316:bI:=bm 316 Tryz.f316 1 [.cell 2 true 7] 0x4182 1
def d317:bI:=bm 317 Tryz.f317 1 [.tmp 2] 1 1
def d319:bI:=bm 319 Tryz.f319 1 [.tmp 2] 0x10408101 1
def d323:bI:=bm 323 Tryz.f323 1 [.tmp 2] 1 0x8c03
def d331:bI:=bm 331 Tryz.f331 2 [.tmp 4] 1 1
def d333:bI:=bm 333 Tryz.f333 1 [.cell 2 true 2] 0x4182 1
def d334:bI:=bm 334 Tryz.f334 3 [.cell 6 true 7,.cell 7 true 2] 0x11004386 0x400020e620000
def d335:bI:=bm 335 Tryz.f335 0 [.tmp 0] 0x1200ff82200ff80 1 [] [false]
def d336:bI:=bm 336 Tryz.f336 1 [.tmp 2,.tmp 3] 0x480efe1c101203bf812037f84040480efe0c80efe0880efe04101 0x9023
def d337:bI:=bm 337 Tryz.f337 3 [.cell 6 true 11,.tmp 7] 0x10010002000c00200040010008784000400112040010e04305 1
def d339:bI:=bm 339 Tryz.f339 2 [.tmp 4,.tmp 5] 0x100080081018001 0x2a4a025
def d345:bI:=bm 345 Tryz.f345 2 [.tmp 4] 0x100042020004203 1
def d347:bI:=bm 347 Tryz.f347 2 [.tmp 4,.tmp 5] 0x448f1214203 1
def d364:bI:=bm 364 Tryz.f364 1 [.tmp 2] 0x4101 1
def d375:bI:=bm 375 Tryz.f375 1 [.tmp 2] 0x12023f80201bf82201bf832023f80201bf82 1 [] [false]
def d376:bI:=bm 376 Tryz.f376 2 [.tmp 4] 0x106201811014182 0x67289426
def d377:bI:=bm 377 Tryz.f377 1 [.tmp 2] 0x4101 1
def d378:bI:=bm 378 Tryz.f378 1 [.tmp 2] 0x4101 1
def d379:bI:=bm 379 Tryz.f379 2 [.tmp 4] 1 1
def d380:bI:=bm 380 Tryz.f380 1 [.tmp 2] 0x4101 1
def d383:bI:=bm 383 Tryz.f383 1 [.tmp 2] 1 1
def d386:bI:=bm 386 Tryz.f386 4 [.tmp 8] 0x12083f832083f812083f832083f892083f872083f8b2083f962083f812083f88 0xa92310407 [31]
def d391:bI:=bm 391 Tryz.f391 3 [.tmp 6,.tmp 7] 0x4838fe04833fe04838fe04837fe040011804838fe04833fe04832fe0400120cff82000c0010004982000c00118100011810833fe040012608001000498126186811804838fe04833fe0498120e3f8120cff86 0x152504
def d393:bI:=bm 393 Tryz.f393 1 [.tmp 2] 0x41040408101 1
def d394:bI:=bm 394 Tryz.f394 3 [.cell 6 true 11,.tmp 7] 0x4898fe14898fe04004000800100040024007f810008898fe04897fe040012263f81000c0010004001000d001fe040070004001000d001fe29003fe05001fe05001fe05001fe1d001fe1d003fe05001fe05001fe05001fe1d001fe21001fe38583167c2830a1400100040012c04a822263f822210682160c0010e082844007f80 0x90bf213e41fe4a30809
def d397:bI:=bm 397 Tryz.f397 2 [.tmp 3] 0x1000c1814007f81 1
def d410:bI:=bm 410 Tryz.f410 1 [.tmp 2] 0x4106042410604241020418107041010704281030408101 0x422
def d421:bI:=bm 421 Tryz.f421 2 [.tmp 4] 0x4010 0x2838405
def d429:bI:=bm 429 Tryz.f429 2 [.tmp 4] 1 1
def d433:bI:=bm 433 Tryz.f433 1 [.tmp 2] 0x1204ff820004301204ff81204bf810004813fe040011a046870c04813fe04681204ff82 0x9063
def d434:bI:=bm 434 Tryz.f434 1 [.cell 2 true 5] 0x4001400ff810005001fe05001fe05001fe05003fe05001fe05001fe05001fe041824007f80 1
def d436:bI:=bm 436 Tryz.f436 2 [.cell 4 true 7] 0x4001000d001fe05001fe05001fe080014007f814007f814007f8421a7f81000d001fe0d001fe05001fe080014007f814007f814007f86001c0010c04001400ff814007f814007f814007f82000430200043010005001fe05001fe05001fe05001fe05001fe080014007f814007f814007f8400043014007f814007f820005001fe05001fe05001fe100010c040010c05001fe05001fe080014007f814007f814007f83000430200100010c0c0010c100014007f8210040010c042844007f80 1
def d437:bI:=bm 437 Tryz.f437 1 [.tmp 2] 0x104141040408101 1
def d440:bI:=bm 440 Tryz.f440 2 [.cell 4 true 2,.tmp 5,.tmp 6] 0x10a04203 1
def d443:bI:=bm 443 Tryz.f443 2 [.tmp 4,.tmp 5] 0x5003fe05001fe05001fe05001fe0c001100c0011004001400ff84400ff814007f814007f814007f8110102034007f80 0x5ac58c06
def d452:bI:=bm 452 Tryz.f452 4 [.tmp 8] 0x42890a202840a1c284 1
def d454:bI:=bm 454 Tryz.f454 1 [.tmp 2] 0x4106041410604181050414101 0x41fff824
def d471:bI:=bm 471 Tryz.f471 2 [.tmp 4] 1 0x2a4a0e628409
def d476:bI:=bm 476 Tryz.f476 1 [.cell 2 true 5] 0x400100040014007f810005001fe1400108042024007f850004203000420108042024007f844007f814007f820005001fe05001fe05001fe042034c053090005001fe05001fe05001fe080014007f814007f814007f810005001fe05001fe05001fe040020005001fe040010005001fe05001fe05001fe040014007f8208041824007f80 1
def d478:bI:=bm 478 Tryz.f478 3 [.cell 6 true 2,.tmp 7] 0x4607124c6031208386 0x210fc20f83ff30827
def d479:bI:=bm 479 Tryz.f479 1 [.cell 2 true 7] 0x10804182 0x2418805
def d480:bI:=bm 480 Tryz.f480 2 [.cell 4 true 7] 0x4002000882dfe0882dfe1c82dfe05001fe05001fe080014007f814007f814007f8120b7f8120b3f810009001fe0482dfe080014007f8200040014007f810009001fe05001fe05001fe080014007f814007f814007f8420b7f8300040014007f8200040014007f830e0482dfe042844007f80 0x9cc5214c520406
def d486:bI:=bm 486 Tryz.f486 2 [.cell 4 true 15,.tmp 5] 0x400400040010004001080800100040020a04203 1
def d487:bI:=bm 487 Tryz.f487 1 [.tmp 2] 0x41012023f840408101 1
def d516:bI:=bm 516 Tryz.f516 1 [] 0x5001fe040014007f810005001fe05001fe0c0014007f814007f814007f820005001fe05001fe05001fe080014007f814007f814007f850005001fe05001fe05001fe040014007f814007f814007f830005001fe05001fe05001fe040014007f814007f814007f824007f814007f820005001fe05001fe05001fe100014007f814007f814007f810005001fe05001fe05001fe080014007f834007f80 0x402
def d517:bI:=bm 517 Tryz.f517 1 [.tmp 2] 0x10005001fe05001fe05001fe040014007f814007f814007f834007f80 1
def d519:bI:=bm 519 Tryz.f519 1 [] 0x4105041010304101040408101 1
def d520:bI:=bm 520 Tryz.f520 1 [.tmp 2] 1 1
def d521:bI:=bm 521 Tryz.f521 3 [.cell 6 true 5] 0x100080010a100010a100010a042810a2428400042880a140010a0428800080010a040014007f830005001fe05001fe05001fe040014007f814007f814007f820a09001fe0c0014007f814007f814007f810005001fe05001fe05001fe100014007f814007f814007f820005001fe0c0014007f814007f814007f810a042824007f814007f820005001fe05001fe05001fe040014007f840e082844007f80 1
def d522:bI:=bm 522 Tryz.f522 1 [.tmp 2] 0x10005001fe05001fe05001fe040010005001fe05001fe05001fe05001fe05001fe080014007f814007f814007f840005001fe05001fe05001fe040014007f814007f814007f8100040014007f810005001fe05001fe05001fe040034007f80 0x8c03
def d523:bI:=bm 523 Tryz.f523 2 [.cell 4 true 2,.tmp 5] 0x4407100c284 0x54941026
def d524:bI:=bm 524 Tryz.f524 2 [.cell 4 true 7] 0x4808fe04808fe0c2810804182 1
def d527:bI:=bm 527 Tryz.f527 2 [.tmp 4] 1 1
def d541:bI:=bm 541 Tryz.f541 2 [.tmp 4] 1 1
def d559:bI:=bm 559 Tryz.f559 2 [.tmp 4] 1 1
def d560:bI:=bm 560 Tryz.f560 2 [.tmp 4] 1 1
def d561:bI:=bm 561 Tryz.f561 2 [.tmp 4] 0x10005001fe05001fe05001fe040014007f814007f814007f854007f80 1
def d564:bI:=bm 564 Tryz.f564 1 [.tmp 2,.tmp 3,.tmp 4] 1 1
def d565:bI:=bm 565 Tryz.f565 2 [.tmp 4] 0x1000401f0c04004 1
def d567:bI:=bm 567 Tryz.f567 2 [.tmp 4] 1 0x2838405
def d585:bI:=bm 585 Tryz.f585 2 [.tmp 4] 1 1
def d597:bI:=bm 597 Tryz.f597 2 [.tmp 4] 1 33
def d598:bI:=bm 598 Tryz.f598 2 [.tmp 4] 1 1
def d599:bI:=bm 599 Tryz.f599 2 [.tmp 4,.tmp 5,.tmp 6] 1 1
def d600:bI:=bm 600 Tryz.f600 1 [.tmp 2] 1 1
def d603:bI:=bm 603 Tryz.f603 1 [.cell 2 true 256,.tmp 3] 0x10644182 0x120804
def d604:bI:=bm 604 Tryz.f604 2 [.tmp 4] 0x4003001c001 0x8403
def d605:bI:=bm 605 Tryz.f605 2 [.tmp 4] 0x4006001c001 0x8403
def d616:bI:=bm 616 Tryz.f616 2 [.tmp 4] 1 1
def d629:bI:=bm 629 Tryz.f629 2 [.tmp 4,.tmp 5,.tmp 6] 1 1
def d630:bI:=bm 630 Tryz.f630 2 [.tmp 4] 0x10005001fe05001fe09001fe040044007f80 1
end
end
section
variable{a b:Int}{c d:ao}{n sz i:Nat}{cs:az}{ob:dE}{es:bg}
section
variable[Tok]
theorem jp{f:ao->ay}{a:ao}:b0 [a] (λc l=>dF l (f c))=f a:=rfl
theorem ep{f:ao->ao->ay}{a:ao}:b0 [a,c] (λc l=>b0 l λd l=>dF l (f c d))=f a c:=rfl
theorem iY{f:ao->ao->ao->ay}{a:ao}:b0 [a,c,d] (λc l=>b0 l λd l=>b0 l λe l=>dF l (f c d e))=f a c d:=rfl
theorem Ek{f:ao->ao->ao->ao->ay}{a e:ao}:b0 [a,c,d,e] (λc l=>b0 l λd l=>b0 l λe l=>b0 l λg l=>dF l (f c d e g))=f a c d e:=rfl
theorem ni{α:Sort _}{a b:α}(h:a=b):a=b:=h
@[irreducible] def aA (c:Int):ao:= .ag .i64 (c+18446744073709551616).toNat
theorem db(c:Int):aA c= .ag .i64 (c+18446744073709551616).toNat:=by unfold aA;rfl
theorem eT(a b:Nat):Nat.ble a b=decide (a<=b):=by rw[n0,Nat.ble_eq,nB]
theorem Qd(a b:Nat):Nat.beq a b=decide (a=b):=by rw[n0,k9,nB]
theorem da(a b:ay):bB true a b=a:=ni rfl
theorem Qg(a b:ay):bB false a b=b:=ni rfl
theorem bw(a b:ay):bp (.U true) a b=a:=ni rfl
theorem bc(a b:ay):bp (.U false) a b=b:=ni rfl
theorem q7(q:IntKind)(a:Nat)(f:IntKind->Nat->ay):mT (.ag q a) f=f q a:=rfl
theorem Af(q:IntKind)(a:Nat)(f:IntKind->Nat->ay)(g:Nat->Nat->ay):yk (.ag q a) f g=f q a:=rfl
theorem Gr:pn .i64 .i64=true:=rfl
theorem Le(f:Nat->Nat->Bool)(g:Nat->Nat->Nat->Nat->Bool)(a b:Nat)(k:ao->ay):uv f g (.ag .i64 a) (.ag .i64 b) k=k (.U (f a b)):=by unfold uv;rw[Af,q7,Gr,da]
theorem cz(e: -18446744073709551616<=a:=by omega)(g: -18446744073709551616<=b:=by omega)(k:ao->ay):fi (aA a) (aA b) k=k (.U (decide (a<b))):=by unfold fi;rw[db,db,Le,eT];congr 2;exact sw.2 (by omega)
theorem i1(e: -18446744073709551616<=a:=by omega)(g: -18446744073709551616<=b:=by omega)(k:ao->ay):mQ (aA a) (aA b) k=k (.U (decide (b<a))):=by unfold mQ;rw[db,db,Le,eT];congr 2;exact sw.2 (by omega)
theorem lR(e: -18446744073709551616<=a:=by omega)(g: -18446744073709551616<=b:=by omega)(k:ao->ay):p0 (aA a) (aA b) k=k (.U (decide (b<=a))):=by unfold p0;rw[db,db,Le,eT];congr 2;exact sw.2 (by omega)
theorem p1(e: -18446744073709551616<=a:=by omega)(g: -18446744073709551616<=b:=by omega)(k:ao->ay):tc (aA a) (aA b) k=k (.U (decide (a<=b))):=by unfold tc;rw[db,db,Le,eT];congr 2;exact sw.2 (by omega)
theorem cd(e: -18446744073709551616<=a:=by omega)(g: -18446744073709551616<=b:=by omega)(k:ao->ay):cj (aA a) (aA b) k=k (.U (decide (a=b))):=by unfold cj;rw[db,db,Af,q7,Gr,da,Qd];congr 2;exact sw.2 (by omega)
theorem K2{c:Int}(e: -9223372036854775808<=c)(g:c<9223372036854775808):zR .i64 (c+18446744073709551616).toNat=true:=by rw[xV];simp only[mP,C0,GD,cC,Nat.ble_eq];constructor<;>omega
theorem fV(j: -18446744073709551616<=a:=by omega)(l: -18446744073709551616<=b:=by omega)(g: -9223372036854775808<=a+b:=by omega)(h:a+b<9223372036854775808:=by omega)(k:ao->ay):dT (aA a) (aA b) k=k (aA (a+b)):=by
 unfold dT;rw[db,db,Af,q7,Gr,da,fN];have e:Nat.sub (Nat.add (a+18446744073709551616).toNat (b+18446744073709551616).toNat) 18446744073709551616=(a+b+18446744073709551616).toNat:=by rw[sv,h5];omega
 rw[e,K2 g h,da,db]
theorem g5(j: -18446744073709551616<=a:=by omega)(l: -18446744073709551616<=b:=by omega)(g: -9223372036854775808<=a-b:=by omega)(h:a-b<9223372036854775808:=by omega)(k:ao->ay):gU (aA a) (aA b) k=k (aA (a-b)):=by
 unfold gU;rw[db,db,q7,q7,Gr,da,fN,eT];have e:Nat.sub (Nat.add (a+18446744073709551616).toNat 18446744073709551616) (b+18446744073709551616).toNat=(a-b+18446744073709551616).toNat:=by rw[sv,h5];omega
 rw[e,K2 g h,da,db,dJ (by rw[h5];omega),da]
theorem dR(f g:ay):cZ (.U true) true f g=f:=ni rfl
theorem gB(f g:ay):cZ (.U false) true f g=g:=ni rfl
theorem gf(f g:ay):cZ (.U true) false f g=g:=ni rfl
theorem cV(f g:ay):cZ (.U false) false f g=f:=ni rfl
theorem cA(a b:ao)(k:ao->ay):cS (.U true) a b k=k a:=ni rfl
theorem ch(a b:ao)(k:ao->ay):cS (.U false) a b k=k b:=ni rfl
theorem e1(a:Bool)(k:ao->ay):gr (.U a) k=k (.U (!a)):=by cases a<;>rfl
theorem aP(b:Nat)(rk:List Nat)(a:ay):met b rk [] a=a:=ni rfl
theorem be{b:Nat}{rk:List Nat}{x:ao}(h:k3 b rk x=true:=by first|exact(Sb ‹_›)|exact(aca _ _ _)|exact(ars _ _ _ _)|exact(Sc _ _ _ _)|exact(kB _ _ _))(xs:az)(a:ay):met b rk (x::xs) a=met b rk xs a:=by have e:met b rk (x::xs) a=bB (k3 b rk x) (met b rk xs a) .aF:=rfl;rw[e,h,da]
theorem aca(b:Nat)(rk:List Nat)(c:Int):k3 b rk (aA c)=true:=by rw[db];rfl
theorem ab6(b:Nat)(rk:List Nat)(q s o l:Nat):k3 b rk (.aV q s o l)=e3 rk (ir b q):=rfl
theorem arq(b:Nat)(rk:List Nat)(q s o:Nat):k3 b rk (.aQ q s o)=e3 rk (ir b q):=rfl
theorem Sc(b:Nat)(rk:List Nat)(sz:Nat)(es:bg):k3 b rk (.aN sz es)=true:=rfl
theorem ars(b:Nat)(rk:List Nat)(cs:az)(o:Nat):k3 b rk (.gk cs o)=true:=rfl
theorem ab7(b:Nat)(rk:List Nat):k3 b rk .ba=true:=rfl
theorem G6{α:Type}{l:List α}{x:α}(h:l[n]? =some x)(f:α->ay):qb n l f=f x:=by unfold qb;rw[xE];obtain⟨e,rfl⟩:=g8.1 h;rw[sy e];rfl
theorem uO(s e sz:Nat)(es:bg)(r:Bool)(f:Nat->Nat->Nat->bg->Bool->ay):lq (.aV s e sz es r) f=f s e sz es r:=ni rfl
theorem aU(h:cs.length=n:=by first|assumption|rfl)(k:ao->ay):me true n cs 0 k=k (.agg cs):=by subst h;have e:me true cs.length cs 0 k=bB (c7 (Nat.beq 0 0) (Nat.beq cs.length (eJ cs))) (k (.agg cs)) (bB (Nat.ble (Nat.add 0 cs.length) (eJ cs)) (k (.agg (wl cs.length (mb 0 cs)))) .aF):=rfl;rw[e,hY,gV,fI,fI];rfl
theorem GR{q s e len:Nat}{r:Bool}(h:ob q= .aV s e sz es r:=by repeat first|assumption|with_reducible first|exact ec|exact hX|exact kk|exact t|apply gn|refine fZ ?_|refine fS ?_|refine fJ ?_|refine ic ?_|refine kT ?_|refine lB ?_|refine u ?_|refine w ?_|decide)(hi:i<len:=by omega)(k:ao->ay):
 de ob sz (.aV q s 0 len) (aA i) k=k (.eP q s i 0):=by
 rw[db];have g:de ob sz (.aV q s 0 len) (.ag .i64 ((i:Int)+18446744073709551616).toNat) k=lq (ob q) λl _ o _ _=>bB (Nat.beq s l) (bB (Nat.beq o sz) (bB (Nat.ble 18446744073709551616 ((i:Int)+18446744073709551616).toNat) (bB (Nat.blt (Nat.sub ((i:Int)+18446744073709551616).toNat 18446744073709551616) len)
  (gc (Nat.add 0 (Nat.sub ((i:Int)+18446744073709551616).toNat 18446744073709551616)) λj=>k (.eP q s j 0)) .aF) .aF) .aF) .aF:=rfl
 have p:Nat.sub ((i:Int)+18446744073709551616).toNat 18446744073709551616=i:=by rw[sv];omega
 rw[g,h,uO,fI,da,fI,da,p,eT,bM,da,m9,dJ hi,da,fN,h5,ou]
theorem fH(hi:es[i]? =some cs:=by assumption)(k:ao->ay):de ob sz (.aN sz es) (aA i) k=k (.gk cs 0):=by
 rw[db];have e:de ob sz (.aN sz es) (.ag .i64 ((i:Int)+18446744073709551616).toNat) k=bB (Nat.beq sz sz) (bB (Nat.ble 18446744073709551616 ((i:Int)+18446744073709551616).toNat) (qb (Nat.sub ((i:Int)+18446744073709551616).toNat 18446744073709551616) es λcs=>k (.gk cs 0)) .aF) .aF:=rfl;have g:Nat.sub ((i:Int)+18446744073709551616).toNat 18446744073709551616=i:=by rw[sv];omega
 rw[e,fI,da,g,eT,bM,da,G6 hi]
end
end
section
variable{b q:Nat}{o:eQ}{α:Type}
section
variable[Tok]
theorem z2{wk:Option (List Nat)}{v:ao}{h:aO}(a:ke b wk [(q,o)]=true)(c:q<h.ax)(k:dv):lJ b wk (some (v,[(q,o)])) h k=k v (h.g1 b q (.ae o)):=by have d:lJ b wk (some (v,[(q,o)])) h k=bB (ke b wk [(q,o)]) (bB (Nat.ble (Nat.succ q) h.ax) (k v (h.g1 b q (.ae o))) .aF) .aF:=rfl;rw[d,a,da,eT,dJ (DU c),da]
theorem MR{l:List Nat}(h:e3 l (ir b q)=true):ke b (some l) [(q,o)]=true:=by have e:ke b (some l) [(q,o)]=c7 (e3 l (ir b q)) true:=rfl;rw[e,h];rfl
theorem a6{ob:dE}{cs:az}(h:cg cs=true:=by first|assumption|rfl)(f:gI):bi ob (.agg cs) f=f (.agg cs) []:=by have e:bi ob (.agg cs) f=bB (cg cs) (f (.agg cs) []) (jV ob cs λa us=>f (.agg a) us):=rfl;rw[e,h,da]
theorem aq(l:List α):aZ [] l=l:=by rw[kU];rfl
theorem Uy(l:List α):aZ l []=l:=by rw[kU,qy]
end
end
section
variable{b d q n s off e sz i:Nat}{h:aO}{o:fb}{wk:Option (List Nat)}{cs x:az}{v:ao}{ob:dE}{isAgg r:Bool}{es:bg}
section
variable[Tok]
structure IM (b:Nat) (S:List Nat) (h h':aO):Prop where
 ax:h'.ax=h.ax
 ck:h'.ck=h.ck
 am:∀k,(∀d∈S,k≠b+d)->h'.am k=h.am k
theorem IM.g1(hd:b+d<h.ax):IM b [d] h (h.g1 b (b+d) o):=by refine⟨aO.lY,?_,λk a=>?_⟩;obtain⟨ub,s,dd⟩:=h;show @Bool.rec (λ_=>List Nat) dd ((b+d)::dd) (Nat.blt (b+d) b)=dd;rw[m9,bA];rw[aO.mu hd];have:=a d (by simp);simp[Go.Hf.dk,this]
theorem nv(a:q<h.ax):(h.g1 b q o).am q=o.aj:=by rw[aO.mu a];simp[Go.Hf.dk]
theorem uC(a:ke b wk [(q,o.aj)]=true)(c:q<h.ax)(k:aO->ay):nP b wk q o h k=k (h.g1 b q o):=by unfold nP;rw[a,da,eT,dJ (DU c),da]
theorem kC(b:Nat)(us:fk):ke b none us=true:=rfl
theorem YT(hd:d<4096):ir b (b+d)=d:=by rw[uf];unfold gj;rw[if_pos ⟨by omega,by omega⟩];omega
theorem HU{o:eQ}{l:List Nat}(hd:d<4096)(h:e3 l d=true):ke b (some l) [(b+d,o)]=true:=MR (by rw[YT hd];exact h)
theorem z1{new:az}(ho:h.am q= .box s cs)(a:new.length=n)(c:off+n<=cs.length)(g:∀o,ke b wk [(q,o)]=true)(j:q<h.ax)(k:dv):
 bl b wk n (.aQ q s off) (.agg new) h k=k .undef (h.g1 b q (.ae (.box s (cs.take off++new++cs.drop (off+n))))):=by
 have e:bl b wk n (.aQ q s off) (.agg new) h k=mS (h.am q) λl cs=>bB (Nat.beq s l) (bB (Nat.beq (eJ new) n) (bB (Nat.ble (Nat.add off n) (eJ cs)) (mr (yo off cs new) λhu=>nP b wk q (.ae (.box s hu)) h λh'=>k .undef h') .aF) .aF) .aF:=rfl;have p:∀f:Nat->az->ay,mS (.box s cs) f=f s cs:=λ_=>rfl;rw[e,ho,p,fI,da,gV,a,fI,da,gV,eT,dJ (by rw[h5];exact c),da,ms,Dk,a,uC (g _) j]
theorem dG(h:off+n<=cs.length)(k:ao->ay):me true n cs off k=k (.agg ((cs.drop off).take n)):=by
 have e:me true n cs off k=bB (c7 (Nat.beq off 0) (Nat.beq n (eJ cs))) (k (.agg cs)) (bB (Nat.ble (Nat.add off n) (eJ cs)) (k (.agg (wl n (mb off cs)))) .aF):=rfl;rw[e,hY,gV];cases a:(Nat.beq off 0&&Nat.beq n cs.length) with
 |true=>simp only[cC,k9]at a;obtain⟨rfl,rfl⟩:=a;rw[da];simp
 |false=>rw[Qg,eT,dJ (by rw[h5];exact h),da,MK,xE]
theorem aL(h:cs[off]? =some v:=by first|assumption|exact rfl)(k:ao->ay):me false n cs off k=k v:=G6 h k
theorem acS(s:Nat)(cs:az)(f:Nat->az->ay):mS (.box s cs) f=f s cs:=ni rfl
theorem av(ho:ob q= .box s cs:=by repeat first|assumption|with_reducible first|exact ec|exact hX|exact kk|exact c|apply gn|refine fZ ?_|refine fS ?_|refine fJ ?_|refine ic ?_|refine kT ?_|refine lB ?_|refine g ?_|refine j ?_|decide)(k:ao->ay):bh ob isAgg n (.aQ q s off) k=me isAgg n cs off k:=by have e:bh ob isAgg n (.aQ q s off) k=mS (ob q) λa cs=>bB (Nat.beq s a) (me isAgg n cs off k) .aF:=rfl;rw[e,ho,acS,fI,da]
theorem cI(ob:dE)(isAgg:Bool)(n off:Nat)(cs:az)(k:ao->ay):bh ob isAgg n (.gk cs off) k=me isAgg n cs off k:=ni rfl
theorem aby(h:ob q= .aV s e sz es r:=by repeat first|assumption|with_reducible first|exact ec|exact hX|exact kk|exact g|apply gn|refine fZ ?_|refine fS ?_|refine fJ ?_|refine ic ?_|refine kT ?_|refine lB ?_|refine j ?_|refine l ?_|decide)(hi:es[i]? =some cs:=by assumption)(k:ao->ay):
 bh ob isAgg n (.eP q s i off) k=me isAgg n cs off k:=by
 have a:bh ob isAgg n (.eP q s i off) k=lq (ob q) λc _ _ es _=>bB (Nat.beq s c) (qb i es λcs=>me isAgg n cs off k) .aF:=rfl;rw[a,h,uO,fI,da,G6 hi]
theorem aH(o q s off:Nat)(k:ao->ay):bz o (.aQ q s off) k=k (.aQ q s (off+o)):=ni rfl
theorem iQ(o off:Nat)(cs:az)(k:ao->ay):bz o (.gk cs off) k=k (.gk cs (off+o)):=ni rfl
def bf(u:Fn)(f:Nat)(ps:az)(r:ao):Prop:=∃aC d,u f ps 0 .nil= .ok r 0 aC d
theorem a0{u:Fn}{f:Nat}{ps:az}{r:ao}(H:bf u f ps r:=by assumption)(h:aO)(k:dv):cm u b wk f ps [] h k=k r h:=by obtain⟨aC,d,e⟩:=H;have a:cm u b wk f ps [] h k=bB (ke b wk []) (zY b [] h k (u f ps 0 .nil)) .aF:=rfl;have c:zY b [] h k (.ok r 0 aC d)=k r h:=rfl;rw[a,aeC,da,e,c]
theorem GO{vs:az}(h:vs[i]? =some v)(a:∀r,vs≠ .undef::r)(c:vs≠[])(k:ao->ay):cP (.bD vs) i k=k v:=by
 have e:cP (.bD vs) i k=LO vs (qb i vs k):=rfl;rw[e,G6 h];cases vs with
 |nil=>exact absurd rfl c
 |cons y r=>cases y<;>first|rfl|exact absurd rfl (a r)
theorem RH(a:x.length=n)(c:off+n<=cs.length:=by simp)(f:az->ay):eu off n (.agg x) cs f=f (cs.take off++x++cs.drop (off+n)):=by have e:eu off n (.agg x) cs f=bB (Nat.beq (eJ x) n) (bB (Nat.ble (Nat.add off n) (eJ cs)) (f (yo off cs x)) .aF) .aF:=rfl;rw[e,gV,a,fI,da,gV,eT,dJ (by rw[h5];exact c),da,Dk,a]
theorem iZ(cs:az)(k:ao->ay):fO cs k=k (.agg cs):=by unfold fO;rw[ms]
theorem Lc(cs:az)(f:az->ay):oh (.agg cs) f=f cs:=ni rfl
theorem jB{z:az}(a:cg x=true:=by assumption)(c:x.length=sz:=by assumption)(f:bg->fk->ay):eo ob sz 0 (.agg x) (eF 1 z) f=f [x] []:=by have e:eo ob sz 0 (.agg x) (eF 1 z) f=bi ob (.agg x) λq gE=>oh q λnew=>bB (Nat.beq (eJ new) sz) (bB (Nat.blt 0 (eJ (eF 1 z))) (f (wh (eF 1 z) 0 new) gE) .aF) .aF:=rfl;rw[e,a6 a,Lc,gV,c,fI,da];rfl
theorem abE{o:eQ}(a:ke b wk [(q,o)]=true)(c:q<h.ax)(k:aO->ay):px b wk [(q,o)] h k=k (h.g1 b q (.ae o)):=by have e:px b wk [(q,o)] h k=bB (ke b wk [(q,o)]) (bB (Nat.ble (Nat.succ q) h.ax) (k (h.g1 b q (.ae o))) .aF) .aF:=rfl;rw[e,a,da,eT,dJ (DU c),da]
theorem Ah(es:bg):mU es 0 es.length=es:=by rw[Di];simp[part]
theorem Dg(h:o.aj= .aV s e sz es r)(f:Nat->Nat->Nat->bg->Bool->ay):uP o f=f s e sz es.reverse r:=by
 cases o with
 |ae o=>have h':o= .aV s e sz es r:=h;subst h';show f s e sz (rd es) r=_;rw[yw]
 |o6 a e' c rs g=>have h':eQ.aV a e' c (rd rs) g= .aV s e sz es r:=h;simp only[eQ.aV.injEq]at h';obtain⟨rfl,rfl,rfl,rfl,rfl⟩:=h';rw[yw,yN];rfl
theorem CR(ob:dE)(sz:Nat)(es:bg)(f:bg->ay):i0 ob sz (.aN sz es) f=f es:=by have e:i0 ob sz (.aN sz es) f=bB (Nat.beq sz sz) (f es) .aF:=rfl;rw[e,fI,da]
theorem abl(ho:ob q= .aV s e sz es r)(f:bg->ay):i0 ob sz (.aV q s 0 es.length) f=f es:=by have a:i0 ob sz (.aV q s 0 es.length) f=lq (ob q) λc _ g ea _=>bB (Nat.beq s c) (bB (Nat.beq g sz) (bB (Nat.ble (Nat.add 0 es.length) (eJ ea)) (f (mU ea 0 es.length)) .aF) .aF) .aF:=rfl;rw[a,ho,uO,fI,da,fI,da,gV,eT,dJ (by rw[h5];omega),da,Ah]
theorem li(k:ao->ay):cv false .ba k=k (aA 0):=by rw[db];rfl
theorem z0(q s o len:Nat)(k:ao->ay):cv false (.aV q s o len) k=k (aA len):=by rw[db];have e:cv false (.aV q s o len) k=k (.ag .i64 (Nat.add 18446744073709551616 len)):=rfl;rw[e];congr 2;rw[h5];omega
theorem gC(sz:Nat)(es:bg)(k:ao->ay):cv false (.aN sz es) k=k (aA es.length):=by rw[db];have e:cv false (.aN sz es) k=gc (Nat.add 18446744073709551616 (eJ es)) λn=>k (.ag .i64 n):=rfl;rw[e,fN,gV];congr 2;rw[h5];omega
end
end
theorem vX(a b n:Nat)(f:gZ->gZ):lK a b (n+1) f=f (lK a b n f):=rfl
theorem oW(a b c n:Nat)(f:n1->n1):ji a b c (n+1) f=f (ji a b c n f):=rfl
theorem jt(a b c d n:Nat)(f:iF->iF):gd a b c d (n+1) f=f (gd a b c d n f):=rfl
theorem iz(a b c d e n:Nat)(f:lA->lA):fm a b c d e (n+1) f=f (fm a b c d e n f):=rfl
theorem ti(a b c d e g n:Nat)(f:rB->rB):k1 a b c d e g (n+1) f=f (k1 a b c d e g n f):=rfl
theorem Lw(a b c d e g h i n:Nat)(f:vg->vg):uG a b c d e g h i (n+1) f=f (uG a b c d e g h i n f):=rfl
section
variable[Tok]
theorem b7:(bt:ao)=aA 0:=by rw[db];rfl
theorem b8:(br:ao)=aA 1:=by rw[db];rfl
theorem aO.rl{b q:Nat}{h:aO}{o:fb}:∀k∈(h.g1 b q o).ck,k∈h.ck\/k=q:=by
 intro k a;obtain⟨ub,s,d⟩:=h;change k∈ @Bool.rec (λ_=>List Nat) d (q::d) (Nat.blt q b) at a;cases c:Nat.blt q b with
 |true=>rw[c]at a;exact(e9.1 a).symm
 |false=>rw[c]at a;exact .inl a
section
variable{b:Nat}{h:aO}{q s e sz:Nat}{es:bg}
end
end
section
variable[Tok]
theorem r3{b k:Nat}(aC:cD)(a:k<b):(bN b aC).am k=b9 b aC k:=by show b9 (b+4096) (.cons b .nil aC) k=b9 b aC k;rw[h7,h7 a];show(@Bool.rec (λ_=>fb) (aC.get k) (kR.get .nil k) (Nat.ble b k)).aj=_;rw[eT,bA]
theorem xI{b:Nat}:∀{l:List Nat}{k:Nat},k∈fA b l->k∈l
 |j::r,k,h=>by
  have e:fA b (j::r)= @Bool.rec (λ_=>List Nat) (fA b r) (j::fA b r) (Nat.ble (Nat.succ j) b):=rfl;rw[e]at h;cases a:Nat.ble (Nat.succ j) b with
  |true=>rw[a]at h;exact(e9.1 h).elim (λh=>by rw[h];exact fQ) λh=>ii _ (xI h)
  |false=>rw[a]at h;exact ii _ (xI h)
end
section
variable{α:Type} [Inhabited α]
end
section
variable[Tok]
theorem ei(ob:dE)(c:Int)(f:gI):bi ob (aA c) f=f (aA c) []:=by rw[db];rfl
theorem eL{a b:Int}(c: -18446744073709551616<=a:=by omega)(d: -18446744073709551616<=b:=by omega)(k:ao->ay):gJ (aA a) (aA b) k=k (.U (decide (a≠b))):=by unfold gJ;rw[db,db,Af,q7,Gr,da,Qd,Da,<-decide_not];congr 2;exact sw.2 (by omega)
end
section
variable[Tok]
theorem nR(v:ao)(k:ao->ay):dj (some v) k=k v:=ni rfl
end
section
variable{rk:List Nat}{d:Nat}
structure afF where
 aa:Nat
 af:Rat
abbrev axU:=List afF
section
variable[Tok]
theorem ab5(b:Nat)(rk:List Nat):∀{cs:az},cg cs=true->v1 b rk cs=true
 |[],_=>rfl
 |c::r,h=>by
  have a:cg r=true/\v1 b rk (c::r)=v1 b rk r:=by cases c<;>first|exact⟨h,rfl⟩|exact absurd h (by intro h;cases h)
  rw[a.2,ab5 b rk a.1]
theorem Sb{b:Nat}{cs:az}(h:cg cs=true):k3 b rk (.agg cs)=true:=ab5 b rk h
theorem ab8{b:Nat}(hd:d<4096)(h:e3 rk d=true):e3 rk (ir b (b+d))=true:=by rw[YT hd];exact h
theorem aru{b:Nat}(hd:d<4096:=by omega)(h:e3 rk d=true:=by exact rfl)(s o l:Nat)(xs:az)(z:ay):met b rk (.aV (b+d) s o l::xs) z=met b rk xs z:=be (show k3 b rk (.aV (b+d) s o l)=true by rw[ab6];exact ab8 hd h) xs z
theorem arv{b:Nat}(hd:d<4096:=by omega)(h:e3 rk d=true:=by exact rfl)(s o:Nat)(xs:az)(z:ay):met b rk (.aQ (b+d) s o::xs) z=met b rk xs z:=be (show k3 b rk (.aQ (b+d) s o)=true by rw[arq];exact ab8 hd h) xs z
section
variable{u:Fn}{K:Nat->Prop}{b:Nat}
end
end
end
section
variable[Tok] {u:Fn}{K:Nat->Prop}{b:Nat}
theorem R4:(ll:ao)=aA (-1):=by rw[db];rfl
end
section
variable[Tok] {u:Fn}{b:Nat}
theorem aph(d:Nat)(v:ao)(f:Nat->ay):nN d (some v) f=mT v λ_ n=>bB (Nat.ble 18446744073709551616 n) (gc (Nat.sub n 18446744073709551616) f) .aF:=rfl
theorem abj(d i:Nat)(f:Nat->ay):nN d (some (aA i)) f=f i:=by rw[db,aph,q7,eT,bM,da,fN,show Nat.sub ((i:Int)+18446744073709551616).toNat 18446744073709551616=i by rw[sv];omega]
end
section
variable[Tok] {u:Fn}{K:Nat->Prop}{b:Nat}
theorem acr:(ye:ao)=aA 8:=by rw[db];rfl
end
section
variable{sz:Nat}{v:ao}{es:bg}
section
variable[Tok] {u:Fn}{b:Nat}
def cE(sz:Nat)(v:ao)(es:bg):Prop:=(v= .ba/\es=[])\/v= .aN sz es
theorem cE.len(h:cE sz v es)(k:ao->ay):cv false v k=k (aA es.length):=by rcases h with⟨rfl,rfl⟩|rfl;exact li k;exact gC _ _ k
theorem cE.mK(h:cE sz v es)(ob:dE)(f:bg->ay):i0 ob sz v f=f es:=by rcases h with⟨rfl,rfl⟩|rfl;rfl;exact CR _ _ _ f
theorem cE.fh(h:cE sz v es)(ob:dE)(f:gI):bi ob v f=f v []:=by rcases h with⟨rfl,rfl⟩|rfl<;>rfl
theorem cE.met(h:cE sz v es)(b:Nat)(rk:List Nat):k3 b rk v=true:=by rcases h with⟨rfl,rfl⟩|rfl<;>rfl
end
end
section
variable{ob:dE}{sz:Nat}{es:bg}
section
variable[Tok] {u:Fn}{b:Nat}
theorem adN{r:ao}{h:aO}(hd:h.ck=[]):∃s d,im 0 r [] h= .ok r 0 s d:=by obtain⟨ub,bj,d⟩:=h;have a:d=[]:=hd;subst a;exact⟨bj.drop 0,[],rfl⟩
theorem ez(r c:ao)(a:r≠ .undef:=by first|assumption|exact(acw _)|exact(d _)|simp)(k:ao->ay):cP (.bD [r,c]) 0 k=k r:=GO rfl (λx e=>by cases e;exact a rfl) (by simp) k
theorem eA(r c:ao)(a:r≠ .undef:=by first|assumption|exact(acw _)|exact(d _)|simp)(k:ao->ay):cP (.bD [r,c]) 1 k=k c:=GO rfl (λx e=>by cases e;exact a rfl) (by simp) k
theorem RF{i:Nat}{x:ao}(a:∀f:ao->fk->ay,bi ob x f=f x [])(c:∀f:az->ay,oh x f=f [x])(d:sz=1)(hi:i<es.length)(f:bg->fk->ay):eo ob sz i x es f=f (es.set i [x]) []:=by subst d;have e:eo ob 1 i x es f=bi ob x λq gE=>oh q λnew=>bB (Nat.beq (eJ new) 1) (bB (Nat.blt i (eJ es)) (f (wh es i new) gE) .aF) .aF:=rfl;rw[e,a,c,gV,gV,m9,dJ hi,Te];rfl
theorem cE.k4{v:ao}(h:cE sz v es):v≠ .undef:=by rcases h with⟨rfl,rfl⟩|rfl<;>exactλe=>by cases e
theorem apI{q s e:Nat}(ho:ob q= .aV s e sz es false)(f:gI):bi ob (.aV q s 0 es.length) f=f (.aN sz es) []:=by have c:bi ob (.aV q s 0 es.length) f=lq (ob q) λa e sz ea bL=>bB (Nat.beq s a) (bB (Nat.ble (Nat.add 0 es.length) (eJ ea)) (f (.aN sz (mU ea 0 es.length)) (@Bool.rec (λ_=>fk) [] [(q,.aV a e sz ea false)] bL)) .aF) .aF:=rfl;rw[c,ho,uO,fI,da,gV,eT,dJ (by rw[h5];omega),da,Ah]
end
end
section
variable[Tok] {u:Fn}{b:Nat}
theorem apX{off:Nat}{x:ao}{cs:az}(a:∀f:az->ay,oh x f=f [x])(c:off+1<=cs.length)(f:az->ay):eu off 1 x cs f=f (cs.take off++[x]++cs.drop (off+1)):=by have e:eu off 1 x cs f=oh x λnew=>bB (Nat.beq (eJ new) 1) (bB (Nat.ble (Nat.add off 1) (eJ cs)) (f (yo off cs new)) .aF) .aF:=rfl;rw[e,a,gV,gV,eT,dJ (by rw[h5];exact c),Dk];rfl
end
section
variable[Tok] {u:Fn}{b:Nat}
theorem CD(ob:dE):∀{pre:az} (r:az) (f:az->fk->ay),cg pre=true->jV ob (pre++r) f=jV ob r λa us=>f (pre++a) us
 |[],_,_,_=>rfl
 |c::pre,r,f,h=>by
  have d:cg pre=true/\∀l f,jV ob (c::l) f=jV ob l λa us=>f (c::a) us:=by cases c<;>first|exact⟨h,λ_ _=>rfl⟩|exact absurd h (by intro h;cases h)
  rw[wx,d.2,CD ob r _ d.1];rfl
theorem adc:∀{pre:az}{q s o l:Nat},cg pre=true->cg (pre++[.aV q s o l])=false
 |[],_,_,_,_,_=>rfl
 |c::pre,q,s,o,l,h=>by
  have a:cg pre=true/\∀r,cg (c::r)=cg r:=by cases c<;>first|exact⟨h,λ_=>rfl⟩|exact absurd h (by intro h;cases h)
  rw[wx,a.2];exact adc a.1
end
section
variable[Tok] {u:Fn}{b:Nat}
theorem Tn(n:Nat):Nat.sub ((n:Int)+18446744073709551616).toNat 18446744073709551616=n:=by rw[sv];omega
theorem abC{sz:Nat}{v:ao}{es:bg}(p:cE sz v es)(ob:dE){lo hi:Option ao}{a c:Nat}(i:∀f,nN 0 lo f=f a)(j:∀d f,d=es.length->nN d hi f=f c)(q:a<=c)(n:c<=es.length):∃o,cE sz o ((es.drop a).take (c-a))/\∀k:ao->ay,td ob sz v lo hi k=k o:=by
 rcases p with⟨rfl,rfl⟩|rfl;have r:c=0:=by simpa using n
 have t:a=0:=by omega
 subst r t;refine⟨.ba,.inl ⟨rfl,by simp⟩,λk=>?_⟩;have e:td ob sz .ba lo hi k=nN 0 lo λa=>nN 0 hi λb=>bB (Nat.beq a 0) (bB (Nat.beq b 0) (k .ba) .aF) .aF:=rfl;rw[e,i,j 0 _ rfl];rfl;refine⟨.aN sz (mU es a (c-a)),.inr ?_,λk=>?_⟩;rw[Di];simp only[part];cases g:(Nat.beq a 0&&Nat.beq (c-a) es.length) with
 |true=>rw[cC]at g;have w:=e8 g.1;have x:=e8 g.2;subst w;rw[e6,x,sA,vd]
 |false=>rfl
 have e:td ob sz (.aN sz es) lo hi k=nN 0 lo λl=>nN (eJ es) hi λh=>bB (Nat.beq sz sz) (bB (Nat.ble l h) (bB (Nat.ble h (eJ es)) (k (.aN sz (mU es l (Nat.sub h l)))) .aF) .aF) .aF:=rfl;rw[e,i,j _ _ (gV es),fI,da,eT,dJ q,da,gV,eT,dJ n,da,sv]
end
section
variable[Tok] {u:Fn}{b:Nat}
section
end
end
section
variable[Tok] {u:Fn}{b:Nat}
end
section
variable[Tok] {u:Fn}{b:Nat}
theorem dh(ob:dE)(c:Bool)(f:gI):bi ob (.U c) f=f (.U c) []:=rfl
end
section
variable{d t s e sz d' g n len bytes:Nat}{o:fb}{cs new:az}{es ys:bg}{bL:Bool}{z:eQ}{l rk:List Nat}{wk:Option (List Nat)}{y:ao}
section
variable[Tok] {u:Fn}{b:Nat}
class cp (h:aO) (b:outParam Nat):Prop where
 eq:b+4096<=h.ax
class dS (h:aO):Prop where
 eq:h.ck=[]
theorem cp.lt{h:aO}[u:cp h b](hd:d<4096):b+d<h.ax:=by have:=u.eq;omega
def fK(h:aO)(b d t:Nat):Nat:=kP (ns (h.am (b+d))) t
def ie(h:aO)(b d:Nat):Nat:=Nat.add (ns (h.am (b+d))) 1
def aO.dP(h:aO)(b d:Nat)(o:fb):aO:=h.g1 b (b+d) o
def aO.cB(h:aO)(b d t:Nat)(cs:az):aO:=h.dP b d (.ae (.box (fK h b d t) cs))
def aO.dp(h:aO)(b d:Nat)(cs:az):aO:=h.dP b d (.ae (.box (ns (h.am (b+d))) cs))
def aO.fc(h:aO)(b d e sz:Nat)(es:bg)(bL:Bool):aO:=h.dP b d (.ae (.aV (ie h b d) e sz es bL))
theorem lC(h:aO)(b d:Nat)(o:fb):(h.dP b d o).ax=h.ax:=by obtain⟨ub,s,dd⟩:=h;rfl
instance{h:aO}{d:Nat}{o:fb}[u:cp h b]:cp (h.dP b d o) b:=⟨by rw[lC];exact u.eq⟩
instance{h:aO}{d t:Nat}{cs:az}[u:cp h b]:cp (h.cB b d t cs) b:=inferInstanceAs (cp (h.dP b d _) b)
instance{h:aO}{d:Nat}{cs:az}[u:cp h b]:cp (h.dp b d cs) b:=inferInstanceAs (cp (h.dP b d _) b)
instance{h:aO}{d e sz:Nat}{es:bg}{bL:Bool}[u:cp h b]:cp (h.fc b d e sz es bL) b:=inferInstanceAs (cp (h.dP b d _) b)
instance{aC:cD}:cp (bN b aC) b:=⟨dn _⟩
instance{aC:cD}:dS (bN b aC):=⟨rfl⟩
theorem n6{h:aO}(hd:b+d<h.ax):IM b [d] h (h.dP b d o):=IM.g1 hd
theorem afR{h:aO}[n:dS h]:(h.dP b d o).ck=[]:=by obtain⟨ub,s,dd⟩:=h;have e:dd=[]:=n.eq;subst e;show @Bool.rec (λ_=>List Nat) [] [b+d] (Nat.blt (b+d) b)=[];rw[m9,bA]
instance{h:aO}{d:Nat}{o:fb}[n:dS h]:dS (h.dP b d o):=⟨afR⟩
instance{h:aO}{d t:Nat}{cs:az}[n:dS h]:dS (h.cB b d t cs):=inferInstanceAs (dS (h.dP b d _))
instance{h:aO}{d:Nat}{cs:az}[n:dS h]:dS (h.dp b d cs):=inferInstanceAs (dS (h.dP b d _))
instance{h:aO}{d e sz:Nat}{es:bg}{bL:Bool}[n:dS h]:dS (h.fc b d e sz es bL):=inferInstanceAs (dS (h.dP b d _))
theorem Em{h:aO}[cp h b](hd:d<4096:=by decide):(h.dP b d o).am (b+d)=o.aj:=nv (cp.lt hd)
theorem ec{h:aO}[cp h b](hd:d<4096:=by decide):(h.cB b d t cs).am (b+d)= .box (fK h b d t) cs:=nv (cp.lt hd)
theorem gn{h:aO}{a:az}[cp h b](ho:h.am (b+d)= .box s a)(hd:d<4096:=by decide):(h.dp b d cs).am (b+d)= .box s cs:=(nv (cp.lt hd)).trans (by rw[ho];rfl)
theorem hX{h:aO}[cp h b](hd:d<4096:=by decide):(h.fc b d e sz es bL).am (b+d)= .aV (ie h b d) e sz es bL:=nv (cp.lt hd)
theorem oI{h:aO}[cp h b](e:h.am (b+d')=z)(i:d≠d':=by decide)(hd:d<4096:=by decide):(h.dP b d o).am (b+d')=z:=by rw[(n6 (cp.lt hd)).am _ λc a=>by simp at a;omega];exact e
theorem fZ{h:aO}[cp h b](e:h.am (b+d')=z)(a:d≠d':=by decide)(hd:d<4096:=by decide):(h.cB b d t cs).am (b+d')=z:=oI e a hd
theorem fS{h:aO}[cp h b](e:h.am (b+d')=z)(a:d≠d':=by decide)(hd:d<4096:=by decide):(h.dp b d cs).am (b+d')=z:=oI e a hd
theorem fJ{h:aO}[cp h b](e:h.am (b+d')=z)(a:d≠d':=by decide)(hd:d<4096:=by decide):(h.fc b d g sz es bL).am (b+d')=z:=oI e a hd
theorem cF{h:aO}[cp h b](k:dv)(hd:d<4096:=by decide):dw t b d none cs h k=k (.aQ (b+d) (fK h b d t) 0) (h.cB b d t cs):=by have e:dw t b d none cs h k=gc (b+d) λq=>gc (kP (ns (h.am q)) t) λs=>nP b none q (.ae (.box s cs)) h λh'=>k (.aQ q s 0) h':=rfl;rw[e,fN,fN,uC (kC b _) (cp.lt hd)];rfl
theorem hL{h:aO}[cp h b](k:dv)(c:e3 l d=true:=by rfl)(a:d<4096:=by decide):dw t b d (some l) cs h k=k (.aQ (b+d) (fK h b d t) 0) (h.cB b d t cs):=by have e:dw t b d (some l) cs h k=gc (b+d) λq=>gc (kP (ns (h.am q)) t) λs=>nP b (some l) q (.ae (.box s cs)) h λh'=>k (.aQ q s 0) h':=rfl;rw[e,fN,fN,uC (HU a c) (cp.lt a)];rfl
theorem b3{h:aO}[cp h b](k:dv)(hd:d<4096:=by decide):eR t b d none (.agg cs) h k=k (.aQ (b+d) (fK h b d t) 0) (h.cB b d t cs):=by have e:eR t b d none (.agg cs) h k=mr cs λcs=>dw t b d none cs h k:=rfl;rw[e,ms,cF k hd]
theorem cM{h:aO}[cp h b](a:new.length=n:=by first|assumption|rfl)(ho:h.am (b+d)= .box s cs:=by repeat first|assumption|with_reducible first|exact ec|exact hX|exact kk|exact i|apply gn|refine fZ ?_|refine fS ?_|refine fJ ?_|refine ic ?_|refine kT ?_|refine lB ?_|refine j ?_|refine p ?_|decide)(c:cs.length=n:=by first|assumption|rfl)(k:dv)(hd:d<4096:=by decide):bl b none n (.aQ (b+d) s 0) (.agg new) h k=k .undef (h.dp b d new):=by rw[z1 (b:=b) (n:=n) (off:=0) (wk:=none) (new:=new) ho a (by rw[c];omega) (λo=>kC b _) (cp.lt hd),show cs.take 0++new++cs.drop (0+n)=new by rw[List.take_zero,If (by omega)];simp];unfold aO.dp;rw[ho];rfl
theorem eS{h:aO}[cp h b](c:new.length=n:=by first|assumption|rfl)(ho:h.am (b+d)= .box s cs:=by repeat first|assumption|with_reducible first|exact ec|exact hX|exact kk|exact p|apply gn|refine fZ ?_|refine fS ?_|refine fJ ?_|refine ic ?_|refine kT ?_|refine lB ?_|refine q ?_|refine r ?_|decide)(i:cs.length=n:=by first|assumption|rfl)(k:dv)(j:e3 l d=true:=by rfl)(a:d<4096:=by decide):bl b (some l) n (.aQ (b+d) s 0) (.agg new) h k=k .undef (h.dp b d new):=by rw[z1 (b:=b) (n:=n) (off:=0) (wk:=some l) (new:=new) ho c (by rw[i];omega) (λo=>HU a j) (cp.lt a),show cs.take 0++new++cs.drop (0+n)=new by rw[List.take_zero,If (by omega)];simp];unfold aO.dp;rw[ho];rfl
theorem iR{h:aO}[cp h b](k:dv)(hd:d<4096:=by decide):fB b d none e sz len bL es [] h k=k (.aV (b+d) (ie h b d) 0 len) (h.fc b d e sz es bL):=by have a:fB b d none e sz len bL es [] h k=gc (b+d) λq=>gc (Nat.add (ns (h.am q)) 1) λs=>mr es λes=>px b none [(q,.aV s e sz es bL)] h λh'=>k (.aV q s 0 len) h':=rfl;rw[a,fN,fN,ms,abE (kC b _) (cp.lt hd)];rfl
theorem x1{h:aO}[cp h b](k:dv)(c:e3 l d=true:=by rfl)(a:d<4096:=by decide):fB b d (some l) e sz len bL es [] h k=k (.aV (b+d) (ie h b d) 0 len) (h.fc b d e sz es bL):=by have i:fB b d (some l) e sz len bL es [] h k=gc (b+d) λq=>gc (Nat.add (ns (h.am q)) 1) λs=>mr es λes=>px b (some l) [(q,.aV s e sz es bL)] h λh'=>k (.aV q s 0 len) h':=rfl;rw[i,fN,fN,ms,abE (HU a c) (cp.lt a)];rfl
def nr(s e sz:Nat)(es:bg)(bL:Bool):fb:= .o6 s e sz es.reverse bL
theorem yv(s e sz:Nat)(es:bg)(bL:Bool):(nr s e sz es bL).aj= .aV s e sz es bL:=by show eQ.aV s e sz (rd es.reverse) bL=_;rw[yw,yN]
def aO.je(h:aO)(b d s e sz:Nat)(es:bg)(bL:Bool):aO:=h.dP b d (nr s e sz es bL)
instance{h:aO}{d s e sz:Nat}{es:bg}{bL:Bool}[u:cp h b]:cp (h.je b d s e sz es bL) b:=inferInstanceAs (cp (h.dP b d _) b)
instance{h:aO}{d s e sz:Nat}{es:bg}{bL:Bool}[n:dS h]:dS (h.je b d s e sz es bL):=inferInstanceAs (dS (h.dP b d _))
theorem kk{h:aO}[cp h b](hd:d<4096:=by decide):(h.je b d s e sz es bL).am (b+d)= .aV s e sz es bL:=(nv (cp.lt hd)).trans (yv _ _ _ _ _)
theorem ic{h:aO}[cp h b](e:h.am (b+d')=z)(a:d≠d':=by decide)(hd:d<4096:=by decide):(h.je b d s g sz es bL).am (b+d')=z:=oI e a hd
theorem K9{h:aO}{ca:bg}[cp h b](ho:h.am (b+d)= .aV s e sz ca bL)(a:∀f:bg->ay,i0 h.am sz y f=f ys)(c:n=ca.length)
 (i:∀o,ke b wk [(b+d,o)]=true)(j:(ca.length+ys.length)*bytes<=1099511627776)(p:ca.length+ys.length<=1099511627776)(k:dv)(hd:d<4096:=by decide):
 fW b d' wk e sz bytes (.aV (b+d) s 0 n) y bL h k=k (.aV (b+d) (Nat.add s 1) 0 (ca.length+ys.length)) (h.je b d (Nat.add s 1) e sz (ca++ys) bL):=by
 subst c;have e0:fW b d' wk e sz bytes (.aV (b+d) s 0 ca.length) y bL h k=i0 h.am sz y λys=>mr ys λys=>gc (eJ ys) λn=>
  bB (Nat.beq 0 0) (uP (h.yA (b+d)) λq e' w rs r=>bB (Nat.beq s q) (bB (Nat.beq e' e) (bB (Nat.beq w sz)
   (@Bool.rec (λ_=>ay) (bB r (bB (Nat.ble ca.length (eJ rs)) (jr b wk bytes (b+d) s e sz (mb (Nat.sub (eJ rs) ca.length) rs) n ys r ca.length h k) .aF) .aF) (jr b wk bytes (b+d) s e sz rs n ys r ca.length h k) (Nat.beq ca.length (eJ rs))) .aF) .aF) .aF) .aF:=rfl
 rw[e0,a,ms,fN,gV,fI,da,Dg (by rw[aO.AB];exact ho),fI,da,fI,da,fI,da,gV,u6,fI];show jr b wk bytes (b+d) s e sz ca.reverse ys.length ys bL ca.length h k=_;unfold jr;rw[fN,eT,dJ (by rw[tE,h5];exact j),da,eT,dJ (by rw[h5];exact p),da,fN,sp,uC (i _) (cp.lt hd)];unfold aO.je nr;rw[List.reverse_append];rfl
theorem zW{h:aO}[cp h b](i:∀f:bg->ay,i0 h.am sz y f=f ys)(j:ys≠[])
 (p:∀o,ke b wk [(b+d,o)]=true)(r:ys.length*bytes<=1099511627776)(w:ys.length<=1099511627776)(k:dv)(hd:d<4096:=by decide):
 fW b d wk e sz bytes .ba y bL h k=k (.aV (b+d) (ie h b d) 0 ys.length) (h.je b d (ie h b d) e sz ys bL):=by
 have e0:fW b d wk e sz bytes .ba y bL h k=i0 h.am sz y λys=>mr ys λys=>gc (eJ ys) λn=>
  (bB (Nat.ble (Nat.mul n bytes) 1099511627776) (bB (Nat.ble n 1099511627776)
   (@List.rec az (λ_=>ay) (px b wk [] h λh'=>k .ba h') (λ_ _ _=>gc (Nat.add b d) λq=>gc (Nat.add (ns (h.am q)) 1) λbZ=>tv ys [] λrs=>nP b wk q (.o6 bZ e sz rs bL) h λh'=>k (.aV q bZ 0 n) h') ys) .aF) .aF):=rfl
 rw[e0,i,ms,fN,gV,eT,dJ (by rw[tE];exact r),da,eT,dJ w,da];cases ys with
 |nil=>exact absurd rfl j
 |cons a c=>show(gc (b+d) λq=>gc (Nat.add (ns (h.am q)) 1) λbZ=>tv (a::c) [] λrs=>nP b wk q (.o6 bZ e sz rs bL) h λh'=>k (.aV q bZ 0 (a::c).length) h')=_;rw[fN,fN,sp,qy,uC (p _) (cp.lt hd)];rfl
theorem eU{ob:dE}{a:Bool}{q off:Nat}(ho:ob q= .box s cs:=by repeat first|assumption|with_reducible first|exact ec|exact hX|exact kk|exact h|apply gn|refine fZ ?_|refine fS ?_|refine fJ ?_|refine ic ?_|refine kT ?_|refine lB ?_|refine i ?_|refine j ?_|decide)(k:ao->ay):jh ob (.aQ q s off) a n k=me a n cs off k:=by have e:jh ob (.aQ q s off) a n k=mS (ob q) λc cs=>bB (Nat.beq s c) (me a n cs off k) .aF:=rfl;rw[e,ho,acS,fI,da]
theorem uz(ob:dE)(f:gI):bi ob .ba f=f .ba []:=rfl
theorem qV(ob:dE)(a c:Nat)(f:gI):bi ob (.s a c) f=f (.s a c) []:=rfl
theorem i2(ob:dE)(sz:Nat)(es:bg)(f:gI):bi ob (.aN sz es) f=f (.aN sz es) []:=rfl
theorem bO(s o:Nat)(xs:az)(z:ay)(h:e3 rk d=true:=by rfl)(hd:d<4096:=by decide):met b rk (.aQ (b+d) s o::xs) z=met b rk xs z:=arv hd h s o xs z
theorem x8(s o l:Nat)(xs:az)(z:ay)(h:e3 rk d=true:=by rfl)(hd:d<4096:=by decide):met b rk (.aV (b+d) s o l::xs) z=met b rk xs z:=aru hd h s o l xs z
theorem b6{r:ao}{h:aO}[n:dS h]:∃s d,im 0 r [] h= .ok r 0 s d:=adN n.eq
theorem An{a c:az}(h:cg a=true):cg (a++c)=cg c:=by
 induction a with
 |nil=>rfl
 |cons x r i=>cases x<;>first|exact i h|exact absurd h (by intro h;cases h)
end
end
section
variable{t o cs:az}{k:Int}{p n a:ao}{ob:dE}{sz:Nat}{es:bg}
section
variable[Tok] {u:Fn}{b:Nat}
def kQ(p n:ao):az:=[br,p,n,bt,.s 0 0,.s 0 0,.s 0 0,.s 0 0,.s 0 0,.ba,.ba]
def fg(o:az):az:=[dM,.s 0 0,.s 0 0]++o++[.ba]
def dI(p n:ao)(l:bg):az:=[eB,p,n,bt,.s 0 0,.s 0 0,.s 0 0,.s 0 0,.s 0 0,.ba,.aN 11 l]
structure lh (t:az) (k:Int) (p n:ao) (o:az) (a:ao):Prop where
 eq:t=[aA k,p,n]++o++[a]
 len:o.length=7
 ja:cg t=true
theorem lh.ad(h:lh t k p n o a):t.length=11:=by rw[h.eq];simp[h.len]
theorem lh.dB(h:lh t k p n o a):t[0+0]? =some (aA k):=by rw[h.eq];rfl
theorem lh.iM(h:lh t k p n o a):t[0+10]? =some a:=by rw[h.eq,wv (by simp[h.len])];simp[h.len]
theorem lh.t1(h:lh t k p n o a):(t.drop (0+1)).take 2=[p,n]:=by rw[h.eq];rfl
theorem lh.t3(h:lh t k p n o a):(t.drop (0+3)).take 7=o:=by rw[h.eq];simp[<-h.len]
theorem lh.gD(h:lh t k p n o a):0+3+7<=t.length:=by rw[h.ad];omega
theorem lh.fC(h:lh t k p n o a):0+1+2<=t.length:=by rw[h.ad];omega
theorem gQ(hi:es[0]? =some cs:=by rfl)(k:ao->ay):de ob sz (.aN sz es) (aA 0) k=k (.gk cs 0):=by rw[show(0:Int)=((0:Nat):Int) from rfl];exact fH hi k
theorem jC(hi:es[1]? =some cs:=by rfl)(k:ao->ay):de ob sz (.aN sz es) (aA 1) k=k (.gk cs 0):=by rw[show(1:Int)=((1:Nat):Int) from rfl];exact fH hi k
theorem uZ(h:cg [p,n]=true):lh (kQ p n) 1 p n dD .ba:=
 ⟨by rw[<-b8];rfl,rfl,by show cg ([br]++([p,n]++axQ))=true;rw[An rfl,An h];rfl⟩
theorem e4:(dM:ao)=aA 2:=by rw[db];rfl
theorem fu:(eB:ao)=aA 3:=by rw[db];rfl
theorem nU:(ku:ao)=aA 4:=by rw[db];rfl
theorem qm(c:o.length=7)(h:cg o=true):lh (fg o) 2 (.s 0 0) (.s 0 0) o .ba:=
 ⟨by rw[<-e4];rfl,c,by show cg ([dM,.s 0 0,.s 0 0]++(o++[.ba]))=true;rw[An rfl,An h];rfl⟩
theorem yB{l:bg}(h:cg [p,n]=true):lh (dI p n l) 3 p n dD (.aN 11 l):=
 ⟨by rw[<-fu];rfl,rfl,by show cg ([eB]++([p,n]++[bt,.s 0 0,.s 0 0,.s 0 0,.s 0 0,.s 0 0,.ba,.aN 11 l]))=true;rw[An rfl,An h];rfl⟩
theorem cl:(cQ:ao)= .U false:=rfl
theorem cf:(dx:ao)= .U true:=rfl
end
end
section
variable[Tok] {u:Fn}{b:Nat}
end
section
variable[Tok] {u:Fn}{b:Nat}
theorem jY{ob:dE}{q s e sz n:Nat}{es:bg}(ho:ob q= .aV s e sz es false:=by repeat first|assumption|with_reducible first|exact ec|exact hX|exact kk|exact c|apply gn|refine fZ ?_|refine fS ?_|refine fJ ?_|refine ic ?_|refine kT ?_|refine lB ?_|refine d ?_|refine g ?_|decide)(a:n=es.length:=by rfl)(f:gI):bi ob (.aV q s 0 n) f=f (.aN sz es) []:=by subst a;exact apI ho f
section
def fR(x:az):Prop:=x.length=11/\cg x=true
end
end
section
variable[Tok] {u:Fn}{b:Nat}
section
end
def RR:ao:= .s 1 0x3c
def acB:ao:= .s 3 0x6e6f74
def zI:ao:= .s 5 0x657175616c
section
end
theorem uw(r c d:ao)(a:r≠ .undef:=by assumption)(k:ao->ay):cP (.bD [r,c,d]) 0 k=k r:=GO rfl (λx e=>by cases e;exact a rfl) (by simp) k
theorem ux(r c d:ao)(a:r≠ .undef:=by assumption)(k:ao->ay):cP (.bD [r,c,d]) 1 k=k c:=GO rfl (λx e=>by cases e;exact a rfl) (by simp) k
theorem uy(r c d:ao)(a:r≠ .undef:=by assumption)(k:ao->ay):cP (.bD [r,c,d]) 2 k=k d:=GO rfl (λx e=>by cases e;exact a rfl) (by simp) k
end
section
variable[Tok] {u:Fn}{b:Nat}
def dH:ao:= .s 4 0x6c697370
end
section
variable{ob:dE}{sz:Nat}{x z:az}
section
variable[Tok] {u:Fn}{b:Nat}
theorem vT(a:cg x=true:=by assumption)(c:x.length=sz:=by assumption)(f:bg->fk->ay):eo ob sz 0 (.agg x) (eF 2 z) f=f [x,z] []:=by have e:eo ob sz 0 (.agg x) (eF 2 z) f=bi ob (.agg x) λq gE=>oh q λnew=>bB (Nat.beq (eJ new) sz) (bB (Nat.blt 0 (eJ (eF 2 z))) (f (wh (eF 2 z) 0 new) gE) .aF) .aF:=rfl;rw[e,a6 a,Lc,gV,c,fI,da];rfl
theorem vU{y:az}(a:cg y=true:=by assumption)(c:y.length=sz:=by assumption)(f:bg->fk->ay):eo ob sz 1 (.agg y) [x,z] f=f [x,y] []:=by have e:eo ob sz 1 (.agg y) [x,z] f=bi ob (.agg y) λq gE=>oh q λnew=>bB (Nat.beq (eJ new) sz) (bB (Nat.blt 1 (eJ [x,z])) (f (wh [x,z] 1 new) gE) .aF) .aF:=rfl;rw[e,a6 a,Lc,gV,c,fI,da];rfl
end
end
section
variable[Tok] {u:Fn}{b:Nat}
def Nl(u:Fn)(f:Nat):Prop:=∀o:az,o.length=7->cg o=true->bf u f [.agg o] (.agg (fg o))
end
section
variable[Tok] {u:Fn}{b:Nat}
theorem acm:(Sf:ao)=aA 12:=by rw[db];rfl
end
section
variable[Tok] {u:Fn}{b:Nat}
theorem alm{p n v:ao}{l:bg}(h:cg [p,n]=true):∃s d,FA u [.agg [p,n],.aN 11 l] 0 .nil= .ok (.agg (dI p n l)) 0 s d:=by have g:=(yB (l:=l) h).ja;have a:∀f:az->ay,eu 0 1 eB cW f=f [eB,.s 0 0,.s 0 0,bt,.s 0 0,.s 0 0,.s 0 0,.s 0 0,.s 0 0,.ba,.ba]:=λf=>rfl;have c:∀f:az->ay,eu 1 2 (.agg [p,n]) [eB,.s 0 0,.s 0 0,bt,.s 0 0,.s 0 0,.s 0 0,.s 0 0,.s 0 0,.ba,.ba] f=f [eB,p,n,bt,.s 0 0,.s 0 0,.s 0 0,.s 0 0,.s 0 0,.ba,.ba]:=λf=>rfl;have e:∀f:az->ay,eu 10 1 (.aN 11 l) [eB,p,n,bt,.s 0 0,.s 0 0,.s 0 0,.s 0 0,.s 0 0,.ba,.ba] f=f (dI p n l):=λf=>rfl;rw[FA,ep,Xi,b3,cF,av,aU,a,c,e,iZ,cM,adC,eU,aU,bJ,a6,aq];exact b6
theorem alc{o:az}(ho:o.length=7)(a:cg o=true):∃s d,Fz u [.agg o] 0 .nil= .ok (.agg (fg o)) 0 s d:=by
 have g:=(qm ho a).ja;have tl:=(qm ho a).ad;have c:∀f:az->ay,eu 0 1 dM cW f=f [dM,.s 0 0,.s 0 0,bt,.s 0 0,.s 0 0,.s 0 0,.s 0 0,.s 0 0,.ba,.ba]:=λf=>rfl;have e:∀f:az->ay,eu 3 7 (.agg o) [dM,.s 0 0,.s 0 0,bt,.s 0 0,.s 0 0,.s 0 0,.s 0 0,.s 0 0,.ba,.ba] f=f (fg o):=λf=>by rw[RH ho];rfl
 rw[Fz,jp,Xg,b3,cF,av,aU,c,e,iZ,cM,adB,eU,aU,bJ,a6,aq];exact b6
end
section
variable{x y:az}{I J:bg}
section
variable[Tok] {u:Fn}{b:Nat}
theorem gq(a c d c':Nat)(k:ao->ay):gJ (.s a c) (.s d c') k=k (.U (gu (eN a c d c'))):=rfl
theorem apu(a c d c' x y x' e:Nat)(k:ao->ay):iP false (.agg [.s a c,.s x y]) (.agg [.s d c',.s x' e]) k=k (.U (c7 (eN x y x' e) (eN a c d c'))):=rfl
theorem nO(a c d c' x y x' e:Nat)(k:ao->ay):iP true (.agg [.s a c,.s x y]) (.agg [.s d c',.s x' e]) k=k (.U (gu (c7 (eN x y x' e) (eN a c d c')))):=rfl
theorem vK(a c:Nat):eN a c a c=true:=by unfold eN;rw[hY,Nat.beq_refl,Nat.beq_refl];rfl
theorem pe{c d:Int}(h:aA c=aA d)(a: -1000<c)(hd: -1000<d):c=d:=by rw[db,db]at h;simp only[ao.ag.injEq,true_and]at h;omega
theorem cE.abL{sz:Nat}{v:ao}(h:cE sz v [])(k:ao->ay):cv false v k=k (aA 0):=h.len k
theorem abx(sz:Nat)(k:ao->ay):cv false (.aN sz []) k=k (aA 0):=gC _ _ k
structure l4 (o:az) (k:Int) (j c1 l r g B A C w z:Nat) (L:ao):Prop where
 eq:o=[aA k,.s j c1,.s l r,.s g B,.s A C,.s w z,L]
 ja:cg [L]=true
section
variable{o:az}{k:Int}{j c1 l r g B A C w z:Nat}{L:ao} (h:l4 o k j c1 l r g B A C w z L)
include h
theorem l4.ad:o.length=7:=by rw[h.eq];rfl
theorem l4.dB:o[0+0]? =some (aA k):=by rw[h.eq];rfl
theorem l4.c8:o[0+1]? =some (.s j c1):=by rw[h.eq];rfl
theorem l4.cX:o[0+2]? =some (.s l r):=by rw[h.eq];rfl
theorem l4.nc:o[0+5]? =some (.s w z):=by rw[h.eq];rfl
theorem l4.iH:o[0+6]? =some L:=by rw[h.eq];rfl
theorem l4.t3:(o.drop (0+3)).take 2=[.s g B,.s A C]:=by rw[h.eq];rfl
theorem l4.gD:0+3+2<=o.length:=by rw[h.ad];omega
theorem l4.pure:cg o=true:=by rw[h.eq,db];exact h.ja
end
theorem aqD{E F:ao}(hx:x[0+6]? =some E)(hy:y[0+6]? =some F)(G:E= .aN 7 I)(Q:F= .aN 7 J)(hl:I.length=J.length)(bs:I.length<1000)(H:∀(i:Nat) (p q:az),I[i]? =some p->J[i]? =some q->p.length=7/\cg p=true/\q.length=7/\cg q=true/\∃e,bf u 40 [.agg p,.agg q] (.U e)/\(p=q->e=true)){K s3:Nat}{h:aO}(ub:cp h 0)(b5:dS h)(h2:h.am (0+2)= .box K x)(h3:h.am (0+3)= .box s3 y):∀(n k N:Nat),n+k=I.length->n<N->
 ∃e,(I=J->e=true)/\∃s d,ji 2 3 5 N (lF u 0 (λa=>iI 0 dx a)) (.aQ (0+2) K 0) (.aQ (0+3) s3 0) (aA k) h= .ok (.U e) 0 s d:=by
 intro n;induction n with
 |zero=>intro k N R S;obtain⟨N,rfl⟩:=eC N;refine⟨true,λ_=>rfl,?_⟩;rw[oW];generalize ji 2 3 5 N (lF u 0 (λa=>iI 0 dx a))=T;subst G;rw[lF,bn,aH,av,aL,gC,cz,bA,bc,iI,cf,bJ,dh,aq];exact b6
 |succ n V=>
  intro k N R S;obtain⟨N,rfl⟩:=eC N;have M:I[k]? =some (I[k]'(by omega)):=fo _;have O:J[k]? =some (J[k]'(by omega)):=fo _;obtain⟨W,X,Y,Z,e,P,c⟩:=H k _ _ M O;have t:I=J->I[k]'(by omega)=J[k]'(by omega):=λe=>by subst e;rfl
  generalize (I[k]'(by omega))=p at M W X P c t;generalize (J[k]'(by omega))=q at O Y Z P c t;have D:=V (k+1) N (by omega) (by omega);have al:((k+1:Nat):Int)=(k:Int)+1:=by omega
  rw[al]at D;rw[oW];generalize ji 2 3 5 N (lF u 0 (λa=>iI 0 dx a))=T at D;subst G Q;cases e;refine⟨false,λe=>absurd (c (t e)) (by simp),?_⟩;rw[lF,bn,aH,av,aL,gC,cz,bM,bw,zt,aH,aS,bO,aP,av,aL,dW,be,be,aP,b8,fH,aS,be,aP,cI,aU,aH,aS,bO,aP,av,aL,zs,dW,be,be,aP,fH,aS,be,aP,cI,aU,be,be,aP,a6,a6,aq,aq,a0,e1,jI,bw,iI,cl,bJ,dh,aq];exact b6;obtain⟨e,ar,bd⟩:=D;refine⟨e,ar,?_⟩;rw[lF,bn,aH,av,aL,gC,cz,bM,bw,zt,aH,aS,bO,aP,av,aL,dW,be,be,aP,b8,fH,aS,be,aP,cI,aU,aH,aS,bO,aP,av,aL,zs,dW,be,be,aP,fH,aS,be,aP,cI,aU,be,be,aP,a6,a6,aq,aq,a0,e1,gX,bc,fV];exact bd
theorem Kg{k:Int}{j c1 l r g B A C w z:Nat}{L:ao}{O:Int}{W X Y Z al ar bd bs bx b1:Nat}{L':ao}(a:l4 x k j c1 l r g B A C w z L)(c:l4 y O W X Y Z al ar bd bs bx b1 L')(hk: -1000<k/\k<1000)(b2: -1000<O/\O<1000)
 (D:cE 7 L I)(n:cE 7 L' J)(cc:I.length<1000)(fl:J.length<1000)(H:∀(i:Nat) (p q:az),I[i]? =some p->J[i]? =some q->p.length=7/\cg p=true/\q.length=7/\cg q=true/\∃e,bf u 40 [.agg p,.agg q] (.U e)/\(p=q->e=true)):
 ∃e,(x=y->e=true)/\∃s d,kW u [.agg x,.agg y] 0 .nil= .ok (.U e) 0 s d:=by
 have fn:=a.ad;have fp:=c.ad;have cn:=a.dB;have cu:=a.c8;have cY:=a.cX;have c0:=a.nc;have S:=a.iH;have M:=a.gD;have dd:=c.dB;have ds:=c.c8;have dt:=c.cX;have dz:=c.nc;have T:=c.iH;have N:=c.gD;have ee:∀{P:Prop},(x=y->P)->¬P->(x=y->false=true):=λQ V e=>absurd (Q e) V;by_cases e0:k=O
 rotate_left 1
 refine⟨false,ee (P:=k=O) (λe=>by subst e;have:=cn.symm.trans dd;simp only[dN]at this;exact pe this hk.1 b2.1) e0,?_⟩;rw[kW,ep,m8,b3,b3,bn,aH,av,aL,aH,m7,av,aL,eL,bM,gf,mB,cA,cf,gf,mF,cA,cf,gf,mE,cA,cf,gf,mD,cA,cf,gf,mC,cA,cf,bw,iI,cl,bJ,dh,aq];exact b6;cases E:gu (eN j c1 W X)
 rotate_left 1
 refine⟨false,λe=>?_,?_⟩;subst e;have:=cu.symm.trans ds;simp only[dN,ao.s.injEq]at this;obtain⟨rfl,rfl⟩:=this;rw[vK]at E;cases E;rw[kW,ep,m8,b3,b3,bn,aH,av,aL,aH,m7,av,aL,eL,bA,cV,aH,av,aL,aH,av,aL,gq,E,mB,ch,gf,mF,cA,cf,gf,mE,cA,cf,gf,mD,cA,cf,gf,mC,cA,cf,bw,iI,cl,bJ,dh,aq];exact b6;cases F:gu (eN l r Y Z)
 rotate_left 1
 refine⟨false,λe=>?_,?_⟩;subst e;have:=cY.symm.trans dt;simp only[dN,ao.s.injEq]at this;obtain⟨rfl,rfl⟩:=this;rw[vK]at F;cases F;rw[kW,ep,m8,b3,b3,bn,aH,av,aL,aH,m7,av,aL,eL,bA,cV,aH,av,aL,aH,av,aL,gq,E,mB,ch,cV,aH,av,aL,aH,av,aL,gq,F,mF,ch,gf,mE,cA,cf,gf,mD,cA,cf,gf,mC,cA,cf,bw,iI,cl,bJ,dh,aq];exact b6;cases G:gu (c7 (eN A C bd bs) (eN g B al ar))
 rotate_left 1
 refine⟨false,λe=>?_,?_⟩;subst e;have:=a.t3.symm.trans c.t3;simp only[jQ,ao.s.injEq]at this;obtain⟨⟨rfl,rfl⟩,⟨rfl,rfl⟩,_⟩:=this;rw[vK,vK]at G;cases G;rw[kW,ep,m8,b3,b3,bn,aH,av,aL,aH,m7,av,aL,eL,bA,cV,aH,av,aL,aH,av,aL,gq,E,mB,ch,cV,aH,av,aL,aH,av,aL,gq,F,mF,ch,cV,aH,av,dG M,a.t3,aH,av,dG N,c.t3,nO,G,mE,ch,gf,mD,cA,cf,gf,mC,cA,cf,bw,iI,cl,bJ,dh,aq];exact b6;cases K:gu (eN w z bx b1)
 rotate_left 1
 refine⟨false,λe=>?_,?_⟩;subst e;have:=c0.symm.trans dz;simp only[dN,ao.s.injEq]at this;obtain⟨rfl,rfl⟩:=this;rw[vK]at K;cases K;rw[kW,ep,m8,b3,b3,bn,aH,av,aL,aH,m7,av,aL,eL,bA,cV,aH,av,aL,aH,av,aL,gq,E,mB,ch,cV,aH,av,aL,aH,av,aL,gq,F,mF,ch,cV,aH,av,dG M,a.t3,aH,av,dG N,c.t3,nO,G,mE,ch,cV,aH,av,aL,aH,av,aL,gq,K,mD,ch,gf,mC,cA,cf,bw,iI,cl,bJ,dh,aq];exact b6;by_cases R:I.length=J.length
 rotate_left 1
 ·refine⟨false,λe=>?_,?_⟩
  ·subst e;have:=S.symm.trans T;simp only[dN]at this;subst this;refine absurd ?_ R;rcases D with⟨rfl,rfl⟩|rfl<;>rcases n with⟨Q,rfl⟩|Q<;>first|rfl|(cases Q;done)|(cases Q;rfl)
  rw[kW,ep,m8,b3,b3,bn,aH,av,aL,aH,m7,av,aL,eL,bA,cV,aH,av,aL,aH,av,aL,gq,E,mB,ch,cV,aH,av,aL,aH,av,aL,gq,F,mF,ch,cV,aH,av,dG M,a.t3,aH,av,dG N,c.t3,nO,G,mE,ch,cV,aH,av,aL,aH,av,aL,gq,K,mD,ch,cV,vB,aH,av,aL,D.len,aH,av,aL,n.len,eL,bM,mC,ch,bw,iI,cl,bJ,dh,aq];exact b6
 rcases D with⟨D,rfl⟩|D;have em:J=[]:=AO.1 R.symm;subst em;refine⟨true,λ_=>rfl,?_⟩;subst D;rw[kW,ep,m8,b3,b3,bn,aH,av,aL,aH,m7,av,aL,eL,bA,cV,aH,av,aL,aH,av,aL,gq,E,mB,ch,cV,aH,av,aL,aH,av,aL,gq,F,mF,ch,cV,aH,av,dG M,a.t3,aH,av,dG N,c.t3,nO,G,mE,ch,cV,aH,av,aL,aH,av,aL,gq,K,mD,ch,cV,vB,aH,av,aL,li,aH,av,aL,n.abL,eL,bA,mC,ch,bc,B3];rw[p7,oW];rw[lF,bn,aH,av,aL,li,b7,cz,bA,bc,iI,cf,bJ,dh,aq];exact b6;have en:=n;rcases n with⟨n,rfl⟩|n;have eq:I=[]:=AO.1 R;subst eq;refine⟨true,λ_=>rfl,?_⟩;subst D;rw[kW,ep,m8,b3,b3,bn,aH,av,aL,aH,m7,av,aL,eL,bA,cV,aH,av,aL,aH,av,aL,gq,E,mB,ch,cV,aH,av,aL,aH,av,aL,gq,F,mF,ch,cV,aH,av,dG M,a.t3,aH,av,dG N,c.t3,nO,G,mE,ch,cV,aH,av,aL,aH,av,aL,gq,K,mD,ch,cV,vB,aH,av,aL,abx,aH,av,aL,en.abL,eL,bA,mC,ch,bc,B3];rw[p7,oW];rw[lF,bn,aH,av,aL,abx,b7,cz,bA,bc,iI,cf,bJ,dh,aq];exact b6;have er:=λ(h:aO) (s2 s3:Nat) (ub:cp h 0) (b5:dS h) (V:h.am (0+2)= .box s2 x) (h3:h.am (0+3)= .box s3 y)=>aqD (u:=u) S T D n R cc H ub b5 V h3 I.length 0 1000000 (by omega) (by omega);obtain⟨e,es,ev⟩:=er _ _ _ inferInstance inferInstance (fZ (ec (h:=bN 0 .nil) (d:=2) (t:=42) (cs:=x))) (ec (d:=3) (t:=42));refine⟨e,λex=>es ?_,?_⟩;subst ex;have:=S.symm.trans T;simp only[dN]at this;subst this;rw[D]at n;cases n;rfl;subst D n;rw[kW,ep,m8,b3,b3,bn,aH,av,aL,aH,m7,av,aL,eL,bA,cV,aH,av,aL,aH,av,aL,gq,E,mB,ch,cV,aH,av,aL,aH,av,aL,gq,F,mF,ch,cV,aH,av,dG M,a.t3,aH,av,dG N,c.t3,nO,G,mE,ch,cV,aH,av,aL,aH,av,aL,gq,K,mD,ch,cV,vB,aH,av,aL,gC,aH,av,aL,gC,eL,bA,mC,ch,bc,B3];rw[b7];exact ev
end
end
section
variable{ob:dE}{q s e sz n:Nat}{es:bg}
section
variable[Tok] {u:Fn}{b:Nat}
theorem pt{r:Bool}(ho:ob q= .aV s e sz es r)(a:n=es.length)(f:bg->ay):i0 ob sz (.aV q s 0 n) f=f es:=by subst a;exact abl ho f
theorem abw(ho:ob q= .aV s e sz es true)(c:n=es.length)(f:gI):bi ob (.aV q s 0 n) f=f (.aN sz es) [(q,.aV s e sz es false)]:=by subst c;have d:∀f:ao->fk->ay,bi ob (.aV q s 0 es.length) f=lq (ob q) λa e sz ea bL=>bB (Nat.beq s a) (bB (Nat.ble (Nat.add 0 es.length) (eJ ea)) (f (.aN sz (mU ea 0 es.length)) (@Bool.rec (λ_=>fk) [] ((q,.aV a e sz ea false)::[]) bL)) .aF) .aF:=λ_=>rfl;rw[d,ho,uO,fI,da,gV,eT,dJ (by rw[h5];omega),da,Ah]
theorem abs{d f:Nat}{wk:Option (List Nat)}{ps:az}{r:ao}{o:eQ}{h:aO}[cp h b](H:bf u f ps r:=by assumption)(a:∀o,ke b wk [(b+d,o)]=true)(k:dv)(hd:d<4096:=by decide):cm u b wk f ps [(b+d,o)] h k=k r (h.dP b d (.ae o)):=by obtain⟨aC,dd,e⟩:=H;have c:cm u b wk f ps [(b+d,o)] h k=bB (ke b wk [(b+d,o)]) (zY b [(b+d,o)] h k (u f ps 0 .nil)) .aF:=rfl;have g:zY b [(b+d,o)] h k (.ok r 0 aC dd)=bB (Nat.ble (Nat.succ (b+d)) h.ax) (k r (h.g1 b (b+d) (.ae o))) .aF:=rfl;rw[c,a,da,e,g,eT,dJ (DU (cp.lt hd)),da];rfl
end
end
section
variable{c n:Nat}{g:az->Prop}{o:az}
section
variable[Tok] {u:Fn}{b:Nat}
theorem Ln{a c:Int}(d: -18446744073709551616<=a:=by omega)(j: -18446744073709551616<=c:=by omega)(k:ao->ay):dj (rm true (aA a) (aA c)) k=k (aA (max a c)):=by rw[db,db,db];have e:rm true (.ag .i64 (a+18446744073709551616).toNat) (.ag .i64 (c+18446744073709551616).toNat)=some (.ag .i64 (bif Nat.blt (a+18446744073709551616).toNat (c+18446744073709551616).toNat then(c+18446744073709551616).toNat else(a+18446744073709551616).toNat)):=rfl;rw[e];show k _=_;congr 2;rw[show Nat.blt (a+18446744073709551616).toNat (c+18446744073709551616).toNat=decide ((a+18446744073709551616).toNat<(c+18446744073709551616).toNat) from m9 ..];by_cases h:a<c;rw[bM,Int.max_eq_right (by omega)];rfl;rw[bA,Int.max_eq_left (by omega)];rfl
inductive rF (g:az->Prop):Nat->Nat->az->Prop
 |leaf {n:Nat}{o:az} (h:g o):rF g n 1 o
 |cons {n c c':Nat}{a d:az} (ha:rF g n c a) (hd:rF g n c' d):rF g (n+1) (1+c+c') [aA 4,.s 0 0,.s 0 0,.s 0 0,.s 0 0,.s 0 0,.aN 7 [a,d]]
def Nx[Tok](o:az):Prop:=∃k a c1 d e h i j l p q,1<=k/\k<=3/\l4 o k a c1 d e h i j l p q .ba
theorem ug{a d:az}:l4 [aA 4,.s 0 0,.s 0 0,.s 0 0,.s 0 0,.s 0 0,.aN 7 [a,d]] 4 0 0 0 0 0 0 0 0 0 0 (.aN 7 [a,d]):=⟨rfl,rfl⟩
theorem rF.v(d:∀o,g o->Nx o)(h:rF g n c o):o.length=7/\cg o=true:=by
 cases h with
 |leaf h=>obtain⟨k,e,c1,i,j,l,p,q,r,t,w,x,y,a⟩:=d _ h;exact⟨a.ad,a.pure⟩
 |cons z hd=>exact⟨ug.ad,ug.pure⟩
theorem rF.di(h:rF g n c o):1<=c:=by
 cases h with
 |leaf h=>exact dn _
 |cons a hd=>omega
theorem LI:(C6:ao)=aA 3001:=by rw[db];rfl
end
end
section
variable[Tok] {u:Fn}{b:Nat}
theorem uB{wk:Option (List Nat)}{n q s off:Nat}{c:Int}{h:aO}(k:dv):bl b wk n (.aQ q s off) (aA c) h k=bl b wk n (.aQ q s off) (.agg [aA c]) h k:=by rw[db];rfl
end
section
variable{a c:Int}
section
variable[Tok] {u:Fn}{b:Nat}
def iC(a c:Int):Int:=if a<c then-1 else if c<a then 1 else 0
theorem HE(h:a<c):iC a c= -1:=by unfold iC;rw[if_pos h]
theorem avP(h:c<a):iC a c=1:=by unfold iC;rw[r4,if_pos h]
theorem avO(a c:Int): -1<=iC a c/\iC a c<=1:=by unfold iC;split<;>(try split)<;>omega
def gD(x y z:Int):ao:= .aN 1 [[aA x],[aA y],[aA z]]
end
end
section
variable[Tok] {u:Fn}{b:Nat}
def t3(x y z:Int):ao:= .bD [aA x,aA y,aA z]
end
end Go.Hf

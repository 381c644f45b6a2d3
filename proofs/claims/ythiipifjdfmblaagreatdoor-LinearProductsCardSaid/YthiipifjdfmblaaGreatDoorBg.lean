import Derived.Test.YthiipifjdfmblaaGreatDoorAi
import Derived.Test.YthiipifjdfmblaaGreatDoorAj
import Derived.Test.YthiipifjdfmblaaGreatDoorProg
set_option maxRecDepth 1000000
set_option linter.all false
namespace Go.Hf
open Go.Proofs Go.RowKit
noncomputable section
variable[Tok] {gl:eI}
def d62:=bz 62 Tryz.f62 2 [.cell 4 true 11] [40004] []
theorem ay7:bv gl 62 Xo:=bw d62 Tryz.func62
def d63:=bz 63 Tryz.f63 2 [.cell 4 true 7] [4096,40004,59999,62125,79999,90009,104096,119999,159999,189999,209999,304096,319999,424096,439999,504096,519999,644096,659999,679999,712125,724096,759999,762124,772125,782125,804096,839999,849999,854096,889999] [0,0,5,0,1,4,5,0,4,0,1,4,0,0,0,0,0,6,0,1,4,20,27,0,0,0,0,0,0,0,0,0,0,0,0,0,0,5,0,1,4,60,0,0,0,0,3,4,6,0,7,0,1,4,6,7,8,7,0,1,4,6,7,8,0,7,0,1,4,6,7,8]
theorem at8:bv gl 63 uq:=bw d63 Tryz.func63
def d65:=bz 65 Tryz.f65 2 [.tmp 4] [20002,30003,60002,80003,120002,140003,190002,210003,260002,280003,330002,350003,400002,430003,490002,550002,600003] [0,3,2,3,0,0,1,0,4,2,3,5,4,2,3,5,0,4,2,3,5]
theorem apc:bv gl 65 n3:=bw d65 Tryz.func65
def d66:=bz 66 Tryz.f66 0 [.cell 0 true 7] [0] []
theorem au8:bv gl 66 ZC:=bw d66 Tryz.func66
def d68:=bz 68 Tryz.f68 2 [.tmp 4] [] [0,3,0,1,0,0,1,0,4,0,1,5,4,0,1,5,0,4,0,1,5]
theorem agU:bv gl 68 r9:=bw d68 Tryz.func68
def d71:=bz 71 Tryz.f71 1 [.cell 2 true 2] [20002] []
theorem aAt:bv gl 71 Se:=bw d71 Tryz.func71
def d75:=bz 75 Tryz.f75 2 [.cell 4 true 11] [40004] []
theorem agj:bv gl 75 aaU:=bw d75 Tryz.func75
def d81:=bz 81 Tryz.f81 2 [.cell 4 true 11] [20002,40004] []
theorem akg:bv gl 81 AX:=bw d81 Tryz.func81
def d85:=bz 85 Tryz.f85 3 [.tmp 6] [30003,70003,110003,180003] []
theorem ahs:bv gl 85 aau:=bw d85 Tryz.func85
def d96:=bz 96 Tryz.f96 3 [.cell 6 true 11] [4096,60006,79999,80008,132123,154096,169999,209999,239999,269999,284096,299999,319999,334096,349999,384096,399999,424096,459999,504096,539999,682123,694096,739999,742122,752123,772123] [0,0,6,0,1,2,6,7,0,5,0,1,2,6,0,0,0,0,0,6,0,1,2,6,8,0,0,0,0,4,6,8,13,0,9,0,1,2,6,8,11,13,14,9,0,1,2,6,8,11,13,14,0,9,0,1,2,6,8,11,13,14]
theorem ajd:bv gl 96 uz:=bw d96 Tryz.func96
def d97:=bz 97 Tryz.f97 2 [.tmp 4] [30003] [0,1,0,4,0,3,5,4,0,3,5,0,4,0,3,5]
theorem aAu:bv gl 97 yA:=bw d97 Tryz.func97
def d98:=bz 98 Tryz.f98 3 [.tmp 6] [30003,70003,110003,180003] []
theorem akn:bv gl 98 SX:=bw d98 Tryz.func98
def d99:=bz 99 Tryz.f99 2 [.tmp 4,.tmp 5] [20002,30003] [0,0,3,3,6,0,0,0,3,6,8,0,0,3,6,8]
theorem akY:bv gl 99 DG:=bw d99 Tryz.func99
def d100:=bz 100 Tryz.f100 1 [.cell 2 true 7] [20002] []
theorem aAW:bv gl 100 E4:=bw d100 Tryz.func100
def d101:=bz 101 Tryz.f101 1 [.tmp 2] [] []
theorem awY:bv gl 101 BH:=bw d101 Tryz.func101
def d106:=bz 106 Tryz.f106 1 [.tmp 2] [10001] []
theorem af7:bv gl 106 ES:=bw d106 Tryz.func106
def d107:=bz 107 Tryz.f107 1 [.tmp 2] [10001,60001,100001,150001,170001,240001,290001,360001,420001,580001,620001,670001,720001,770001,860001,910001,960001,1020001,1110001,1160001,1210001,1260001,1320001,1390001] [0,0,1]
theorem ayD:bv gl 107 Dz:=bw d107 Tryz.func107
def d108:=bz 108 Tryz.f108 2 [.tmp 4,.tmp 5] [20002,30003] [0,0,3,2,6,0,0,0,3,6,8,0,0,0,3,6,8]
theorem axW:bv gl 108 Ed:=bw d108 Tryz.func108
def d109:=bz 109 Tryz.f109 2 [.cell 4 true 7] [20002,30003,40004,50005,60006,110005,130006,160005,180006] []
theorem afO:bv gl 109 Di:=bw d109 Tryz.func109
def d110:=bz 110 Tryz.f110 1 [.tmp 2,.tmp 3] [] [0,2,0]
theorem aDp:bv gl 110 Cr:=bw d110 Tryz.func110
def d111:=bz 111 Tryz.f111 2 [.tmp 4] [30003,42078,42082,42113,42119,42123,42127,62078,62082,62113,70007,80003,302078,342078,342082,530003,592078,592082,592113,610003,642112,652078,652082,652113,662078,662082,662113,712078,712082,712113,712119,722078,722082,722113,742122,752078,752082,752113,752123,792078,792082,792113,792123,792127] [0,3,0,3,0,0,0,4,0,3,5,4,0,3,5,4,0,3,5,0,0,5,0,3,5,6,0,0,4,0,5,6]
theorem axy:bv gl 111 En:=bw d111 Tryz.func111
def d113:=bz 113 Tryz.f113 1 [.cell 2 true 7] [10001,20002,30001] [0,2,2]
theorem asc:bv gl 113 C5:=bw d113 Tryz.func113
def d114:=bz 114 Tryz.f114 2 [.cell 4 true 7] [40004] []
theorem azl:bv gl 114 CF:=bw d114 Tryz.func114
def d116:=bz 116 Tryz.f116 1 [.tmp 2,.tmp 3,.tmp 4] [10001] []
theorem avY:bv gl 116 yo:=bw d116 Tryz.func116
def d117:=bz 117 Tryz.f117 1 [.cell 2 true 7,.tmp 3] [20002] [0,2,2]
theorem aid:bv gl 117 uL:=bw d117 Tryz.func117
def d118:=bz 118 Tryz.f118 2 [.tmp 4,.tmp 5] [49999,59999,62089,80008,100010,119999,240008,260010,282076,299999,309999,319999,322089,330008,350010,389999,399999,402088,412089,442089,459999,469999,479999] [0,0,2,6,0,6,1,6,12,13,14,0,6,1,6,12,13,14,6,1,6,12,13,14,0,0,10,1,6,8,12,13,14,18,19,20,0,10,1,6,8,12,13,14,18,19,20,10,1,6,8,12,13,14,18,19,20] [41]
theorem ary:bv gl 118 w1:=bw d118 Tryz.func118
def d119:=bz 119 Tryz.f119 1 [.tmp 2] [40004,110004] [0,1,0,4,5,6,7,0,4,5,6,7,4,5,6,7]
theorem av2:bv gl 119 yK:=bw d119 Tryz.func119
def d120:=bz 120 Tryz.f120 1 [.cell 2 true 11] [20002,30003,302078] [0,3,0,2,0,0,0,3,2,3,0,5,0,2,3,4,5,0,2,3,4,0,5,0,2,3,4]
theorem auH:bv gl 120 y9:=bw d120 Tryz.func120
def d121:=bz 121 Tryz.f121 1 [.cell 2 true 11] [10001,20002] []
theorem aoZ:bv gl 121 BY:=bw d121 Tryz.func121
def d122:=bz 122 Tryz.f122 2 [.cell 4 true 11] [40004] []
theorem arB:bv gl 122 acB:=bw d122 Tryz.func122
def d123:=bz 123 Tryz.f123 1 [.cell 2 true 11] [10001,20002,42052] []
theorem akO:bv gl 123 Cd:=bw d123 Tryz.func123
end
end Go.Hf

import Derived.Shelf.Strings.Builder1
import Derived.Shelf.Small.Strs
import Derived.Shelf.Strconv.Itoa4
import Derived.Shelf.Strconv.ParseIntPublic10
import Derived.Shelf.Pu.ParseUintPublic10
import Derived.Shelf.Strings.Prefix
import Derived.Shelf.Slices.SearchI
import Derived.Test.YthiipifjdfmblaaGreatDoorRows
import Derived.Test.YthiipifjdfmblaaGreatDoorAo
set_option linter.all false
set_option maxRecDepth 100000
namespace Go.Hf
open Go.RowKit
def Jo:List (Int×Int):=[(-31,2),
 (-29,2),
 (-27,2),
 (-25,2),
 (-23,2),
 (-21,2),
 (-19,2),
 (-17,2),
 (-16,2),
 (-15,2),
 (-14,2),
 (-13,2),
 (-12,2),
 (-11,2),
 (-10,2),
 (-9,2),
 (-8,2),
 (-7,2),
 (-6,2),
 (-5,2),
 (-4,2),
 (-3,2),
 (-2,2),
 (-1,2),
 (0,2),
 (1,2),
 (2,2),
 (3,2),
 (4,2),
 (5,2),
 (6,2),
 (7,2),
 (8,2),
 (9,2),
 (10,2),
 (11,2),
 (12,2),
 (13,2),
 (14,2),
 (15,2),
 (16,2),
 (17,2),
 (19,2),
 (21,2),
 (23,2),
 (25,2),
 (27,2),
 (29,2),
 (31,2),
 (-104,3),
 (-101,3),
 (-98,3),
 (-95,3),
 (-94,3),
 (-92,3),
 (-91,3),
 (-89,3),
 (-88,3),
 (-86,3),
 (-85,3),
 (-83,3),
 (-82,3),
 (-80,3),
 (-79,3),
 (-77,3),
 (-76,3),
 (-75,3),
 (-74,3),
 (-73,3),
 (-71,3),
 (-70,3),
 (-68,3),
 (-67,3),
 (-65,3),
 (-64,3),
 (-62,3),
 (-61,3),
 (-60,3),
 (-59,3),
 (-58,3),
 (-56,3),
 (-55,3),
 (-53,3),
 (-52,3),
 (-50,3),
 (-49,3),
 (-47,3),
 (-46,3),
 (-45,3),
 (-44,3),
 (-43,3),
 (-41,3),
 (-40,3),
 (-38,3),
 (-37,3),
 (-35,3),
 (-34,3),
 (-32,3),
 (-31,3),
 (-30,3),
 (-29,3),
 (-28,3),
 (-26,3),
 (-25,3),
 (-23,3),
 (-22,3),
 (-20,3),
 (-19,3),
 (-17,3),
 (-16,3),
 (-15,3),
 (-14,3),
 (-13,3),
 (-11,3),
 (-10,3),
 (-8,3),
 (-7,3),
 (-5,3),
 (-4,3),
 (-2,3),
 (-1,3),
 (0,3),
 (1,3),
 (2,3),
 (4,3),
 (5,3),
 (7,3),
 (8,3),
 (10,3),
 (11,3),
 (13,3),
 (14,3),
 (15,3),
 (16,3),
 (17,3),
 (19,3),
 (20,3),
 (22,3),
 (23,3),
 (25,3),
 (26,3),
 (28,3),
 (29,3),
 (30,3),
 (31,3),
 (32,3),
 (34,3),
 (35,3),
 (37,3),
 (38,3),
 (40,3),
 (41,3),
 (43,3),
 (44,3),
 (45,3),
 (46,3),
 (47,3),
 (49,3),
 (50,3),
 (52,3),
 (53,3),
 (55,3),
 (56,3),
 (58,3),
 (59,3),
 (60,3),
 (61,3),
 (62,3),
 (64,3),
 (65,3),
 (67,3),
 (68,3),
 (70,3),
 (71,3),
 (73,3),
 (74,3),
 (75,3),
 (76,3),
 (77,3),
 (79,3),
 (80,3),
 (82,3),
 (83,3),
 (85,3),
 (86,3),
 (88,3),
 (89,3),
 (91,3),
 (92,3),
 (94,3),
 (95,3),
 (98,3),
 (101,3),
 (104,3),
 (-12,4),
 (-11,4),
 (-8,4),
 (-7,4),
 (-4,4),
 (-3,4),
 (-1,4),
 (0,4),
 (1,4),
 (4,4),
 (5,4),
 (8,4),
 (9,4),
 (12,4),
 (13,4),
 (-31,6),
 (-25,6),
 (-23,6),
 (-19,6),
 (-17,6),
 (-13,6),
 (-11,6),
 (-7,6),
 (-5,6),
 (-1,6),
 (1,6),
 (5,6),
 (7,6),
 (11,6),
 (13,6),
 (17,6),
 (19,6),
 (25,6),
 (31,6),
 (-2,8),
 (-30,9),
 (-27,9),
 (-25,9),
 (-18,9),
 (-15,9),
 (-9,9),
 (-2,9),
 (0,9),
 (7,9),
 (9,9),
 (16,9),
 (18,9),
 (25,9),
 (27,9),
 (30,9),
 (34,9),
 (40,9),
 (43,9),
 (45,9),
 (52,9),
 (-20,12),
 (-16,12),
 (23,12),
 (9,18),
 (15,18),
 (41,18),
 (120,27)]
def gC:List Nat:=[0,1,2,3,4,5,6,7,8,9,10,11,12,13,14,15,16,17,18,19,20,21,22,23,24,25,26,27,28,29,30,31,32,33,34,35,36,37,38,39,40,41,42,43,44,45,46,47,48,49,50,51,52,53,54,55,56,57,58,59,60,61,62,63,64,65,66,67,68,69,70,71,72,73,74,75,76,77,78,79,80,81,84,88,90,91,96,98,99,100,104,105,108,110,112,117,120,121,126,128,130,132,135,140,143,144,150,154,156,160,165,168,169,176,180,182,192,195,196,208,210,224,225,240,256]
def u0:List (Int×Int):=[(-31,2),
 (-29,2),
 (-27,2),
 (-25,2),
 (-23,2),
 (-21,2),
 (-19,2),
 (-17,2),
 (-15,2),
 (-13,2),
 (-11,2),
 (-9,2),
 (-7,2),
 (-5,2),
 (-3,2),
 (-1,2),
 (1,2),
 (3,2),
 (5,2),
 (7,2),
 (9,2),
 (11,2),
 (13,2),
 (15,2),
 (17,2),
 (19,2),
 (21,2),
 (23,2),
 (25,2),
 (27,2),
 (29,2),
 (31,2),
 (-104,3),
 (-101,3),
 (-98,3),
 (-95,3),
 (-94,3),
 (-92,3),
 (-91,3),
 (-89,3),
 (-88,3),
 (-86,3),
 (-85,3),
 (-83,3),
 (-82,3),
 (-80,3),
 (-79,3),
 (-77,3),
 (-76,3),
 (-74,3),
 (-73,3),
 (-71,3),
 (-70,3),
 (-68,3),
 (-67,3),
 (-65,3),
 (-64,3),
 (-62,3),
 (-61,3),
 (-59,3),
 (-58,3),
 (-56,3),
 (-55,3),
 (-53,3),
 (-52,3),
 (-50,3),
 (-49,3),
 (-47,3),
 (-46,3),
 (-44,3),
 (-43,3),
 (-41,3),
 (-40,3),
 (-38,3),
 (-37,3),
 (-35,3),
 (-34,3),
 (-32,3),
 (-31,3),
 (-29,3),
 (-28,3),
 (-26,3),
 (-25,3),
 (-23,3),
 (-22,3),
 (-20,3),
 (-19,3),
 (-17,3),
 (-16,3),
 (-14,3),
 (-13,3),
 (-11,3),
 (-10,3),
 (-8,3),
 (-7,3),
 (-5,3),
 (-4,3),
 (-2,3),
 (-1,3),
 (1,3),
 (2,3),
 (4,3),
 (5,3),
 (7,3),
 (8,3),
 (10,3),
 (11,3),
 (13,3),
 (14,3),
 (16,3),
 (17,3),
 (19,3),
 (20,3),
 (22,3),
 (23,3),
 (25,3),
 (26,3),
 (28,3),
 (29,3),
 (31,3),
 (32,3),
 (34,3),
 (35,3),
 (37,3),
 (38,3),
 (40,3),
 (41,3),
 (43,3),
 (44,3),
 (46,3),
 (47,3),
 (49,3),
 (50,3),
 (52,3),
 (53,3),
 (55,3),
 (56,3),
 (58,3),
 (59,3),
 (61,3),
 (62,3),
 (64,3),
 (65,3),
 (67,3),
 (68,3),
 (70,3),
 (71,3),
 (73,3),
 (74,3),
 (76,3),
 (77,3),
 (79,3),
 (80,3),
 (82,3),
 (83,3),
 (85,3),
 (86,3),
 (88,3),
 (89,3),
 (91,3),
 (92,3),
 (94,3),
 (95,3),
 (98,3),
 (101,3),
 (104,3),
 (-11,4),
 (-7,4),
 (-3,4),
 (-1,4),
 (1,4),
 (5,4),
 (9,4),
 (13,4),
 (-31,6),
 (-25,6),
 (-23,6),
 (-19,6),
 (-17,6),
 (-13,6),
 (-11,6),
 (-7,6),
 (-5,6),
 (-1,6),
 (1,6),
 (5,6),
 (7,6),
 (11,6),
 (13,6),
 (17,6),
 (19,6),
 (25,6),
 (31,6),
 (-25,9),
 (-2,9),
 (7,9),
 (16,9),
 (25,9),
 (34,9),
 (40,9),
 (43,9),
 (52,9),
 (23,12),
 (41,18)]
def l0(p q:Int):Int:=p/(Int.gcd p q:Int)
def lM(p q:Int):Int:=q/(Int.gcd p q:Int)
end Go.Hf
namespace Go.Proofs
open Go.Shelf Go.Hf
def ya:String:=(YthiipifjdfmblaaGreatDoor.Rows.linearProductsRow.laid.map (λp=>p.1)).getD 2 ""
def Tryz.azc:Go.Shelf.Ren:=⟨λ |106=>334|213=>357|265=>371|n=>n,λ |9=>9|3=>3|n=>n,λ |n=>n⟩
theorem Tryz.aoG:Go.Proofs.Lays.n106 Tryz.prog Tryz.azc:={
 mixed:=by kernel_rfl
 f106:=Tryz.func334.trans (oT some (by kernel_rfl))
 f213:=Tryz.func357.trans (oT some (by kernel_rfl))
 f265:=Tryz.func371.trans (oT some (by kernel_rfl))
 t3:=Tryz.underlying3
 a3:=Tryz.isAgg3
 z3:=Tryz.sizeOf3
 v3:=Tryz.zeroValue3
 t9:=Tryz.underlying9
 a9:=Tryz.isAgg9
 z9:=Tryz.sizeOf9
 v9:=Tryz.zeroValue9}
open Go.RowKit in
theorem Tryz.strings_Compare(a b:ByteArray)(w:World):
 Calls Tryz.prog 334 #[.string a,.string b] w λe w'=>e= .returned (.int .i64 (Lib.compareBytes a.data.toList b.data.toList))/\w'=w:=Any.strings_Compare Tryz.aoG a b w
def Tryz.aCP:Go.Shelf.Ren:=⟨λ |171=>157|243=>206|246=>263|283=>309|284=>310|285=>311|286=>312|129=>343|317=>342|318=>344|319=>345|320=>346|337=>359|338=>360|n=>n,λ |3=>3|9=>9|2=>2|4=>4|171=>342|0=>0|53=>78|37=>22|5=>5|173=>345|212=>372|51=>26|20=>20|213=>373|46=>175|232=>388|233=>389|n=>n,λ |17=>0|18=>2|19=>3|n=>n⟩
theorem Tryz.akk:Go.Proofs.LaysM.n171 Tryz.prog Tryz.aCP:={
 mixed:=by kernel_rfl
 f129:=Tryz.func343.trans (oT some (by kernel_rfl))
 f171:=Tryz.func157.trans (oT some (by kernel_rfl))
 f243:=Tryz.func206.trans (oT some (by kernel_rfl))
 f246:=Tryz.func263.trans (oT some (by kernel_rfl))
 f283:=Tryz.func309.trans (oT some (by kernel_rfl))
 f284:=Tryz.func310.trans (oT some (by kernel_rfl))
 f285:=Tryz.func311.trans (oT some (by kernel_rfl))
 f286:=Tryz.func312.trans (oT some (by kernel_rfl))
 f317:=Tryz.func342.trans (oT some (by kernel_rfl))
 f318:=Tryz.func344.trans (oT some (by kernel_rfl))
 f319:=Tryz.func345.trans (oT some (by kernel_rfl))
 f320:=Tryz.func346.trans (oT some (by kernel_rfl))
 f337:=Tryz.func359.trans (oT some (by kernel_rfl))
 f338:=Tryz.func360.trans (oT some (by kernel_rfl))
 t0:=Tryz.underlying0
 a0:=Tryz.isAgg0
 z0:=Tryz.sizeOf0
 v0:=Tryz.zeroValue0
 t2:=Tryz.underlying2
 a2:=Tryz.isAgg2
 z2:=Tryz.sizeOf2
 v2:=Tryz.zeroValue2
 t3:=Tryz.underlying3
 a3:=Tryz.isAgg3
 z3:=Tryz.sizeOf3
 v3:=Tryz.zeroValue3
 t4:=Tryz.underlying4
 a4:=Tryz.isAgg4
 z4:=Tryz.sizeOf4
 v4:=Tryz.zeroValue4
 t5:=Tryz.underlying5
 a5:=Tryz.isAgg5
 z5:=Tryz.sizeOf5
 v5:=Tryz.zeroValue5
 t9:=Tryz.underlying9
 a9:=Tryz.isAgg9
 z9:=Tryz.sizeOf9
 v9:=Tryz.zeroValue9
 t20:=Tryz.underlying20
 a20:=Tryz.isAgg20
 z20:=Tryz.sizeOf20
 v20:=Tryz.zeroValue20
 t37:=Tryz.underlying22
 a37:=Tryz.isAgg22
 z37:=Tryz.sizeOf22
 v37:=Tryz.zeroValue22
 t46:=Tryz.underlying175
 a46:=Tryz.isAgg175
 z46:=Tryz.sizeOf175
 v46:=Tryz.zeroValue175
 t51:=Tryz.underlying26
 a51:=Tryz.isAgg26
 z51:=Tryz.sizeOf26
 v51:=Tryz.zeroValue26
 t53:=Tryz.underlying78
 a53:=Tryz.isAgg78
 z53:=Tryz.sizeOf78
 v53:=Tryz.zeroValue78
 t171:=Tryz.underlying342
 a171:=Tryz.isAgg342
 z171:=Tryz.sizeOf342
 v171:=Tryz.zeroValue342
 t173:=Tryz.underlying345
 a173:=Tryz.isAgg345
 z173:=Tryz.sizeOf345
 v173:=Tryz.zeroValue345
 t212:=Tryz.underlying372
 a212:=Tryz.isAgg372
 z212:=Tryz.sizeOf372
 v212:=Tryz.zeroValue372
 t213:=Tryz.underlying373
 a213:=Tryz.isAgg373
 z213:=Tryz.sizeOf373
 t232:=Tryz.underlying388
 a232:=Tryz.isAgg388
 z232:=Tryz.sizeOf388
 v232:=Tryz.zeroValue388
 t233:=Tryz.underlying389
 a233:=Tryz.isAgg389
 z233:=Tryz.sizeOf389
 v233:=Tryz.zeroValue389
 g17:=by kernel_rfl
 g18:=by kernel_rfl
 g19:=by kernel_rfl
 i0:=by kernel_rfl
 i2:=by kernel_rfl
 i3:=by kernel_rfl
 i4:=by kernel_rfl
 i5:=by kernel_rfl
 i9:=by kernel_rfl
 i20:=by kernel_rfl
 i37:=by kernel_rfl
 i46:=by kernel_rfl
 i51:=by kernel_rfl
 i53:=by kernel_rfl
 i171:=by kernel_rfl
 i173:=by kernel_rfl
 i212:=by kernel_rfl
 i232:=by kernel_rfl
 i233:=by kernel_rfl
 m17:=by kernel_rfl
 m18:=by kernel_rfl
 m19:=by kernel_rfl}
open Go.RowKit Go.Sort Go.Lib in
theorem Tryz.strconv_Itoa(n:Int)(a: -9223372036854775808<=n)(b:n<=9223372036854775807)(w:World)(c:Lib.TabIs Tryz.prog w ya .u64 Lib.pow10Tab):
 Calls Tryz.prog 157 #[.int .i64 n] w λe w'=>e= .returned (.string ⟨(Lib.itoa n).toArray⟩)/\∃k os,w'=grow (w.drewN k) os:=Any.strconv_Itoa Tryz.akk n a b w c
def Tryz.az8:Go.Shelf.Ren:=⟨λ |173=>267|246=>263|283=>309|284=>310|285=>311|286=>312|129=>343|317=>342|318=>344|319=>345|320=>346|337=>359|338=>360|n=>n,λ |2=>2|3=>3|9=>9|4=>4|171=>342|0=>0|53=>78|37=>22|5=>5|173=>345|212=>372|51=>26|20=>20|213=>373|46=>175|232=>388|233=>389|n=>n,λ |17=>0|18=>2|19=>3|n=>n⟩
theorem Tryz.aoC:Go.Proofs.LaysM.n173 Tryz.prog Tryz.az8:={
 mixed:=by kernel_rfl
 f129:=Tryz.func343.trans (oT some (by kernel_rfl))
 f173:=Tryz.func267.trans (oT some (by kernel_rfl))
 f246:=Tryz.func263.trans (oT some (by kernel_rfl))
 f283:=Tryz.func309.trans (oT some (by kernel_rfl))
 f284:=Tryz.func310.trans (oT some (by kernel_rfl))
 f285:=Tryz.func311.trans (oT some (by kernel_rfl))
 f286:=Tryz.func312.trans (oT some (by kernel_rfl))
 f317:=Tryz.func342.trans (oT some (by kernel_rfl))
 f318:=Tryz.func344.trans (oT some (by kernel_rfl))
 f319:=Tryz.func345.trans (oT some (by kernel_rfl))
 f320:=Tryz.func346.trans (oT some (by kernel_rfl))
 f337:=Tryz.func359.trans (oT some (by kernel_rfl))
 f338:=Tryz.func360.trans (oT some (by kernel_rfl))
 t0:=Tryz.underlying0
 a0:=Tryz.isAgg0
 z0:=Tryz.sizeOf0
 v0:=Tryz.zeroValue0
 t2:=Tryz.underlying2
 a2:=Tryz.isAgg2
 z2:=Tryz.sizeOf2
 v2:=Tryz.zeroValue2
 t3:=Tryz.underlying3
 a3:=Tryz.isAgg3
 z3:=Tryz.sizeOf3
 v3:=Tryz.zeroValue3
 t4:=Tryz.underlying4
 a4:=Tryz.isAgg4
 z4:=Tryz.sizeOf4
 v4:=Tryz.zeroValue4
 t5:=Tryz.underlying5
 a5:=Tryz.isAgg5
 z5:=Tryz.sizeOf5
 v5:=Tryz.zeroValue5
 t9:=Tryz.underlying9
 a9:=Tryz.isAgg9
 z9:=Tryz.sizeOf9
 v9:=Tryz.zeroValue9
 t20:=Tryz.underlying20
 a20:=Tryz.isAgg20
 z20:=Tryz.sizeOf20
 v20:=Tryz.zeroValue20
 t37:=Tryz.underlying22
 a37:=Tryz.isAgg22
 z37:=Tryz.sizeOf22
 v37:=Tryz.zeroValue22
 t46:=Tryz.underlying175
 a46:=Tryz.isAgg175
 z46:=Tryz.sizeOf175
 v46:=Tryz.zeroValue175
 t51:=Tryz.underlying26
 a51:=Tryz.isAgg26
 z51:=Tryz.sizeOf26
 v51:=Tryz.zeroValue26
 t53:=Tryz.underlying78
 a53:=Tryz.isAgg78
 z53:=Tryz.sizeOf78
 v53:=Tryz.zeroValue78
 t171:=Tryz.underlying342
 a171:=Tryz.isAgg342
 z171:=Tryz.sizeOf342
 v171:=Tryz.zeroValue342
 t173:=Tryz.underlying345
 a173:=Tryz.isAgg345
 z173:=Tryz.sizeOf345
 v173:=Tryz.zeroValue345
 t212:=Tryz.underlying372
 a212:=Tryz.isAgg372
 z212:=Tryz.sizeOf372
 v212:=Tryz.zeroValue372
 t213:=Tryz.underlying373
 a213:=Tryz.isAgg373
 z213:=Tryz.sizeOf373
 t232:=Tryz.underlying388
 a232:=Tryz.isAgg388
 z232:=Tryz.sizeOf388
 v232:=Tryz.zeroValue388
 t233:=Tryz.underlying389
 a233:=Tryz.isAgg389
 z233:=Tryz.sizeOf389
 v233:=Tryz.zeroValue389
 g17:=by kernel_rfl
 g18:=by kernel_rfl
 g19:=by kernel_rfl
 i0:=by kernel_rfl
 i2:=by kernel_rfl
 i3:=by kernel_rfl
 i4:=by kernel_rfl
 i5:=by kernel_rfl
 i9:=by kernel_rfl
 i20:=by kernel_rfl
 i37:=by kernel_rfl
 i46:=by kernel_rfl
 i51:=by kernel_rfl
 i53:=by kernel_rfl
 i171:=by kernel_rfl
 i173:=by kernel_rfl
 i212:=by kernel_rfl
 i232:=by kernel_rfl
 i233:=by kernel_rfl
 m17:=by kernel_rfl
 m18:=by kernel_rfl
 m19:=by kernel_rfl}
open Go.RowKit Go.Sort Go.Lib in
theorem Tryz.strconv_FormatInt_10(n:Int)(a: -9223372036854775808<=n)(b:n<=9223372036854775807)(w:World)(c:Lib.TabIs Tryz.prog w ya .u64 Lib.pow10Tab):
 Calls Tryz.prog 267 #[.int .i64 n,.int .i64 10] w λe w'=>e= .returned (.string ⟨(Lib.itoa n).toArray⟩)/\∃k os,w'=grow (w.drewN k) os:=Any.strconv_FormatInt_10 Tryz.aoC n a b w c
def Tryz.apm:Go.Shelf.Ren:=⟨λ |174=>317|247=>350|245=>351|287=>353|279=>363|280=>364|281=>365|282=>366|321=>368|322=>369|316=>373|171=>157|205=>374|243=>206|246=>263|283=>309|284=>310|285=>311|286=>312|129=>343|317=>342|318=>344|319=>345|320=>346|337=>359|338=>360|n=>n,λ |9=>9|3=>3|2=>2|75=>349|85=>350|4=>4|167=>381|5=>5|53=>78|175=>352|46=>175|168=>382|37=>22|0=>0|210=>391|21=>21|127=>378|145=>395|143=>393|171=>342|173=>345|212=>372|51=>26|20=>20|213=>373|232=>388|233=>389|80=>200|n=>n,λ |15=>4|16=>5|17=>0|18=>2|19=>3|n=>n⟩
theorem Tryz.ai0:Go.Proofs.LaysC.n174 Tryz.prog Tryz.apm:={
 mixed:=by kernel_rfl
 f129:=Tryz.func343.trans (oT some (by kernel_rfl))
 f171:=Tryz.func157.trans (oT some (by kernel_rfl))
 f174:=Tryz.func317.trans (oT some (by kernel_rfl))
 f205:=Tryz.func374.trans (oT some (by kernel_rfl))
 f243:=Tryz.func206.trans (oT some (by kernel_rfl))
 f245:=Tryz.func351.trans (oT some (by kernel_rfl))
 f246:=Tryz.func263.trans (oT some (by kernel_rfl))
 f247:=Tryz.func350.trans (oT some (by kernel_rfl))
 f279:=Tryz.func363.trans (oT some (by kernel_rfl))
 f280:=Tryz.func364.trans (oT some (by kernel_rfl))
 f281:=Tryz.func365.trans (oT some (by kernel_rfl))
 f282:=Tryz.func366.trans (oT some (by kernel_rfl))
 f283:=Tryz.func309.trans (oT some (by kernel_rfl))
 f284:=Tryz.func310.trans (oT some (by kernel_rfl))
 f285:=Tryz.func311.trans (oT some (by kernel_rfl))
 f286:=Tryz.func312.trans (oT some (by kernel_rfl))
 f287:=Tryz.func353.trans (oT some (by kernel_rfl))
 f316:=Tryz.func373.trans (oT some (by kernel_rfl))
 f317:=Tryz.func342.trans (oT some (by kernel_rfl))
 f318:=Tryz.func344.trans (oT some (by kernel_rfl))
 f319:=Tryz.func345.trans (oT some (by kernel_rfl))
 f320:=Tryz.func346.trans (oT some (by kernel_rfl))
 f321:=Tryz.func368.trans (oT some (by kernel_rfl))
 f322:=Tryz.func369.trans (oT some (by kernel_rfl))
 f337:=Tryz.func359.trans (oT some (by kernel_rfl))
 f338:=Tryz.func360.trans (oT some (by kernel_rfl))
 t0:=Tryz.underlying0
 a0:=Tryz.isAgg0
 z0:=Tryz.sizeOf0
 v0:=Tryz.zeroValue0
 t2:=Tryz.underlying2
 a2:=Tryz.isAgg2
 z2:=Tryz.sizeOf2
 v2:=Tryz.zeroValue2
 t3:=Tryz.underlying3
 a3:=Tryz.isAgg3
 z3:=Tryz.sizeOf3
 v3:=Tryz.zeroValue3
 t4:=Tryz.underlying4
 a4:=Tryz.isAgg4
 z4:=Tryz.sizeOf4
 v4:=Tryz.zeroValue4
 t5:=Tryz.underlying5
 a5:=Tryz.isAgg5
 z5:=Tryz.sizeOf5
 v5:=Tryz.zeroValue5
 t9:=Tryz.underlying9
 a9:=Tryz.isAgg9
 z9:=Tryz.sizeOf9
 v9:=Tryz.zeroValue9
 t20:=Tryz.underlying20
 a20:=Tryz.isAgg20
 z20:=Tryz.sizeOf20
 v20:=Tryz.zeroValue20
 t21:=Tryz.underlying21
 a21:=Tryz.isAgg21
 z21:=Tryz.sizeOf21
 v21:=Tryz.zeroValue21
 t37:=Tryz.underlying22
 a37:=Tryz.isAgg22
 z37:=Tryz.sizeOf22
 v37:=Tryz.zeroValue22
 t46:=Tryz.underlying175
 a46:=Tryz.isAgg175
 z46:=Tryz.sizeOf175
 v46:=Tryz.zeroValue175
 t51:=Tryz.underlying26
 a51:=Tryz.isAgg26
 z51:=Tryz.sizeOf26
 v51:=Tryz.zeroValue26
 t53:=Tryz.underlying78
 a53:=Tryz.isAgg78
 z53:=Tryz.sizeOf78
 v53:=Tryz.zeroValue78
 t75:=Tryz.underlying349
 a75:=Tryz.isAgg349
 z75:=Tryz.sizeOf349
 v75:=Tryz.zeroValue349
 t85:=Tryz.underlying350
 a85:=Tryz.isAgg350
 z85:=Tryz.sizeOf350
 v85:=Tryz.zeroValue350
 t127:=Tryz.underlying378
 a127:=Tryz.isAgg378
 z127:=Tryz.sizeOf378
 v127:=Tryz.zeroValue378
 t143:=Tryz.underlying393
 a143:=Tryz.isAgg393
 z143:=Tryz.sizeOf393
 v143:=Tryz.zeroValue393
 t145:=Tryz.underlying395
 a145:=Tryz.isAgg395
 z145:=Tryz.sizeOf395
 v145:=Tryz.zeroValue395
 t167:=Tryz.underlying381
 a167:=Tryz.isAgg381
 z167:=Tryz.sizeOf381
 v167:=Tryz.zeroValue381
 t168:=Tryz.underlying382
 a168:=Tryz.isAgg382
 z168:=Tryz.sizeOf382
 v168:=Tryz.zeroValue382
 t171:=Tryz.underlying342
 a171:=Tryz.isAgg342
 z171:=Tryz.sizeOf342
 v171:=Tryz.zeroValue342
 t173:=Tryz.underlying345
 a173:=Tryz.isAgg345
 z173:=Tryz.sizeOf345
 v173:=Tryz.zeroValue345
 t175:=Tryz.underlying352
 a175:=Tryz.isAgg352
 z175:=Tryz.sizeOf352
 v175:=Tryz.zeroValue352
 t210:=Tryz.underlying391
 a210:=Tryz.isAgg391
 z210:=Tryz.sizeOf391
 v210:=Tryz.zeroValue391
 t212:=Tryz.underlying372
 a212:=Tryz.isAgg372
 z212:=Tryz.sizeOf372
 v212:=Tryz.zeroValue372
 t213:=Tryz.underlying373
 a213:=Tryz.isAgg373
 z213:=Tryz.sizeOf373
 t232:=Tryz.underlying388
 a232:=Tryz.isAgg388
 z232:=Tryz.sizeOf388
 v232:=Tryz.zeroValue388
 t233:=Tryz.underlying389
 a233:=Tryz.isAgg389
 z233:=Tryz.sizeOf389
 v233:=Tryz.zeroValue389
 g15:=by kernel_rfl
 g16:=by kernel_rfl
 g17:=by kernel_rfl
 g18:=by kernel_rfl
 g19:=by kernel_rfl
 t80:=Tryz.underlying200
 a80:=Tryz.isAgg200
 z80:=Tryz.sizeOf200
 v80:=Tryz.zeroValue200
 i0:=by kernel_rfl
 i2:=by kernel_rfl
 i3:=by kernel_rfl
 i4:=by kernel_rfl
 i5:=by kernel_rfl
 i9:=by kernel_rfl
 i20:=by kernel_rfl
 i21:=by kernel_rfl
 i37:=by kernel_rfl
 i46:=by kernel_rfl
 i51:=by kernel_rfl
 i53:=by kernel_rfl
 i75:=by kernel_rfl
 i80:=by kernel_rfl
 i85:=by kernel_rfl
 i127:=by kernel_rfl
 i143:=by kernel_rfl
 i145:=by kernel_rfl
 i167:=by kernel_rfl
 i168:=by kernel_rfl
 i171:=by kernel_rfl
 i173:=by kernel_rfl
 i175:=by kernel_rfl
 i210:=by kernel_rfl
 i212:=by kernel_rfl
 i232:=by kernel_rfl
 i233:=by kernel_rfl
 m15:=by kernel_rfl
 m16:=by kernel_rfl
 m17:=by kernel_rfl
 m18:=by kernel_rfl
 m19:=by kernel_rfl
 c0:=by kernel_rfl
 c2:=by kernel_rfl
 c3:=by kernel_rfl
 c4:=by kernel_rfl
 c5:=by kernel_rfl
 c9:=by kernel_rfl
 c20:=by kernel_rfl
 c21:=by kernel_rfl
 c37:=by kernel_rfl
 c46:=by kernel_rfl
 c51:=by kernel_rfl
 c53:=by kernel_rfl
 c75:=by kernel_rfl
 c80:=by kernel_rfl
 c85:=by kernel_rfl
 c127:=by kernel_rfl
 c143:=by kernel_rfl
 c145:=by kernel_rfl
 c167:=by kernel_rfl
 c168:=by kernel_rfl
 c171:=by kernel_rfl
 c173:=by kernel_rfl
 c175:=by kernel_rfl
 c210:=by kernel_rfl
 c212:=by kernel_rfl
 c213:=by kernel_rfl
 c232:=by kernel_rfl
 c233:=by kernel_rfl}
open Go.RowKit in
theorem Tryz.strconv_ParseInt_10_at64_ok(s:ByteArray)(a:s.size<=9223372036854775806)(v:Int)(h:Lib.parseIntB 64 s.data.toList= .ok v)(w:World):
 Calls Tryz.prog 317 #[.string s,.int .i64 10,.int .i64 64] w λe w'=>e= .returned (.tuple #[.int .i64 v,.nilIface])/\(w'=w\/∃t,w'=Lib.bytesWorld w 5 t):=Any.strconv_ParseInt_10_at64_ok Tryz.ai0 s a v h w
def Tryz.atX:Go.Shelf.Ren:=⟨λ |14=>319|16=>353|17=>351|19=>368|20=>369|21=>363|22=>364|23=>365|24=>366|25=>373|27=>157|26=>374|28=>206|29=>263|30=>309|31=>310|32=>311|33=>312|35=>343|34=>342|36=>344|37=>345|38=>346|39=>359|40=>360|n=>n,λ |9=>9|3=>3|22=>78|24=>349|25=>352|4=>4|34=>381|5=>5|36=>175|37=>22|0=>0|39=>382|21=>21|44=>391|47=>378|50=>395|48=>393|2=>2|52=>342|55=>345|59=>372|60=>26|20=>20|61=>373|65=>388|66=>389|67=>200|n=>n,λ |0=>4|1=>5|2=>0|3=>2|4=>3|n=>n⟩
theorem Tryz.aCF:Go.Proofs.LaysPu.n14 Tryz.prog Tryz.atX:={
 mixed:=by kernel_rfl
 f14:=Tryz.func319.trans (oT some (by kernel_rfl))
 f16:=Tryz.func353.trans (oT some (by kernel_rfl))
 f17:=Tryz.func351.trans (oT some (by kernel_rfl))
 f19:=Tryz.func368.trans (oT some (by kernel_rfl))
 f20:=Tryz.func369.trans (oT some (by kernel_rfl))
 f21:=Tryz.func363.trans (oT some (by kernel_rfl))
 f22:=Tryz.func364.trans (oT some (by kernel_rfl))
 f23:=Tryz.func365.trans (oT some (by kernel_rfl))
 f24:=Tryz.func366.trans (oT some (by kernel_rfl))
 f25:=Tryz.func373.trans (oT some (by kernel_rfl))
 f26:=Tryz.func374.trans (oT some (by kernel_rfl))
 f27:=Tryz.func157.trans (oT some (by kernel_rfl))
 f28:=Tryz.func206.trans (oT some (by kernel_rfl))
 f29:=Tryz.func263.trans (oT some (by kernel_rfl))
 f30:=Tryz.func309.trans (oT some (by kernel_rfl))
 f31:=Tryz.func310.trans (oT some (by kernel_rfl))
 f32:=Tryz.func311.trans (oT some (by kernel_rfl))
 f33:=Tryz.func312.trans (oT some (by kernel_rfl))
 f34:=Tryz.func342.trans (oT some (by kernel_rfl))
 f35:=Tryz.func343.trans (oT some (by kernel_rfl))
 f36:=Tryz.func344.trans (oT some (by kernel_rfl))
 f37:=Tryz.func345.trans (oT some (by kernel_rfl))
 f38:=Tryz.func346.trans (oT some (by kernel_rfl))
 f39:=Tryz.func359.trans (oT some (by kernel_rfl))
 f40:=Tryz.func360.trans (oT some (by kernel_rfl))
 t0:=Tryz.underlying0
 a0:=Tryz.isAgg0
 z0:=Tryz.sizeOf0
 v0:=Tryz.zeroValue0
 i0:=by kernel_rfl
 t2:=Tryz.underlying2
 a2:=Tryz.isAgg2
 z2:=Tryz.sizeOf2
 v2:=Tryz.zeroValue2
 i2:=by kernel_rfl
 t3:=Tryz.underlying3
 a3:=Tryz.isAgg3
 z3:=Tryz.sizeOf3
 v3:=Tryz.zeroValue3
 i3:=by kernel_rfl
 t4:=Tryz.underlying4
 a4:=Tryz.isAgg4
 z4:=Tryz.sizeOf4
 v4:=Tryz.zeroValue4
 i4:=by kernel_rfl
 t5:=Tryz.underlying5
 a5:=Tryz.isAgg5
 z5:=Tryz.sizeOf5
 v5:=Tryz.zeroValue5
 i5:=by kernel_rfl
 t9:=Tryz.underlying9
 a9:=Tryz.isAgg9
 z9:=Tryz.sizeOf9
 v9:=Tryz.zeroValue9
 i9:=by kernel_rfl
 t20:=Tryz.underlying20
 a20:=Tryz.isAgg20
 z20:=Tryz.sizeOf20
 v20:=Tryz.zeroValue20
 i20:=by kernel_rfl
 t21:=Tryz.underlying21
 a21:=Tryz.isAgg21
 z21:=Tryz.sizeOf21
 v21:=Tryz.zeroValue21
 i21:=by kernel_rfl
 t22:=Tryz.underlying78
 a22:=Tryz.isAgg78
 z22:=Tryz.sizeOf78
 v22:=Tryz.zeroValue78
 i22:=by kernel_rfl
 t24:=Tryz.underlying349
 a24:=Tryz.isAgg349
 z24:=Tryz.sizeOf349
 v24:=Tryz.zeroValue349
 i24:=by kernel_rfl
 t25:=Tryz.underlying352
 a25:=Tryz.isAgg352
 z25:=Tryz.sizeOf352
 v25:=Tryz.zeroValue352
 i25:=by kernel_rfl
 t34:=Tryz.underlying381
 a34:=Tryz.isAgg381
 z34:=Tryz.sizeOf381
 v34:=Tryz.zeroValue381
 i34:=by kernel_rfl
 c34:=by kernel_rfl
 t36:=Tryz.underlying175
 a36:=Tryz.isAgg175
 z36:=Tryz.sizeOf175
 v36:=Tryz.zeroValue175
 i36:=by kernel_rfl
 t37:=Tryz.underlying22
 a37:=Tryz.isAgg22
 z37:=Tryz.sizeOf22
 v37:=Tryz.zeroValue22
 i37:=by kernel_rfl
 t39:=Tryz.underlying382
 a39:=Tryz.isAgg382
 z39:=Tryz.sizeOf382
 v39:=Tryz.zeroValue382
 i39:=by kernel_rfl
 t44:=Tryz.underlying391
 a44:=Tryz.isAgg391
 z44:=Tryz.sizeOf391
 v44:=Tryz.zeroValue391
 i44:=by kernel_rfl
 t47:=Tryz.underlying378
 a47:=Tryz.isAgg378
 z47:=Tryz.sizeOf378
 v47:=Tryz.zeroValue378
 i47:=by kernel_rfl
 t48:=Tryz.underlying393
 a48:=Tryz.isAgg393
 z48:=Tryz.sizeOf393
 v48:=Tryz.zeroValue393
 i48:=by kernel_rfl
 t50:=Tryz.underlying395
 a50:=Tryz.isAgg395
 z50:=Tryz.sizeOf395
 v50:=Tryz.zeroValue395
 i50:=by kernel_rfl
 t52:=Tryz.underlying342
 a52:=Tryz.isAgg342
 z52:=Tryz.sizeOf342
 v52:=Tryz.zeroValue342
 i52:=by kernel_rfl
 t55:=Tryz.underlying345
 a55:=Tryz.isAgg345
 z55:=Tryz.sizeOf345
 v55:=Tryz.zeroValue345
 i55:=by kernel_rfl
 t59:=Tryz.underlying372
 a59:=Tryz.isAgg372
 z59:=Tryz.sizeOf372
 v59:=Tryz.zeroValue372
 i59:=by kernel_rfl
 t60:=Tryz.underlying26
 a60:=Tryz.isAgg26
 z60:=Tryz.sizeOf26
 v60:=Tryz.zeroValue26
 i60:=by kernel_rfl
 t61:=Tryz.underlying373
 a61:=Tryz.isAgg373
 z61:=Tryz.sizeOf373
 t65:=Tryz.underlying388
 a65:=Tryz.isAgg388
 z65:=Tryz.sizeOf388
 v65:=Tryz.zeroValue388
 i65:=by kernel_rfl
 t66:=Tryz.underlying389
 a66:=Tryz.isAgg389
 z66:=Tryz.sizeOf389
 v66:=Tryz.zeroValue389
 i66:=by kernel_rfl
 t67:=Tryz.underlying200
 a67:=Tryz.isAgg200
 z67:=Tryz.sizeOf200
 v67:=Tryz.zeroValue200
 i67:=by kernel_rfl
 g0:=by kernel_rfl
 m0:=by kernel_rfl
 g1:=by kernel_rfl
 m1:=by kernel_rfl
 g2:=by kernel_rfl
 m2:=by kernel_rfl
 g3:=by kernel_rfl
 m3:=by kernel_rfl
 g4:=by kernel_rfl
 m4:=by kernel_rfl}
open Go.RowKit in
theorem Tryz.strconv_ParseUint_10_at32_ok(s:ByteArray)(a:s.size<=9223372036854775806)(u:Nat)(h:Lib.parseUintB 32 s.data.toList= .ok u)(w:World):
 Calls Tryz.prog 319 #[.string s,.int .i64 10,.int .i64 32] w λe w'=>e= .returned (.tuple #[.int .u64 u,.nilIface])/\(w'=w\/w'=Lib.bytesWorld w 5 s):=Any.strconv_ParseUint_10_at32_ok Tryz.aCF s a u h w
end Go.Proofs
namespace Go.Hf
open Go.RowKit
section
variable{A C:Fn->Prop}
section
variable[Tok]
def bl(C:Fn->Prop):Prop:=∃L,∀n,L<=n->C (bB bD n)
theorem bl.up(h:bl A)(s:∀n,A (bB bD n)->C (bB bD (n+1))):bl C:=by
 obtain⟨L,h⟩:=h;refine⟨L+1,λn a=>?_⟩;cases n with
 |zero=>omega
 |succ n=>exact s n (h n (by omega))
theorem bl.imp(h:bl A)(s:∀n,A (bB bD n)->C (bB bD n)):bl C:=by obtain⟨L,h⟩:=h;exact⟨L,λn a=>s n (h n a)⟩
theorem bl.and(h:bl A)(g:bl C):bl λu=>A u/\C u:=by obtain⟨L,h⟩:=h;obtain⟨a,g⟩:=g;exact⟨L+a,λn b=>⟨h n (by omega),g n (by omega)⟩⟩
theorem bl.kQ(L:Nat)(h:∀n,C (bB bD (n+L))):bl C:=⟨L,λn a=>by have:=h (n-L);rwa [Nat.sub_add_cancel a] at this⟩
theorem bl.jr:bl λ_=>True:=⟨0,λ_ _=>trivial⟩
theorem cI{f n:Nat}{g:jq}{a:aB}{r:an}(e:bB bD (n+1) f=g (bB bD n))(h:∃s d,g (bB bD n) a 0 .nil= .ok r 0 s d):aK (bB bD (n+1)) f a r:=by unfold aK;rw[e];exact h
theorem aM(f:Nat)(g:jq)(n:Nat)(h:look bD f= .mk g:=by kernel_rfl):bB bD (n+1) f=g (bB bD n):=by show(λargs b atf=> @aR.rec (λ_=>aw) .ax (λg=>g (bB bD n) args b atf) (look bD f))=_;rw[h]
end
end
section
variable{E:cr} {c:aB->aB->Int} {I J:aY}
section
variable[Tok] {u:Fn} {b:Nat}
theorem apC{m:cw}{z:Bool}(H:aK u 213 [.agg (E.num m.U)] (.a9 z)):∃s d,Fb u [.agg (E.fp m)] 0 .nil= .ok (.a9 z) 0 s d:=by
 have a:0+0+7<=(E.fp m).length:=by rw[E.eG];omega
 have e:=E.eU m.U;rw[Fb,dK,Vq,cy,bb,aH,e8 a,show(0:Nat)+0=0 from rfl,E.jV,bg,bm,av,aT,Td,bj,fO,av];exact b9
def ja(c:aB->aB->Int):aY->aY->Int
 |x::r,y::s=>if c x y≠0 then c x y else ja c r s
 |_,_=>0
def jd(c:aB->aB->Int)(l k:aY):Int:=if l.length<k.length then-1 else if k.length<l.length then 1 else ja c l k
theorem Bl{c:aB->aB->Int}(h:∀x y,-100<c x y/\c x y<100):∀l k,-100<ja c l k/\ja c l k<100
 |[],_=>by simp[ja]
 |_::_,[]=>by simp[ja]
 |x::r,y::s=>by
  unfold ja;split
  ·exact h x y
  ·exact Bl h r s
theorem aBE{f:Nat}{x y:aB}{r:an}{h:aI}(a:b8 x=true)(e:b8 y=true)(g:∀ub atf,u f [.agg x,.agg y] ub atf= .ok r ub atf [])(k:dg):nN u b (dI f) [.agg x,.agg y] [] h k=k r h:=by have i:nN u b (dI f) [.agg x,.agg y] [] h k=aD h.aj (.agg x) λq e0=>aD h.aj (.agg y) λj l=>fD u b f (aA [q,j] []) (aA e0 (aA l [])) h k:=rfl;rw[i,bm a,bm e];obtain⟨ub,s,d⟩:=h;have n:fD u b f (aA [.agg x,.agg y] []) (aA [] (aA [] [])) (.mk ub s d) k=jT b ub d k (u f [.agg x,.agg y] ub s):=rfl;rw[n,g];have o:jT b ub d k (.ok r ub s [])=bf (Nat.ble ub ub) (k r (.mk ub s (aA (gZ b []) d))) .ax:=rfl;rw[o,ek,pl (sm ub),cM];rfl
theorem aii(M:I.length=J.length)(O:I.length<1000)(H:∀(i:Nat) (p q:aB),I[i]? =some p->J[i]? =some q->cq p/\cq q/\(-100<c p q/\c p q<100)/\∀ub atf,u 183 [.agg p,.agg q] ub atf= .ok (ao (c p q)) ub atf []):∀(n k N:Nat) (h:aI),n+k=I.length->n<N->b4 h 0->da h->
 ∃s d,ih 0 1 2 11 12 13 N (qH u 0 (ts u 0)) (.aQ 11 I) (.aQ 11 J) (dI 183) (.aQ 11 I) (ao I.length) (ao k) h= .ok (ao (ja c (I.drop k) (J.drop k))) 0 s d:=by
 intro n;induction n with
 |zero=>
  intro k N h A B ub fc;obtain⟨N,rfl⟩:=cN N;have e:ja c (I.drop k) (J.drop k)=0:=by rw[lO];rfl
  have C:∀k:an->aw,bq false (.aQ 11 I) k=k (ao I.length):=λk=>eA _ _ k;have a:∀k:an->aw,bq false (.aQ 11 J) k=k (ao J.length):=λk=>eA _ _ k;rw[mb,e];generalize ih 0 1 2 11 12 13 N (qH u 0 (ts u 0))=j6;rw[qH,bO,bk,a6,ts,C,a,bF,bO,bk,a6,vb,bj,b7,av];exact b9
 |succ n D=>
  intro k N h A B ub fc;obtain⟨N,rfl⟩:=cN N;have l:I[k]? =some (I[k]'(by omega)):=dC _;have o:J[k]? =some (J[k]'(by omega)):=dC _;obtain⟨⟨F,r⟩,⟨G,t⟩,⟨c1,w⟩,g⟩:=H _ _ _ l o;have x:I.drop k=(I[k]'(by omega))::I.drop (k+1):=iK (by omega);have y:J.drop k=(J[k]'(by omega))::J.drop (k+1):=iK (by omega);generalize (I[k]'(by omega))=p at l F r c1 w g x;generalize (J[k]'(by omega))=q at o G t c1 w g y;have j:=D (k+1) N;have K:((k+1:Nat):Int)=(k:Int)+1:=by omega
  rw[K] at j;have a:∀k:an->aw,bq false (.aQ 11 J) k=k (ao J.length):=λk=>eA _ _ k;have e:ja c (I.drop k) (J.drop k)=if c p q≠0 then c p q else ja c (I.drop (k+1)) (J.drop (k+1)):=by rw[x,y];rfl
  have z:∀(h:aI) (k:dg),nN u 0 (dI 183) [.agg p,.agg q] [] h k=k (ao (c p q)) h:=λh k=>aBE r t g k;rw[mb,e];generalize ih 0 1 2 11 12 13 N (qH u 0 (ts u 0))=j6 at j;by_cases L:c p q=0
  ·rw[cz];rw[qH,bO,bN,bL,MS,bK,eE,ch,be,de,dc,a,ix,bk,a6,Ky,bF,eE,ch,be,de,dc,aH,be,aH,be,z,dF,bk,a6,cK];exact j _ (by omega) (by omega) inferInstance inferInstance
  ·rw[y1 L];rw[qH,bO,bN,bL,MS,bK,eE,ch,be,de,dc,a,ix,bk,a6,Ky,bF,eE,ch,be,de,dc,aH,be,aH,be,z,dF,bN,bL,vb,bj,b7,av];exact b9
theorem Up{x y:an}(k:dw 11 x I)(l:dw 11 y J)(e:I.length=J.length)(o:I.length<1000)(H:∀(i:Nat) (p q:aB),I[i]? =some p->J[i]? =some q->cq p/\cq q/\(-100<c p q/\c p q<100)/\∀ub atf,u 183 [.agg p,.agg q] ub atf= .ok (ao (c p q)) ub atf []):
 ∃s d,uZ u [x,y,dI 183] 0 .nil= .ok (ao (ja c I J)) 0 s d:=by
 have a:=k.len;have n:=l.len;rcases k with⟨rfl,rfl⟩|rfl
 ·have g:ja c [] J=0:=rfl;obtain⟨N,j⟩:∃m,1000000=m+1:=⟨999999,rfl⟩;have t:(J.length:Int)=0:=by simp at e;omega
  rw[g];rw[uZ,vE,Gg,a];rw[j,mb];generalize ih 0 1 2 11 12 13 N (qH u 0 (ts u 0))=j6;rw[bF,show((([]:aY).length:Nat):Int)=0 from rfl];rw[qH,bO,bk,a6,ts,a,n,show((([]:aY).length:Nat):Int)=0 from rfl,bF,bO,bk,a6,vb,bj,b7,av];exact b9
 ·rcases l with⟨rfl,rfl⟩|rfl
  ·have r:I=[]:=JE.1 e;subst r;have g:ja c [] []=0:=rfl;obtain⟨N,j⟩:∃m,1000000=m+1:=⟨999999,rfl⟩;rw[g];rw[uZ,vE,Gg,a];rw[j,mb];generalize ih 0 1 2 11 12 13 N (qH u 0 (ts u 0))=j6;rw[bF,show((([]:aY).length:Nat):Int)=0 from rfl];rw[qH,bO,bk,a6,ts,a,n,show((([]:aY).length:Nat):Int)=0 from rfl,bF,bO,bk,a6,vb,bj,b7,av];exact b9
  ·have F:=λ(h:aI) (ub:b4 h 0) (fc:da h)=>aii (u:=u) e o H I.length 0 1000000 h (by omega) (by omega) ub fc;rw[uZ,vE,Gg,a];rw[bF];exact F _ inferInstance inferInstance
theorem TS{x y:cw}(i:dw 11 (E.di x.k) I)(j:dw 11 (E.di y.k) J)(o:I.length<1000)(p:J.length<1000)(q:∀x y,-100<c x y/\c x y<100)
 (H:I.length=J.length->aK u 285 [E.di x.k,E.di y.k,dI 183] (ao (ja c I J))):∃s d,vO u [.agg (E.fp x),.agg (E.fp y)] 0 .nil= .ok (ao (jd c I J)) 0 s d:=by
 have r:=E.eG x;have t:=E.gw x;have w:=E.eG y;have z:=E.gw y;have gH:(E.fp x)[0+7]? =some (E.di x.k):=by simpa using E.kk x
 have a:(E.fp y)[0+7]? =some (E.di y.k):=by simpa using E.kk y
 have e:=i.len;have g:=j.len;have l:=i.dU;have n:=j.dU;unfold jd;by_cases h:I.length<J.length
 ·rw[y1 h];rw[vO,dE,IL,cy,cy,Hj,bp,bb,aH,bc gH,e,bp,bb,aH,bc a,g,dF,bN,bL,K0,bp,bb,aH,bc gH,e,bp,bb,aH,bc a,g,bK,bO,bN,bL,Ad,pE,bj,b7,av];exact b9
 ·by_cases k:J.length<I.length
  ·rw[Ca h,y1 k];rw[vO,dE,IL,cy,cy,Hj,bp,bb,aH,bc gH,e,bp,bb,aH,bc a,g,dF,bN,bL,K0,bp,bb,aH,bc gH,e,bp,bb,aH,bc a,g,bK,bO,bk,a6,Ad,bj,b7,av];exact b9
  ·rw[Ca h,Ca k];have A:=H (by omega);rw[vO,dE,IL,cy,cy,Hj,bp,bb,aH,bc gH,e,bp,bb,aH,bc a,g,dF,bk,a6,XB,bp,bb,aH,bc gH,bp,bb,aH,bc a,l,n,av,av,aT,Ad,bj,b7,av];exact b9
end
end
section
variable[Tok]
noncomputable def hF(a:aw):aw:= @aw.rec (λ_=>aw) .ax (λr ub _ _=> .ok r ub .nil []) a
theorem hE{u:Fn}{f:Nat}{a:aB}{r:an}(h:hF (u f a 0 .nil)= .ok r 0 .nil []):aK u f a r:=by
 unfold aK;cases b:u f a 0 .nil with
 |ax=>rw[b] at h;cases h
 |ok c ub s d=>rw[b] at h;have h':aw.ok c ub .nil []= .ok r 0 .nil []:=h;simp only[aw.ok.injEq] at h';exact⟨s,d,by rw[h'.1,h'.2.1]⟩
theorem akr(n:Nat)(x y:aB):hF (bB bD (n+9) 98 [.agg (bU bP fv [x,y]),fv,ao 2] 0 .nil)= .ok (.a9 true) 0 .nil []:=by kernel_rfl
theorem aoB(n:Nat)(x y:aB):hF (bB bD (n+9) 98 [.agg (bU bP eM [x,y]),fv,ao 2] 0 .nil)= .ok (.a9 false) 0 .nil []:=by kernel_rfl
theorem ani(n:Nat)(x y:aB):hF (bB bD (n+9) 98 [.agg (bU bP eM [x,y]),eM,ao 2] 0 .nil)= .ok (.a9 true) 0 .nil []:=by kernel_rfl
theorem au2(n:Nat)(x:aB):hF (bB bD (n+9) 98 [.agg (bU bP jy [x]),fv,ao 2] 0 .nil)= .ok (.a9 false) 0 .nil []:=by kernel_rfl
theorem aC5(n:Nat)(x:aB):hF (bB bD (n+9) 98 [.agg (bU bP jy [x]),eM,ao 2] 0 .nil)= .ok (.a9 false) 0 .nil []:=by kernel_rfl
theorem ahX(n:Nat)(x:aB):hF (bB bD (n+9) 98 [.agg (bU bP jy [x]),jy,ao 1] 0 .nil)= .ok (.a9 true) 0 .nil []:=by kernel_rfl
theorem aw9(n:Nat)(x y:aB):hF (bB bD (n+9) 98 [.agg (bU bP eu [x,y]),eu,ao 2] 0 .nil)= .ok (.a9 true) 0 .nil []:=by kernel_rfl
theorem aiu(n:Nat)(x:aB):hF (bB bD (n+9) 98 [.agg (bU bP fe [x]),eu,ao 2] 0 .nil)= .ok (.a9 false) 0 .nil []:=by kernel_rfl
theorem aqN(n:Nat)(x:aB):hF (bB bD (n+9) 98 [.agg (bU bP fe [x]),fe,ao 1] 0 .nil)= .ok (.a9 true) 0 .nil []:=by kernel_rfl
theorem aqc(n:Nat)(x y:aB):hF (bB bD (n+9) 98 [.agg (bU bP iB [x,y]),eu,ao 2] 0 .nil)= .ok (.a9 false) 0 .nil []:=by kernel_rfl
theorem asz(n:Nat)(x y:aB):hF (bB bD (n+9) 98 [.agg (bU bP iB [x,y]),iB,ao 2] 0 .nil)= .ok (.a9 true) 0 .nil []:=by kernel_rfl
theorem atY(n a c:Nat)(l:aY):hF (bB bD (n+9) 122 [.s a c,.aQ 11 l] 0 .nil)= .ok (.agg (bU bP (.s a c) l)) 0 .nil []:=by kernel_rfl
theorem aga(n a c:Nat)(l:aY):hF (bB bD (n+9) 22 [.s a c,.aQ 11 l] 0 .nil)= .ok (.agg (bU bP (.s a c) l)) 0 .nil []:=by kernel_rfl
theorem aBO(n a c:Nat)(l:aY):hF (bB bD (n+9) 75 [.s a c,.aQ 11 l] 0 .nil)= .ok (.agg (bU kl (.s a c) l)) 0 .nil []:=by kernel_rfl
theorem amf(n a c:Nat):hF (bB bD (n+9) 21 [.s a c] 0 .nil)= .ok (.agg (yb kl (.s a c))) 0 .nil []:=by kernel_rfl
theorem T6(n:Nat):((List.range 9).all λi=>dy (bB bD (n+40) 154 [.agg (ec i)] 0 .nil) (.a0 [.aQ 8 [b5 1 1++[tW (i+1)]],ao 0]))=true:=by kernel_rfl
end
section
variable[Tok]
def nt(a c1 b c:Nat):aB:=[ao 2,.s 0 0,.s 0 0,.s a c1,.s b c,.s 0 0,.aE]
def uV(a c:Nat):aB:=[ao 3,.s 0 0,.s 0 0,.s 0 0,.s 0 0,.s a c,.aE]
def jU(a d:aB):aB:=[ao 4,.s 0 0,.s 0 0,.s 0 0,.s 0 0,.s 0 0,.aQ 7 [a,d]]
def kY:aY:=[nt 4 0x6c697370 3 0x6e696c,nt 4 0x6c697370 1 0x74,nt 4 0x75736572 1 0x61,nt 4 0x75736572 1 0x62,nt 4 0x75736572 1 0x63,uV 0 0,uV 1 0x70,uV 2 0x7071]
def aEB:List (Int×Int):=[(-4,1),(4,1),(-3,1),(-2,1),(-1,1),(0,1),(1,1),(2,1),(3,1),(1,2),(-5,3)]
def to:aY:=kY++aEB.map λx=>b5 x.1 x.2
theorem anY(n:Nat):hF (bB bD (n+9) 66 [] 0 .nil)= .ok (.agg (nt 4 0x6c697370 3 0x6e696c)) 0 .nil []:=by kernel_rfl
theorem ann(n:Nat):hF (bB bD (n+9) 87 [] 0 .nil)= .ok (.agg (nt 4 0x6c697370 1 0x74)) 0 .nil []:=by kernel_rfl
theorem apQ(n a c1 b c:Nat):hF (bB bD (n+9) 127 [.agg [.s a c1,.s b c]] 0 .nil)= .ok (.agg (nt a c1 b c)) 0 .nil []:=by kernel_rfl
theorem azA(n a c:Nat):hF (bB bD (n+9) 128 [.s a c] 0 .nil)= .ok (.agg (uV a c)) 0 .nil []:=by kernel_rfl
theorem Z4(n a c:Nat):hF (bB bD (n+9) 28 [.s a c] 0 .nil)= .ok (.agg [kl,.s a c]) 0 .nil []:=by kernel_rfl
theorem avI(n a c:Nat):hF (bB bD (n+9) 152 [.s a c] 0 .nil)= .ok (.agg [bP,.s a c]) 0 .nil []:=by kernel_rfl
theorem axI(n:Nat):hF (bB bD (n+20) 114 [.s 1 0x31,.s 1 0x32] 0 .nil)= .ok (.agg (b5 1 2)) 0 .nil []:=by kernel_rfl
theorem aso(n:Nat):hF (bB bD (n+20) 114 [.s 2 0x2d35,.s 1 0x33] 0 .nil)= .ok (.agg (b5 (-5) 3)) 0 .nil []:=by kernel_rfl
theorem ayf(n:Nat):dy (bB bD (n+9) 150 [] 0 .nil) (.aQ 1 [[.s 3 0x636172],[.s 3 0x636472],[.s 4 0x636f6e73],[.s 5 0x636f6e7370],[.s 3 0x6e6f74],[.s 5 0x657175616c],[.s 2 0x6966],[.s 8 0x62696e6172792d2b],[.s 1 0x3c],[.s 8 0x696e746567657270],[.s 3 0x6c656e],[.s 13 0x62696e6172792d617070656e64],[.s 3 0x726576],[.s 10 0x747275652d6c69737470],[.s 4 0x6e617470],[.s 4 0x706f7370],[.s 7 0x756e6172792d2d],[.s 8 0x62696e6172792d2a],[.s 7 0x696d706c696573],[.s 7 0x73796d626f6c70],[.s 9 0x726174696f6e616c70],[.s 3 0x666978],[.s 3 0x696666],[.s 4 0x6e666978],[.s 2 0x7a70]])=true:=by kernel_rfl
theorem ayJ(n:Nat):dy (bB bD (n+9) 151 [] 0 .nil) (.aQ 1 [[.s 3 0x647562],[.s 8 0x73616d652d6c656e],[.s 5 0x7061697273],[.s 4 0x64756273],[.s 4 0x74726565],[.s 5 0x6576656e73],[.s 4 0x6f646473],[.s 4 0x786f7232]])=true:=by kernel_rfl
theorem axv(n:Nat):(to.all λo=>dy (bB bD (n+40) 107 [.agg o] 0 .nil) (.a9 true))=true:=by kernel_rfl
theorem auw(n:Nat):(kY.all λo=>dy (bB bD (n+9) 154 [.agg (cW o)] 0 .nil) (.a0 [.aE,ao 0]))=true:=by kernel_rfl
theorem aA8(n:Nat)(a d:aB):hF (bB bD (n+9) 154 [.agg (cW (jU a d))] 0 .nil)= .ok (.a0 [.aE,ao 0]) 0 .nil []:=by kernel_rfl
def iu:List (Nat×Nat×Nat×Nat×Nat):=[(4,0x6c697370,3,0x636172,1),(4,0x6c697370,3,0x636472,1),(4,0x6c697370,4,0x636f6e73,2),(4,0x6c697370,5,0x636f6e7370,1),(4,0x6c697370,2,0x6966,3),(4,0x6c697370,8,0x696e746567657270,1),(4,0x6c697370,3,0x6c656e,1),(4,0x6c697370,13,0x62696e6172792d617070656e64,2),(4,0x6c697370,3,0x726576,1),(4,0x6c697370,10,0x747275652d6c69737470,1),(4,0x6c697370,4,0x6e617470,1),(4,0x6c697370,4,0x706f7370,1),(4,0x6c697370,7,0x696d706c696573,2),(4,0x6c697370,7,0x73796d626f6c70,1),(4,0x6c697370,9,0x726174696f6e616c70,1),(4,0x6c697370,3,0x666978,1),(4,0x6c697370,3,0x696666,2),(4,0x6c697370,4,0x6e666978,1),(4,0x6c697370,2,0x7a70,1),(4,0x75736572,3,0x647562,1),(4,0x75736572,8,0x73616d652d6c656e,2),(4,0x75736572,5,0x7061697273,2),(4,0x75736572,4,0x64756273,1),(4,0x75736572,4,0x74726565,1),(4,0x75736572,5,0x6576656e73,1),(4,0x75736572,4,0x6f646473,1),(4,0x75736572,4,0x786f7232,2)]
def i1:List (Nat×Nat×Nat×Nat×Nat):=[(4,0x6c697370,3,0x6e6f74,1),(4,0x6c697370,5,0x657175616c,2),(4,0x6c697370,1,0x3c,2)]
def lS:List (Nat×Nat×Nat×Nat×Nat):=[(4,0x6c697370,8,0x62696e6172792d2b,2),(4,0x6c697370,8,0x62696e6172792d2a,2),(4,0x6c697370,7,0x756e6172792d2d,1)]
def cO(h:Nat×Nat×Nat×Nat×Nat)(l:aY):aB:=bU (.s h.1 h.2.1) (.s h.2.2.1 h.2.2.2.1) l
theorem ajJ(n:Nat)(l:aY):((iu++i1).all λh=>dy (bB bD (n+9) 98 [.agg (cO h l),fv,ao 2] 0 .nil) (.a9 false)&&(dy (bB bD (n+9) 98 [.agg (cO h l),eM,ao 2] 0 .nil) (.a9 false)&&(dy (bB bD (n+9) 98 [.agg (cO h l),jy,ao 1] 0 .nil) (.a9 false)&&dy (bB bD (n+9) 98 [.agg (cO h l),y3,ao 1] 0 .nil) (.a9 false))))=true:=by kernel_rfl
theorem VT(n:Nat)(l:aY):((iu++lS++[(4,0x6c697370,5,0x657175616c,2)]).all λh=>dy (bB bD (n+9) 116 [.agg (cO h l)] 0 .nil) (.a0 [.aE,ao 0,.a9 false]))=true:=by kernel_rfl
theorem amp(n:Nat)(l:aY):((iu++lS++[(4,0x6c697370,3,0x6e6f74,1)]).all λh=>dy (bB bD (n+9) 116 [.agg (bU bP fe [cO h l])] 0 .nil) (.a0 [.aE,ao 0,.a9 false]))=true:=by kernel_rfl
end
end Go.Hf

import Derived.Test.YthiipifjdfmblaaGreatDoorAi
import Derived.Test.YthiipifjdfmblaaGreatDoorAj
import Derived.Test.YthiipifjdfmblaaGreatDoorProg
set_option maxRecDepth 1000000
set_option linter.all false
namespace Go.Hf
open Go.Proofs Go.RowKit
noncomputable section
variable[Tok] {gl:eI}
def d297:=bz 297 Tryz.f297 2 [.cell 4 true 2] [20002,40004,60002,100002,160002,210002,250002,310002] [0,2,4]
theorem alJ:bv gl 297 Zc:=bw d297 Tryz.func297
def d298:=bz 298 Tryz.f298 1 [.tmp 2] [] []
theorem aqg:bv gl 298 VE:=bw d298 Tryz.func298
def d299:=bz 299 Tryz.f299 2 [.tmp 4] [] [0,2,1,3,0,1,3,0,1]
theorem afh:bv gl 299 aad:=bw d299 Tryz.func299
def d301:=bz 301 Tryz.f301 1 [.tmp 2,.tmp 3,.tmp 4] [] [0,0,3,0,5,0,0,4,0,5,6,4,0,5,6,4,0,5,6,0,3,0,6,0,0,3,0,6,0,0,3,0,6,0,0,3,0,6,0,4,0,6,7,4,0,6,7,0,4,0,6,7]
theorem aoW:bv gl 301 aeQ:=bw d301 Tryz.func301
def d303:=bz 303 Tryz.f303 2 [.cell 4 true 2,.tmp 5] [40004] [0,2,4,0,5,0,1,4,6,5,0,1,4,6,0,5,0,1,4,6]
theorem aqv:bv gl 303 abk:=bw d303 Tryz.func303
def d307:=bz 307 Tryz.f307 2 [.tmp 4] [20002,80002,120002] [0,3,1,2,0,0,0,0,2,5,0,5,1,5,6,7,5,1,5,6,7,0,5,1,5,6,7]
theorem aDI:bv gl 307 qV:=bw d307 Tryz.func307
def d308:=bz 308 Tryz.f308 2 [.tmp 4] [20002] [0,0,0,2,5,0,5,1,5,6,7,5,1,5,6,7,0,5,1,5,6,7]
theorem aBm:bv gl 308 uh:=bw d308 Tryz.func308
def d313:=bz 313 Tryz.f313 2 [.tmp 4] [] [0,3,0,1,0,1,0,0,0,1,0,4,0,1,5,4,0,1,5,0,4,0,1,5,0,1]
theorem as2:bv gl 313 Yw:=bw d313 Tryz.func313
def d314:=bz 314 Tryz.f314 2 [.tmp 4] [] [0,0,2,5,3,5,6,3,5,6]
theorem ahy:bv gl 314 aaw:=bw d314 Tryz.func314
def d315:=bz 315 Tryz.f315 2 [.tmp 4,.tmp 5] [60006,70007,100010,110011,160007,230006,250007,300006,320007,370007,410010,492097,510010,520007,560011] [0,0,3,6,7,0,0,0,0,3,10,11]
theorem af9:bv gl 315 ac5:=bw d315 Tryz.func315
def d316:=bz 316 Tryz.f316 1 [.tmp 2] [] [0,0,2,3,0,0,1,0,4,3,17,18,0,4,3,17,18,4,3,17,18]
theorem asA:bv gl 316 aaV:=bw d316 Tryz.func316
def d318:=bz 318 Tryz.f318 2 [.tmp 4] [] []
theorem atj:bv gl 318 U4:=bw d318 Tryz.func318
def d320:=bz 320 Tryz.f320 1 [.tmp 2] [] [0,2,0,2,0,2,0]
theorem alk:bv gl 320 aeA:=bw d320 Tryz.func320
def d321:=bz 321 Tryz.f321 2 [.tmp 4] [4096,54096,69999,74096,84096,94096,104096,114098,132061,144098,142062,154096,164096] []
theorem akG:bv gl 321 Xb:=bw d321 Tryz.func321
def d322:=bz 322 Tryz.f322 2 [.tmp 4,.tmp 5] [4096,64096,79999,84096,94096,104096,114096,124098,144098,142062,154096,164096] []
theorem aj8:bv gl 322 St:=bw d322 Tryz.func322
def d324:=bz 324 Tryz.f324 2 [.tmp 4] [20002,80002,130002,200002] [0,2,1,3,1,2,3,1,2]
theorem aml:bv gl 324 D5:=bw d324 Tryz.func324
def d325:=bz 325 Tryz.f325 4 [.tmp 8] [40004,110004,150004,230004,320004] []
theorem ato:bv gl 325 acX:=bw d325 Tryz.func325
def d326:=bz 326 Tryz.f326 2 [.tmp 4] [] [0,3,0,1]
theorem aC1:bv gl 326 V7:=bw d326 Tryz.func326
def d331:=bz 331 Tryz.f331 1 [.tmp 2] [] []
theorem aEd:bv gl 331 Dd:=bw d331 Tryz.func331
def d335:=bz 335 Tryz.f335 4 [] [4098,234098,254098,269999,274098,304098,319999,329999,374098,394098,424098,454098,469999,474098,494098,509999,514098,524098] [0,6,0,1,2,3,8,6,0,1,2,3,8,0,6,0,1,2,3,8,0,7,0,1,2,3,8,9,7,0,1,2,3,8,9,0,7,0,1,2,3,8,9]
theorem aBb:bv gl 335 vV:=bw d335 Tryz.func335
def d336:=bz 336 Tryz.f336 5 [] [4098,414098,434098,449999,454098,474098,489999,499999,614098,634098,664098,694098,709999,714098,734098,749999,754098,764098,934098,954098,969999,974098,994098,1009999,1019999,1134098,1154098,1184098,1214098,1229999,1234098,1254098,1269999,1274098,1284098,1594098,1634098,1649999,1654098,1674098,1689999,1699999,1864098,1919999,2004098,2059999,2144098,2199999] [6,0,1,2,3,4,0,0,0,4,0,1,10,6,0,1,4,10,11,6,0,1,4,10,11,0,0,0,0,0,4,0,10,13,4,0,10,13,0,4,0,10,13,6,0,1,2,3,4,0,0,0,4,0,2,14,6,0,2,4,14,15,6,0,2,4,14,15,0,0,0,0,0,4,0,14,17,4,0,14,17,0,4,0,14,17,0,0,0,10,0,1,2,3,4,18,19,20,21,0,0,0,0,9,0,1,2,3,4,18,19,20,11,0,1,2,3,4,18,19,20,21,22,11,0,1,2,3,4,18,19,20,21,22,0,0,0,0,8,0,1,3,4,18,20,24,0,6,0,3,4,18,24]
theorem aDw:bv gl 336 Fv:=bw d336 Tryz.func336
def d347:=bz 347 Tryz.f347 2 [.tmp 4,.tmp 5] [30003,62060,70007,122060,242072,262072,262074,320003,320007,339999,392087,432060,462060,472060] [0,0,0,3,6,7,0,6,0,3,6,7,8,6,0,3,6,7,8,0,6,0,3,6,7,8,0,0,7,0,3,6,7,8,9] [12]
theorem arL:bv gl 347 aez:=bw d347 Tryz.func347
def d349:=bz 349 Tryz.f349 2 [.tmp 4] [52059,112059,392059,432059,452059] [0,0,0,2,5,0,7,0,1,5,6,13,14,0,7,0,1,5,6,13,14,7,0,1,5,6,13,14,0,0,8,0,1,5,7,8,13,14,0,0,9,0,1,5,6,7,8,13,14] [11]
theorem asY:bv gl 349 U1:=bw d349 Tryz.func349
def d352:=bz 352 Tryz.f352 2 [.tmp 4] [] [0,2,0]
theorem apP:bv gl 352 U0:=bw d352 Tryz.func352
def d355:=bz 355 Tryz.f355 1 [.tmp 2] [] []
theorem aur:bv gl 355 Z9:=bw d355 Tryz.func355
def d358:=bz 358 Tryz.f358 5 [] [4098,244098,319999,354098,469999,504098,579999] [0,0,5,0,2,4,10,6,0,2,4,10,11,6,0,2,4,10,11]
theorem ayX:bv gl 358 C4:=bw d358 Tryz.func358
def d361:=bz 361 Tryz.f361 2 [.tmp 4] [19999,189999,209999] [0,0,2,5,4,1,5,6,4,1,5,6]
theorem aoK:bv gl 361 SR:=bw d361 Tryz.func361
def d362:=bz 362 Tryz.f362 3 [.tmp 4] [14096,24096,54098,82056,104098] []
theorem aEi:bv gl 362 aeH:=bw d362 Tryz.func362
def d367:=bz 367 Tryz.f367 2 [.tmp 4] [] []
theorem aB6:bv gl 367 V8:=bw d367 Tryz.func367
def d372:=bz 372 Tryz.f372 5 [] [4098,164098,204098,244098,284098,299999,304098,344098,359999,364098,374098] [0,6,0,1,2,3,10,6,0,1,2,3,10,0,6,0,1,2,3,10]
theorem atM:bv gl 372 CQ:=bw d372 Tryz.func372
end
end Go.Hf

import Derived.Test.YthiipifjdfmblaaGreatDoorAg
set_option maxRecDepth 100000
set_option linter.all false
namespace Go.Hf
noncomputable section
abbrev Ba:=aI->aw
abbrev gx:=an->Ba
abbrev gT:=an->gx
abbrev mj:=an->gT
abbrev mS:=an->mj
abbrev kb:=an->mS
abbrev nP:=an->kb
abbrev sM:=an->nP
abbrev tA:=an->sM
abbrev sZ:=an->tA
abbrev u6:=an->sZ
abbrev zv:=an->u6
abbrev KZ:=an->zv
abbrev NW:=an->KZ
abbrev Pb:=an->NW
abbrev O9:=an->Pb
abbrev N7:=an->O9
abbrev QG:=an->N7
abbrev Ni:=an->QG
abbrev Zq:=an->Ni
abbrev bI {α:Type _} (_:α):=aw
def dh:an:= .a9 true
def bG:an:= .a9 false
def ay:an:= .a0 []
def at9:List (Nat×List Bool):=[(9,[false]),(18,[false]),(25,[true]),(30,[false]),(31,[false]),(32,[false]),(33,[false]),(46,[true]),(63,[false]),(96,[false]),(131,[false,false]),(138,[true]),(181,[true]),(182,[false]),(184,[false]),(195,[false]),(198,[false]),(205,[true]),(231,[true]),(232,[false]),(236,[false]),(238,[false]),(240,[true]),(250,[false]),(254,[false]),(258,[false]),(262,[true]),(279,[false]),(284,[false]),(286,[false]),(321,[false]),(322,[false]),(323,[false]),(335,[false]),(336,[false]),(354,[false]),(358,[false]),(361,[true,false]),(362,[true]),(372,[false])]
def aig:an:= .V .i64 18446744074709551616
def ak8:an:= .V .u8 18446744073709551663
def al2:an:= .V .u8 18446744073709551649
def ae1:an:= .V .u8 18446744073709551742
def u32:an:= .V .u8 18446744073709551648
def akJ:an:= .V .u8 18446744073709551629
def ai6:an:= .V .u8 18446744073709551625
def Ui:an:= .V .i64 18446744073709551634
def n32:an:= .V .i64 18446744073709551648
def GC:an:= .V .i64 18446744073709551680
def aoj:an:= .V .i64 18446744073709551629
def LG:an:= .V .u8 18446744073709551674
def Ys:an:= .V .u8 18446744073709551656
def aev:an:= .V .u8 18446744073709551657
def aeg:an:= .V .u8 18446744073709551655
def NF:an:= .V .u8 18446744073709551650
def WS:an:= .V .u8 18446744073709551675
def abm:an:= .V .u8 18446744073709551626
def Nz:an:= .V .u8 18446744073709551651
def y6:an:= .V .u8 18446744073709551740
def n20:an:= .V .i64 18446744073709551636
def DY:an:= .V .u8 18446744073709551673
def amg:an:= .V .i64 18446744073709551664
def wD:an:= .V .u8 18446744073709551616
def uB:an:= .V .u8 18446744073709551664
def zi:an:= .V .i64 18446744073709551716
def zY:an:= .V .i64 18446744073709551816
def EX:an:= .V .i64 18446744073709554617
def fC:an:= .V .i64 18446744073709551615
def n14:an:= .V .i64 18446744073709551630
def mQ:an:= .V .i64 18446744073709551626
def Nd:an:= .V .i64 18446744073709551627
def uY:an:= .V .u8 18446744073709551661
def F3:an:= .V .i64 18446744073709554616
def pQ:an:= .V .i64 18446744073709551625
def v2:an:= .V .i64 18446744073709551622
def EP:an:= .V .i64 18446744073709551623
def Tt:an:= .V .i64 18446744073709553616
def tz:an:= .V .i64 18446744073709551628
def vW:an:= .V .i64 18446744073709551624
def cZ:an:= .V .i64 18446744073709551618
def gg:an:= .V .i64 18446744073709551619
def jf:an:= .V .i64 18446744073709551620
def aS:an:= .V .i64 18446744073709551617
def n40:an:= .V .i64 18446744073709551656
def aL:an:= .V .i64 18446744073709551616
def rz:an:= .V .i64 18446744073709551621
def Gz:an:= .V .i64 18446744073709551676
abbrev ca:aB:=[aL,(.s 0 0),(.s 0 0),aL,(.s 0 0),(.s 0 0),(.s 0 0),(.s 0 0),(.s 0 0),.aE,.aE]
abbrev dx:aB:=[aL,(.s 0 0),(.s 0 0),(.s 0 0),(.s 0 0),(.s 0 0),.aE]
abbrev fX:aB:=[aL,(.s 0 0),(.s 0 0),(.s 0 0),(.s 0 0),(.s 0 0),.aE,.aE]
abbrev zt:aB:=ca++ca++[.aE,.aE,bG,.aE]++ca
def bg(u:Fn)(b f:Nat)(x:an)(h:aI)(k:dg):aw:=aD h.aj x λq s=>bH u b none f [q] (aA s []) h k
def ce(u:Fn)(b f:Nat)(x y:an)(h:aI)(k:dg):aw:=aD h.aj x λq s=>aD h.aj y λr t=>bH u b none f [q,r] (aA s (aA t [])) h k
def bj(b:Nat)(x:an)(h:aI):aw:=aD h.aj x λq s=>dJ b q (aA s []) h
def aJ(b:Nat)(r:List Nat)(a:Bool)(n:Nat)(x:an)(h:aI)(k:an->aw):aw:=met b r [x]<| aW h.aj a n x k
def bZ(b:Nat)(r:List Nat)(n:Nat)(x y:an)(h:aI)(k:an->aw):aw:=met b r [x,y]<| cb h.aj n x y k
def bp(n:Nat)(x:an)(h:aI)(k:an->aw):aw:=bt n x λp=>aW h.aj false 1 p k
def oq(a j n:Nat)(f:gT->gT):gT:=ft [a,j] n f
def fM(a j F n:Nat)(f:mj->mj):mj:=ft [a,j,F] n f
def du(a j F a4 n:Nat)(f:mS->mS):mS:=ft [a,j,F,a4] n f
def fs(a j F a4 J n:Nat)(f:kb->kb):kb:=ft [a,j,F,a4,J] n f
def ih(a j F a4 J L n:Nat)(f:nP->nP):nP:=ft [a,j,F,a4,J,L] n f
def yJ(a j F a4 J L M N n:Nat)(f:tA->tA):tA:=ft [a,j,F,a4,J,L,M,N] n f
def zl(a j F a4 J L M N O n:Nat)(f:sZ->sZ):sZ:=ft [a,j,F,a4,J,L,M,N,O] n f
def DM(a j F a4 J L M N O P n:Nat)(f:u6->u6):u6:=ft [a,j,F,a4,J,L,M,N,O,P] n f
def aAJ(a j F a4 J L M N O P Q n:Nat)(f:zv->zv):zv:=ft [a,j,F,a4,J,L,M,N,O,P,Q] n f
variable(u:Fn) (la:aB) (b:Nat) (j0:Ba) (j1:gx) (j2:gT) (j3:mj) (j4:mS) (j5:kb) (j6:nP) (j7:sM) (j8:tA) (j9:sZ) (j10:u6) (j11:zv) (j12:KZ) (j13:NW) (j14:Pb) (j15:O9) (j16:N7) (j17:QG) (j18:Ni) (j19:Zq) (c d e f g i k l m n o p q r s t v w x y z A B C D E G H I K:an) (h:aI) (a8:b1)
def py:=bj b c h
def Sr:bI (u,i):=bX c k bG λl=>aP l (py b bG h) (j4 d e f g h)
def WH:=aD h.aj c λi k=>aD h.aj d λl m=>aD h.aj e λn o=>bH u b none 20 [i,l,n] (aA k (aA m (aA o []))) h λp q=>bS p 0 λr=>bS p 1 λs=>b0 s true (ni r λt=>Sr u b j4 s c e f g r t q) (Sr u b j4 s c e f g ay ay q)
def VL:=cb h.aj 11 e f λg=>aW h.aj true 11 g λi=>WH u b (λk l m n o=>bR n aS λp=>j4 k l m p o) c i d e f h
def Av:=bq false e λg=>cm f g λi=>aP i (VL u b j4 c d e f h) (j0 h)
def Xo:=bg u b 16 d h λi k=>du 5 8 11 12 1000000 (Av u b (λl=>py b dh l)) c e i aL k
def MN:bI (u,g):=bX c dh i λk=>aP k (py b dh h) (j3 d e f h)
def R4:=aD h.aj c λf g=>aD h.aj d λi k=>aD h.aj e λl m=>bH u b none 19 [f,i,l] (aA g (aA k (aA m []))) h λn o=>bS n 0 λp=>bS n 1 λq=>b0 p false (ni q λr=>MN u b (Xo u b) p c d e q r o) (MN u b (Xo u b) p c d e ay ay o)
def Mm:=bH u b none 8 [(.V .u32 18446744073709551616)] [] h λe f=>cC 0 1 c [.aE,aL] λg=>eT g λi=>ip 29 b 28 none i f λk l=>aD l.aj e λm n=>fD u b 9 [k,m,jf] (aA n []) l λo p=>cC 0 1 d [.aE,aL] λq=>eT q λr=>ip 29 b 34 none r p λs t=>fD u b 18 [s] [] t λv w=>R4 u b e o v w
def FQ:bI (u,f,g):=bX c dh i λk=>aP k (py b dh h) (j2 d e h)
def Gl:=bq false c λe=>fw e Gz λf=>b0 f false (bq false d λg=>fw g n40 λi=>FQ u b (Mm u b) f c d d g i h) (FQ u b (Mm u b) f c d ay ay ay h)
def JS:=bH u b none 7 [] [] h λe f=>ni e λg=>aP g (py b bG f) (Gl u b c d f)
def yG:=aZ la λc l=>aZ l λd l=>bV l (JS u b c d (ba b a8))
def EK:=bj b c h
def nO:=aW h.aj true 11 i λk=>cj h.aj 11 0 k (cG 1 ca) λl m=>c6 b 2111 none 56 11 1 false l (aA m []) h λn o=>ce u b 34 e n o λt v=>j5 c d t f g v
def zT:=aW h.aj true 11 c λk=>cj h.aj 11 0 k (cG 1 ca) λl m=>c6 b 2085 none 56 11 1 false l (aA m []) h λn o=>aD o.aj n λp q=>bH u b none 22 [(.s 3 0x6e6f74),p] (aA q []) o λr s=>aX b none 11 c r s λ_ t=>j6 d e f g i c t
def Od:=cj h.aj 11 0 c (cG 2 ca) λm n=>cj h.aj 11 1 d m λo p=>c6 b 2091 none 56 11 2 false o (aA n (aA p [])) h λq r=>aD r.aj q λs t=>bH u b none 22 [(.s 5 0x657175616c),s] (aA t []) r λv w=>cj w.aj 11 0 v (cG 1 ca) λx y=>c6 b 2093 none 56 11 1 false x (aA y []) w λz A=>aD A.aj z λB C=>bH u b none 22 [(.s 3 0x6e6f74),B] (aA C []) A λD E=>aX b none 11 e D E λ_ G=>j6 f g i k l e G
def PO:=aD h.aj c λk l=>fD u b 32 [d,k,aS] (aA l []) h λm n=>aX b none 11 e m n λ_ o=>j6 d c f g i e o
def LK:=cj h.aj 11 0 c (cG 2 ca) λm n=>cj h.aj 11 1 d m λo p=>c6 b 2105 none 56 11 2 false o (aA n (aA p [])) h λq r=>aD r.aj q λs t=>bH u b none 22 [(.s 1 0x3c),s] (aA t []) r λv w=>cj w.aj 11 0 v (cG 1 ca) λx y=>c6 b 2107 none 56 11 1 false x (aA y []) w λz A=>aD A.aj z λB C=>bH u b none 22 [(.s 3 0x6e6f74),B] (aA C []) A λD E=>aX b none 11 e D E λ_ G=>j6 f g i k l e G
def auO:=bY c rz λl=>aP l (bH u b none 23 [aL] [] h λm n=>fD u b 33 [d] [] n λo p=>LK u b j6 m o e d f g i k p) (j6 d f g i k e h)
def akj:=bY c jf λl=>aP l (PO u b j6 d e f g i k h) (auO u b j6 c e f d g i k h)
def Gj:=bY c gg λn=>aP n (aW h.aj true 11 d λo=>aW h.aj true 11 e λp=>Od u b j6 o p f g i k l m h) (akj u b j6 c i g f k l m h)
def Rj:bI (u,b):=bY c aS λn=>aP n (j10 d e f g i k l m c n h) (bY c cZ λo=>j10 d e f g i k l m c o h)
def UW:=fD u b 30 [c,vW] [] h λm n=>bY m aL λo=>aP o ((aP o (zT u b (nO u b j5) l c d e f g n) (Gj u b (nO u b j5) m i k l c d e f g n))) (Rj u b (λp q r s t v w x y z A=>aP z (zT u b (nO u b j5) x p q r s t A) (Gj u b (nO u b j5) y v w x p q r s t A)) m c d e f g i k l n)
def U9:=aX b none 11 c d h λ_ m=>aW m.aj true 11 e λn=>aW m.aj true 11 c λo=>cj m.aj 11 0 n (cG 2 ca) λp q=>cj m.aj 11 1 o p λr s=>c6 b 2076 none 56 11 2 false r (aA q (aA s [])) m λt v=>aD v.aj t λw x=>bH u b none 22 [(.s 1 0x3c),w] (aA x []) v λy z=>ci 56 b 12 none ca z λA B=>aX b none 11 A y B λ_ C=>UW u b j5 f g i k l e c A C
def aej:=fD u b 31 [c] [] h λi k=>fD u b 31 [c] [] k λl m=>ci 56 b 10 none ca m λn o=>ci 56 b 11 none ca o λp q=>aX b none 11 n i q λ_ r=>U9 u b (λs t v w x y=>bR x aS λz=>j5 s t v w z y) p l n c d e f g r
def AI:=cm g f λi=>aP i (aej u b j5 c d e f g h) (j1 e h)
def Rc:=aD h.aj c λf g=>fD u b 30 [d,f] (aA g []) h λi k=>bR aS i λl=>fs 0 1 7 8 9 1000000 (AI u b (λm n=>EK b m n)) d e .aE l aL k
def At:=aZ la λc l=>aZ l λd l=>aZ l λe l=>bV l (Rc u b e c d (ba b a8))
def ayH:=aD h.aj c λe f=>aD h.aj d λg i=>dJ b (.a0 [e,g]) (aA f (aA i [])) h
def aCf:=aD h.aj c λf g=>aD h.aj d λi k=>aD h.aj e λl m=>bH u b none 38 [f,i,l] (aA g (aA k (aA m []))) h λn o=>bS n 0 λp=>bS n 1 λq=>ayH b p q o
def atz:bI u:=aW h.aj true 4 c λl=>cj h.aj 4 0 l (cG 1 [.aE,bG,.aE,.aE]) λm n=>c6 b 2111 none 104 4 1 false m (aA n []) h λo p=>eC b 2112 none 104 4 80 d o false p λq r=>j6 e q f g i k r
def afr:bI u:=bp 3 c h λn=>cb h.aj 1 n d λo=>aX b none 1 o dh h λ_ p=>aW p.aj true 4 c λq=>cj p.aj 4 0 q (cG 1 [.aE,bG,.aE,.aE]) λr s=>c6 b 2119 none 104 4 1 false r (aA s []) p λt v=>eC b 2120 none 104 4 80 e t false v λw x=>j6 f g w i k l x
def ajM:=aJ b [11] false 1 c h λo=>bH u b (some []) 37 [aS] [] h λp q=>bZ b [2085,2088] 7 o d q λr=>met b [2085,2088] [r]<| aX b (some [2085,2088]) 7 r p q λ_ s=>bY e gg λt=>aP t (atz u b j6 f g i k l m n s) (afr u b j6 f d k i g l m n s)
def ane:=bt 2 i λp=>aJ b [11] false 1 p h λq=>bH u b (some []) 36 [] [] h λr s=>bZ b [2085,2088] 7 q o s λt=>met b [2085,2088] [t]<| aX b (some [2085,2088]) 7 t r s λ_ v=>(bR o aS λw=>j11 c d e f g i k l m n w v)
def aC4:=cm o n λp=>aP p (ane u b j11 c d e f g i k l m n o h) (j9 c d e f g i k l m h)
def ae7:=ci 104 b 11 (some [11]) [.aE,bG,.aE,.aE] h λn o=>met b [11] [n]<| aX b (some [11]) 4 n c o λ_ p=>bp 2 n p λr=>bq false r λs=>aAJ 0 4 5 6 9 11 13 14 15 44 45 1000000 (aC4 u b (λt v w x y z A B C D=>bt 2 z λE=>ajM u b j6 E x y z v t w A B C D)) d e f g i n k l m s aL p
def Rf:=bY i aS λn=>bq false c λo=>i3 b (some [2085]) (nf (Nat.add b 2085) 54 7 112 (h.aj (Nat.add b 2085)).cd dx o o) h λp q=>bq false c λr=>i3 b (some [2088]) (nf (Nat.add b 2088) 4 1 1 (q.aj (Nat.add b 2088)).cd [bG] r r) q λs t=>cC 0 1 g [.aE,bG,.aE,.aE] λv=>cC 1 1 n v λw=>cC 2 1 p w λx=>cC 3 1 s x λy=>eT y λz=>ae7 u b j6 z c d e f i k l m t
def W5:bI (u,b,n):=bX c dh o λp=>aP p (j6 d e f g i k h) (j9 d e f k l m g i k h)
def axF:=bS c 0 λl=>bS c 1 λm=>bS c 2 λn=>eQ n aL λo=>b0 o false (bY m aL λp=>W5 u b j6 (Rf u b j6) o d e f g i k l m m p h) (W5 u b j6 (Rf u b j6) o d e f g i k l m ay ay h)
def auh:=cb h.aj 11 f i λk=>aW h.aj true 11 k λl=>ci 56 b 7 none ca h λm n=>aX b none 11 m l n λ_ o=>aW o.aj true 11 m λp=>bg u b 35 p o λs t=>axF u b (λv w x y z A B=>bR A aS λC=>j6 v w x y z C B) s c d e f g i t
def afE:=cm i g λk=>aP k (auh u b j6 c d e f g i h) (j3 c d e h)
def avx:=bq false c λd=>ih 0 4 5 13 14 15 1000000 (afE u b (aCf u b)) c .aE .aE c d aL h
def Yr:=aZ la λc l=>bV l (avx u b c (ba b a8))
def Ef:=bj b c h
def Yf:bI u:=cb h.aj 37 d f λg=>aW h.aj true 37 g λi=>ci 132 b 5 none zt h λk l=>aX b none 37 k i l λ_ m=>bt 26 k λn=>aW m.aj true 11 n λo=>cj m.aj 11 0 o (cG 1 ca) λp q=>c6 b 2064 none 56 11 1 false p (aA q []) m λr s=>eC b 2065 none 56 11 176 c r false s λt v=>(bR f aS λw=>j4 t d e w v)
def y2:=cm f e λg=>aP g (Yf u b j4 c d e f h) (j1 c h)
def HX:=bg u b 57 c h λf g=>bq false f λi=>du 3 7 8 9 1000000 (y2 u b (λk l=>Ef b k l)) .aE f i aL g
def xu:=aZ la λc l=>bV l (HX u b c (ba b a8))
def PT:=bj b c h
def ady:=aW h.aj false 1 c λk=>bg u b 28 k h λn o=>fD u b 63 [d,cZ] [] o λp q=>cC 0 2 n [(.s 0 0),(.s 0 0),aL,(.s 0 0),(.s 0 0),(.s 0 0),(.s 0 0),(.s 0 0),.aE] λr=>cC 2 7 p r λs=>eT s λt=>cj q.aj 9 0 t (cG 1 [(.s 0 0),(.s 0 0),aL,(.s 0 0),(.s 0 0),(.s 0 0),(.s 0 0),(.s 0 0),.aE]) λv w=>c6 b 2066 none 137 9 1 false v (aA w []) q λx y=>eC b 2067 none 137 9 144 e x false y λz A=>j5 d z f g i A
def adF:=cb h.aj 1 e g λi=>ady u b (λk l m n o p=>bR o aS λq=>j5 k l m n q p) i c d e f g h
def JH:=cm g f λi=>aP i (adF u b j5 c d e f g h) (j1 d h)
def afm:=cj h.aj 1 0 (.s 1 0x78) (cG 4 [(.s 0 0)]) λd e=>cj h.aj 1 1 (.s 1 0x79) d λf g=>cj h.aj 1 2 (.s 1 0x7a) f λi k=>cj h.aj 1 3 (.s 1 0x6e) i λl m=>c6 b 2054 none 9 1 4 false l (aA e (aA g (aA k (aA m [])))) h λn o=>bq false n λp=>fs 0 3 6 7 8 1000000 (JH u b (λq r=>PT b q r)) c .aE n p aL o
def IA:=aZ la λc l=>bV l (afm u b c (ba b a8))
def DF:=aD h.aj c λe f=>aD h.aj d λg i=>dJ b (.a0 [e,g]) (aA f (aA i [])) h
def Z2:bI (u,b):=b0 f false ((bX f dh i λk=>j5 c d e k g h)) ((bX f dh ay λk=>j5 c d e k g h))
def TI:=aD h.aj c λk l=>aD h.aj d λm n=>aD h.aj e λo p=>bH u b none 20 [k,m,o] (aA l (aA n (aA p []))) h λq r=>bS q 0 λs=>bS q 1 λt=>ni t λv=>aP v (DF b bG bG r) (Z2 u b j5 c f e g i s r)
def UF:=cb h.aj 11 d g λi=>aW h.aj true 11 i λk=>TI u b (λl m n o p q=>bR p aS λr=>j5 l m n o r q) c k e d f g h
def Cg:=bq false d λi=>cm g i λk=>aP k (UF u b j5 c d e f g h) (j1 f h)
def ajA:=fs 0 1 2 8 9 1000000 (Cg u b (λf g=>DF b f dh g)) c d e bG aL h
def J8:=aZ la λc l=>aZ l λd l=>aZ l λe l=>bV l (ajA u b c d e (ba b a8))
def ah6:=aD h.aj c λe f=>aD h.aj d λg i=>dJ b (.a0 [e,g]) (aA f (aA i [])) h
def afs:=aX b none 7 c d h λ_ f=>aJ b [8] true 7 c f λg=>bH u b (some []) 66 [] [] f λi k=>met b [] [g,i]<| aD k.aj g λl m=>aD k.aj i λn o=>bH u b (some []) 65 [l,n] (aA m (aA o [])) k λp q=>ni p λr=>bY e aL λs=>ah6 b r s q
def adV:=ip 56 b 4 none c h λf g=>aW g.aj true 11 f λi=>aD g.aj d λk l=>aD g.aj i λm n=>aD g.aj e λo p=>bH u b none 64 [k,m,o,Tt] (aA l (aA n (aA p []))) g λq r=>bS q 0 λs=>bS q 1 λ_=>bS q 2 λt=>ci 54 b 8 none dx r λv w=>afs u b v s t w
def HB:=aZ la λc l=>aZ l λd l=>aZ l λe l=>bV l (adV u b d c e (ba b a8))
def at1:=fK h.aj c true 11 λd=>bj b d h
def aAQ:=ci 56 b 4 none ca h λe f=>ce u b 62 c d f λm n=>aX b none 11 e m n λ_ o=>at1 b e o
def TA:=aZ la λc l=>aZ l λd l=>bV l (aAQ u b c d (ba b a8))
def aip:=fK h.aj c true 11 λd=>bj b d h
def akq:=ci 56 b 2 none ca h λd e=>bg u b 60 c e λi k=>bg u b 59 i k λn o=>aX b none 11 d n o λ_ p=>aip b d p
def Tf:=aZ la λc l=>bV l (akq u b c (ba b a8))
def zO:=bj b c h
def ac9:=bt 10 c λe=>aW h.aj false 1 e λf=>bt 10 d λg=>aW h.aj false 1 g λi=>ce u b 68 f i h λo p=>j5 e f g i o p
def z2:bI (f,g,i,k):=bX c l bG λm=>b0 m true (ac9 u b (λ_ _ _ _ n o=>bX m n bG λp=>zO b p o) d e h) ((bX m ay bG λp=>zO b p h))
def Mj:=bt 3 c λe=>aW h.aj true 7 e λf=>bt 3 d λg=>aW h.aj true 7 g λi=>ce u b 65 f i h λo p=>j5 e f g i o p
def Al:bI (f,g,i,k):=bX c l bG λm=>b0 m true (Mj u b (z2 u b m d e) d e h) (z2 u b m d e ay ay ay ay ay h)
def CM:=aW h.aj false 1 c λg=>bY d g λi=>b0 i true (bt 1 e λk=>aW h.aj true 2 k λl=>bt 1 f λm=>aW h.aj true 2 m λn=>mV false l n λo=>Al u b i e f k l m n o h) (Al u b i e f ay ay ay ay ay h)
def BQ:=ip 56 b 2 none c h λe f=>ip 56 b 3 none d f λg i=>bp 0 e i λl=>bt 0 g λm=>CM u b m l e g i
def wa:=aZ la λc l=>aZ l λd l=>bV l (BQ u b c d (ba b a8))
def FH:=bj b c h
def acI:bI u:=bt 1 c λf=>aJ b [4096] false 1 f h λg=>cP g aS λi=>bZ b [4098] 1 d i h λk=>aJ b [4098] false 1 k h λl=>c8 (hs .i64 l) λm=>c8 (fA .rem m e) λn=>FH b n h
def S0:=aW h.aj false 1 c λf=>bR f aS λg=>hY d λi=>bt 1 i λk=>aX b none 1 k g h λ_ l=>hY d λm=>bt 0 m λn=>aJ b [4096] false 1 n l λo=>hY d λp=>acI u b p o e l
def I5:bI (u,f):=bX c dh g λi=>aP i (FH b aL h) (j2 d e h)
def K8:=hY c λf=>bt 0 f λg=>aJ b [4096] false 1 g h λi=>bq false i λk=>il d k λl=>b0 l false (cm e aS λm=>I5 u b j2 l c e e m h) (I5 u b j2 l c e ay ay h)
def Mk:=hY c λe=>bt 1 e λf=>aJ b [4096] false 1 f h λg=>K8 u b (λi k l=>hY i λm=>bt 1 m λn=>S0 u b n i k l) c g d h
def za:=aZ la λc l=>aZ l λd l=>bV l (Mk u b c d (ba b a8))
def B3:=fK h.aj c true 11 λd=>bj b d h
def UH:=aJ b [3] true 11 c h λk=>met b [] [d,k]<| cj h.aj 11 0 d (cG 2 ca) λl m=>cj h.aj 11 1 k l λn o=>c6 b 2088 (some [2088]) 56 11 2 false n (aA m (aA o [])) h λp q=>met b [2088] [p]<| aD q.aj p λr s=>bH u b (some []) 22 [(.s 8 0x62696e6172792d2b),r] (aA s []) q λt v=>met b [3] [c]<| aX b (some [3]) 11 c t v λ_ w=>j5 e f c g i w
def I1:=met b [] [c]<| aD h.aj c λl m=>bH u b (some []) 23 [l] (aA m []) h λn o=>aJ b [6] true 11 d o λp=>met b [4096,4098] [n,p]<| cj o.aj 11 0 n (cG 2 ca) λq r=>cj o.aj 11 1 p q λs t=>c6 b 2085 (some [2085]) 56 11 2 false s (aA r (aA t [])) o λv w=>met b [2085] [v]<| aD w.aj v λx y=>bH u b (some []) 22 [(.s 8 0x62696e6172792d2a),x] (aA y []) w λz A=>UH u b j5 e z f g i k A
def X8:=aW h.aj true 11 c λk=>cj h.aj 11 0 k (cG 1 ca) λl m=>c6 b 2073 none 56 11 1 false l (aA m []) h λn o=>aD o.aj n λp q=>bH u b none 22 [(.s 3 0x6c656e),p] (aA q []) o λr s=>aX b none 11 c r s λ_ t=>j6 d e f g i c t
def SJ:=aW h.aj true 11 c λk=>cj h.aj 11 0 k (cG 1 ca) λl m=>c6 b 2078 none 56 11 1 false l (aA m []) h λn o=>aD o.aj n λp q=>bH u b none 75 [(.s 4 0x74726565),p] (aA q []) o λr s=>aX b none 11 c r s λ_ t=>j6 d e f g i c t
def KU:=bY c aS λl=>aP l (SJ u b j6 d e f g i k h) (j6 e f g i k d h)
def U6:=ci 56 b 6 none ca h λk l=>aX b none 11 k c l λ_ m=>fD u b 30 [d,v2] [] m λn o=>bY n aL λp=>aP p (X8 u b (λq r s t v w x=>o7 u b [4097] [4096,4098] [q,pQ] 30 [q,pQ] [] x λy z=>cP y jf λA=>I1 u b j5 A w s q r t v z) k d e f g i o) (KU u b (λq r s t v w x=>o7 u b [4097] [4096,4098] [q,pQ] 30 [q,pQ] [] x λy z=>cP y jf λA=>I1 u b j5 A w s q r t v z) n k d e f g i o)
def ZH:=fD u b 33 [c] [] h λi k=>U6 u b (λl m n o p q=>bR p aS λr=>j5 l m n o r q) i c d e f g k
def y0:=cm g f λi=>aP i (ZH u b j5 c d e f g h) (j2 d e h)
def UV:=bg u b 23 c h λi k=>ci 56 b 3 none ca k λl m=>aX b none 11 l i m λ_ n=>fD u b 30 [d,gg] [] n λo p=>fs 0 2 3 4 5 1000000 (y0 u b (λq r s=>aW s.aj true 11 r λt=>aX b none 11 q t s λ_ v=>B3 b q v)) d e l o aL p
def SZ:=ci 56 b 2 none ca h λd e=>fD u b 30 [c,pQ] [] e λf g=>cP f jf λi=>UV u b i c d g
def DP:=aZ la λc l=>bV l (SZ u b c (ba b a8))
def nL:=fK h.aj c true 11 λd=>bj b d h
def Ay:=aW h.aj true 11 c λe=>cj h.aj 11 0 e (cG 1 ca) λf g=>c6 b 2066 none 56 11 1 false f (aA g []) h λi k=>aD k.aj i λl m=>bH u b none 22 [(.s 3 0x6e6f74),l] (aA m []) k λn o=>aX b none 11 d n o λ_ p=>nL b d p
def afV:=met b [2076] [c]<| aD h.aj c λe f=>bH u b (some []) 22 [(.s 5 0x657175616c),e] (aA f []) h λg i=>met b [] [g]<| cj i.aj 11 0 g (cG 1 ca) λk l=>c6 b 2078 (some [2078]) 56 11 1 false k (aA l []) i λm n=>met b [2078] [m]<| aD n.aj m λo p=>bH u b (some []) 22 [(.s 3 0x6e6f74),o] (aA p []) n λq r=>met b [6] [d]<| aX b (some [6]) 11 d q r λ_ s=>nL b d s
def LI:=aJ b [7] true 11 c h λi=>cP d aS λk=>aD h.aj e λl m=>aD h.aj k λn o=>o7 u b [4097] [4096,4098] [f,e,k] 96 [f,l,n] (aA m (aA o [])) h λp q=>met b [4096,4098,4096,4098] [i,p]<| cj q.aj 11 0 i (cG 2 ca) λr s=>cj q.aj 11 1 p r λt v=>c6 b 2076 (some [2076]) 56 11 2 false t (aA s (aA v [])) q λw x=>afV u b w g x
def KX:=fD u b 33 [c] [] h λe f=>cj f.aj 11 0 e (cG 1 ca) λg i=>c6 b 2084 none 56 11 1 false g (aA i []) f λk l=>aD l.aj k λm n=>bH u b none 22 [(.s 5 0x636f6e7370),m] (aA n []) l λo p=>cj p.aj 11 0 o (cG 1 ca) λq r=>c6 b 2086 none 56 11 1 false q (aA r []) p λs t=>aD t.aj s λv w=>bH u b none 22 [(.s 3 0x6e6f74),v] (aA w []) t λx y=>aX b none 11 d x y λ_ z=>nL b d z
def UQ:=aD h.aj c λi k=>aD h.aj d λl m=>o7 u b [4097] [4096,4098] [e,c,d] 96 [e,i,l] (aA k (aA m [])) h λn o=>met b [4096,4098,4096,4098] [f,n]<| cj o.aj 11 0 f (cG 2 ca) λp q=>cj o.aj 11 1 n p λr s=>c6 b 2096 (some [2096]) 56 11 2 false r (aA q (aA s [])) o λt v=>met b [2096] [t]<| aD v.aj t λw x=>bH u b (some []) 22 [(.s 5 0x657175616c),w] (aA x []) v λy z=>met b [6] [g]<| aX b (some [6]) 11 g y z λ_ A=>nL b g A
def Ml:=aJ b [7] true 11 c h λi=>cP d aS λk=>UQ u b e k f i g h
def Rk:=cj h.aj 11 0 c (cG 2 ca) λf g=>cj h.aj 11 1 d f λi k=>c6 b 2107 none 56 11 2 false i (aA g (aA k [])) h λl m=>aD m.aj l λn o=>bH u b none 22 [(.s 1 0x3c),n] (aA o []) m λp q=>cj q.aj 11 0 p (cG 1 ca) λr s=>c6 b 2109 none 56 11 1 false r (aA s []) q λt v=>aD v.aj t λw x=>bH u b none 22 [(.s 3 0x6e6f74),w] (aA x []) v λy z=>aX b none 11 e y z λ_ A=>nL b e A
def OQ:=fD u b 33 [c] [] h λg i=>cP d aS λk=>aD i.aj e λl m=>aD i.aj k λn o=>fD u b 96 [c,l,n] (aA m (aA o [])) i λp q=>Rk u b g p f q
def at5:=bY c rz λk=>aP k (OQ u b d e f g h) (j2 g i h)
def aqx:=bY c jf λk=>aP k (Ml u b d e f g i h) (at5 u b j2 c g e f i d h)
def avo:=bY c gg λk=>aP k (KX u b d e h) (aqx u b j2 c f g i d e h)
def Hu:=bY c cZ λk=>aP k (LI u b d e f g i h) (avo u b j2 c g i d e f h)
def abZ:=fD u b 30 [c,vW] [] h λi k=>bY i aL λl=>aP l ((aP l (Ay u b g f k) (Hu u b (λm n o=>aW o.aj true 11 n λp=>aX b none 11 m p o λ_ q=>nL b m q) i g e d c f k))) (bY i aS λr=>(aP r (Ay u b g f k) (Hu u b (λm n o=>aW o.aj true 11 n λp=>aX b none 11 m p o λ_ q=>nL b m q) i g e d c f k)))
def Nu:=ci 56 b 6 none ca h λf g=>aD g.aj c λi k=>aD g.aj d λl m=>fD u b 96 [e,i,l] (aA k (aA m [])) g λn o=>ci 56 b 7 none ca o λp q=>aX b none 11 p n q λ_ r=>abZ u b e c d f p r
def yE:=aZ la λc l=>aZ l λd l=>aZ l λe l=>bV l (Nu u b d e c (ba b a8))
def YV:=fK h.aj c true 11 λd=>bj b d h
def aen:=ci 56 b 2 none ca h λd e=>fD u b 30 [c,gg] [] e λf g=>kw (.s 3 0x78797a) (some f) none λi=>kw i none (some aS) λk=>bg u b 21 k g λn o=>aX b none 11 d n o λ_ p=>YV b d p
def DE:=aZ la λc l=>bV l (aen u b c (ba b a8))
def Pp:=bj b c h
def aaF:bI u:=cb h.aj 11 c d λf=>aW h.aj true 11 f λg=>cj h.aj 11 0 g (cG 1 ca) λi k=>c6 b 2081 none 56 11 1 false i (aA k []) h λl m=>eC b 2082 none 56 11 176 e l false m λn o=>j3 c n d o
def Qk:=cb h.aj 11 c e λf=>aW h.aj true 11 f λg=>ce u b 97 d g h λn o=>ni n λp=>aP p (aaF u b (λq r s t=>bR s aS λv=>j3 q r v t) c e d o) ((bR e aS λv=>j3 c d v o))
def CU:=bq false c λf=>cm e f λg=>aP g (Qk u b j3 c d e h) (j1 d h)
def adS:=bq false c λe=>bq false d λf=>bR e f λg=>i3 b none (nf (Nat.add b 2060) 56 11 176 (h.aj (Nat.add b 2060)).cd ca aL g) h λi k=>eC b 2062 none 56 11 176 i c false k λl m=>fM 1 5 6 1000000 (CU u b (λn o=>Pp b n o)) d l aL m
def E7:=aZ la λc l=>aZ l λd l=>bV l (adS u b c d (ba b a8))
def yO:=aD h.aj c λf g=>aD h.aj d λi k=>aD h.aj e λl m=>dJ b (.a0 [f,i,l]) (aA g (aA k (aA m []))) h
def EF:=ce u b 99 c d h λl m=>bS l 0 λn=>bS l 1 λo=>eQ o aL λp=>aP p (yO b .aE aL o m) ((yO b n e aL m))
def Uc:bI u:=aJ b [1] false 1 c h λg=>met b [] [g]<| cb h.aj 11 g aS λi=>aJ b [] true 11 i h λk=>met b [6] [d]<| aX b (some [6]) 11 d e h λ_ l=>met b [7] [f]<| aX b (some [7]) 11 f k l λ_ m=>j3 cZ d f m
def V5:=bt 10 c λf=>aJ b [1] false 1 f h λg=>met b [] [g]<| cb h.aj 11 g aL λi=>aJ b [] true 11 i h λk=>bt 10 c λl=>Uc u b j3 l d k e h
def XK:bI u:=aJ b [] false 1 c h λg=>met b [] [g]<| cb h.aj 11 g aL λi=>aJ b [] true 11 i h λk=>met b [6] [d]<| aX b (some [6]) 11 d e h λ_ l=>met b [7] [f]<| aX b (some [7]) 11 f k l λ_ m=>j3 aS d f m
def acp:=met b [] [c]<| cb h.aj 11 c aS λg=>aJ b [] true 11 g h λi=>bt 10 d λk=>aJ b [1] false 1 k h λl=>met b [] [l]<| cb h.aj 11 l aL λm=>bt 10 m λn=>XK u b j3 n e i f h
def aef:=bt 10 c λf=>aJ b [1] false 1 f h λg=>met b [] [g]<| cb h.aj 11 g aL λi=>bt 10 i λk=>aJ b [] false 1 k h λl=>acp u b j3 l c d e h
def YN:bI u:=aJ b [] false 1 c h λg=>met b [] [g]<| cb h.aj 11 g aS λi=>aJ b [] true 11 i h λk=>met b [6] [d]<| aX b (some [6]) 11 d e h λ_ l=>met b [7] [f]<| aX b (some [7]) 11 f k l λ_ m=>j3 gg d f m
def VV:=met b [] [c]<| cb h.aj 11 c aL λg=>aJ b [] true 11 g h λi=>bt 10 d λk=>aJ b [1] false 1 k h λl=>met b [] [l]<| cb h.aj 11 l aL λm=>bt 10 m λn=>YN u b j3 n e i f h
def YD:=bt 10 c λf=>aJ b [1] false 1 f h λg=>met b [] [g]<| cb h.aj 11 g aL λi=>bt 10 i λk=>aJ b [] false 1 k h λl=>VV u b j3 l c d e h
def MM:bI (g,i,k,l):=bX c m bG λn=>aP n (YD u b j3 d e f h) (yO b .aE aL aL h)
def aaJ:=bt 10 c λd=>aW h.aj false 1 d λe=>cb h.aj 11 e aL λf=>aW h.aj true 11 f λg=>aD h.aj g λi k=>bH u b none 98 [i,(.s 5 0x657175616c),cZ] (aA k []) h λl m=>j5 d e f g l m
def VB:=aW h.aj true 11 c λf=>aD h.aj f λg i=>bH u b none 98 [g,(.s 3 0x6e6f74),aS] (aA i []) h λk l=>b0 k true (aaJ u b (MM u b j3 k c d e) c l) (MM u b j3 k c d e ay ay ay ay ay l)
def Hx:bI (g,i,k,l):=bX c m bG λn=>aP n (aef u b j3 d e f h) (VB u b j3 d e f h)
def Pv:=bt 10 c λd=>aW h.aj false 1 d λe=>cb h.aj 11 e aL λf=>aW h.aj true 11 f λg=>aD h.aj g λi k=>bH u b none 98 [i,(.s 1 0x3c),cZ] (aA k []) h λl m=>j5 d e f g l m
def PS:=aW h.aj true 11 c λf=>aD h.aj f λg i=>bH u b none 98 [g,(.s 3 0x6e6f74),aS] (aA i []) h λk l=>b0 k true (Pv u b (Hx u b j3 k c d e) c l) (Hx u b j3 k c d e ay ay ay ay ay l)
def GU:=aX b none 11 c d h λ_ g=>aW g.aj true 11 e λi=>aD g.aj i λk l=>bH u b none 98 [k,(.s 1 0x3c),cZ] (aA l []) g λm n=>aP m (V5 u b (λo p q r=>aW r.aj true 11 p λs=>aW r.aj true 11 q λt=>EF u b s t o r) e f c n) (PS u b (λo p q r=>aW r.aj true 11 p λs=>aW r.aj true 11 q λt=>EF u b s t o r) e f c n)
def Km:=ip 56 b 1 none c h λd e=>eT ca λf=>eT ca λg=>ci 56 b 6 none ca e λi k=>ci 56 b 7 none ca k λl m=>aX b none 11 i f m λ_ n=>GU u b l g d i n
def qU:=aZ la λc l=>bV l (Km u b c (ba b a8))
def TG:=fK h.aj c true 7 λd=>bj b d h
def SY:=ci 54 b 0 none dx h λc d=>bH u b none 37 [aL] [] d λe f=>aX b none 7 c e f λ_ g=>TG b c g
def Da:=bV la (SY u b (ba b a8))
def Rs:=fK h.aj c true 7 λd=>bj b d h
def Zf:=ci 54 b 2 none dx h λd e=>bg u b 101 c e λi k=>bg u b 100 i k λn o=>aX b none 7 d n o λ_ p=>Rs b d p
def FA:=aZ la λc l=>bV l (Zf u b c (ba b a8))
def Pc:=bj b c h
def Si:=bg u b 106 c h λg i=>kt g F3 λk=>b0 k true (aW i.aj true 7 d λl=>bg u b 107 l i λo p=>(bX k o bG λq=>Pc b q p)) ((bX k ay bG λq=>Pc b q i))
def S3:=ip 54 b 1 none c h λd e=>aW e.aj true 7 d λf=>Si u b f d e
def BI:=aZ la λc l=>bV l (S3 u b c (ba b a8))
def ao8:=fK h.aj c true 7 λd=>bj b d h
def ad2:=met b [] [c]<| aD h.aj c λf g=>bH u b (some []) 115 [f] (aA g []) h λi k=>bt 2 d λl=>aJ b [3] false 1 l k λm=>met b [] [i,m]<| aD k.aj i λn o=>aD k.aj m λp q=>bH u b (some []) 114 [n,p] (aA o (aA q [])) k λr s=>met b [2] [e]<| aX b (some [2]) 7 e r s λ_ t=>ao8 b e t
def alr:=ip 54 b 1 none c h λd e=>ci 54 b 2 none dx e λf g=>aW g.aj true 7 d λi=>bg u b 113 i g λm n=>ci 54 b 3 none dx n λo p=>aX b none 7 o m p λ_ q=>bt 1 o λr=>aJ b [3] false 1 r q λs=>ad2 u b s o f q
def G3:=aZ la λc l=>bV l (alr u b c (ba b a8))
def vA:=bj b c h
def DS:bI u:=aW h.aj true 37 g λl=>cj h.aj 37 0 l (cG 1 zt) λm n=>c6 b 2190 none 132 37 1 false m (aA n []) h λo p=>eC b 2191 none 132 37 608 d o false p λq r=>j6 c q e f i k r
def Sv:=aW h.aj true 11 c λn=>aW h.aj true 11 d λo=>cj h.aj 11 0 n (cG 2 ca) λp q=>cj h.aj 11 1 o p λr s=>c6 b 2179 none 56 11 2 false r (aA q (aA s [])) h λt v=>aD v.aj t λw x=>bH u b none 122 [(.s 1 0x3c),w] (aA x []) v λy z=>bt 26 e λA=>aX b none 11 A y z λ_ B=>j7 f g i k e l m B
def N1:=aW h.aj true 11 c λn=>cj h.aj 11 0 d (cG 2 ca) λo p=>cj h.aj 11 1 n o λq r=>c6 b 2184 none 56 11 2 false q (aA p (aA r [])) h λs t=>aD t.aj s λv w=>bH u b none 122 [(.s 1 0x3c),v] (aA w []) t λx y=>bg u b 123 x y λB C=>bt 26 e λD=>aX b none 11 D B C λ_ E=>j7 f g i k e l m E
def Kr:=bg u b 121 c h λp q=>ci 56 b 18 none ca q λr s=>aX b none 11 r p s λ_ t=>bp 24 d t λw=>aP w (Sv u b (DS u b j6) r e d f g i k l m t) (aW t.aj true 11 e λx=>N1 u b (DS u b j6) r x d f g i k l m t)
def E1:=cC 0 11 c zt λr=>cC 11 11 d r λs=>cC 22 1 e s λt=>cC 23 1 f t λv=>cC 24 1 g v λw=>cC 25 1 i w λx=>eT x λy=>ci 132 b 17 (some [17]) zt h λz A=>met b [17] [z]<| aX b (some [17]) 37 z y A λ_ B=>bH u b none 36 [] [] B λC D=>Kr u b j6 C z k l m n o p q D
def GV:=aJ b [2099] false 1 c h λr=>b0 r true (bZ b [2099] 13 l o h λs=>bt 12 s λt=>aJ b [2099] false 1 t h λv=>(bX r v bG λw=>E1 u b j6 d e f g w i k l m n o p q h)) ((bX r ay bG λw=>E1 u b j6 d e f g w i k l m n o p q h))
def Hr:=aJ b [2099] false 1 c h λp=>bZ b [2099] 13 d e h λq=>bt 11 q λr=>aJ b [2099] false 1 r h λs=>bZ b [2099] 13 d f h λt=>bt 12 t λv=>GV u b j6 v g i p s k l d m f e n o h
def JU:=aJ b [2099] true 11 c h λn=>bZ b [2099] 13 d e h λo=>bt 0 o λp=>aJ b [2099] true 11 p h λq=>bZ b [2099] 13 d f h λr=>bt 11 r λs=>Hr u b j6 s d e f n q g i k l m h
def zf:=bg u b 120 g h λn o=>ci 56 b 16 none ca o λp q=>aX b none 11 p n q λ_ r=>bZ b [2099] 13 c e r λs=>bt 0 s λt=>JU u b j6 t c f e g p d i k r
def I9:bI (u,b,m):=bX c dh n λo=>aP o (j6 d e f g i k h) (j7 d e f g l i k h)
def Qs:=bS c 0 λl=>bS c 1 λm=>eQ m aL λn=>b0 n false (bg u b 119 l h λq r=>I9 u b j6 (zf u b j6) n d e f g i k l l q r) (I9 u b j6 (zf u b j6) n d e f g i k l ay ay h)
def Oe:=aJ b [2099] false 1 c h λl=>bZ b [2099] 13 d e h λm=>bt 11 m λn=>aJ b [2099] false 1 n h λo=>met b [] [l,o]<| aD h.aj l λp q=>aD h.aj o λr s=>bH u b (some []) 118 [p,r] (aA q (aA s [])) h λt v=>Qs u b j6 t d f g e i k v
def KB:=bZ b [2099] 13 c e h λk=>bt 11 k λl=>Oe u b j6 l c f d e g i h
def Hh:=bq false d λk=>il k tz λl=>aP l (vA b d h) (KB u b (λm n o p q r s=>bR p aS λt=>j6 m n o t q r s) c d e f g i h)
def uy:=bq false c λk=>cm f k λl=>aP l (Hh u b j6 c d e f g i h) (j4 c d g i h)
def ZN:=ih 3 11 12 13 54 55 1000000 (uy u b (λg i k l m=>bR l aS λn=>j4 g i k n m)) c d f f e f h
def wx:=cm f e λg=>aP g (ZN u b j4 c d e f h) (j1 d h)
def yj:=bq false c λd=>du 3 11 54 55 1000000 (wx u b (λe f=>vA b e f)) c .aE d aL h
def Wo:bI u:=aW h.aj true 11 c λl=>bY d aS λm=>cC 0 11 l [aL,(.s 0 0),(.s 0 0),aL,(.s 0 0),(.s 0 0),(.s 0 0),(.s 0 0),(.s 0 0),.aE,.aE,.aE,bG] λn=>cC 11 1 e n λo=>cC 12 1 m o λp=>eT p λq=>cj h.aj 13 0 q (cG 1 [aL,(.s 0 0),(.s 0 0),aL,(.s 0 0),(.s 0 0),(.s 0 0),(.s 0 0),(.s 0 0),.aE,.aE,.aE,bG]) λr s=>c6 b 2098 none 182 13 1 false r (aA s []) h λt v=>eC b 2099 none 182 13 208 f t false v λw x=>j4 w g i k x
def FW:=bg u b 117 e h λn o=>bS n 0 λp=>bS n 1 λq=>ci 54 b 9 none dx o λr s=>aX b none 7 r p s λ_ t=>ni q λv=>aP v (Wo u b j4 d f e c g i k t) (j4 c g i k t)
def ze:bI (u,b,m):=bX c dh n λo=>aP o (j4 d e f g h) (j7 d i k l e f g h)
def Fs:=bS c 0 λk=>bS c 1 λl=>bS c 2 λm=>ni m λn=>b0 n false (bY l gg λo=>ze u b j4 (FW u b j4) n d e f g i k l l o h) (ze u b j4 (FW u b j4) n d e f g i k l ay ay h)
def C2:=cb h.aj 11 d f λg=>aW h.aj true 11 g λi=>ci 56 b 5 none ca h λk l=>aX b none 11 k i l λ_ m=>aW m.aj true 11 k λn=>bg u b 116 n m λq r=>Fs u b (λs t v w x=>bR w aS λy=>j4 s t v y x) q c d e f k r
def sX:=cm f e λg=>aP g (C2 u b j4 c d e f h) (j1 c h)
def OT:=bq false c λd=>du 3 19 20 21 1000000 (sX u b (yj u b)) .aE c d aL h
def z5:=aZ la λc l=>bV l (OT u b c (ba b a8))
def RJ:=fK h.aj c true 11 λd=>bj b d h
def Wz:bI u:=ip 54 b 1 none c h λd e=>ci 56 b 2 none ca e λf g=>aW g.aj true 7 d λi=>cC 0 1 cZ ca λk=>cC 3 7 i k λl=>eT l λm=>aX b none 11 f m g λ_ n=>RJ b f n
def Eh:=aZ la λc l=>bV l (Wz u b c (ba b a8))
def abL:=fK h.aj c true 7 λd=>bj b d h
def Tz:=ci 54 b 2 none dx h λd e=>bg u b 125 c e λi k=>aD k.aj i λl m=>bH u b none 114 [l,(.s 1 0x31)] (aA m []) k λn o=>aX b none 7 d n o λ_ p=>abL b d p
def Fj:=aZ la λc l=>bV l (Tz u b c (ba b a8))
def kN:=fK h.aj c true 7 λd=>bj b d h
def VR:=aJ b [9] true 7 c h λg=>cP d aS λi=>aD h.aj i λk l=>o7 u b [4097] [4096,4098] [e,i] 63 [e,k] (aA l []) h λm n=>met b [4096,4098,4096,4098] [g,m]<| aD n.aj g λo p=>aD n.aj m λq r=>bH u b (some []) 130 [o,q] (aA p (aA r [])) n λs t=>met b [4] [f]<| aX b (some [4]) 7 f s t λ_ v=>kN b f v
def Ol:=cP d aS λf=>aD h.aj f λg i=>fD u b 63 [c,g] (aA i []) h λk l=>ci 54 b 9 none dx l λm n=>aX b none 7 m k n λ_ o=>VR u b m d c e o
def Hz:=fD u b 30 [c,EP] [] h λe f=>cP e gg λg=>bg u b 60 g f λl m=>aX b none 7 d l m λ_ n=>kN b d n
def Ot:=fD u b 30 [c,gg] [] h λe f=>kw (.s 3 0x616263) (some e) none λg=>kw g none (some aS) λi=>bg u b 28 i f λm n=>bg u b 127 m n λq r=>aX b none 7 d q r λ_ s=>kN b d s
def Ku:=fD u b 30 [c,gg] [] h λe f=>kw (.s 2 0x7071) none (some e) λg=>bg u b 128 g f λl m=>aX b none 7 d l m λ_ n=>kN b d n
def C1:=bg u b 129 d h λg i=>aX b none 7 c g i λ_ k=>kN b c k
def Uv:=cP d aS λk=>aD h.aj k λl m=>fD u b 63 [c,l] (aA m []) h λn o=>cj o.aj 7 0 n (cG 1 dx) λp q=>c6 b 2124 none 54 7 1 false p (aA q []) o λr s=>eC b 2125 none 54 7 112 f r false s λt v=>(bR i aS λw=>j6 c d e t g w v)
def Ac:=cm i g λk=>aP k (Uv u b j6 c d e f g i h) (j2 e f h)
def It:=fD u b 30 [c,jf] [] h λf g=>ih 0 1 4 6 7 8 1000000 (Ac u b (C1 u b)) c d e .aE f aL g
def aim:bI (u,b):=bY c Nd λg=>aP g (j4 d e f g h) (bY c tz λi=>j4 d e f i h)
def awK:=bY c mQ λg=>aP g ((aP g (It u b d e f h) (j3 d e f h))) (aim u b (λi k l m n=>aP m (It u b i k l n) (j3 i k l n)) c d e f h)
def aob:=bY c pQ λg=>aP g (bH u b none 60 [aS] [] h λi k=>aX b none 7 d i k λ_ l=>kN b d l) (awK u b j3 c e f d h)
def asK:=bY c vW λg=>aP g (bH u b none 60 [aL] [] h λi k=>aX b none 7 d i k λ_ l=>kN b d l) (aob u b j3 c d e f h)
def arO:=bY c EP λg=>aP g (Ku u b d e h) (asK u b j3 c e d f h)
def alV:=bY c v2 λg=>aP g (Ot u b d e h) (arO u b j3 c d e f h)
def awo:=bY c rz λg=>aP g (bH u b none 114 [(.s 2 0x2d35),(.s 1 0x33)] [] h λi k=>aX b none 7 d i k λ_ l=>kN b d l) (alV u b j3 c e d f h)
def WJ:=bY c jf λg=>aP g (bH u b none 114 [(.s 1 0x31),(.s 1 0x32)] [] h λi k=>aX b none 7 d i k λ_ l=>kN b d l) (awo u b j3 c d e f h)
def ap8:=bY c cZ λg=>aP g ((aP g (Hz u b d f h) (WJ u b j3 c f d e h))) (bY c gg λi=>(aP i (Hz u b d f h) (WJ u b j3 c f d e h)))
def aDC:=bY c aS λg=>aP g (bH u b none 87 [] [] h λi k=>aX b none 7 d i k λ_ l=>kN b d l) (ap8 u b j3 c e f d h)
def Gw:=bY f aL λg=>aP g (bH u b none 66 [] [] h λi k=>aX b none 7 e i k λ_ l=>kN b e l) (aDC u b (Ol u b) f e c d h)
def EC:bI (u,b,i):=bX c k bG λl=>aP l (cP d vW λm=>j4 e f g m h) (j4 e f g d h)
def Pm:=ci 54 b 4 none dx h λe f=>fD u b 30 [c,n14] [] f λg i=>cm d aS λk=>b0 k true (fw g pQ λl=>EC u b (Gw u b) k g c d e g l i) (EC u b (Gw u b) k g c d e ay ay i)
def uq:=aZ la λc l=>aZ l λd l=>bV l (Pm u b c d (ba b a8))
def SV:=fK h.aj c true 7 λf=>aD h.aj f λg i=>aD h.aj d λk l=>aD h.aj e λm n=>dJ b (.a0 [g,k,m]) (aA i (aA l (aA n []))) h
def amV:bI u:=aJ b [13] true 7 f h λg=>hY d λi=>bt 1 i λk=>aJ b [19] false 1 k h λl=>cP e l λm=>met b [8] [c]<| aX b (some [8]) 7 c g h λ_ n=>SV b c m aL n
def UZ:=bS c 1 λi=>ci 54 b 13 none dx h λk l=>aX b none 7 k d l λ_ m=>eQ i aL λn=>aP n (eT dx λo=>aX b none 7 e o m λ_ p=>SV b e aL i p) (amV u b e f g k m)
def ab3:=cC 0 1 c [.aE,aL] λi=>cC 1 1 d i λk=>eT k λl=>ip 191 b 19 none l h λm n=>hY m λo=>bp 1 o n λq=>aW n.aj true 11 e λr=>aD n.aj f λs t=>fD u b 131 [m,r,s] (aA t []) n λv w=>bS v 0 λx=>UZ u b v x g m q w
def ai4:=ip 56 b 5 none c h λg i=>ci 54 b 8 none dx i λk l=>c8 (pR true d aL) λm=>ab3 u b e m g f k l
def Jz:=aZ la λc l=>aZ l λd l=>aZ l λe l=>aZ l λf l=>bV l (ai4 u b d f c e (ba b a8))
def m9:=bj b c h
def QY:=bZ b [] 7 c d h λi=>aJ b [] true 7 i h λk=>met b [] [e,k]<| aD h.aj e λl m=>aD h.aj k λn o=>bH u b (some []) 65 [l,n] (aA m (aA o [])) h λp q=>ni p λr=>aP r (m9 b bG q) (j3 f g d q)
def Lg:=bt 6 c λf=>aJ b [2] false 1 f h λg=>bZ b [] 7 g e h λi=>aJ b [] true 7 i h λk=>bt 6 d λl=>aJ b [3] false 1 l h λm=>QY u b (λn o p q=>bR p aS λr=>j3 n o r q) m e k c d h
def sO:=bp 6 c h λg=>bq false g λi=>cm e i λk=>aP k (Lg u b j3 c d e h) (j0 h)
def Jh:=fM 2 3 5 1000000 (sO u b (λe=>m9 b dh e)) c d aL h
def qN:bI (u,f,g,i,k,l,m):=bX c dh n λo=>aP o (m9 b bG h) (j2 d e h)
def E6:bI (u,b):=bt 6 c λe=>aW h.aj false 1 e λf=>bq false f λg=>bt 6 d λi=>aW h.aj false 1 i λk=>bq false k λl=>eQ g l λm=>j7 e f g i k l m h
def q1:bI (f,g,i,k):=bX c dh l λm=>b0 m false (E6 u b (qN u b j2 m d e) d e h) (qN u b j2 m d e ay ay ay ay ay ay ay h)
def qA:bI (f,g,i,k):=bX c dh l λm=>b0 m false (bt 5 d λn=>aW h.aj false 1 n λo=>bt 5 e λp=>aW h.aj false 1 p λq=>eQ o q λr=>q1 u b j2 m d e n o p q r h) (q1 u b j2 m d e ay ay ay ay ay h)
def qR:bI (f,g,i,k):=bX c dh l λm=>b0 m false (bt 3 d λn=>aW h.aj true 2 n λo=>bt 3 e λp=>aW h.aj true 2 p λq=>mV true o q λr=>qA u b j2 m d e n o p q r h) (qA u b j2 m d e ay ay ay ay ay h)
def q2:bI (f,g,i,k):=bX c dh l λm=>b0 m false (bt 2 d λn=>aW h.aj false 1 n λo=>bt 2 e λp=>aW h.aj false 1 p λq=>eQ o q λr=>qR u b j2 m d e n o p q r h) (qR u b j2 m d e ay ay ay ay ay h)
def sd:=aW h.aj false 1 c λg=>eQ d g λi=>b0 i false (bt 1 e λk=>aW h.aj false 1 k λl=>bt 1 f λm=>aW h.aj false 1 m λn=>eQ l n λo=>q2 u b j2 i e f k l m n o h) (q2 u b j2 i e f ay ay ay ay ay h)
def rJ:=ip 54 b 2 none c h λe f=>ip 54 b 3 none d f λg i=>bp 0 e i λl=>bt 0 g λm=>sd u b (Jh u b) m l e g i
def n3:=aZ la λc l=>aZ l λd l=>bV l (rJ u b c d (ba b a8))
def aD5:=fK h.aj c true 7 λd=>bj b d h
def al1:=ci 54 b 0 none dx h λc d=>bH u b none 71 [(.s 3 0x6e696c)] [] d λe f=>bg u b 127 e f λk l=>aX b none 7 c k l λ_ m=>aD5 b c m
def ZC:=bV la (al1 u b (ba b a8))
def qZ:=bj b c h
def Oo:=bZ b [] 11 c d h λg=>aJ b [] true 11 g h λi=>met b [] [e,i]<| aD h.aj e λk l=>aD h.aj i λm n=>bH u b (some []) 24 [k,m] (aA l (aA n [])) h λo p=>ni o λq=>aP q (qZ b bG p) (j3 f c d p)
def OF:=bZ b [] 11 c e h λf=>aJ b [] true 11 f h λg=>Oo u b (λi k l m=>bR l aS λn=>j3 i k n m) d e g c h
def sv:=bq false c λf=>cm e f λg=>aP g (OF u b j3 c d e h) (j0 h)
def IH:=fM 0 1 5 1000000 (sv u b (λe=>qZ b dh e)) c d aL h
def zk:=bq false c λe=>bq false d λf=>eQ e f λg=>aP g (qZ b bG h) (IH u b c d h)
def r9:=aZ la λc l=>aZ l λd l=>bV l (zk u b c d (ba b a8))
def ak6:=fK h.aj c true 2 λd=>bj b d h
def asj:bI u:=ci 52 b 2 none [(.s 0 0),(.s 0 0)] h λd e=>cC 0 1 (.s 4 0x6c697370) [(.s 0 0),(.s 0 0)] λf=>cC 1 1 c f λg=>eT g λi=>aX b none 2 d i e λ_ k=>ak6 b d k
def Se:=aZ la λc l=>bV l (asj u b c (ba b a8))
def age:=fK h.aj c true 11 λd=>bj b d h
def akV:=ci 56 b 4 none ca h λe f=>bg u b 28 c f λk l=>ce u b 81 k d l λq r=>aX b none 11 e q r λ_ s=>age b e s
def aaU:=aZ la λc l=>aZ l λd l=>bV l (akV u b c d (ba b a8))
def acG:=fK h.aj c true 11 λd=>bj b d h
def QU:bI u:=ip 52 b 2 none c h λe f=>ci 56 b 4 none ca f λg i=>aW i.aj true 2 e λk=>cC 0 1 gg ca λl=>cC 1 2 k l λm=>cC 10 1 d m λn=>eT n λo=>aX b none 11 g o i λ_ p=>acG b g p
def AX:=aZ la λc l=>aZ l λd l=>bV l (QU u b c d (ba b a8))
def Xy:=bj b c h
def acU:bI (u,f,g,i,k):=bX c l bG λm=>b0 m true (bt 10 d λn=>aJ b [3] false 1 n h λo=>bq false o λp=>bY p e λq=>(bX m q bG λr=>Xy b r h)) ((bX m ay bG λr=>Xy b r h))
def axu:=bt 1 c λe=>aJ b [3] true 2 e h λf=>met b [] [d]<| aD h.aj d λg i=>bH u b (some []) 71 [g] (aA i []) h λk l=>mV false f k λm=>j5 e f d k m l
def aqK:=ip 56 b 3 none c h λf g=>bt 0 f λi=>aJ b [3] false 1 i g λk=>bY k gg λl=>b0 l true (axu u b (acU u b l f d) f e g) (acU u b l f d ay ay ay ay ay g)
def aau:=aZ la λc l=>aZ l λd l=>aZ l λe l=>bV l (aqK u b c e d (ba b a8))
def yx:=fK h.aj c true 11 λd=>bj b d h
def EO:=aW h.aj true 2 d λf=>ce u b 81 f e h λm n=>aX b none 11 c m n λ_ o=>yx b c o
def X6:=cP e aS λm=>aD h.aj d λn o=>aD h.aj m λp q=>fD u b 96 [c,n,p] (aA o (aA q [])) h λr s=>cj s.aj 11 0 r (cG 1 ca) λt v=>c6 b 2122 none 56 11 1 false t (aA v []) s λw x=>eC b 2123 none 56 11 176 k w false x λy z=>(bR l aS λA=>j8 c d e f g i y A z)
def zy:=cm l i λm=>aP m (X6 u b j8 c d e f g i k l h) (j3 f g k h)
def J0:=aW h.aj true 2 g λi=>ce u b 153 d i h λo p=>bS o 0 λq=>bS o 1 λ_=>yJ 0 1 2 6 8 11 13 14 1000000 (zy u b (EO u b)) c d e f g q .aE aL p
def aei:=bq false c λk=>aD h.aj k λl m=>fD u b 30 [d,l] (aA m []) h λn o=>cb o.aj 1 c n λp=>aW o.aj false 1 p λq=>bg u b 152 q o λt v=>aX b none 2 e t v λ_ w=>j5 d f g i e w
def VA:=bq false c λk=>aD h.aj k λl m=>fD u b 30 [d,l] (aA m []) h λn o=>cb o.aj 1 c n λp=>aW o.aj false 1 p λq=>bg u b 28 q o λt v=>aX b none 2 e t v λ_ w=>j5 d f g i e w
def RV:=ci 52 b 8 none [(.s 0 0),(.s 0 0)] h λg i=>bH u b none 150 [] [] i λk l=>bH u b none 151 [] [] l λm n=>fD u b 30 [c,jf] [] n λo p=>cm o gg λq=>aP q (aei u b (J0 u b) k c g d e f p) (VA u b (J0 u b) m c g d e f p)
def adb:=fD u b 63 [c,aS] [] h λe f=>bg u b 59 e f λk l=>aX b none 11 d k l λ_ m=>yx b d m
def PY:=bY c gg λi=>aP i (adb u b d e h) (j4 d f g e h)
def AJ:=cm g gg λi=>aP i (fD u b 33 [c] [] h λk l=>aX b none 11 f k l λ_ m=>yx b f m) (PY u b (RV u b) g c f d e h)
def BE:bI (u,b,k):=bX c l bG λm=>aP m (c8 (fA .rem d jf) λn=>j5 e f g i n h) (j5 e f g i d h)
def KM:=ci 56 b 6 none ca h λf g=>fD u b 30 [c,tz] [] g λi k=>cm d aS λl=>b0 l true (fw i gg λm=>BE u b (AJ u b) l i c e d f i m k) (BE u b (AJ u b) l i c e d f ay ay k)
def uz:=aZ la λc l=>aZ l λd l=>aZ l λe l=>bV l (KM u b c e d (ba b a8))
def xP:=bj b c h
def Oi:=aJ b [] true 11 c h λg=>aJ b [3] true 11 d h λi=>met b [] [g,i]<| aD h.aj g λk l=>aD h.aj i λm n=>bH u b (some []) 24 [k,m] (aA l (aA n [])) h λo p=>aP o (xP b dh p) (j3 e d f p)
def Np:=bZ b [] 11 c e h λf=>Oi u b (λg i k l=>bR k aS λm=>j3 g i m l) f d c e h
def x8:=bq false c λf=>cm e f λg=>aP g (Np u b j3 c d e h) (j0 h)
def NT:=ip 56 b 3 none c h λe f=>fM 0 3 5 1000000 (x8 u b (λg=>xP b bG g)) d e aL f
def yA:=aZ la λc l=>aZ l λd l=>bV l (NT u b d c (ba b a8))
def ZU:=bj b c h
def Zv:bI (u,f,g,i,k):=bX c l bG λm=>b0 m true (bp 10 d h λo=>bq false o λp=>bY p e λq=>(bX m q bG λr=>ZU b r h)) ((bX m ay bG λr=>ZU b r h))
def azP:bI (u,b):=bt 1 c λe=>aW h.aj true 2 e λf=>cC 0 1 (.s 4 0x6c697370) [(.s 0 0),(.s 0 0)] λg=>cC 1 1 d g λi=>eT i λk=>mV false f k λl=>j5 e f d k l h
def are:=ip 56 b 3 none c h λf g=>bp 0 f g λk=>bY k gg λl=>b0 l true (azP u b (Zv u b l f d) f e g) (Zv u b l f d ay ay ay ay ay g)
def SX:=aZ la λc l=>aZ l λd l=>aZ l λe l=>bV l (are u b c e d (ba b a8))
def Ev:=aD h.aj c λe f=>aD h.aj d λg i=>dJ b (.a0 [e,g]) (aA f (aA i [])) h
def Tp:=ce u b 156 c d h λk l=>bS k 0 λm=>bS k 1 λn=>Ev b m n l
def aek:=bH u b none 37 [fC] [] h λe f=>ce u b 155 d e f λm n=>bS m 0 λo=>bS m 1 λp=>eQ p aL λq=>aP q (Ev b .aE p n) (Tp u b c o n)
def abH:=aW h.aj true 11 c λe=>bg u b 154 e h λi k=>bS i 0 λl=>bS i 1 λm=>eQ m aL λn=>aP n (Ev b .aE m k) (aek u b d l k)
def TN:=aW h.aj true 11 c λe=>bg u b 154 e h λi k=>bS i 0 λl=>bS i 1 λm=>eQ m aL λn=>aP n (Ev b .aE m k) (abH u b d l k)
def aak:=ip 56 b 2 none c h λe f=>ip 56 b 3 none d f λg i=>TN u b e g i
def DG:=aZ la λc l=>aZ l λd l=>bV l (aak u b c d (ba b a8))
def Yc:=fK h.aj c true 7 λd=>bj b d h
def VW:bI u:=ci 54 b 2 none dx h λd e=>cC 0 1 aS dx λf=>cC 1 1 c f λg=>cC 2 1 (.s 1 0x31) g λi=>eT i λk=>aX b none 7 d k e λ_ l=>Yc b d l
def E4:=aZ la λc l=>bV l (VW u b c (ba b a8))
def aat:=bj b c h
def RW:=bg u b 157 c h λf g=>aat b f g
def BH:=aZ la λc l=>bV l (RW u b c (ba b a8))
def Vw:=bj b c h
def Tv:=ip 54 b 1 none c h λd e=>aW e.aj true 7 d λf=>aD e.aj f λg i=>bH u b none 169 [g,EX] (aA i []) e λk l=>Vw b k l
def ES:=aZ la λc l=>bV l (Tv u b c (ba b a8))
def rx:=bj b c h
def adJ:bI (e,f):=bX c g bG λi=>b0 i true (bg u b 171 d h λm n=>kt m zi λo=>(bX i o bG λp=>rx b p n)) ((bX i ay bG λp=>rx b p h))
def Ri:bI (f,g,i):=bX c k bG λl=>b0 l true (bg u b 171 e h λo p=>kt o zi λq=>adJ u b l d e o q p) (adJ u b l d ay ay ay h)
def abu:bI (g,i,k):=bX c l bG λm=>b0 m true (bt 2 f λn=>aW h.aj false 1 n λo=>bY d o λp=>Ri u b m d e d n o p h) (Ri u b m d e ay ay ay ay h)
def abP:bI (g,i,k):=bX c l bG λm=>b0 m true (bt 1 f λn=>aW h.aj false 1 n λo=>bY e o λp=>abu u b m d e f e n o p h) (abu u b m d e f ay ay ay ay h)
def Y8:bI (g,i):=bX c k bG λl=>b0 l true (bt 6 f λm=>aW h.aj false 1 m λn=>bq false n λo=>bY o aL λp=>abP u b l d e f m n o p h) (abP u b l d e f ay ay ay ay h)
def aDQ:=ce u b 170 c d h λm n=>bS m 0 λo=>bS m 1 λp=>b0 e true (bt 5 f λq=>aW n.aj false 1 q λr=>bY r (.s 0 0) λs=>Y8 u b e p o f q r s n) (Y8 u b e p o f ay ay ay n)
def aDB:=bp 1 c h λf=>bp 2 c h λi=>aDQ u b f i d c h
def ac0:bI (u,e,f):=bX c g bG λi=>b0 i true (bp 6 d h λl=>bq false l λm=>bY m aL λn=>(bX i n bG λo=>rx b o h)) ((bX i ay bG λo=>rx b o h))
def W6:bI (e,f):=bX c g bG λi=>b0 i true (bt 5 d λk=>aW h.aj false 1 k λl=>bY l (.s 0 0) λm=>ac0 u b i d k l m h) (ac0 u b i d ay ay ay h)
def XH:bI (e,f):=bX c g bG λi=>b0 i true (bt 2 d λk=>aW h.aj false 1 k λl=>bY l (.s 0 0) λm=>W6 u b i d k l m h) (W6 u b i d ay ay ay h)
def aD1:=bt 3 c λd=>aW h.aj true 2 d λe=>bg u b 172 e h λi k=>b0 i true (bt 1 c λl=>aW k.aj false 1 l λm=>bY m (.s 0 0) λn=>XH u b i c l m n k) (XH u b i c ay ay ay k)
def TO:bI (u,e,f,g):=bX c i bG λk=>b0 k true (bp 6 d h λm=>bq false m λn=>bY n aL λo=>(bX k o bG λp=>rx b p h)) ((bX k ay bG λp=>rx b p h))
def Tb:bI (e,f):=bX c g bG λi=>b0 i true (bt 5 d λk=>aW h.aj false 1 k λl=>bq true l λm=>kt m zY λn=>TO u b i d k l m n h) (TO u b i d ay ay ay ay h)
def WE:bI (e,f):=bX c g bG λi=>b0 i true (bt 2 d λk=>aW h.aj false 1 k λl=>bY l (.s 0 0) λm=>Tb u b i d k l m h) (Tb u b i d ay ay ay h)
def aiJ:=b0 c true (bt 1 d λe=>aW h.aj false 1 e λf=>bY f (.s 0 0) λg=>WE u b c d e f g h) (WE u b c d ay ay ay h)
def Ze:=bt 6 c λd=>aW h.aj false 1 d λe=>cb h.aj 7 e aS λf=>aW h.aj true 7 f λg=>bg u b 107 g h λl m=>j5 d e f g l m
def PA:bI (e,f,g,i):=bX c k bG λl=>b0 l true (Ze u b (λ_ _ _ _ m n=>bX l m bG λo=>rx b o n) d h) ((bX l ay bG λo=>rx b o h))
def ZL:=bt 6 c λd=>aW h.aj false 1 d λe=>cb h.aj 7 e aL λf=>aW h.aj true 7 f λg=>bg u b 107 g h λl m=>j5 d e f g l m
def Lt:bI (e,f,g):=bX c i bG λk=>b0 k true (ZL u b (PA u b k d) d h) (PA u b k d ay ay ay ay ay h)
def NY:bI (e,f):=bX c g bG λi=>b0 i true (bt 6 d λk=>aW h.aj false 1 k λl=>bq false l λm=>bY m cZ λn=>Lt u b i d k l m n h) (Lt u b i d ay ay ay ay h)
def LS:bI (e,f):=bX c g bG λi=>b0 i true (bt 5 d λk=>aW h.aj false 1 k λl=>bY l (.s 0 0) λm=>NY u b i d k l m h) (NY u b i d ay ay ay h)
def MO:bI (e,f):=bX c g bG λi=>b0 i true (bt 2 d λk=>aW h.aj false 1 k λl=>bY l (.s 0 0) λm=>LS u b i d k l m h) (LS u b i d ay ay ay h)
def aet:=b0 c true (bt 1 d λe=>aW h.aj false 1 e λf=>bY f (.s 0 0) λg=>MO u b c d e f g h) (MO u b c d ay ay ay h)
def Xl:=bY c jf λf=>aP f (aet u b d e h) (j0 h)
def aeU:=bY c gg λf=>aP f (aiJ u b d e h) (Xl u b j0 c d e h)
def Ur:=bY c cZ λf=>aP f (aD1 u b d h) (aeU u b j0 c e d h)
def YT:=aW h.aj true 2 c λe=>eT [(.s 0 0),(.s 0 0)] λf=>mV false e f λg=>bp 0 d h λk=>bY k aS λl=>aP l (aDB u b d g h) (Ur u b (λm=>rx b bG m) k d g h)
def YH:=ip 54 b 1 none c h λd e=>bt 3 d λf=>YT u b f d e
def Dz:=aZ la λc l=>bV l (YH u b c (ba b a8))
def Y6:=fK h.aj c true 7 λd=>bj b d h
def acY:=met b [] [c,d]<| aD h.aj c λg i=>aD h.aj d λk l=>bH u b (some []) 174 [g,k] (aA i (aA l [])) h λm n=>met b [] [e,m]<| aD n.aj e λo p=>aD n.aj m λq r=>bH u b (some []) 114 [o,q] (aA p (aA r [])) n λs t=>met b [4] [f]<| aX b (some [4]) 7 f s t λ_ v=>Y6 b f v
def Z1:=met b [] [c,d]<| aD h.aj c λi k=>aD h.aj d λl m=>bH u b (some []) 174 [i,l] (aA k (aA m [])) h λn o=>bt 2 e λp=>aJ b [5] false 1 p o λq=>bt 2 f λr=>aJ b [6] false 1 r o λs=>acY u b q s n g o
def aaz:=met b [5] [c]<| aX b (some [5]) 7 c d h λ_ i=>met b [6] [e]<| aX b (some [6]) 7 e f i λ_ k=>bt 1 c λl=>aJ b [5] false 1 l k λm=>bt 1 e λn=>aJ b [6] false 1 n k λo=>Z1 u b m o c e g k
def RI:=met b [] [c]<| aD h.aj c λf g=>bH u b (some []) 113 [f] (aA g []) h λi k=>aJ b [3] true 7 d k λl=>met b [] [l]<| aD k.aj l λm n=>bH u b (some []) 113 [m] (aA n []) k λo p=>ci 54 b 5 (some [5]) dx p λq r=>ci 54 b 6 (some [6]) dx r λs t=>aaz u b q i s o e t
def adA:=ip 54 b 2 none c h λe f=>ip 54 b 3 none d f λg i=>ci 54 b 4 none dx i λk l=>aJ b [2] true 7 e l λm=>RI u b m g k l
def Di:=aZ la λc l=>aZ l λd l=>bV l (adA u b c d (ba b a8))
def ajO:=bj b c h
def ahQ:=aJ b [3] true 7 c h λe=>met b [] [e]<| aD h.aj e λf g=>bH u b (some []) 113 [f] (aA g []) h λi k=>met b [] [d,i]<| aD k.aj d λl m=>aD k.aj i λn o=>bH u b (some []) 178 [l,n] (aA m (aA o [])) k λp q=>cm p aL λr=>ajO b r q
def amU:=ip 54 b 2 none c h λe f=>ip 54 b 3 none d f λg i=>aJ b [2] true 7 e i λk=>met b [] [k]<| aD i.aj k λl m=>bH u b (some []) 113 [l] (aA m []) i λn o=>ahQ u b g n o
def Im:=aZ la λc l=>aZ l λd l=>bV l (amU u b c d (ba b a8))
def MB:=fK h.aj c true 7 λd=>bj b d h
def aaI:=bp 0 c h λf=>bY f aS λg=>aP g (aW h.aj true 7 c λi=>aX b none 7 d i h λ_ k=>MB b d k) ((bH u b none 60 [aL] [] h λl m=>aX b none 7 d l m λ_ n=>MB b d n))
def aaj:=ip 54 b 1 none c h λd e=>ci 54 b 2 none dx e λf g=>aaI u b d f g
def C5:=aZ la λc l=>bV l (aaj u b c (ba b a8))
def Za:=fK h.aj c true 7 λd=>bj b d h
def aax:=ce u b 170 c d h λl m=>bS l 0 λn=>bS l 1 λo=>cC 0 1 aS dx λp=>cC 1 1 n p λq=>cC 2 1 o q λr=>eT r λs=>aX b none 7 e s m λ_ t=>Za b e t
def Vc:=ci 54 b 4 none dx h λe f=>aax u b c d e f
def CF:=aZ la λc l=>aZ l λd l=>bV l (Vc u b c d (ba b a8))
def abD:=bj b c h
def afH:=bg u b 179 c h λf g=>bS f 0 λi=>bS f 1 λk=>ni i λl=>ce u b 180 l k g λq r=>abD b q r
def GX:=aZ la λc l=>bV l (afH u b c (ba b a8))
def P3:=aD h.aj c λf g=>aD h.aj d λi k=>aD h.aj e λl m=>dJ b (.a0 [f,i,l]) (aA g (aA k (aA m []))) h
def UA:=bg u b 35 c h λf g=>bS f 0 λi=>bS f 1 λk=>bS f 2 λl=>bY l aL λm=>b0 m true (eQ k aL λn=>(bX m n bG λo=>P3 b i k o g)) ((bX m ay bG λo=>P3 b i k o g))
def W3:=ip 56 b 1 none c h λd e=>aW e.aj true 11 d λf=>UA u b f e
def yo:=aZ la λc l=>bV l (W3 u b c (ba b a8))
def wu:=fK h.aj c true 7 λe=>aD h.aj e λf g=>aD h.aj d λi k=>dJ b (.a0 [f,i]) (aA g (aA k [])) h
def SM:bI u:=cb h.aj 8 c aL λe=>bt 0 e λf=>aW h.aj true 7 f λg=>aX b none 7 d g h λ_ i=>wu b d dh i
def Bs:bI (f,g,i,k,l):=bX c m bG λn=>aP n (SM u b d e h) (j1 e h)
def Gs:=bq false c λe=>bY e aS λf=>b0 f true (cb h.aj 8 c aL λg=>bt 7 g λi=>aW h.aj false 1 i λk=>bq false k λl=>bY l aL λm=>Bs u b j1 f c d c g i k l m h) (Bs u b j1 f c d ay ay ay ay ay ay h)
def FB:=bq false c λe=>bY e aL λf=>aP f (bH u b none 37 [aL] [] h λg i=>aX b none 7 d g i λ_ k=>wu b d dh k) (Gs u b (λl m=>eT dx λn=>aX b none 7 l n m λ_ o=>wu b l bG o) c d h)
def Cj:=ci 54 b 2 none dx h λd e=>FB u b c d e
def uL:=aZ la λc l=>bV l (Cj u b c (ba b a8))
def QX:=aD h.aj c λe f=>aD h.aj d λg i=>dJ b (.a0 [e,g]) (aA f (aA i [])) h
def xz:=fD u b 184 [c] [] h λd e=>bS d 0 λf=>bS d 1 λg=>QX b f g e
def Qb:=aW h.aj true 7 c λq=>ce u b 160 d q h λw x=>cC 0 7 w fX λy=>cC 7 1 e y λz=>eT z λA=>cj x.aj 8 0 A (cG 1 fX) λB C=>c6 b 2088 none 120 8 1 false B (aA C []) x λD E=>eC b 2089 none 120 8 136 f D true E λG H=>j9 g G i k l m n o p H
def Uw:=aW h.aj false 1 c λq=>cj h.aj 1 0 d (cG 2 [.aE]) λr s=>cj h.aj 1 1 q r λt v=>c6 b 2076 none 30 1 2 false t (aA s (aA v [])) h λw x=>aD x.aj w λy z=>fD u b 181 [y] (aA z []) x λA B=>fD u b 182 [A,(.bu (.func (.func 183) #[] #[]))] [] B λ_ C=>bt 0 e λD=>aW C.aj true 7 D λE=>bt 0 f λG=>Qb u b j9 G E A g i e k l m n o p C
def Pf:=cb h.aj 8 k m λn=>aW h.aj true 8 n λo=>ci 120 b 10 none fX h λp q=>aX b none 8 p o q λ_ r=>bp 7 e r λt=>bt 7 p λv=>Uw u b (λw x y z A B C D E G=>bR E aS λH=>j9 w x y z A B C D H G) v t e p d c f g i k l m r
def wQ:=cm m l λn=>aP n (Pf u b j9 c d e f g i k l m h) (j5 c d f g i h)
def Qq:=cb h.aj 8 e g λi=>aW h.aj true 8 i λk=>ci 120 b 8 none fX h λl m=>aX b none 8 l k m λ_ n=>bq false c λo=>zl 1 6 8 12 13 14 18 19 20 1000000 (wQ u b (λp q r s t v=>bR t aS λw=>j5 p q r s w v)) c d l e f g c o aL n
def p2:=cm g f λi=>aP i (Qq u b j5 c d e f g h) (j1 d h)
def ayo:=bq false c λe=>fs 1 6 12 13 14 1000000 (p2 u b (xz u b)) d .aE c e aL h
def w1:=aZ la λc l=>aZ l λd l=>bV l (ayo u b c d (ba b a8))
def wF:=bj b c h
def P5:bI u:=cb h.aj 8 c e λf=>aW h.aj true 8 f λg=>ci 120 b 4 none fX h λi k=>aX b none 8 i g k λ_ l=>bp 7 i l λn=>bq false n λo=>fw o jf λp=>aP p (wF b dh l) ((bR e aS λq=>j3 c d q l))
def wX:=cm e d λf=>aP f (P5 u b j3 c d e h) (j0 h)
def NR:=bq false c λd=>fM 5 6 7 1000000 (wX u b (λe=>wF b bG e)) c d aL h
def yK:=aZ la λc l=>bV l (NR u b c (ba b a8))
def yF:=fK h.aj c true 11 λd=>bj b d h
def SL:=aJ b [3] true 11 c h λi=>met b [] [d,i]<| cj h.aj 11 0 d (cG 2 ca) λk l=>cj h.aj 11 1 i k λm n=>c6 b 2078 (some [2078]) 56 11 2 false m (aA l (aA n [])) h λo p=>met b [2078] [o]<| aD p.aj o λq r=>bH u b (some []) 122 [(.s 8 0x62696e6172792d2b),q] (aA r []) p λs t=>met b [3] [c]<| aX b (some [3]) 11 c s t λ_ v=>j4 e f c g v
def TR:=bZ b [] 8 c f h λg=>aJ b [] true 8 g h λi=>met b [] [i]<| aD h.aj i λk l=>bH u b (some []) 186 [k] (aA l []) h λm n=>SL u b (λo p q r s=>cP r aS λt=>j4 o p q t s) e m c d f n
def tq:=il f aL λg=>aP g (TR u b j4 c d e f h) (j2 d e h)
def Vj:=bg u b 186 c h λi k=>ci 56 b 3 none ca k λl m=>aX b none 11 l i m λ_ n=>bq false d λo=>cP o cZ λp=>du 0 2 3 4 1000000 (tq u b (λq r s=>aW s.aj true 11 r λt=>aX b none 11 q t s λ_ v=>yF b q v)) d e l p n
def Sh:=bq false c λe=>cP e aS λf=>cb h.aj 8 c f λg=>aW h.aj true 8 g λi=>Vj u b i c d h
def Vx:=bH u b none 37 [aL] [] h λd e=>bg u b 185 d e λi k=>aX b none 11 c i k λ_ l=>yF b c l
def OV:=ci 56 b 2 none ca h λd e=>bq false c λf=>bY f aL λg=>aP g (Vx u b d e) (Sh u b c d e)
def y9:=aZ la λc l=>bV l (OV u b c (ba b a8))
def Xu:=fK h.aj c true 11 λd=>bj b d h
def abS:=ip 54 b 1 none c h λd e=>ci 56 b 2 none ca e λf g=>aW g.aj true 7 d λi=>bg u b 185 i g λm n=>aX b none 11 f m n λ_ o=>Xu b f o
def BY:=aZ la λc l=>bV l (abS u b c (ba b a8))
def aCG:=fK h.aj c true 11 λd=>bj b d h
def ajU:=ci 56 b 4 none ca h λe f=>cC 0 1 (.s 4 0x6c697370) [(.s 0 0),(.s 0 0)] λg=>cC 1 1 c g λi=>eT i λk=>ce u b 187 k d f λp q=>aX b none 11 e p q λ_ r=>aCG b e r
def acB:=aZ la λc l=>aZ l λd l=>bV l (ajU u b c d (ba b a8))
def WG:=fK h.aj c true 11 λd=>bj b d h
def aeB:=ip 56 b 1 none c h λd e=>ci 56 b 2 none ca e λf g=>aW g.aj true 11 d λi=>cj g.aj 11 0 i (cG 1 ca) λk l=>c6 b 2052 none 56 11 1 false k (aA l []) g λm n=>aD n.aj m λo p=>bH u b none 122 [(.s 3 0x6e6f74),o] (aA p []) n λq r=>aX b none 11 f q r λ_ s=>WG b f s
def Cd:=aZ la λc l=>bV l (aeB u b c (ba b a8))
def aD2:=fK h.aj c true 7 λd=>bj b d h
def agu:bI u:=ip 52 b 1 none c h λd e=>ci 54 b 2 none dx e λf g=>aW g.aj true 2 d λi=>cC 0 1 cZ dx λk=>cC 3 2 i k λl=>eT l λm=>aX b none 7 f m g λ_ n=>aD2 b f n
def adm:=aZ la λc l=>bV l (agu u b c (ba b a8))
def Cv:=fK h.aj c true 7 λd=>bj b d h
def ab9:=aJ b [] true 7 c h λi=>aJ b [3] true 7 d h λk=>met b [] [i,k]<| aD h.aj i λl m=>aD h.aj k λn o=>bH u b (some []) 130 [l,n] (aA m (aA o [])) h λp q=>met b [3] [d]<| aX b (some [3]) 7 d p q λ_ r=>j4 e f d g r
def aal:=bZ b [] 7 c f h λg=>ab9 u b (λi k l m n=>cP m aS λo=>j4 i k l o n) g e c d f h
def AH:=il f aL λg=>aP g (aal u b j4 c d e f h) (j2 d e h)
def RT:=bH u b none 66 [] [] h λe f=>ci 54 b 3 none dx f λg i=>aX b none 7 g e i λ_ k=>bq false c λl=>cP l aS λm=>du 0 2 3 4 1000000 (AH u b (λn o p=>aW p.aj true 7 o λq=>aX b none 7 n q p λ_ r=>Cv b n r)) c d g m k
def OM:=ci 54 b 2 none dx h λd e=>RT u b c d e
def zA:=aZ la λc l=>bV l (OM u b c (ba b a8))
def Z6:=fK h.aj c true 7 λd=>bj b d h
def aae:bI u:=ci 54 b 4 none dx h λe f=>aW f.aj true 7 c λg=>aW f.aj true 7 d λi=>cj f.aj 7 0 g (cG 2 dx) λk l=>cj f.aj 7 1 i k λm n=>c6 b 2055 none 54 7 2 false m (aA l (aA n [])) f λo p=>cC 0 1 jf dx λq=>cC 6 1 o q λr=>eT r λs=>aX b none 7 e s p λ_ t=>Z6 b e t
def PV:=ip 54 b 2 none c h λe f=>ip 54 b 3 none d f λg i=>aae u b e g i
def zD:=aZ la λc l=>aZ l λd l=>bV l (PV u b c d (ba b a8))
def tE:=fK h.aj c true 7 λe=>aD h.aj e λf g=>aD h.aj d λi k=>dJ b (.a0 [f,i]) (aA g (aA k [])) h
def ahL:=met b [2206] [c,d]<| aD h.aj c λi k=>aD h.aj d λl m=>bH u b (some []) 192 [i,l] (aA k (aA m [])) h λn o=>aD o.aj n λp q=>o7 u b [4097] [4096,4098] [e,f,n] 131 [e,f,p] (aA q []) o λr s=>bS r 0 λt=>bS r 1 λv=>met b [6] [g]<| aX b (some [6]) 7 g t s λ_ w=>tE b g v w
def Z3:=bt 15 e λg=>aJ b [14] true 11 g h λi=>bt 2 e λk=>aJ b [14] false 1 k h λl=>ahL u b l f c i d h
def WU:=bt 1 c λf=>aW h.aj true 2 f λg=>ce u b 191 g d h λn o=>bS n 0 λp=>bS n 1 λq=>aX b none 7 e p o λ_ r=>tE b e q r
def Du:=aP f (WU u b d i e h) (Z3 u b c e g i h)
def apX:bI u:=aW h.aj true 7 m λn=>cj h.aj 7 0 n (cG 1 dx) λo p=>c6 b 2205 none 54 7 1 false o (aA p []) h λq r=>eC b 2206 none 54 7 112 k q false r λs t=>j8 c d e f g i s l t
def ZD:=bS c 1 λo=>ci 54 b 20 none dx h λp q=>aX b none 7 p d q λ_ r=>eQ o aL λs=>aP s (eT dx λt=>aX b none 7 e t r λ_ v=>tE b e o v) (apX u b j8 f g i e k l m n p r)
def aa7:=bp 10 e h λn=>cb h.aj 11 n l λo=>aW h.aj true 11 o λp=>aD h.aj d λq r=>fD u b 131 [c,p,q] (aA r []) h λs t=>bS s 0 λv=>ZD u b (λw x y z A B C D E=>bR D aS λG=>j8 w x y z A B C G E) s v f c d e g i k l t
def Kt:=bp 10 e h λn=>bq false n λo=>cm l o λp=>aP p (aa7 u b j8 c d e f g i k l h) (j6 c e f g i k h)
def aaR:=yJ 0 2 4 6 13 14 18 19 1000000 (Kt u b (Du u b)) c d e f g i .aE aL h
def acx:=bp 10 e h λi=>cb h.aj 11 i aS λk=>aW h.aj true 11 k λl=>aD h.aj d λm n=>fD u b 131 [c,l,m] (aA n []) h λo p=>bS o 0 λq=>bS o 1 λr=>aX b none 7 f q p λ_ s=>tE b f r s
def ag8:=bp 10 c h λi=>cb h.aj 11 i cZ λk=>aW h.aj true 11 k λl=>aD h.aj d λm n=>fD u b 131 [e,l,m] (aA n []) h λo p=>bS o 0 λq=>bS o 1 λr=>aX b none 7 f q p λ_ s=>tE b f r s
def Zj:=aW h.aj true 7 g λi=>bg u b 190 i h λm n=>aP m (ag8 u b e d c f n) (acx u b c d e f n)
def RH:=bS c 1 λk=>ci 54 b 16 none dx h λl m=>aX b none 7 l d m λ_ n=>eQ k aL λo=>aP o (aW n.aj true 7 l λp=>aX b none 7 e p n λ_ q=>tE b e k q) (Zj u b f g i e l n)
def Xs:=bp 10 c h λi=>cb h.aj 11 i aL λk=>aW h.aj true 11 k λl=>aD h.aj d λm n=>fD u b 131 [e,l,m] (aA n []) h λo p=>bS o 0 λq=>RH u b o q f e d c p
def Ov:=aW h.aj true 11 e λk=>aD h.aj k λl m=>bH u b none 85 [l,(.s 2 0x6966),gg] (aA m []) h λn o=>aP n (Xs u b e d c f o) (aaR u b c d e f g i o)
def OS:bI (u,l,m):=bX c n bG λo=>aP o (eT dx λp=>aX b none 7 d p h λ_ q=>tE b d vW q) (j6 e f g d i k h)
def T5:=met b [14] [c]<| aX b (some [14]) 37 c d h λ_ l=>ni e λm=>b0 m true (bt 3 c λn=>aW l.aj false 1 n λo=>eQ o aS λp=>OS u b (Ov u b) m f g i k e c n o p l) (OS u b (Ov u b) m f g i k e c ay ay ay l)
def Ut:=bt 1 c λk=>aJ b [4] true 2 k h λl=>met b [4098,4096,4098] [d,l]<| aD h.aj d λm n=>aD h.aj l λo p=>bH u b (some []) 94 [m,o] (aA n (aA p [])) h λq r=>bS q 0 λs=>bS q 1 λ_=>ci 67 b 14 (some [14]) [(.s 0 0),(.s 0 0),.aE,aL,aL,(.s 0 0),(.s 0 0),aL,(.s 0 0),(.s 0 0),(.s 0 0),(.s 0 0),(.s 0 0),.aE,.aE,aL,(.s 0 0),(.s 0 0),aL,(.s 0 0),(.s 0 0),(.s 0 0),(.s 0 0),(.s 0 0),.aE,.aE,aL,(.s 0 0),(.s 0 0),aL,(.s 0 0),(.s 0 0),(.s 0 0),(.s 0 0),(.s 0 0),.aE,.aE] r λt v=>T5 u b t s e f g i c v
def Uh:=bt 1 e λg=>aW h.aj true 2 g λi=>bg u b 145 i h λm n=>bS m 0 λ_=>bS m 1 λo=>hY c λp=>bt 0 p λq=>aJ b [4096] false 1 q n λr=>Ut u b e r o f c d n
def RL:=bp 10 e h λk=>bq false k λl=>eQ g l λm=>aP m (eT dx λn=>aX b none 7 f n h λ_ o=>tE b f rz o) (Uh u b c d e f h)
def RK:=met b [4098,4096,4098] [c,d]<| aD h.aj c λk l=>aD h.aj d λm n=>bH u b (some []) 153 [k,m] (aA l (aA n [])) h λo p=>bS o 0 λq=>bS o 1 λr=>ni r λs=>aP s (eT dx λt=>aX b none 7 e t p λ_ v=>tE b e EP v) (RL u b f g i e q p)
def UM:=hY c λi=>bt 1 i λk=>aX b none 1 k d h λ_ l=>hY c λm=>bt 0 m λn=>aJ b [4096] false 1 n l λo=>bt 1 e λp=>aJ b [4] true 2 p l λq=>RK u b o q f c g e l
def Sm:=hY c λg=>bp 1 g h λk=>cP k aS λl=>UM u b c l e f d h
def Qf:=hY c λg=>bp 1 g h λk=>cm k aS λl=>aP l (eT dx λm=>aX b none 7 f m h λ_ n=>tE b f pQ n) (Sm u b c d e f h)
def aaK:bI u:=aX b none 7 c d h λ_ g=>ni e λi=>aP i (eT dx λk=>aX b none 7 f k g λ_ l=>tE b f v2 l) ((aW g.aj true 7 c λm=>aX b none 7 f m g λ_ n=>tE b f aL n))
def WO:=bt 1 c λf=>aW h.aj true 2 f λg=>ce u b 189 d g h λn o=>bS n 0 λp=>bS n 1 λq=>ci 54 b 8 none dx o λr s=>aaK u b r p q e s
def aaX:bI u:=bt 3 c λe=>aW h.aj true 7 e λf=>aX b none 7 d f h λ_ g=>tE b d aL g
def IE:=bY c cZ λi=>aP i (aaX u b d e h) (j4 f g d e h)
def CN:=ip 56 b 4 none c h λf g=>ci 54 b 6 none dx g λi k=>bp 0 f k λm=>bY m aS λn=>aP n (WO u b f d i k) (IE u b (Qf u b) m f i e d k)
def yu:=aZ la λc l=>aZ l λd l=>aZ l λe l=>bV l (CN u b d e c (ba b a8))
def pC:=aD h.aj c λe f=>aD h.aj d λg i=>dJ b (.a0 [e,g]) (aA f (aA i [])) h
def abw:bI u:=aJ b [1] true 11 c h λe=>met b [] [e]<| cj h.aj 11 0 e (cG 1 ca) λf g=>c6 b 2150 (some [2150]) 56 11 1 false f (aA g []) h λi k=>cC 0 7 d fX λl=>cC 7 1 i l λm=>eT m λn=>met b [2150] [n]<| cj k.aj 8 0 n (cG 1 fX) λo p=>c6 b 2152 (some [2152]) 120 8 1 false o (aA p []) k λq r=>pC b q aL r
def XA:=bt 3 c λd=>aW h.aj true 7 d λe=>bg u b 204 e h λi k=>bS i 0 λl=>bS i 1 λm=>pC b l m k
def Sz:=ce u b 118 c d h λk l=>bS k 0 λm=>bS k 1 λn=>pC b m n l
def abh:=ce u b 156 c d h λk l=>bS k 0 λm=>bS k 1 λn=>pC b m n l
def Qo:=bt 1 c λf=>bp 1 f h λi=>bY i (.s 8 0x62696e6172792d2b) λk=>aP k (abh u b d e h) (j2 d e h)
def Ns:=aW h.aj true 11 c λf=>bg u b 154 f h λk l=>bS k 0 λm=>bS k 1 λn=>eQ n aL λo=>aP o (pC b .aE n l) (Qo u b (Sz u b) d e m l)
def O6:=bp 10 c h λf=>cb h.aj 11 f aS λg=>Ns u b g c d h
def Ow:=aW h.aj true 11 c λe=>bg u b 154 e h λi k=>bS i 0 λl=>bS i 1 λm=>eQ m aL λn=>aP n (pC b .aE m k) (O6 u b d l k)
def Ib:=bp 10 c h λe=>cb h.aj 11 e aL λf=>Ow u b f c h
def ad3:=bH u b none 37 [fC] [] h λd e=>ce u b 155 c d e λl m=>bS l 0 λn=>bS l 1 λo=>pC b n o m
def Us:=aW h.aj true 11 c λd=>bg u b 154 d h λg i=>bS g 0 λk=>bS g 1 λl=>eQ l aL λm=>aP m (pC b .aE l i) (ad3 u b k i)
def Z7:=bp 10 c h λe=>cb h.aj 11 e aL λf=>Us u b f h
def aos:=aW h.aj false 1 c λd=>cb h.aj 11 d aL λe=>bt 3 e λf=>aW h.aj true 7 f λg=>bg u b 165 g h λl m=>bg u b 204 l m λp q=>bS p 0 λr=>bS p 1 λs=>pC b r s q
def N5:bI (e,f,g,i,k):=bX c l bG λm=>aP m (bt 10 d λn=>aos u b n h) (j1 d h)
def ahh:bI (u,b):=bt 10 c λd=>aW h.aj false 1 d λe=>cb h.aj 11 e aL λf=>bt 0 f λg=>aW h.aj false 1 g λi=>bY i cZ λk=>j6 d e f g i k h
def Tl:=aW h.aj true 11 c λd=>aD h.aj d λe f=>bH u b none 98 [e,(.s 7 0x756e6172792d2f),aS] (aA f []) h λg i=>b0 g true (ahh u b (N5 u b j1 g c) c i) (N5 u b j1 g c ay ay ay ay ay ay i)
def Hk:=aW h.aj true 11 c λd=>aD h.aj d λe f=>bH u b none 98 [e,(.s 7 0x756e6172792d2d),aS] (aA f []) h λg i=>aP g (Z7 u b c i) (Tl u b j1 c i)
def GY:=aW h.aj true 11 c λd=>aD h.aj d λe f=>bH u b none 98 [e,(.s 8 0x62696e6172792d2a),cZ] (aA f []) h λg i=>j2 c g i
def El:=aW h.aj true 11 c λd=>aD h.aj d λe f=>bH u b none 98 [e,(.s 8 0x62696e6172792d2b),cZ] (aA f []) h λg i=>aP g ((aP g (Ib u b c i) (Hk u b j1 c i))) (GY u b (λk l m=>aP l (Ib u b k m) (Hk u b j1 k m)) c i)
def A0:=ip 56 b 1 none c h λd e=>bp 0 d e λg=>bY g cZ λi=>aP i (XA u b d e) (El u b (λk l=>bH u b (some []) 37 [aS] [] l λm n=>abw u b k m n) d e)
def lV:=aZ la λc l=>bV l (A0 u b c (ba b a8))
def KV:=aD h.aj c λe f=>aD h.aj d λg i=>dJ b (.a0 [e,g]) (aA f (aA i [])) h
def Bf:=fD u b 184 [c] [] h λd e=>bS d 0 λf=>bS d 1 λg=>KV b f g e
def XI:bI u:=aJ b [8] false 1 c h λl=>cC 0 7 d fX λm=>cC 7 1 l m λn=>eT n λo=>met b [] [o]<| cj h.aj 8 0 o (cG 1 fX) λp q=>c6 b 2071 (some [2071]) 120 8 1 false p (aA q []) h λr s=>met b [2072,2071] [e,r]<| eC b 2072 (some [2072,2072]) 120 8 136 e r true s λt v=>j5 f t g i k v
def aeJ:=bt 0 c λk=>aJ b [8] true 7 k h λl=>aJ b [3] true 7 d h λm=>met b [] [l,m]<| aD h.aj l λn o=>aD h.aj m λp q=>bH u b (some []) 160 [n,p] (aA o (aA q [])) h λr s=>bt 7 c λt=>XI u b j5 t r e d f g i s
def Xh:=cb h.aj 8 e g λi=>aW h.aj true 8 i λk=>ci 120 b 8 none fX h λl m=>aX b none 8 l k m λ_ n=>aeJ u b (λo p q r s t=>bR s aS λv=>j5 o p q r v t) l c d e f g n
def yh:=cm g f λi=>aP i (Xh u b j5 c d e f g h) (j1 d h)
def aCr:=ip 54 b 3 none c h λe f=>bq false d λg=>fs 3 6 9 10 11 1000000 (yh u b (Bf u b)) e .aE d g aL f
def C0:=aZ la λc l=>aZ l λd l=>bV l (aCr u b d c (ba b a8))
def G0:=aD h.aj c λe f=>aD h.aj d λg i=>dJ b (.a0 [e,g]) (aA f (aA i [])) h
def aeX:=cj h.aj 1 0 c (cG 2 [.aE]) λe f=>cj h.aj 1 1 d e λg i=>c6 b 2056 none 98 1 2 false g (aA f (aA i [])) h λk l=>aD l.aj k λm n=>fD u b 205 [m] (aA n []) l λo p=>fD u b 184 [o] [] p λq r=>bS q 0 λs=>bS q 1 λt=>G0 b s t r
def CV:=aZ la λc l=>aZ l λd l=>bV l (aeX u b c d (ba b a8))
def acW:=fK h.aj c true 7 λd=>bj b d h
def WF:=met b [] [c,d]<| aD h.aj c λg i=>aD h.aj d λk l=>bH u b (some []) 211 [g,k] (aA i (aA l [])) h λm n=>met b [] [e,m]<| aD n.aj e λo p=>aD n.aj m λq r=>bH u b (some []) 210 [o,q] (aA p (aA r [])) n λs t=>met b [4] [f]<| aX b (some [4]) 7 f s t λ_ v=>acW b f v
def ab5:=met b [] [c,d]<| aD h.aj c λi k=>aD h.aj d λl m=>bH u b (some []) 211 [i,l] (aA k (aA m [])) h λn o=>bt 2 e λp=>aJ b [2] false 1 p o λq=>bt 2 f λr=>aJ b [3] false 1 r o λs=>WF u b q s n g o
def R9:=met b [2] [c]<| aX b (some [2]) 7 c d h λ_ i=>met b [3] [e]<| aX b (some [3]) 7 e f i λ_ k=>bt 1 c λl=>aJ b [2] false 1 l k λm=>bt 1 e λn=>aJ b [3] false 1 n k λo=>ab5 u b m o c e g k
def Ud:=aJ b [2] true 7 c h λf=>met b [] [f]<| aD h.aj f λg i=>bH u b (some []) 209 [g] (aA i []) h λk l=>aJ b [3] true 7 d l λm=>met b [] [m]<| aD l.aj m λn o=>bH u b (some []) 209 [n] (aA o []) l λp q=>R9 u b c k d p e q
def aaA:=ip 54 b 2 none c h λe f=>ip 54 b 3 none d f λg i=>ci 54 b 4 none dx i λk l=>Ud u b e g k l
def Fe:=aZ la λc l=>aZ l λd l=>bV l (aaA u b c d (ba b a8))
def CP:=bj b c h
def YY:=bp 6 d h λg=>cb h.aj 7 g aS λi=>aW h.aj true 7 i λk=>cP c e λl=>ce u b 169 k l h λq r=>bR e q λs=>CP b s r
def S9:=cP c aS λf=>ce u b 169 d f h λm n=>bR aS m λo=>il o c λp=>aP p (CP b c n) (YY u b c e o n)
def PB:=bp 6 d h λf=>cb h.aj 7 f aL λg=>aW h.aj true 7 g λi=>S9 u b c i d h
def Ka:bI (u,f):=bX c dh g λi=>aP i (CP b aS h) (j2 d e h)
def PL:=bp 6 c h λf=>bq false f λg=>eQ g cZ λi=>b0 i false (kt d aS λk=>Ka u b (PB u b) i d c d k h) (Ka u b (PB u b) i d c ay ay h)
def Li:=ip 54 b 2 none c h λe f=>PL u b e d f
def A6:=aZ la λc l=>aZ l λd l=>bV l (Li u b c d (ba b a8))
def Ug:=aD h.aj c λe f=>aD h.aj d λg i=>dJ b (.a0 [e,g]) (aA f (aA i [])) h
def atI:=ce u b 220 c d h λn o=>bS n 0 λp=>bS n 1 λ_=>sy true e f λq=>ce u b 180 q g o λw x=>aD x.aj p λy z=>bH u b none 180 [bG,y] (aA z []) x λA B=>Ug b w A B
def awO:=ce u b 219 c d h λo p=>bg u b 179 o p λs t=>bS s 0 λ_=>bS s 1 λv=>ce u b 220 e v t λA B=>bS A 0 λC=>bS A 1 λ_=>atI u b f v g i C B
def aiV:=bg u b 179 c h λk l=>bS k 0 λm=>bS k 1 λn=>awO u b c d n f m e l
def alx:=bg u b 179 c h λg i=>bS g 0 λk=>bS g 1 λl=>bq false l λm=>bY m aL λn=>aP n (Ug b (.s 1 0x30) (.s 1 0x31) i) (aiV u b d c k l i)
def abV:=aZ la λc l=>aZ l λd l=>bV l (alx u b d c (ba b a8))
def avy:=bj b c h
def avb:=bg u b 179 c h λf g=>bS f 0 λ_=>bS f 1 λi=>bq false i λk=>c8 (pR true aS k) λl=>avy b l g
def abJ:=aZ la λc l=>bV l (avb u b c (ba b a8))
def SP:=bj b c h
def Wi:=bg u b 179 c h λi k=>bS i 0 λl=>bS i 1 λm=>sy true d l λn=>ce u b 223 e m k λs t=>ce u b 180 n s t λz A=>SP b z A
def RD:=bg u b 179 c h λg i=>bS g 0 λk=>bS g 1 λl=>Wi u b d k l i
def DC:=aZ la λc l=>aZ l λd l=>bV l (RD u b c d (ba b a8))
def Tu:=fK h.aj c true 7 λd=>bj b d h
def abj:=met b [] [c,d]<| aD h.aj c λg i=>aD h.aj d λk l=>bH u b (some []) 174 [g,k] (aA i (aA l [])) h λm n=>met b [] [e,m]<| aD n.aj e λo p=>aD n.aj m λq r=>bH u b (some []) 114 [o,q] (aA p (aA r [])) n λs t=>met b [4] [f]<| aX b (some [4]) 7 f s t λ_ v=>Tu b f v
def VP:=met b [] [c,d]<| aD h.aj c λi k=>aD h.aj d λl m=>bH u b (some []) 224 [i,l] (aA k (aA m [])) h λn o=>bt 2 e λp=>aJ b [5] false 1 p o λq=>bt 2 f λr=>aJ b [6] false 1 r o λs=>abj u b q s n g o
def abg:=bt 1 c λg=>aJ b [6] false 1 g h λi=>bt 2 d λk=>aJ b [5] false 1 k h λl=>met b [] [i,l]<| aD h.aj i λm n=>aD h.aj l λo p=>bH u b (some []) 174 [m,o] (aA n (aA p [])) h λq r=>VP u b e q d c f r
def abx:=bt 1 c λf=>aJ b [5] false 1 f h λg=>bt 2 d λi=>aJ b [6] false 1 i h λk=>met b [] [g,k]<| aD h.aj g λl m=>aD h.aj k λn o=>bH u b (some []) 174 [l,n] (aA m (aA o [])) h λp q=>abg u b d c p e q
def Su:=aJ b [3] true 7 c h λf=>met b [] [f]<| aD h.aj f λg i=>bH u b (some []) 113 [g] (aA i []) h λk l=>ci 54 b 5 (some [5]) dx l λm n=>ci 54 b 6 (some [6]) dx n λo p=>met b [5] [m]<| aX b (some [5]) 7 m d p λ_ q=>met b [6] [o]<| aX b (some [6]) 7 o k q λ_ r=>abx u b m o e r
def aan:=ip 54 b 2 none c h λe f=>ip 54 b 3 none d f λg i=>ci 54 b 4 none dx i λk l=>aJ b [2] true 7 e l λm=>met b [] [m]<| aD l.aj m λn o=>bH u b (some []) 113 [n] (aA o []) l λp q=>Su u b g p k q
def Bv:=aZ la λc l=>aZ l λd l=>bV l (aan u b c d (ba b a8))
def AG:=bj b c h
def aFJ:=aJ b [3] false 1 c h λe=>met b [] [e]<| cb h.aj 7 e aS λf=>aJ b [] true 7 f h λg=>met b [] [d,g]<| aD h.aj d λi k=>aD h.aj g λl m=>bH u b (some []) 178 [i,l] (aA k (aA m [])) h λn o=>AG b n o
def aAS:=bt 6 c λe=>aJ b [2] false 1 e h λf=>met b [] [f]<| cb h.aj 7 f aS λg=>aJ b [] true 7 g h λi=>bt 6 d λk=>aFJ u b k i h
def aFy:=aJ b [] true 7 c h λg=>met b [] [d,g]<| aD h.aj d λi k=>aD h.aj g λl m=>bH u b (some []) 178 [i,l] (aA k (aA m [])) h λn o=>eQ n aL λp=>aP p (AG b n o) (aAS u b e f o)
def axL:=aJ b [2] false 1 c h λf=>met b [] [f]<| cb h.aj 7 f aL λg=>aJ b [] true 7 g h λi=>bt 6 d λk=>aJ b [3] false 1 k h λl=>met b [] [l]<| cb h.aj 7 l aL λm=>aFy u b m i e d h
def ab7:bI (u,f,g):=bX c dh i λk=>aP k (AG b aL h) (j2 d e h)
def aFL:=bg u b 196 c h λi k=>ni i λl=>b0 l false (aW k.aj true 7 e λm=>bg u b 196 m k λp q=>ni p λr=>ab7 u b j2 l d e m p r q) (ab7 u b j2 l d e ay ay ay k)
def aFP:=aW h.aj true 7 c λe=>aFL u b (λf g i=>bt 6 f λk=>axL u b k g f i) e c d h
def adP:=aJ b [2] false 1 c h λf=>met b [] [d,f]<| aD h.aj d λg i=>aD h.aj f λk l=>bH u b (some []) 174 [g,k] (aA i (aA l [])) h λm n=>met b [] [e,m]<| aD n.aj e λo p=>aD n.aj m λq r=>bH u b (some []) 226 [o,q] (aA p (aA r [])) n λs t=>AG b s t
def aoq:=aJ b [3] false 1 c h λg=>met b [] [d,g]<| aD h.aj d λi k=>aD h.aj g λl m=>bH u b (some []) 174 [i,l] (aA k (aA m [])) h λn o=>bt 1 e λp=>aJ b [3] false 1 p o λq=>bt 2 f λr=>adP u b r q n o
def amF:=bt 1 c λe=>aJ b [2] false 1 e h λf=>bt 2 d λg=>aoq u b g f d c h
def aEW:=bp 5 c h λf=>bp 5 d h λi=>ce u b 227 f i h λo p=>AG b o p
def aFx:=bt 3 c λe=>aW h.aj true 2 e λf=>bt 3 d λg=>aW h.aj true 2 g λi=>ce u b 228 f i h λo p=>AG b o p
def asF:=bY c gg λf=>aP f (aFx u b d e h) (j2 d e h)
def aE4:=bY c cZ λf=>aP f (aEW u b d e h) (asF u b j2 c d e h)
def acl:=aW h.aj true 7 c λe=>bg u b 225 e h λi k=>bY i aS λl=>aP l (amF u b c d k) (aE4 u b (aFP u b) i c d k)
def aEn:=met b [] [c]<| aD h.aj c λe f=>bH u b (some []) 225 [e] (aA f []) h λg i=>aJ b [3] true 7 d i λk=>met b [] [k]<| aD i.aj k λl m=>bH u b (some []) 225 [l] (aA m []) i λn o=>cm g n λp=>aP p (AG b fC o) (j0 o)
def ass:=aJ b [2] true 7 c h λe=>aEn u b (λf=>AG b aS f) e d h
def af1:=met b [] [c]<| aD h.aj c λf g=>bH u b (some []) 225 [f] (aA g []) h λi k=>aJ b [3] true 7 d k λl=>met b [] [l]<| aD k.aj l λm n=>bH u b (some []) 225 [m] (aA n []) k λo p=>eQ i o λq=>aP q (ass u b e d p) (j2 e d p)
def abN:=ip 54 b 2 none c h λe f=>ip 54 b 3 none d f λg i=>aJ b [2] true 7 e i λk=>af1 u b (acl u b) k g e i
def H3:=aZ la λc l=>aZ l λd l=>bV l (abN u b c d (ba b a8))
def ZI:=aD h.aj c λe f=>aD h.aj d λg i=>dJ b (.a0 [e,g]) (aA f (aA i [])) h
def axP:bI u:=iN c g λi=>cP i uB λk=>c8 (hs .i64 k) λl=>cj h.aj 1 0 l (cG 1 [aL]) λm n=>c6 b 2081 none 3 1 1 false m (aA n []) h λo p=>eC b 2082 none 3 1 8 f o false p λq r=>(cP g aS λs=>j5 c d e q s r)
def az6:=il g e λi=>aP i (axP u b j5 c d e f g h) (j2 d f h)
def aDy:=bq true c λf=>cP f aS λg=>fs 0 4 5 6 7 1000000 (az6 u b (λi k l=>ZI b i k l)) c d e .aE g h
def asn:=iN c aL λd=>bY d uY λe=>aP e (aDy u b c e aS h) (aDy u b c e aL h)
def aio:bI (u,e):=bX c dh f λg=>aP g (ZI b bG .aE h) (j1 d h)
def al3:=bg u b 229 c h λf g=>ni f λi=>b0 i false (bY c (.s 1 0x30) λk=>aio u b (asn u b) i c c k g) (aio u b (asn u b) i c ay ay g)
def Vf:=aZ la λc l=>bV l (al3 u b c (ba b a8))
def Sj:=bj b c h
def ajL:bI u:=cb h.aj 1 c e λf=>aW h.aj false 1 f λg=>bR amg g λi=>c8 (hs .u8 i) λk=>cj h.aj 1 0 k (cG 1 [wD]) λl m=>c6 b 2078 none 5 1 1 false l (aA m []) h λn o=>eC b 2079 none 5 1 1 d n false o λp q=>(cP e aS λr=>j3 c p r q)
def agS:=il e aL λf=>aP f (ajL u b j3 c d e h) (j1 d h)
def alM:=bq false c λe=>cP e aS λf=>fM 1 5 6 1000000 (agS u b (λg i=>c8 (In i.aj g) λk=>Sj b k i)) c d f h
def ajk:bI u:=cj h.aj 1 0 uY (cG 1 [wD]) λd e=>c6 b 2062 none 5 1 1 false d (aA e []) h λf g=>eC b 2063 none 5 1 1 .aE f false g λi k=>j2 c i k
def aBn:=aP c (ajk u b (alM u b) d h) (alM u b d .aE h)
def ajV:=bg u b 230 c h λg i=>bq false g λk=>bY k aL λl=>aP l (Sj b (.s 1 0x30) i) (aBn u b d g i)
def aea:=aZ la λc l=>aZ l λd l=>bV l (ajV u b d c (ba b a8))
def ahu:=mH b [c] [] h
def B4:bI u:=cb h.aj 1 d f λg=>aW h.aj false 1 g λi=>eC b 2081 none 56 11 176 c i true h λk l=>(bR f aS λm=>j4 k d e m l)
def xL:=cm f e λg=>aP g (B4 u b j4 c d e f h) (j1 c h)
def IU:=aD h.aj d λe f=>fD u b 231 [.aE,e] (aA f []) h λg i=>bq false c λk=>du 6 25 26 27 1000000 (xL u b (λl m=>ahu b l m)) g c k aL i
def Wu:bI (u,b):=cb h.aj 1 e g λi=>aW h.aj false 1 i λk=>bq false k λl=>bR d l λm=>cm m aL λn=>aP n (.ax) ((bR g aS λo=>j5 c m e f o h))
def BC:=cm g f λi=>aP i (Wu u b j5 c d e f g h) (j2 c d h)
def alq:=bq false c λd=>fs 0 3 9 10 11 1000000 (BC u b (IU u b)) c aL c d aL h
def xQ:=aZ la λc l=>bV l (alq u b c (ba b a8))
def arw:=dJ b (.a0 []) [] h
def M8:=bq false c λe=>aD h.aj e λf g=>aD h.aj d λi k=>fD u b 232 [c,f,i] (aA g (aA k [])) h λ_ l=>arw b l
def uO:=aZ la λc l=>aZ l λd l=>bV l (M8 u b c d (ba b a8))
def LP:=bj b c h
def aq0:=aW h.aj true 11 c λe=>aW h.aj true 11 d λf=>ce u b 235 e f h λm n=>LP b m n
def ael:=met b [5] [c]<| i3 b (some [5]) (v7 h.aj 3 c) h λg i=>met b [6] [d]<| i3 b (some [6]) (v7 i.aj 3 d) i λk l=>met b [] [g,k]<| aD l.aj g λm n=>aD l.aj k λo p=>bH u b (some []) 234 [m,o] (aA n (aA p [])) l λq r=>eQ q aL λs=>aP s (LP b q r) (aq0 u b e f r)
def aas:=met b [] [c,d]<| aD h.aj c λi k=>aD h.aj d λl m=>bH u b (some []) 233 [i,l] (aA k (aA m [])) h λn o=>ci 281 b 5 (some [5]) [aL,aL,aL] o λp q=>ci 281 b 6 (some [6]) [aL,aL,aL] q λr s=>met b [5] [p]<| aX b (some [5]) 3 p e s λ_ t=>met b [6] [r]<| aX b (some [6]) 3 r n t λ_ v=>ael u b p r f g v
def RZ:=aJ b [2] true 11 c h λe=>eT [aL,aL,aL] λf=>met b [] [e,f]<| aD h.aj e λg i=>aD h.aj f λk l=>bH u b (some []) 233 [g,k] (aA i (aA l [])) h λm n=>aJ b [3] true 11 d n λo=>eT [aL,aL,aL] λp=>aas u b o p m c d n
def aa5:=ip 56 b 2 none c h λe f=>ip 56 b 3 none d f λg i=>RZ u b e g i
def xx:=aZ la λc l=>aZ l λd l=>bV l (aa5 u b c d (ba b a8))
def uG:=aD h.aj c λe f=>aD h.aj d λg i=>dJ b (.a0 [e,g]) (aA f (aA i [])) h
def M5:bI (u,i,k,l):=bX c dh m λn=>aP n (uG b .aE cZ h) (j4 d e f g h)
def Xk:=bq false c λk=>fw k vW λl=>b0 l false (bt 0 i λm=>aW h.aj true 7 m λn=>bg u b 212 n h λq r=>ni q λs=>M5 u b j4 l d e f g m n q s r) (M5 u b j4 l d e f g ay ay ay ay h)
def Y4:=cb h.aj 8 d f λg=>aW h.aj true 8 g λi=>ci 120 b 9 none fX h λk l=>aX b none 8 k i l λ_ m=>bp 7 k m λo=>Xk u b (λp q r s t=>bR s aS λv=>j4 p q r v t) o c d e f k m
def yv:=cm f e λg=>aP g (Y4 u b j4 c d e f h) (j1 c h)
def Q6:=bq false c λd=>du 4 54 55 56 1000000 (yv u b (λe f=>uG b e aL f)) c c d aL h
def Bg:=fD u b 238 [c,(.bu (.func (.func 239) #[] #[]))] [] h λd e=>bq false d λf=>fw f Gz λg=>aP g (uG b .aE cZ e) (Q6 u b d e)
def acy:=aJ b [6] true 7 c h λl=>met b [4096,4098,4096,4098] [d,l]<| aD h.aj d λm n=>aD h.aj l λo p=>bH u b (some []) 215 [m,o] (aA n (aA p [])) h λq r=>bZ b [2095,4096,4098] 8 e f r λs=>bt 0 s λt=>met b [2095,4098] [t]<| aX b (some [2095,4098]) 7 t q r λ_ v=>j4 e g i k v
def QT:=bZ b [2095,4096,4098] 8 c d h λk=>bt 0 k λl=>aJ b [2095,4098] true 7 l h λm=>bt 0 e λn=>acy u b j4 n m c d f g i h
def QV:bI u:=aW h.aj true 8 c λi=>cj h.aj 8 0 i (cG 1 fX) λk l=>c6 b 2094 none 120 8 1 false k (aA l []) h λm n=>eC b 2095 none 120 8 136 d m true n λo p=>j4 o e f g p
def BL:bI (l,m,n,o,p,q):=bX c r bG λs=>aP s (QT u b j4 d e f g i k h) (QV u b j4 f d g i k h)
def PR:=bZ b [2095,4096,4098] 8 c d h λf=>aJ b [2095,4098] true 8 f h λg=>aJ b [6] true 8 e h λi=>met b [4096,4098,4096,4098] [g,i]<| aD h.aj g λk l=>aD h.aj i λm n=>bH u b (some []) 237 [k,m] (aA l (aA n [])) h λo p=>bY o aL λq=>j7 c d f g i o q p
def Mw:=cb h.aj 8 d f λg=>aW h.aj true 8 g λi=>ci 120 b 6 none fX h λk l=>aX b none 8 k i l λ_ m=>bq false c λn=>cP n aS λo=>il o aL λp=>b0 p true (PR u b (BL u b (λq r s t v=>bR t aS λw=>j4 q r s w v) p c o k d e f) c o k m) (BL u b (λq r s t v=>bR t aS λw=>j4 q r s w v) p c o k d e f ay ay ay ay ay ay ay m)
def uX:=cm f e λg=>aP g (Mw u b j4 c d e f h) (j1 c h)
def avG:=fD u b 236 [c,(.bu (.func (.func 237) #[] #[]))] [] h λ_ d=>bq false c λe=>du 4 12 13 14 1000000 (uX u b (Bg u b)) .aE c e aL d
def v4:=aZ la λc l=>bV l (avG u b c (ba b a8))
def XM:=fK h.aj c true 11 λd=>bj b d h
def Rx:bI u:=ip 54 b 1 none c h λd e=>ci 56 b 2 none ca e λf g=>aW g.aj true 7 d λi=>cC 0 1 cZ ca λk=>cC 3 7 i k λl=>eT l λm=>aX b none 11 f m g λ_ n=>XM b f n
def Fk:=aZ la λc l=>bV l (Rx u b c (ba b a8))
def YI:=fK h.aj c true 11 λd=>bj b d h
def Cq:=bg u b 241 d h λg i=>aX b none 11 c g i λ_ k=>YI b c k
def QP:=bt 0 c λf=>aW h.aj true 7 f λg=>bg u b 185 g h λl m=>cj m.aj 11 0 l (cG 1 ca) λn o=>c6 b 2068 none 56 11 1 false n (aA o []) m λp q=>eC b 2070 none 56 11 176 p d false q λr s=>j2 e r s
def Ei:bI (g,i,k,l):=bX c dh m λn=>aP n (QP u b j2 d e f h) (j2 f e h)
def OA:=bt 0 c λd=>aJ b [1] true 7 d h λe=>bH u b (some []) 37 [aS] [] h λf g=>met b [] [e,f]<| aD g.aj e λi k=>aD g.aj f λl m=>bH u b (some []) 207 [i,l] (aA k (aA m [])) g λn o=>ni n λp=>j5 d e f n p o
def DO:=aW h.aj false 1 c λf=>aD h.aj f λg i=>fD u b 240 [g] (aA i []) h λk l=>bq false k λm=>bY m aL λn=>b0 n false (OA u b (Ei u b (Cq u b) n d k e) d l) (Ei u b (Cq u b) n d k e ay ay ay ay ay l)
def Mt:=ip 120 b 1 none c h λd e=>ci 56 b 2 none ca e λf g=>bt 7 d λi=>DO u b i d f g
def AL:=aZ la λc l=>bV l (Mt u b c (ba b a8))
def azh:=fK h.aj c true 11 λd=>bj b d h
def avV:bI u:=ip 52 b 2 none c h λe f=>ci 56 b 4 none ca f λg i=>aW i.aj true 2 e λk=>cC 0 1 gg ca λl=>cC 1 2 k l λm=>cC 10 1 d m λn=>eT n λo=>aX b none 11 g o i λ_ p=>azh b g p
def adr:=aZ la λc l=>aZ l λd l=>bV l (avV u b c d (ba b a8))
def Em:=fK h.aj c true 7 λe=>aD h.aj e λf g=>aD h.aj d λi k=>dJ b (.a0 [f,i]) (aA g (aA k [])) h
def ahC:bI u:=cb h.aj 9 c d λf=>bt 2 f λg=>aW h.aj true 7 g λi=>aX b none 7 e i h λ_ k=>Em b e dh k
def Xg:=bZ b [] 9 c f h λg=>bt 0 g λi=>aJ b [] true 2 i h λk=>aJ b [3] true 2 d h λl=>mV false k l λm=>aP m (ahC u b c f e h) ((bR f aS λn=>j4 c d e n h))
def Ej:=bq false c λg=>cm f g λi=>aP i (Xg u b j4 c d e f h) (j1 e h)
def aj4:=ip 52 b 3 none c h λe f=>ci 54 b 4 none dx f λg i=>du 0 3 4 6 1000000 (Ej u b (λk l=>eT dx λm=>aX b none 7 k m l λ_ n=>Em b k bG n)) d e g aL i
def GS:=aZ la λc l=>aZ l λd l=>bV l (aj4 u b d c (ba b a8))
def Dv:=bj b c h
def DJ:bI (u,e,f,g):=bX c i bG λk=>b0 k true (bt 3 d λl=>bp 1 l h λn=>bY n (.s 3 0x6e696c) λo=>(bX k o bG λp=>Dv b p h)) ((bX k ay bG λp=>Dv b p h))
def IB:=bp 0 c h λe=>bY e cZ λf=>b0 f true (bt 3 c λg=>bt 0 g λi=>aW h.aj false 1 i λk=>bY k (.s 4 0x6c697370) λl=>DJ u b f c g i k l h) (DJ u b f c ay ay ay ay h)
def HW:=ip 54 b 1 none c h λd e=>IB u b d e
def Aq:=aZ la λc l=>bV l (HW u b c (ba b a8))
def Df:=fK h.aj c true 7 λe=>aD h.aj e λf g=>aD h.aj d λi k=>dJ b (.a0 [f,i]) (aA g (aA k [])) h
def IS:=aW h.aj true 7 d λe=>bg u b 39 e h λi k=>ni i λl=>aP l (eT dx λm=>aX b none 7 c m k λ_ n=>Df b c cZ n) ((aW k.aj true 7 d λo=>aX b none 7 c o k λ_ p=>Df b c aL p))
def Wy:=met b [] [c]<| cb h.aj 7 c aL λg=>aJ b [] true 7 g h λi=>met b [] [d,i]<| aD h.aj d λk l=>aD h.aj i λm n=>bH u b (some []) 245 [k,m] (aA l (aA n [])) h λo p=>met b [8] [e]<| aX b (some [8]) 7 e o p λ_ q=>j2 f e q
def Y1:=bt 1 c λg=>aJ b [2] false 1 g h λi=>Wy u b j2 d i e f h
def V2:=met b [] [c]<| cb h.aj 7 c aS λi=>aJ b [] true 7 i h λk=>met b [] [d,e,k]<| aD h.aj d λl m=>aD h.aj e λn o=>aD h.aj k λp q=>bH u b (some []) 246 [l,n,p] (aA m (aA o (aA q []))) h λr s=>met b [8] [f]<| aX b (some [8]) 7 f r s λ_ t=>j2 g f t
def aav:=bt 1 c λg=>aJ b [2] false 1 g h λi=>met b [] [d]<| cb h.aj 7 d aL λk=>aJ b [] true 7 k h λl=>V2 u b j2 d i l e f h
def aCx:bI u:=cb h.aj 7 c cZ λf=>aW h.aj true 7 f λg=>aX b none 7 d g h λ_ i=>j2 e d i
def aEM:=cb h.aj 7 c aS λf=>aW h.aj true 7 f λg=>aX b none 7 d g h λ_ i=>cb i.aj 7 c aL λk=>aW i.aj true 7 k λl=>bg u b 197 l i λo p=>aP o (aCx u b j2 c d e p) (j2 e d p)
def XT:=bY c cZ λi=>aP i (aav u b j2 d e f g h) (aEM u b j2 e f g h)
def PQ:=ci 54 b 8 none dx h λg i=>bY f aS λk=>aP k (Y1 u b (IS u b) d c g e i) (XT u b (IS u b) f d c g e i)
def Nw:=bq false c λg=>eQ g f λi=>aP i (eT dx λk=>aX b none 7 e k h λ_ l=>Df b e rz l) (PQ u b c d e f h)
def KS:=bg u b 145 c h λk l=>bS k 0 λm=>bS k 1 λn=>ni n λo=>aP o (eT dx λp=>aX b none 7 d p l λ_ q=>Df b d EP q) (Nw u b e f d m l)
def Mc:=ip 52 b 2 none c h λe f=>ci 54 b 4 none dx f λg i=>aW i.aj true 2 e λk=>KS u b k g d e i
def yX:=aZ la λc l=>aZ l λd l=>bV l (Mc u b c d (ba b a8))
def MH:=bj b c h
def amb:bI u:=aJ b [] true 7 c h λk=>cC 0 2 d [(.s 0 0),(.s 0 0),aL,(.s 0 0),(.s 0 0),(.s 0 0),(.s 0 0),(.s 0 0),.aE] λl=>cC 2 7 k l λm=>eT m λn=>met b [] [n]<| cj h.aj 9 0 n (cG 1 [(.s 0 0),(.s 0 0),aL,(.s 0 0),(.s 0 0),(.s 0 0),(.s 0 0),(.s 0 0),.aE]) λo p=>c6 b 2077 (some [2077]) 137 9 1 false o (aA p []) h λq r=>met b [2078,2077] [e,q]<| eC b 2078 (some [2078,2078]) 137 9 144 e q false r λs t=>j4 f g s i t
def Xd:=bZ b [] 2 c f h λg=>aJ b [] true 2 g h λi=>bZ b [] 7 d f h λk=>amb u b (λl m n o p=>bR o aS λq=>j4 l m n q p) k i e c d f h
def QN(u:Fn)(b:Nat)(j4:mS)(j1:gx)(c d e f g i k l m:an)(h:aI):aw:=bX c m bG λn=>aP n (j4 d e f g h) (j1 f h)
def IK:=bq false c λg=>cm f g λi=>b0 i true (bq false d λk=>cm f k λl=>QN u b (Xd u b j4) j1 i c d e f f d k l h) (QN u b (Xd u b j4) j1 i c d e f ay ay ay ay h)
def apV:=du 0 1 5 6 1000000 (IK u b (λe f=>MH b e f)) c d .aE aL h
def F1:=aZ la λc l=>aZ l λd l=>bV l (apV u b c d (ba b a8))
def r8:=fK h.aj c true 7 λe=>aD h.aj e λf g=>fK h.aj d true 2 λi=>aD h.aj i λk l=>dJ b (.a0 [f,k]) (aA g (aA l [])) h
def aox:=bR d aS λg=>aD h.aj g λi k=>fD u b 250 [c,i] (aA k []) h λl m=>bS l 0 λn=>bS l 1 λo=>aX b none 7 e n m λ_ p=>aX b none 2 f o p λ_ q=>r8 b e f q
def apO:=met b [4096,4098] [c,d]<| cj h.aj 7 0 c (cG 2 dx) λi k=>cj h.aj 7 1 d i λl m=>c6 b 2183 (some [2183]) 54 7 2 false l (aA k (aA m [])) h λn o=>met b [2183] [n]<| aD o.aj n λp q=>bH u b (some []) 129 [p] (aA q []) o λr s=>aJ b [12] true 2 e s λt=>met b [4] [f]<| aX b (some [4]) 7 f r s λ_ v=>met b [5] [g]<| aX b (some [5]) 2 g t v λ_ w=>r8 b f g w
def aDe:=bH u b (some []) 71 [(.s 5 0x71756f7465)] [] h λg i=>met b [] [g]<| aD i.aj g λk l=>bH u b (some []) 127 [k] (aA l []) i λm n=>aJ b [11] true 7 e n λo=>apO u b m o f c d n
def asu:bI u:=aJ b [7] true 7 c h λg=>aJ b [12] true 2 d h λi=>met b [4] [e]<| aX b (some [4]) 7 e g h λ_ k=>met b [5] [f]<| aX b (some [5]) 2 f i k λ_ l=>r8 b e f l
def aEc:=ci 195 b 12 none [aL,aL] h λk l=>aX b none 7 c d l λ_ m=>aX b none 2 k e m λ_ n=>bC (aDe u b) λj4=>bp 0 k n λp=>eQ p aL λq=>aP q (asu u b f k g i n) (j4 g i c k n)
def ao0:=bR c aS λi=>aD h.aj i λk l=>fD u b 195 [d,k] (aA l []) h λm n=>bS m 0 λo=>bS m 1 λp=>ci 54 b 11 none dx n λq r=>aEc u b q o p e f g r
def aph:=hY c λl=>bt 3 l λm=>aX b none 1 m d h λ_ n=>bC (aox u b) λj4=>bp 0 e n λp=>bY p jf λq=>aP q (ao0 u b f c g i k n) (j4 c f i k n)
def afz:=hY c λk=>bp 3 k h λm=>bR m aS λn=>aph u b c n g d i e f h
def ayj:=bt 1 c λg=>aJ b [6] false 1 g h λi=>met b [4096,4098] [i]<| aD h.aj i λk l=>bH u b (some []) 194 [cZ,k] (aA l []) h λm n=>met b [4] [d]<| aX b (some [4]) 7 d e n λ_ o=>met b [5] [f]<| aX b (some [5]) 2 f m o λ_ p=>r8 b d f p
def awL:=bC (afz u b) λj6=>fw d zY λk=>aP k (aJ b [7] true 7 i h λl=>ayj u b g e l f h) (j6 c d e f g i h)
def aqd:=bt 1 c λg=>aJ b [6] false 1 g h λi=>met b [4096,4098] [i]<| aD h.aj i λk l=>bH u b (some []) 194 [Nd,k] (aA l []) h λm n=>met b [4] [d]<| aX b (some [4]) 7 d e n λ_ o=>met b [5] [f]<| aX b (some [5]) 2 f m o λ_ p=>r8 b d f p
def apb:=bt 1 c λg=>aJ b [6] false 1 g h λi=>met b [4096,4098] [i]<| aD h.aj i λk l=>bH u b (some []) 194 [tz,k] (aA l []) h λm n=>met b [4] [d]<| aX b (some [4]) 7 d e n λ_ o=>met b [5] [f]<| aX b (some [5]) 2 f m o λ_ p=>r8 b d f p
def asd:bI u:=aW h.aj false 1 c λg=>bp 4 d h λk=>cC 0 1 aS dx λl=>cC 1 1 g l λm=>cC 2 1 k m λn=>eT n λo=>eT [aL,aL] λp=>aX b none 7 e o h λ_ q=>aX b none 2 f p q λ_ r=>r8 b e f r
def ah2:=hY c λg=>bp 3 g h λk=>bR k aS λl=>hY c λm=>bt 3 m λn=>aX b none 1 n l h λ_ o=>bt 3 d λp=>asd u b p d e f o
def ae0:=hY c λi=>bt 3 i λk=>aX b none 1 k d h λ_ l=>bp 3 e l λn=>bg u b 128 n l λq r=>eT [aL,aL] λs=>aX b none 7 f q r λ_ t=>aX b none 2 g s t λ_ v=>r8 b f g v
def atO:=hY c λg=>bp 3 g h λk=>bR k aS λl=>ae0 u b c l d e f h
def ayi:=aW h.aj true 2 e λf=>bg u b 127 f h λk l=>eT [aL,aL] λm=>aX b none 7 c k l λ_ n=>aX b none 2 d m n λ_ o=>r8 b c d o
def afl:=aJ b [6] false 1 c h λi=>met b [4096,4098] [d,i]<| aD h.aj d λk l=>aD h.aj i λm n=>bH u b (some []) 194 [k,m] (aA l (aA n [])) h λo p=>met b [4] [e]<| aX b (some [4]) 7 e f p λ_ q=>met b [5] [g]<| aX b (some [5]) 2 g o q λ_ r=>r8 b e g r
def ajD:=aJ b [7] true 7 c h λi=>bt 1 d λk=>afl u b k e f i g h
def aD3:=bS c 0 λi=>bS c 1 λk=>ci 52 b 9 (some [9]) [(.s 0 0),(.s 0 0)] h λl m=>met b [9] [l]<| aX b (some [9]) 2 l i m λ_ n=>bC (ayi u b) λj3=>eQ k aL λo=>aP o (ajD u b d e k f g n) (j3 f g l n)
def aoe:=aJ b [4096] false 1 c h λk=>bt 3 d λl=>aJ b [6] false 1 l h λm=>met b [4098,4096,4098,4096,4098] [k,e,m]<| aD h.aj k λn o=>aD h.aj e λp q=>aD h.aj m λr s=>bH u b (some []) 249 [n,p,r] (aA o (aA q (aA s []))) h λt v=>aD3 u b t f d g i v
def ayy:bI (u,b):=hY c λi=>bp 1 i h λl=>j6 c d e f g l h
def aDO:=aX b none 1 c d h λ_ l=>bp 2 e l λn=>bC (λo p q r s t v=>hY o λw=>bt 0 w λx=>aoe u b x r t s p q v) λj6=>bY n (.s 0 0) λy=>aP y (ayy u b j6 f g i e k l) (j6 f g i e k n l)
def at7:=hY c λi=>bp 3 i h λl=>bR l aS λm=>hY c λn=>bt 3 n λo=>aDO u b o m d c e f g h
def arx:=bY c v2 λl=>aP l (at7 u b d e f g i h) (j6 d k f g e i h)
def aCl:=bY c EP λl=>aP l (atO u b d e f g h) (arx u b j6 c d e f g i k h)
def ayT:=bY c rz λl=>aP l (ah2 u b d e f g h) (aCl u b j6 c d e f g i k h)
def aEy:=aP l (aJ b [7] true 7 i h λm=>apb u b g e m f h) (ayT u b j6 k c g e f i d h)
def af0:=bC (aEy u b j6) λj8=>bY c cZ λl=>aP l (j8 d e f g i k c l h) (bY c gg λm=>j8 d e f g i k c m h)
def aDW:=ci 54 b 7 none dx h λi k=>bC (awL u b) λj6=>bp 0 c k λm=>bY m aL λn=>aP n (aJ b [7] true 7 i k λo=>aqd u b c d o e k) (af0 u b j6 m f g d e c i k)
def apu:=bt 3 c λk=>aJ b [4096] false 1 k h λl=>bZ b [4098,4096,4098] 5 d l h λm=>aJ b [4098] true 5 m h λn=>ci 252 b 6 (some [6]) [aL,aL,(.s 0 0),(.s 0 0),(.s 0 0)] h λo p=>met b [6] [o]<| aX b (some [6]) 5 o n p λ_ q=>aDW u b o e f g i q
def ay5:=ci 54 b 4 none dx h λe f=>ci 195 b 5 none [aL,aL] f λg i=>hY c λk=>bt 2 k λl=>aJ b [4096] false 1 l i λm=>hY c λn=>apu u b n m e g c d i
def Ul:=aZ la λc l=>aZ l λd l=>bV l (ay5 u b c d (ba b a8))
end
end Go.Hf

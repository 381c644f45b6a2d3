import Derived.Test.YthiipifjdfmblaaGreatDoorAg
set_option maxRecDepth 100000
set_option linter.all false
namespace Go.Hf
noncomputable section
abbrev Ba:=aI->aw
abbrev gx:=an->Ba
abbrev gT:=an->gx
abbrev mj:=an->gT
abbrev mS:=an->mj
abbrev kb:=an->mS
abbrev nP:=an->kb
abbrev sM:=an->nP
abbrev tA:=an->sM
abbrev sZ:=an->tA
abbrev u6:=an->sZ
abbrev zv:=an->u6
abbrev KZ:=an->zv
abbrev NW:=an->KZ
abbrev Pb:=an->NW
abbrev O9:=an->Pb
abbrev N7:=an->O9
abbrev QG:=an->N7
abbrev Ni:=an->QG
abbrev Zq:=an->Ni
abbrev bI {α:Type _} (_:α):=aw
def dh:an:= .F true
def bG:an:= .F false
def ay:an:= .a0 []
def at9:List (Nat×List Bool):=[(9,[false]),(25,[true]),(30,[false]),(31,[false]),(32,[false]),(33,[false]),(46,[true]),(63,[false]),(96,[false]),(138,[true]),(181,[true]),(182,[false]),(184,[false]),(195,[false]),(198,[false]),(205,[true]),(231,[true]),(232,[false]),(236,[false]),(238,[false]),(240,[true]),(250,[false]),(254,[false]),(258,[false]),(262,[true]),(279,[false]),(284,[false]),(286,[false]),(321,[false]),(322,[false]),(323,[false]),(335,[false]),(336,[false]),(354,[false]),(358,[false]),(361,[true,false]),(362,[true]),(372,[false])]
def aeI:an:= .V .i64 18446744074709551616
def ak8:an:= .V .u8 18446744073709551663
def al2:an:= .V .u8 18446744073709551649
def ae1:an:= .V .u8 18446744073709551742
def u32:an:= .V .u8 18446744073709551648
def akJ:an:= .V .u8 18446744073709551629
def ai6:an:= .V .u8 18446744073709551625
def Ui:an:= .V .i64 18446744073709551634
def n32:an:= .V .i64 18446744073709551648
def GC:an:= .V .i64 18446744073709551680
def ady:an:= .V .i64 18446744073709551817
def awt:an:= .V .i64 18446744073709551629
def LG:an:= .V .u8 18446744073709551674
def Ys:an:= .V .u8 18446744073709551656
def aev:an:= .V .u8 18446744073709551657
def aeg:an:= .V .u8 18446744073709551655
def NF:an:= .V .u8 18446744073709551650
def WS:an:= .V .u8 18446744073709551675
def abm:an:= .V .u8 18446744073709551626
def Nz:an:= .V .u8 18446744073709551651
def y6:an:= .V .u8 18446744073709551740
def n20:an:= .V .i64 18446744073709551636
def SQ:an:= .V .u8 18446744073709551713
def DY:an:= .V .u8 18446744073709551673
def ZO:an:= .V .u8 18446744073709551738
def amg:an:= .V .i64 18446744073709551664
def wD:an:= .V .u8 18446744073709551616
def uB:an:= .V .u8 18446744073709551664
def n40:an:= .V .i64 18446744073709551656
def zi:an:= .V .i64 18446744073709551716
def zY:an:= .V .i64 18446744073709551816
def EX:an:= .V .i64 18446744073709554617
def fC:an:= .V .i64 18446744073709551615
def n14:an:= .V .i64 18446744073709551630
def mQ:an:= .V .i64 18446744073709551626
def Nd:an:= .V .i64 18446744073709551627
def uY:an:= .V .u8 18446744073709551661
def F3:an:= .V .i64 18446744073709554616
def pQ:an:= .V .i64 18446744073709551625
def v2:an:= .V .i64 18446744073709551622
def EP:an:= .V .i64 18446744073709551623
def tz:an:= .V .i64 18446744073709551628
def vW:an:= .V .i64 18446744073709551624
def cZ:an:= .V .i64 18446744073709551618
def jf:an:= .V .i64 18446744073709551620
def aS:an:= .V .i64 18446744073709551617
def gg:an:= .V .i64 18446744073709551619
def aL:an:= .V .i64 18446744073709551616
def rz:an:= .V .i64 18446744073709551621
def Gz:an:= .V .i64 18446744073709551676
abbrev ca:aB:=[aL,(.s 0 0),(.s 0 0),aL,(.s 0 0),(.s 0 0),(.s 0 0),(.s 0 0),(.s 0 0),.aE,.aE]
abbrev dx:aB:=[aL,(.s 0 0),(.s 0 0),(.s 0 0),(.s 0 0),(.s 0 0),.aE]
abbrev fX:aB:=[aL,(.s 0 0),(.s 0 0),(.s 0 0),(.s 0 0),(.s 0 0),.aE,.aE]
abbrev zt:aB:=ca++ca++[.aE,.aE,bG,.aE]++ca
def bg(u:Fn)(b f:Nat)(x:an)(h:aI)(k:dg):aw:=aD h.aj x λq s=>bH u b none f [q] (aA s []) h k
def ce(u:Fn)(b f:Nat)(x y:an)(h:aI)(k:dg):aw:=aD h.aj x λq s=>aD h.aj y λr t=>bH u b none f [q,r] (aA s (aA t [])) h k
def bj(b:Nat)(x:an)(h:aI):aw:=aD h.aj x λq s=>dJ b q (aA s []) h
def aJ(b:Nat)(r:List Nat)(a:Bool)(n:Nat)(x:an)(h:aI)(k:an->aw):aw:=met b r [x]<| aW h.aj a n x k
def bZ(b:Nat)(r:List Nat)(n:Nat)(x y:an)(h:aI)(k:an->aw):aw:=met b r [x,y]<| cb h.aj n x y k
def bp(n:Nat)(x:an)(h:aI)(k:an->aw):aw:=bt n x λp=>aW h.aj false 1 p k
def oq(a1 a2 n:Nat)(f:gT->gT):gT:=ft [a1,a2] n f
def fM(a1 a2 a n:Nat)(f:mj->mj):mj:=ft [a1,a2,a] n f
def du(a1 a2 a a4 n:Nat)(f:mS->mS):mS:=ft [a1,a2,a,a4] n f
def fs(a1 a2 a a4 j n:Nat)(f:kb->kb):kb:=ft [a1,a2,a,a4,j] n f
def ih(a1 a2 a a4 j J n:Nat)(f:nP->nP):nP:=ft [a1,a2,a,a4,j,J] n f
def wc(a1 a2 a a4 j J L n:Nat)(f:sM->sM):sM:=ft [a1,a2,a,a4,j,J,L] n f
def yJ(a1 a2 a a4 j J L M n:Nat)(f:tA->tA):tA:=ft [a1,a2,a,a4,j,J,L,M] n f
def zl(a1 a2 a a4 j J L M N n:Nat)(f:sZ->sZ):sZ:=ft [a1,a2,a,a4,j,J,L,M,N] n f
def DM(a1 a2 a a4 j J L M N O n:Nat)(f:u6->u6):u6:=ft [a1,a2,a,a4,j,J,L,M,N,O] n f
def aAJ(a1 a2 a a4 j J L M N O P n:Nat)(f:zv->zv):zv:=ft [a1,a2,a,a4,j,J,L,M,N,O,P] n f
variable(u:Fn) (la:aB) (b:Nat) (j0:Ba) (j1:gx) (j2:gT) (j3:mj) (j4:mS) (j5:kb) (j6:nP) (j7:sM) (j8:tA) (j9:sZ) (j10:u6) (j11:zv) (j12:KZ) (j13:NW) (j14:Pb) (j15:O9) (j16:N7) (j17:QG) (j18:Ni) (j19:Zq) (c d e f g i k l m n o p q r s t v w x y z A B C D E G H I K:an) (h:aI) (a8:b1)
def fp:=bj b c h
def abN:=dz 29 b 14 none c h λe f=>aD f.aj d λg i=>dd u b 9 [e,g,rz] (aA i []) f λk l=>bg u b 16 k l λo p=>bg u b 17 k p λs t=>ce u b 15 o s t λz A=>fp b z A
def Yo:=bH u b none 8 [(.V .u32 18446744073709551616)] [] h λd e=>cC 0 1 c [.aE,aL] λf=>eT f λg=>abN u b g d e
def Q7:=bq false c λd=>fw d Gz λe=>aP e (fp b dh h) (Yo u b c h)
def IB:=bH u b none 7 [] [] h λd e=>ht d λf=>aP f (fp b bG e) (Q7 u b c e)
def D9:=aZ la λc l=>bV l (IB u b c (ba b a8))
def ln:=bj b c h
def aCY:=met b [] [c,d]<| cj h.aj 11 0 c (cG 2 ca) λm n=>cj h.aj 11 1 d m λo p=>c6 b 2115 (some [2115]) 56 11 2 false o (aA n (aA p [])) h λq r=>met b [2115] [q]<| aD r.aj q λs t=>bH u b (some []) 22 [(.s 1 0x3c),s] (aA t []) r λv w=>met b [] [e,v]<| aD w.aj e λx y=>aD w.aj v λz A=>bH u b (some []) 24 [x,z] (aA y (aA A [])) w λB C=>j11 f g e c i k l d q v B C
def aEn:=aJ b [1] true 11 c h λk=>aJ b [2] true 11 d h λl=>met b [] [k,l]<| cj h.aj 11 0 k (cG 2 ca) λm n=>cj h.aj 11 1 l m λo p=>c6 b 2113 (some [2113]) 56 11 2 false o (aA n (aA p [])) h λq r=>met b [2113] [q]<| aD r.aj q λs t=>bH u b (some []) 22 [(.s 8 0x62696e6172792d2a),s] (aA t []) r λv w=>aCY u b j11 e v f g i k l q w
def Sr:bI (g,i):=bX c k bG λl=>b0 l true (met b [] [d]<| cb h.aj 11 d aS λm=>aJ b [] true 11 m h λn=>bH u b (some []) 23 [aL] [] h λo p=>aEn u b (λ_ _ _ _ _ _ _ _ _ _ q r=>bX l q bG λs=>ln b s r) e f o n d m p) ((bX l ay bG λs=>ln b s h))
def Ws:bI (g,i):=bX c k bG λl=>b0 l true (bq false d λm=>bY m gg λn=>Sr u b l d e f d m n h) (Sr u b l d e f ay ay ay h)
def afV:=met b [2093] [c]<| aD h.aj c λk l=>bH u b (some []) 16 [k] (aA l []) h λm n=>b0 d true (met b [2075] [g,i]<| aD n.aj g λo p=>aD n.aj i λq r=>bH u b (some []) 11 [o,q] (aA p (aA r [])) n λs t=>Ws u b d m e f g i s t) (Ws u b d m e f ay ay ay n)
def ae9:=met b [] [c]<| cj h.aj 11 0 c (cG 1 ca) λl m=>c6 b 2091 (some [2091]) 56 11 1 false l (aA m []) h λn o=>met b [2091] [n]<| aD o.aj n λp q=>bH u b (some []) 22 [(.s 3 0x6e6f74),p] (aA q []) o λr s=>met b [] [d,r]<| cj s.aj 11 0 d (cG 2 ca) λt v=>cj s.aj 11 1 r t λw x=>c6 b 2093 (some [2093]) 56 11 2 false w (aA v (aA x [])) s λy z=>afV u b y e f g i k z
def ax2:=bH u b (some []) 23 [aL] [] h λk l=>aJ b [2] true 11 c l λm=>met b [] [k,m]<| cj l.aj 11 0 k (cG 2 ca) λn o=>cj l.aj 11 1 m n λp q=>c6 b 2089 (some [2089]) 56 11 2 false p (aA o (aA q [])) l λr s=>met b [2089] [r]<| aD s.aj r λt v=>bH u b (some []) 22 [(.s 1 0x3c),t] (aA v []) s λw x=>ae9 u b w d e f c g i x
def ald:=met b [] [c,d]<| cj h.aj 11 0 c (cG 2 ca) λl m=>cj h.aj 11 1 d l λn o=>c6 b 2083 (some [2083]) 56 11 2 false n (aA m (aA o [])) h λp q=>met b [2083] [p]<| aD q.aj p λr s=>bH u b (some []) 22 [(.s 1 0x3c),r] (aA s []) q λt v=>met b [] [t]<| cj v.aj 11 0 t (cG 1 ca) λw x=>c6 b 2085 (some [2085]) 56 11 1 false w (aA x []) v λy z=>met b [2085] [y]<| aD z.aj y λA B=>bH u b (some []) 22 [(.s 3 0x6e6f74),A] (aA B []) z λC D=>ax2 u b e C f g i k D
def awD:=met b [] [c,d,e]<| cj h.aj 11 0 c (cG 3 ca) λi k=>cj h.aj 11 1 d i λl m=>cj h.aj 11 2 e l λn o=>c6 b 2075 (some [2075]) 56 11 3 false n (aA k (aA m (aA o []))) h λp q=>bg u b 10 p q λt v=>bS t 0 λw=>bS t 1 λx=>bH u b (some []) 23 [aL] [] v λy z=>aJ b [1] true 11 f z λA=>ald u b y A g x f p w z
def aw0:=aJ b [1] true 11 c h λi=>aJ b [3] true 11 d h λk=>met b [] [i,k]<| cj h.aj 11 0 i (cG 2 ca) λl m=>cj h.aj 11 1 k l λn o=>c6 b 2073 (some [2073]) 56 11 2 false n (aA m (aA o [])) h λp q=>met b [2073] [p]<| aD q.aj p λr s=>bH u b (some []) 22 [(.s 1 0x3c),r] (aA s []) q λt v=>awD u b e f t c g v
def ahD:=met b [] [c,d]<| cj h.aj 11 0 c (cG 2 ca) λk l=>cj h.aj 11 1 d k λm n=>c6 b 2067 (some [2067]) 56 11 2 false m (aA l (aA n [])) h λo p=>met b [2067] [o]<| aD p.aj o λq r=>bH u b (some []) 22 [(.s 1 0x3c),q] (aA r []) p λs t=>met b [] [s]<| cj t.aj 11 0 s (cG 1 ca) λv w=>c6 b 2069 (some [2069]) 56 11 1 false v (aA w []) t λx y=>met b [2069] [x]<| aD y.aj x λz A=>bH u b (some []) 22 [(.s 3 0x6e6f74),z] (aA A []) y λB C=>aw0 u b e f g B i C
def aq6:=met b [] [c]<| cj h.aj 11 0 c (cG 1 ca) λg i=>c6 b 2063 (some [2063]) 56 11 1 false g (aA i []) h λk l=>met b [2063] [k]<| aD l.aj k λm n=>bH u b (some []) 22 [(.s 3 0x6e6f74),m] (aA n []) l λo p=>aJ b [2] true 11 d p λq=>aJ b [3] true 11 e p λr=>ahD u b q r f e o d p
def atL:=aJ b [1] true 11 c h λf=>aJ b [2] true 11 d h λg=>met b [] [f,g]<| cj h.aj 11 0 f (cG 2 ca) λi k=>cj h.aj 11 1 g i λl m=>c6 b 2061 (some [2061]) 56 11 2 false l (aA k (aA m [])) h λn o=>met b [2061] [n]<| aD o.aj n λp q=>bH u b (some []) 22 [(.s 1 0x3c),p] (aA q []) o λr s=>aq6 u b r d e c s
def akf:=bH u b none 21 [(.s 1 0x78)] [] h λc d=>bH u b none 21 [(.s 1 0x79)] [] d λe f=>bH u b none 21 [(.s 1 0x7a)] [] f λg i=>ci 56 b 1 none ca i λk l=>ci 56 b 2 none ca l λm n=>ci 56 b 3 none ca n λo p=>aX b none 11 k c p λ_ q=>aX b none 11 m e q λ_ r=>aX b none 11 o g r λ_ s=>atL u b k m o s
def AM:=bV la (akf u b (ba b a8))
def ni:=bj b c h
def aws:bI u:=aW h.aj true 32 g λi=>cj h.aj 32 0 i (cG 1 [aL,(.s 0 0),(.s 0 0),(.s 0 0),.aE,(.s 0 0),(.s 0 0),.aE,bG,aL,(.s 0 0),(.s 0 0),aL,(.s 0 0),(.s 0 0),(.s 0 0),(.s 0 0),(.s 0 0),.aE,.aE,.aE,.aE,.aE,.aE,(.s 0 0),(.s 0 0),.aE,.aE,.aE,.aE,(.s 0 0),(.V .u64 18446744073709551616)]) λk l=>c6 b 2131 none 80 32 1 false k (aA l []) h λm n=>eC b 2132 none 80 32 568 d m false n λo p=>j4 c o e f p
def ap5:bI u:=aW h.aj true 34 c λk=>cj h.aj 34 0 k (cG 1 [(.s 0 0),(.s 0 0),aL,.aE,(.s 0 0),(.s 0 0),aL,(.s 0 0),(.s 0 0),aL,(.s 0 0),(.s 0 0),(.s 0 0),(.s 0 0),(.s 0 0),.aE,.aE,aL,(.s 0 0),(.s 0 0),aL,(.s 0 0),(.s 0 0),(.s 0 0),(.s 0 0),(.s 0 0),.aE,.aE,.aE,aL,.aE,aL,(.s 0 0),(.s 0 0)]) λl m=>c6 b 2127 none 89 34 1 false l (aA m []) h λn o=>bt 27 d λp=>aX b none 1 p n o λ_ q=>j5 e f g i d q
def ae3:=met b [4096,4098,2081,2132,2105,2127] [c,d,e,f]<| aD h.aj c λm n=>aD h.aj d λo p=>aD h.aj e λq r=>aD h.aj f λs t=>bH u b (some []) 29 [m,o,q,s] (aA n (aA p (aA r (aA t [])))) h λv w=>bS v 0 λx=>bS v 1 λy=>ci 89 b 9 (some [9]) [(.s 0 0),(.s 0 0),aL,.aE,(.s 0 0),(.s 0 0),aL,(.s 0 0),(.s 0 0),aL,(.s 0 0),(.s 0 0),(.s 0 0),(.s 0 0),(.s 0 0),.aE,.aE,aL,(.s 0 0),(.s 0 0),aL,(.s 0 0),(.s 0 0),(.s 0 0),(.s 0 0),(.s 0 0),.aE,.aE,.aE,aL,.aE,aL,(.s 0 0),(.s 0 0)] w λz A=>met b [9] [z]<| aX b (some [9]) 34 z x A λ_ B=>bY y aL λC=>aP C (ap5 u b j5 z g i c k l B) (j5 i c k l g B)
def afW:=bZ b [] 13 c d h λk=>bt 1 k λl=>aJ b [] true 11 l h λm=>bZ b [] 13 c d h λn=>bt 12 n λo=>aJ b [] false 1 o h λp=>ae3 u b j5 e f m p g i c d h
def aik:=cC 0 1 jf [aL,(.s 0 0),(.s 0 0),(.s 0 0),.aE,(.s 0 0),(.s 0 0),.aE,bG,aL,(.s 0 0),(.s 0 0),aL,(.s 0 0),(.s 0 0),(.s 0 0),(.s 0 0),(.s 0 0),.aE,.aE,.aE,.aE,.aE,.aE,(.s 0 0),(.s 0 0),.aE,.aE,.aE,.aE,(.s 0 0),(.V .u64 18446744073709551616)] λk=>cC 1 2 c k λl=>cC 21 1 d l λm=>eT m λn=>ci 80 b 8 (some [8]) [aL,(.s 0 0),(.s 0 0),(.s 0 0),.aE,(.s 0 0),(.s 0 0),.aE,bG,aL,(.s 0 0),(.s 0 0),aL,(.s 0 0),(.s 0 0),(.s 0 0),(.s 0 0),(.s 0 0),.aE,.aE,.aE,.aE,.aE,.aE,(.s 0 0),(.s 0 0),.aE,.aE,.aE,.aE,(.s 0 0),(.V .u64 18446744073709551616)] h λo p=>met b [8] [o]<| aX b (some [8]) 32 o n p λ_ q=>bt 1 o λr=>aJ b [8] true 2 r q λs=>afW u b (aws u b j4) e f g s o i q
def arK:=met b [] [c]<| aD h.aj c λi k=>bH u b (some []) 28 [i] (aA k []) h λl m=>bZ b [] 13 d e m λn=>bt 1 n λo=>aJ b [] true 11 o m λp=>met b [] [p]<| cj m.aj 11 0 p (cG 1 ca) λq r=>c6 b 2105 (some [2105]) 56 11 1 false q (aA r []) m λs t=>aik u b j4 l s d e f g t
def aD7:=bZ b [] 13 e f h λg=>bt 0 g λi=>aJ b [] false 1 i h λk=>arK u b j4 k e f d c h
def aqu:=c8 (pt .shr c f) λg=>c8 (Qy .and g (.V .u32 18446744073709551617)) λi=>bY i (.V .u32 18446744073709551616) λk=>aP k ((bR f aS λl=>j4 c d e l h)) (aD7 u b (λm n o p q=>bR p aS λl=>j4 m n o l q) c d e f h)
def aAX:=bq false e λg=>cm f g λi=>aP i (aqu u b j4 c d e f h) (j1 d h)
def apX:=bH u b none 27 [] [] h λe f=>du 0 3 6 7 1000000 (aAX u b (λg i=>ni b g i)) c d e aL f
def ata:bI u:=aJ b [] false 1 c h λk=>cC 0 1 gg [aL,(.s 0 0),(.s 0 0),(.s 0 0),.aE,(.s 0 0),(.s 0 0),.aE,bG,aL,(.s 0 0),(.s 0 0),aL,(.s 0 0),(.s 0 0),(.s 0 0),(.s 0 0),(.s 0 0),.aE,.aE,.aE,.aE,.aE,.aE,(.s 0 0),(.s 0 0),.aE,.aE,.aE,.aE,(.s 0 0),(.V .u64 18446744073709551616)] λl=>cC 1 2 d l λm=>cC 20 1 k m λn=>eT n λo=>met b [] [o]<| cj h.aj 32 0 o (cG 1 [aL,(.s 0 0),(.s 0 0),(.s 0 0),.aE,(.s 0 0),(.s 0 0),.aE,bG,aL,(.s 0 0),(.s 0 0),aL,(.s 0 0),(.s 0 0),(.s 0 0),(.s 0 0),(.s 0 0),.aE,.aE,.aE,.aE,.aE,.aE,(.s 0 0),(.s 0 0),.aE,.aE,.aE,.aE,(.s 0 0),(.V .u64 18446744073709551616)]) λp q=>c6 b 2080 (some [2080]) 80 32 1 false p (aA q []) h λr s=>met b [4096,4098,2081,2132,2080] [e,r]<| eC b 2081 (some [2081,4096,4098,2081,2132]) 80 32 568 e r false s λt v=>j4 f t g i v
def aqG:=bZ b [] 1 e f h λg=>aJ b [] false 1 g h λi=>met b [] [i]<| cb h.aj 37 i aL λk=>bt 0 k λl=>aJ b [] true 2 l h λm=>bZ b [] 1 e f h λn=>ata u b (λo p q r s=>bR r aS λt=>j4 o p q t s) n m d c e f h
def as5:=bq false e λg=>cm f g λi=>aP i (aqG u b j4 c d e f h) (j2 c d h)
def axJ:=dd u b 25 [] [] h λd e=>bH u b none 26 [] [] e λf g=>du 0 3 4 5 1000000 (as5 u b (apX u b)) c d f aL g
def Xf:=aZ la λc l=>bV l (axJ u b c (ba b a8))
def EK:=bj b c h
def nO:=aW h.aj true 11 i λk=>cj h.aj 11 0 k (cG 1 ca) λl m=>c6 b 2111 none 56 11 1 false l (aA m []) h λn o=>ce u b 34 e n o λt v=>j5 c d t f g v
def zT:=aW h.aj true 11 c λk=>cj h.aj 11 0 k (cG 1 ca) λl m=>c6 b 2085 none 56 11 1 false l (aA m []) h λn o=>aD o.aj n λp q=>bH u b none 22 [(.s 3 0x6e6f74),p] (aA q []) o λr s=>aX b none 11 c r s λ_ t=>j6 d e f g i c t
def Od:=cj h.aj 11 0 c (cG 2 ca) λm n=>cj h.aj 11 1 d m λo p=>c6 b 2091 none 56 11 2 false o (aA n (aA p [])) h λq r=>aD r.aj q λs t=>bH u b none 22 [(.s 5 0x657175616c),s] (aA t []) r λv w=>cj w.aj 11 0 v (cG 1 ca) λx y=>c6 b 2093 none 56 11 1 false x (aA y []) w λz A=>aD A.aj z λB C=>bH u b none 22 [(.s 3 0x6e6f74),B] (aA C []) A λD E=>aX b none 11 e D E λ_ G=>j6 f g i k l e G
def PO:=aD h.aj c λk l=>dd u b 32 [d,k,aS] (aA l []) h λm n=>aX b none 11 e m n λ_ o=>j6 d c f g i e o
def LK:=cj h.aj 11 0 c (cG 2 ca) λm n=>cj h.aj 11 1 d m λo p=>c6 b 2105 none 56 11 2 false o (aA n (aA p [])) h λq r=>aD r.aj q λs t=>bH u b none 22 [(.s 1 0x3c),s] (aA t []) r λv w=>cj w.aj 11 0 v (cG 1 ca) λx y=>c6 b 2107 none 56 11 1 false x (aA y []) w λz A=>aD A.aj z λB C=>bH u b none 22 [(.s 3 0x6e6f74),B] (aA C []) A λD E=>aX b none 11 e D E λ_ G=>j6 f g i k l e G
def auO:=bY c rz λl=>aP l (bH u b none 23 [aL] [] h λm n=>dd u b 33 [d] [] n λo p=>LK u b j6 m o e d f g i k p) (j6 d f g i k e h)
def akj:=bY c jf λl=>aP l (PO u b j6 d e f g i k h) (auO u b j6 c e f d g i k h)
def Gj:=bY c gg λn=>aP n (aW h.aj true 11 d λo=>aW h.aj true 11 e λp=>Od u b j6 o p f g i k l m h) (akj u b j6 c i g f k l m h)
def Rj:bI (u,b):=bY c aS λn=>aP n (j10 d e f g i k l m c n h) (bY c cZ λo=>j10 d e f g i k l m c o h)
def UW:=dd u b 30 [c,vW] [] h λm n=>bY m aL λo=>aP o ((aP o (zT u b (nO u b j5) l c d e f g n) (Gj u b (nO u b j5) m i k l c d e f g n))) (Rj u b (λp q r s t v w x y z A=>aP z (zT u b (nO u b j5) x p q r s t A) (Gj u b (nO u b j5) y v w x p q r s t A)) m c d e f g i k l n)
def U9:=aX b none 11 c d h λ_ m=>aW m.aj true 11 e λn=>aW m.aj true 11 c λo=>cj m.aj 11 0 n (cG 2 ca) λp q=>cj m.aj 11 1 o p λr s=>c6 b 2076 none 56 11 2 false r (aA q (aA s [])) m λt v=>aD v.aj t λw x=>bH u b none 22 [(.s 1 0x3c),w] (aA x []) v λy z=>ci 56 b 12 none ca z λA B=>aX b none 11 A y B λ_ C=>UW u b j5 f g i k l e c A C
def aej:=dd u b 31 [c] [] h λi k=>dd u b 31 [c] [] k λl m=>ci 56 b 10 none ca m λn o=>ci 56 b 11 none ca o λp q=>aX b none 11 n i q λ_ r=>U9 u b (λs t v w x y=>bR x aS λz=>j5 s t v w z y) p l n c d e f g r
def AI:=cm g f λi=>aP i (aej u b j5 c d e f g h) (j1 e h)
def Rc:=aD h.aj c λf g=>dd u b 30 [d,f] (aA g []) h λi k=>bR aS i λl=>fs 0 1 7 8 9 1000000 (AI u b (λm n=>EK b m n)) d e .aE l aL k
def At:=aZ la λc l=>aZ l λd l=>aZ l λe l=>bV l (Rc u b e c d (ba b a8))
def ayH:=aD h.aj c λe f=>aD h.aj d λg i=>dJ b (.a0 [e,g]) (aA f (aA i [])) h
def aCf:=aD h.aj c λf g=>aD h.aj d λi k=>aD h.aj e λl m=>bH u b none 38 [f,i,l] (aA g (aA k (aA m []))) h λn o=>bS n 0 λp=>bS n 1 λq=>ayH b p q o
def atz:bI u:=aW h.aj true 4 c λl=>cj h.aj 4 0 l (cG 1 [.aE,bG,.aE,.aE]) λm n=>c6 b 2111 none 104 4 1 false m (aA n []) h λo p=>eC b 2112 none 104 4 80 d o false p λq r=>j6 e q f g i k r
def afr:bI u:=bp 3 c h λn=>cb h.aj 1 n d λo=>aX b none 1 o dh h λ_ p=>aW p.aj true 4 c λq=>cj p.aj 4 0 q (cG 1 [.aE,bG,.aE,.aE]) λr s=>c6 b 2119 none 104 4 1 false r (aA s []) p λt v=>eC b 2120 none 104 4 80 e t false v λw x=>j6 f g w i k l x
def ajM:=aJ b [11] false 1 c h λo=>bH u b (some []) 37 [aS] [] h λp q=>bZ b [2085,2088] 7 o d q λr=>met b [2085,2088] [r]<| aX b (some [2085,2088]) 7 r p q λ_ s=>bY e gg λt=>aP t (atz u b j6 f g i k l m n s) (afr u b j6 f d k i g l m n s)
def ane:=bt 2 i λp=>aJ b [11] false 1 p h λq=>bH u b (some []) 36 [] [] h λr s=>bZ b [2085,2088] 7 q o s λt=>met b [2085,2088] [t]<| aX b (some [2085,2088]) 7 t r s λ_ v=>(bR o aS λw=>j11 c d e f g i k l m n w v)
def aC4:=cm o n λp=>aP p (ane u b j11 c d e f g i k l m n o h) (j9 c d e f g i k l m h)
def ae7:=ci 104 b 11 (some [11]) [.aE,bG,.aE,.aE] h λn o=>met b [11] [n]<| aX b (some [11]) 4 n c o λ_ p=>bp 2 n p λr=>bq false r λs=>aAJ 0 4 5 6 9 11 13 14 15 44 45 1000000 (aC4 u b (λt v w x y z A B C D=>bt 2 z λE=>ajM u b j6 E x y z v t w A B C D)) d e f g i n k l m s aL p
def Rf:=bY i aS λn=>bq false c λo=>i3 b (some [2085]) (nf (Nat.add b 2085) 54 7 112 (h.aj (Nat.add b 2085)).cd dx o o) h λp q=>bq false c λr=>i3 b (some [2088]) (nf (Nat.add b 2088) 4 1 1 (q.aj (Nat.add b 2088)).cd [bG] r r) q λs t=>cC 0 1 g [.aE,bG,.aE,.aE] λv=>cC 1 1 n v λw=>cC 2 1 p w λx=>cC 3 1 s x λy=>eT y λz=>ae7 u b j6 z c d e f i k l m t
def W5:bI (u,b,n):=bX c dh o λp=>aP p (j6 d e f g i k h) (j9 d e f k l m g i k h)
def axF:=bS c 0 λl=>bS c 1 λm=>bS c 2 λn=>eQ n aL λo=>b0 o false (bY m aL λp=>W5 u b j6 (Rf u b j6) o d e f g i k l m m p h) (W5 u b j6 (Rf u b j6) o d e f g i k l m ay ay h)
def auh:=cb h.aj 11 f i λk=>aW h.aj true 11 k λl=>ci 56 b 7 none ca h λm n=>aX b none 11 m l n λ_ o=>aW o.aj true 11 m λp=>bg u b 35 p o λs t=>axF u b (λv w x y z A B=>bR A aS λC=>j6 v w x y z C B) s c d e f g i t
def afE:=cm i g λk=>aP k (auh u b j6 c d e f g i h) (j3 c d e h)
def avx:=bq false c λd=>ih 0 4 5 13 14 15 1000000 (afE u b (aCf u b)) c .aE .aE c d aL h
def Yr:=aZ la λc l=>bV l (avx u b c (ba b a8))
def q4:=bj b c h
def O0:=bZ b [] 11 c d h λg=>aJ b [] true 11 g h λi=>met b [] [e,i]<| aD h.aj e λk l=>aD h.aj i λm n=>bH u b (some []) 24 [k,m] (aA l (aA n [])) h λo p=>ht o λq=>aP q (q4 b bG p) (j3 f c d p)
def Ob:=bZ b [] 11 c e h λf=>aJ b [] true 11 f h λg=>O0 u b (λi k l m=>bR l aS λn=>j3 i k n m) d e g c h
def sV:=bq false c λf=>cm e f λg=>aP g (Ob u b j3 c d e h) (j0 h)
def Ko:=fM 0 1 5 1000000 (sV u b (λe=>q4 b dh e)) c d aL h
def Aq:=bq false c λe=>bq false d λf=>eQ e f λg=>aP g (q4 b bG h) (Ko u b c d h)
def tP:=aZ la λc l=>aZ l λd l=>bV l (Aq u b c d (ba b a8))
def Ef:=bj b c h
def Yf:bI u:=cb h.aj 37 d f λg=>aW h.aj true 37 g λi=>ci 132 b 5 none zt h λk l=>aX b none 37 k i l λ_ m=>bt 26 k λn=>aW m.aj true 11 n λo=>cj m.aj 11 0 o (cG 1 ca) λp q=>c6 b 2064 none 56 11 1 false p (aA q []) m λr s=>eC b 2065 none 56 11 176 c r false s λt v=>(bR f aS λw=>j4 t d e w v)
def y2:=cm f e λg=>aP g (Yf u b j4 c d e f h) (j1 c h)
def HX:=bg u b 57 c h λf g=>bq false f λi=>du 3 7 8 9 1000000 (y2 u b (λk l=>Ef b k l)) .aE f i aL g
def xu:=aZ la λc l=>bV l (HX u b c (ba b a8))
def Ap:=bj b c h
def aaO:=aW h.aj true 11 c λk=>aW h.aj true 11 d λl=>cj h.aj 11 0 k (cG 2 ca) λm n=>cj h.aj 11 1 l m λo p=>c6 b 2172 none 56 11 2 false o (aA n (aA p [])) h λq r=>aD r.aj q λs t=>bH u b none 62 [(.s 1 0x3c),s] (aA t []) r λv w=>cj w.aj 11 0 v (cG 1 ca) λx y=>c6 b 2174 none 56 11 1 false x (aA y []) w λz A=>eC b 2175 none 56 11 176 e z false A λB C=>j4 f B g i C
def Nw:=cj h.aj 11 0 c (cG 2 ca) λk l=>cj h.aj 11 1 d k λm n=>c6 b 2179 none 56 11 2 false m (aA l (aA n [])) h λo p=>aD p.aj o λq r=>bH u b none 62 [(.s 1 0x3c),q] (aA r []) p λs t=>cj t.aj 11 0 s (cG 1 ca) λv w=>c6 b 2181 none 56 11 1 false v (aA w []) t λx y=>aD y.aj x λz A=>bH u b none 62 [(.s 3 0x6e6f74),z] (aA A []) y λB C=>cj C.aj 11 0 B (cG 1 ca) λD E=>c6 b 2183 none 56 11 1 false D (aA E []) C λG H=>eC b 2184 none 56 11 176 e G false H λI K=>j4 f I g i K
def F2:bI (l,m,n,o,p):=bX c q bG λr=>aP r (aaO u b j4 d e f g i k h) (aW h.aj true 11 e λs=>aW h.aj true 11 d λt=>Nw u b j4 s t f g i k h)
def JH:=bp 1 c h λm=>bY m aS λn=>bC (F2 u b j4 n d e f g i k) λj6=>b0 n true (cb h.aj 3 g k λo=>bt 1 o λp=>aW h.aj false 1 p λq=>bY q aS λr=>j6 g k o p q r h) (j6 ay ay ay ay ay ay h)
def Ch:=bH u b none 60 [aL] [] h λi k=>bg u b 59 i k λn o=>ci 56 b 15 none ca o λp q=>aX b none 11 p n q λ_ r=>bg u b 61 g r λv w=>ci 56 b 16 none ca w λx y=>aX b none 11 x v y λ_ z=>cb z.aj 3 c e λA=>JH u b j4 A p x d c e f z
def B5:=bC (Ch u b j4) λj5=>ht i λk=>aP k (j4 c d e f h) (j5 c d e f g h)
def Jy:bI (u,b):=b0 i true (cb h.aj 8 g k λl=>bp 7 l h λn=>bq false n λo=>kt o jf λp=>(bX i p bG λq=>(bR k aS λr=>j7 c d e f g q r h))) ((bX i ay bG λq=>(bR k aS λr=>j7 c d e f g q r h)))
def sD:=bC (Jy u b j7) λa=>bq false g λl=>cm k l λm=>aP m (a c d e f g i k h) (j6 c d e f g i h)
def N2:bI (k,l):=bX c m bG λn=>bC (B5 u b j4) λj6=>wc 3 8 9 10 11 13 14 1000000 (sD u b j6) d e f g i n aL h
def NC:=met b [] [c,d]<| aD h.aj c λk l=>aD h.aj d λm n=>bH u b (some []) 58 [k,m] (aA l (aA n [])) h λo p=>bS o 0 λq=>bS o 1 λr=>bY r aL λs=>bC (N2 u b j4 s e f g i q) λj3=>b0 s true (bq false f λt=>cm t tz λv=>j3 f t v p) (j3 ay ay ay p)
def KH:=bZ b [2098] 3 c e h λg=>bt 0 g λi=>aJ b [2098] false 1 i h λk=>bZ b [2098] 3 c f h λl=>bt 0 l λm=>aJ b [2098] false 1 m h λn=>NC u b (λo p q r s=>bR r aS λt=>j4 o p q t s) k n c d e f h
def x2:=bC (KH u b j4) λa=>bq false c λg=>cm f g λi=>aP i (a c d e f h) (j3 c d e h)
def UT:=du 3 8 9 10 1000000 (x2 u b (λf g i k=>bR i aS λl=>j3 f g l k)) c d e e h
def wi:=bC (UT u b j3) λa=>bq false c λf=>cm e f λg=>aP g (a c d e h) (j1 d h)
def wM:=fM 3 8 9 1000000 (wi u b (λd e=>Ap b d e)) c .aE aL h
def ad2:bI u:=cb h.aj 3 c d λf=>aW h.aj true 3 f λg=>cj h.aj 3 0 g (cG 1 [.aE,aL,aL]) λi k=>c6 b 2097 none 118 3 1 false i (aA k []) h λl m=>eC b 2098 none 118 3 40 e l false m λn o=>j3 n c d o
def J8:bI (g,i,k,l,m):=bX c n bG λo=>aP o (ad2 u b j3 d e f h) (j3 f d e h)
def J6:=ci 54 b 6 none dx h λi k=>aX b none 7 i c k λ_ l=>ht d λm=>bC (J8 u b j3 m e f g) λj6=>b0 m true (cb l.aj 3 e f λn=>bt 1 n λo=>aW l.aj false 1 o λp=>eQ p gg λq=>j6 e f n o p q l) (j6 ay ay ay ay ay ay l)
def G4:=cb h.aj 3 d e λf=>bp 0 f h λi=>bg u b 45 i h λm n=>bS m 0 λo=>bS m 1 λp=>J6 u b (λq r s t=>bR s aS λv=>j3 q r v t) o p d e c n
def tk:=bC (G4 u b j3) λa=>bq false d λf=>cm e f λg=>aP g (a c d e h) (j1 c h)
def JS:=aD h.aj c λd e=>dd u b 46 [d] (aA e []) h λf g=>bC (wM u b) λj1=>fM 3 4 5 1000000 (tk u b j1) .aE f aL g
def xR:=aZ la λc l=>bV l (JS u b c (ba b a8))
def at1:=fK h.aj c true 11 λd=>bj b d h
def aAQ:=ci 56 b 4 none ca h λe f=>ce u b 62 c d f λm n=>aX b none 11 e m n λ_ o=>at1 b e o
def TA:=aZ la λc l=>aZ l λd l=>bV l (aAQ u b c d (ba b a8))
def aip:=fK h.aj c true 11 λd=>bj b d h
def akq:=ci 56 b 2 none ca h λd e=>bg u b 60 c e λi k=>bg u b 59 i k λn o=>aX b none 11 d n o λ_ p=>aip b d p
def Tf:=aZ la λc l=>bV l (akq u b c (ba b a8))
def zO:=bj b c h
def ac9:=bt 10 c λe=>aW h.aj false 1 e λf=>bt 10 d λg=>aW h.aj false 1 g λi=>ce u b 68 f i h λo p=>j5 e f g i o p
def z2:bI (f,g,i,k):=bX c l bG λm=>b0 m true (ac9 u b (λ_ _ _ _ n o=>bX m n bG λp=>zO b p o) d e h) ((bX m ay bG λp=>zO b p h))
def Mj:=bt 3 c λe=>aW h.aj true 7 e λf=>bt 3 d λg=>aW h.aj true 7 g λi=>ce u b 65 f i h λo p=>j5 e f g i o p
def Al:bI (f,g,i,k):=bX c l bG λm=>b0 m true (Mj u b (z2 u b m d e) d e h) (z2 u b m d e ay ay ay ay ay h)
def CM:=aW h.aj false 1 c λg=>bY d g λi=>b0 i true (bt 1 e λk=>aW h.aj true 2 k λl=>bt 1 f λm=>aW h.aj true 2 m λn=>mV false l n λo=>Al u b i e f k l m n o h) (Al u b i e f ay ay ay ay ay h)
def BQ:=dz 56 b 2 none c h λe f=>dz 56 b 3 none d f λg i=>bp 0 e i λl=>bt 0 g λm=>CM u b m l e g i
def wa:=aZ la λc l=>aZ l λd l=>bV l (BQ u b c d (ba b a8))
def FH:=bj b c h
def acI:bI u:=bt 1 c λf=>aJ b [4096] false 1 f h λg=>cP g aS λi=>bZ b [4098] 1 d i h λk=>aJ b [4098] false 1 k h λl=>c8 (hs .i64 l) λm=>c8 (fA .rem m e) λn=>FH b n h
def S0:=aW h.aj false 1 c λf=>bR f aS λg=>hY d λi=>bt 1 i λk=>aX b none 1 k g h λ_ l=>hY d λm=>bt 0 m λn=>aJ b [4096] false 1 n l λo=>hY d λp=>acI u b p o e l
def I5:bI (u,f):=bX c dh g λi=>aP i (FH b aL h) (j2 d e h)
def K8:=hY c λf=>bt 0 f λg=>aJ b [4096] false 1 g h λi=>bq false i λk=>il d k λl=>b0 l false (cm e aS λm=>I5 u b j2 l c e e m h) (I5 u b j2 l c e ay ay h)
def Mk:=hY c λe=>bt 1 e λf=>aJ b [4096] false 1 f h λg=>K8 u b (λi k l=>hY i λm=>bt 1 m λn=>S0 u b n i k l) c g d h
def za:=aZ la λc l=>aZ l λd l=>bV l (Mk u b c d (ba b a8))
def B3:=fK h.aj c true 11 λd=>bj b d h
def UH:=aJ b [3] true 11 c h λk=>met b [] [d,k]<| cj h.aj 11 0 d (cG 2 ca) λl m=>cj h.aj 11 1 k l λn o=>c6 b 2088 (some [2088]) 56 11 2 false n (aA m (aA o [])) h λp q=>met b [2088] [p]<| aD q.aj p λr s=>bH u b (some []) 22 [(.s 8 0x62696e6172792d2b),r] (aA s []) q λt v=>met b [3] [c]<| aX b (some [3]) 11 c t v λ_ w=>j5 e f c g i w
def I1:=met b [] [c]<| aD h.aj c λl m=>bH u b (some []) 23 [l] (aA m []) h λn o=>aJ b [6] true 11 d o λp=>met b [4096,4098] [n,p]<| cj o.aj 11 0 n (cG 2 ca) λq r=>cj o.aj 11 1 p q λs t=>c6 b 2085 (some [2085]) 56 11 2 false s (aA r (aA t [])) o λv w=>met b [2085] [v]<| aD w.aj v λx y=>bH u b (some []) 22 [(.s 8 0x62696e6172792d2a),x] (aA y []) w λz A=>UH u b j5 e z f g i k A
def X8:=aW h.aj true 11 c λk=>cj h.aj 11 0 k (cG 1 ca) λl m=>c6 b 2073 none 56 11 1 false l (aA m []) h λn o=>aD o.aj n λp q=>bH u b none 22 [(.s 3 0x6c656e),p] (aA q []) o λr s=>aX b none 11 c r s λ_ t=>j6 d e f g i c t
def SJ:=aW h.aj true 11 c λk=>cj h.aj 11 0 k (cG 1 ca) λl m=>c6 b 2078 none 56 11 1 false l (aA m []) h λn o=>aD o.aj n λp q=>bH u b none 75 [(.s 4 0x74726565),p] (aA q []) o λr s=>aX b none 11 c r s λ_ t=>j6 d e f g i c t
def KU:=bY c aS λl=>aP l (SJ u b j6 d e f g i k h) (j6 e f g i k d h)
def U6:=ci 56 b 6 none ca h λk l=>aX b none 11 k c l λ_ m=>dd u b 30 [d,v2] [] m λn o=>bY n aL λp=>aP p (X8 u b (λq r s t v w x=>o7 u b [4097] [4096,4098] [q,pQ] 30 [q,pQ] [] x λy z=>cP y jf λA=>I1 u b j5 A w s q r t v z) k d e f g i o) (KU u b (λq r s t v w x=>o7 u b [4097] [4096,4098] [q,pQ] 30 [q,pQ] [] x λy z=>cP y jf λA=>I1 u b j5 A w s q r t v z) n k d e f g i o)
def ZH:=dd u b 33 [c] [] h λi k=>U6 u b (λl m n o p q=>bR p aS λr=>j5 l m n o r q) i c d e f g k
def y0:=cm g f λi=>aP i (ZH u b j5 c d e f g h) (j2 d e h)
def UV:=bg u b 23 c h λi k=>ci 56 b 3 none ca k λl m=>aX b none 11 l i m λ_ n=>dd u b 30 [d,gg] [] n λo p=>fs 0 2 3 4 5 1000000 (y0 u b (λq r s=>aW s.aj true 11 r λt=>aX b none 11 q t s λ_ v=>B3 b q v)) d e l o aL p
def SZ:=ci 56 b 2 none ca h λd e=>dd u b 30 [c,pQ] [] e λf g=>cP f jf λi=>UV u b i c d g
def DP:=aZ la λc l=>bV l (SZ u b c (ba b a8))
def nL:=fK h.aj c true 11 λd=>bj b d h
def Ay:=aW h.aj true 11 c λe=>cj h.aj 11 0 e (cG 1 ca) λf g=>c6 b 2066 none 56 11 1 false f (aA g []) h λi k=>aD k.aj i λl m=>bH u b none 22 [(.s 3 0x6e6f74),l] (aA m []) k λn o=>aX b none 11 d n o λ_ p=>nL b d p
def R0:=met b [2076] [c]<| aD h.aj c λe f=>bH u b (some []) 22 [(.s 5 0x657175616c),e] (aA f []) h λg i=>met b [] [g]<| cj i.aj 11 0 g (cG 1 ca) λk l=>c6 b 2078 (some [2078]) 56 11 1 false k (aA l []) i λm n=>met b [2078] [m]<| aD n.aj m λo p=>bH u b (some []) 22 [(.s 3 0x6e6f74),o] (aA p []) n λq r=>met b [6] [d]<| aX b (some [6]) 11 d q r λ_ s=>nL b d s
def LI:=aJ b [7] true 11 c h λi=>cP d aS λk=>aD h.aj e λl m=>aD h.aj k λn o=>o7 u b [4097] [4096,4098] [f,e,k] 96 [f,l,n] (aA m (aA o [])) h λp q=>met b [4096,4098,4096,4098] [i,p]<| cj q.aj 11 0 i (cG 2 ca) λr s=>cj q.aj 11 1 p r λt v=>c6 b 2076 (some [2076]) 56 11 2 false t (aA s (aA v [])) q λw x=>R0 u b w g x
def KX:=dd u b 33 [c] [] h λe f=>cj f.aj 11 0 e (cG 1 ca) λg i=>c6 b 2084 none 56 11 1 false g (aA i []) f λk l=>aD l.aj k λm n=>bH u b none 22 [(.s 5 0x636f6e7370),m] (aA n []) l λo p=>cj p.aj 11 0 o (cG 1 ca) λq r=>c6 b 2086 none 56 11 1 false q (aA r []) p λs t=>aD t.aj s λv w=>bH u b none 22 [(.s 3 0x6e6f74),v] (aA w []) t λx y=>aX b none 11 d x y λ_ z=>nL b d z
def UQ:=aD h.aj c λi k=>aD h.aj d λl m=>o7 u b [4097] [4096,4098] [e,c,d] 96 [e,i,l] (aA k (aA m [])) h λn o=>met b [4096,4098,4096,4098] [f,n]<| cj o.aj 11 0 f (cG 2 ca) λp q=>cj o.aj 11 1 n p λr s=>c6 b 2096 (some [2096]) 56 11 2 false r (aA q (aA s [])) o λt v=>met b [2096] [t]<| aD v.aj t λw x=>bH u b (some []) 22 [(.s 5 0x657175616c),w] (aA x []) v λy z=>met b [6] [g]<| aX b (some [6]) 11 g y z λ_ A=>nL b g A
def Ml:=aJ b [7] true 11 c h λi=>cP d aS λk=>UQ u b e k f i g h
def Rk:=cj h.aj 11 0 c (cG 2 ca) λf g=>cj h.aj 11 1 d f λi k=>c6 b 2107 none 56 11 2 false i (aA g (aA k [])) h λl m=>aD m.aj l λn o=>bH u b none 22 [(.s 1 0x3c),n] (aA o []) m λp q=>cj q.aj 11 0 p (cG 1 ca) λr s=>c6 b 2109 none 56 11 1 false r (aA s []) q λt v=>aD v.aj t λw x=>bH u b none 22 [(.s 3 0x6e6f74),w] (aA x []) v λy z=>aX b none 11 e y z λ_ A=>nL b e A
def OQ:=dd u b 33 [c] [] h λg i=>cP d aS λk=>aD i.aj e λl m=>aD i.aj k λn o=>dd u b 96 [c,l,n] (aA m (aA o [])) i λp q=>Rk u b g p f q
def at5:=bY c rz λk=>aP k (OQ u b d e f g h) (j2 g i h)
def aqx:=bY c jf λk=>aP k (Ml u b d e f g i h) (at5 u b j2 c g e f i d h)
def avo:=bY c gg λk=>aP k (KX u b d e h) (aqx u b j2 c f g i d e h)
def Hu:=bY c cZ λk=>aP k (LI u b d e f g i h) (avo u b j2 c g i d e f h)
def abZ:=dd u b 30 [c,vW] [] h λi k=>bY i aL λl=>aP l ((aP l (Ay u b g f k) (Hu u b (λm n o=>aW o.aj true 11 n λp=>aX b none 11 m p o λ_ q=>nL b m q) i g e d c f k))) (bY i aS λr=>(aP r (Ay u b g f k) (Hu u b (λm n o=>aW o.aj true 11 n λp=>aX b none 11 m p o λ_ q=>nL b m q) i g e d c f k)))
def Nu:=ci 56 b 6 none ca h λf g=>aD g.aj c λi k=>aD g.aj d λl m=>dd u b 96 [e,i,l] (aA k (aA m [])) g λn o=>ci 56 b 7 none ca o λp q=>aX b none 11 p n q λ_ r=>abZ u b e c d f p r
def yE:=aZ la λc l=>aZ l λd l=>aZ l λe l=>bV l (Nu u b d e c (ba b a8))
def YV:=fK h.aj c true 11 λd=>bj b d h
def aen:=ci 56 b 2 none ca h λd e=>dd u b 30 [c,gg] [] e λf g=>kw (.s 3 0x78797a) (some f) none λi=>kw i none (some aS) λk=>bg u b 21 k g λn o=>aX b none 11 d n o λ_ p=>YV b d p
def DE:=aZ la λc l=>bV l (aen u b c (ba b a8))
def Pp:=bj b c h
def aaF:bI u:=cb h.aj 11 c d λf=>aW h.aj true 11 f λg=>cj h.aj 11 0 g (cG 1 ca) λi k=>c6 b 2081 none 56 11 1 false i (aA k []) h λl m=>eC b 2082 none 56 11 176 e l false m λn o=>j3 c n d o
def Qk:=cb h.aj 11 c e λf=>aW h.aj true 11 f λg=>ce u b 97 d g h λn o=>ht n λp=>aP p (aaF u b (λq r s t=>bR s aS λv=>j3 q r v t) c e d o) ((bR e aS λv=>j3 c d v o))
def CU:=bq false c λf=>cm e f λg=>aP g (Qk u b j3 c d e h) (j1 d h)
def adS:=bq false c λe=>bq false d λf=>bR e f λg=>i3 b none (nf (Nat.add b 2060) 56 11 176 (h.aj (Nat.add b 2060)).cd ca aL g) h λi k=>eC b 2062 none 56 11 176 i c false k λl m=>fM 1 5 6 1000000 (CU u b (λn o=>Pp b n o)) d l aL m
def E7:=aZ la λc l=>aZ l λd l=>bV l (adS u b c d (ba b a8))
def yO:=aD h.aj c λf g=>aD h.aj d λi k=>aD h.aj e λl m=>dJ b (.a0 [f,i,l]) (aA g (aA k (aA m []))) h
def EF:=ce u b 99 c d h λl m=>bS l 0 λn=>bS l 1 λo=>eQ o aL λp=>aP p (yO b .aE aL o m) ((yO b n e aL m))
def Uc:bI u:=aJ b [1] false 1 c h λg=>met b [] [g]<| cb h.aj 11 g aS λi=>aJ b [] true 11 i h λk=>met b [6] [d]<| aX b (some [6]) 11 d e h λ_ l=>met b [7] [f]<| aX b (some [7]) 11 f k l λ_ m=>j3 cZ d f m
def V5:=bt 10 c λf=>aJ b [1] false 1 f h λg=>met b [] [g]<| cb h.aj 11 g aL λi=>aJ b [] true 11 i h λk=>bt 10 c λl=>Uc u b j3 l d k e h
def XK:bI u:=aJ b [] false 1 c h λg=>met b [] [g]<| cb h.aj 11 g aL λi=>aJ b [] true 11 i h λk=>met b [6] [d]<| aX b (some [6]) 11 d e h λ_ l=>met b [7] [f]<| aX b (some [7]) 11 f k l λ_ m=>j3 aS d f m
def acp:=met b [] [c]<| cb h.aj 11 c aS λg=>aJ b [] true 11 g h λi=>bt 10 d λk=>aJ b [1] false 1 k h λl=>met b [] [l]<| cb h.aj 11 l aL λm=>bt 10 m λn=>XK u b j3 n e i f h
def aef:=bt 10 c λf=>aJ b [1] false 1 f h λg=>met b [] [g]<| cb h.aj 11 g aL λi=>bt 10 i λk=>aJ b [] false 1 k h λl=>acp u b j3 l c d e h
def YN:bI u:=aJ b [] false 1 c h λg=>met b [] [g]<| cb h.aj 11 g aS λi=>aJ b [] true 11 i h λk=>met b [6] [d]<| aX b (some [6]) 11 d e h λ_ l=>met b [7] [f]<| aX b (some [7]) 11 f k l λ_ m=>j3 gg d f m
def VV:=met b [] [c]<| cb h.aj 11 c aL λg=>aJ b [] true 11 g h λi=>bt 10 d λk=>aJ b [1] false 1 k h λl=>met b [] [l]<| cb h.aj 11 l aL λm=>bt 10 m λn=>YN u b j3 n e i f h
def YD:=bt 10 c λf=>aJ b [1] false 1 f h λg=>met b [] [g]<| cb h.aj 11 g aL λi=>bt 10 i λk=>aJ b [] false 1 k h λl=>VV u b j3 l c d e h
def MM:bI (g,i,k,l):=bX c m bG λn=>aP n (YD u b j3 d e f h) (yO b .aE aL aL h)
def aaJ:=bt 10 c λd=>aW h.aj false 1 d λe=>cb h.aj 11 e aL λf=>aW h.aj true 11 f λg=>aD h.aj g λi k=>bH u b none 98 [i,(.s 5 0x657175616c),cZ] (aA k []) h λl m=>j5 d e f g l m
def VB:=aW h.aj true 11 c λf=>aD h.aj f λg i=>bH u b none 98 [g,(.s 3 0x6e6f74),aS] (aA i []) h λk l=>b0 k true (aaJ u b (MM u b j3 k c d e) c l) (MM u b j3 k c d e ay ay ay ay ay l)
def Hx:bI (g,i,k,l):=bX c m bG λn=>aP n (aef u b j3 d e f h) (VB u b j3 d e f h)
def Pv:=bt 10 c λd=>aW h.aj false 1 d λe=>cb h.aj 11 e aL λf=>aW h.aj true 11 f λg=>aD h.aj g λi k=>bH u b none 98 [i,(.s 1 0x3c),cZ] (aA k []) h λl m=>j5 d e f g l m
def PS:=aW h.aj true 11 c λf=>aD h.aj f λg i=>bH u b none 98 [g,(.s 3 0x6e6f74),aS] (aA i []) h λk l=>b0 k true (Pv u b (Hx u b j3 k c d e) c l) (Hx u b j3 k c d e ay ay ay ay ay l)
def GU:=aX b none 11 c d h λ_ g=>aW g.aj true 11 e λi=>aD g.aj i λk l=>bH u b none 98 [k,(.s 1 0x3c),cZ] (aA l []) g λm n=>aP m (V5 u b (λo p q r=>aW r.aj true 11 p λs=>aW r.aj true 11 q λt=>EF u b s t o r) e f c n) (PS u b (λo p q r=>aW r.aj true 11 p λs=>aW r.aj true 11 q λt=>EF u b s t o r) e f c n)
def Km:=dz 56 b 1 none c h λd e=>eT ca λf=>eT ca λg=>ci 56 b 6 none ca e λi k=>ci 56 b 7 none ca k λl m=>aX b none 11 i f m λ_ n=>GU u b l g d i n
def qU:=aZ la λc l=>bV l (Km u b c (ba b a8))
def TG:=fK h.aj c true 7 λd=>bj b d h
def SY:=ci 54 b 0 none dx h λc d=>bH u b none 37 [aL] [] d λe f=>aX b none 7 c e f λ_ g=>TG b c g
def Da:=bV la (SY u b (ba b a8))
def Rs:=fK h.aj c true 7 λd=>bj b d h
def Zf:=ci 54 b 2 none dx h λd e=>bg u b 101 c e λi k=>bg u b 100 i k λn o=>aX b none 7 d n o λ_ p=>Rs b d p
def FA:=aZ la λc l=>bV l (Zf u b c (ba b a8))
def Pc:=bj b c h
def Si:=bg u b 106 c h λg i=>kt g F3 λk=>b0 k true (aW i.aj true 7 d λl=>bg u b 107 l i λo p=>(bX k o bG λq=>Pc b q p)) ((bX k ay bG λq=>Pc b q i))
def S3:=dz 54 b 1 none c h λd e=>aW e.aj true 7 d λf=>Si u b f d e
def BI:=aZ la λc l=>bV l (S3 u b c (ba b a8))
def wn:=aD h.aj c λf g=>aD h.aj d λi k=>aD h.aj e λl m=>dJ b (.a0 [f,i,l]) (aA g (aA k (aA m []))) h
def DJ:bI u:=eQ e aL λf=>aP f (wn b .aE aL e h) ((wn b d c aL h))
def abF:=met b [] [c]<| cb h.aj 11 c aL λe=>aJ b [] true 11 e h λf=>met b [] [d,f]<| aD h.aj d λg i=>aD h.aj f λk l=>bH u b (some []) 108 [g,k] (aA i (aA l [])) h λm n=>bS m 0 λo=>bS m 1 λp=>j3 cZ o p n
def UF:=bt 10 c λd=>aJ b [1] false 1 d h λe=>met b [] [e]<| cb h.aj 11 e aS λf=>aJ b [] true 11 f h λg=>bt 10 c λi=>aJ b [1] false 1 i h λk=>abF u b j3 k g h
def aeP:=met b [] [c]<| cb h.aj 11 c aS λe=>aJ b [] true 11 e h λf=>met b [] [d,f]<| aD h.aj d λg i=>aD h.aj f λk l=>bH u b (some []) 108 [g,k] (aA i (aA l [])) h λm n=>bS m 0 λo=>bS m 1 λp=>j3 aS o p n
def Sb:=aJ b [] true 11 c h λe=>bt 10 d λf=>aJ b [1] false 1 f h λg=>met b [] [g]<| cb h.aj 11 g aL λi=>bt 10 i λk=>aJ b [] false 1 k h λl=>aeP u b j3 l e h
def WC:=bt 10 c λd=>aJ b [1] false 1 d h λe=>met b [] [e]<| cb h.aj 11 e aL λf=>bt 10 f λg=>aJ b [] false 1 g h λi=>met b [] [i]<| cb h.aj 11 i aL λk=>Sb u b j3 k c h
def Wd:=met b [] [c]<| cb h.aj 11 c aL λe=>aJ b [] true 11 e h λf=>met b [] [d,f]<| aD h.aj d λg i=>aD h.aj f λk l=>bH u b (some []) 108 [g,k] (aA i (aA l [])) h λm n=>bS m 0 λo=>bS m 1 λp=>j3 gg o p n
def abn:=aJ b [] true 11 c h λe=>bt 10 d λf=>aJ b [1] false 1 f h λg=>met b [] [g]<| cb h.aj 11 g aL λi=>bt 10 i λk=>aJ b [] false 1 k h λl=>Wd u b j3 l e h
def Wy:=bt 10 c λd=>aJ b [1] false 1 d h λe=>met b [] [e]<| cb h.aj 11 e aL λf=>bt 10 f λg=>aJ b [] false 1 g h λi=>met b [] [i]<| cb h.aj 11 i aS λk=>abn u b j3 k c h
def QB:bI (e,f,g,i):=bX c k bG λl=>aP l (Wy u b j3 d h) (j3 aL .aE aL h)
def ZG:=bt 10 c λd=>aW h.aj false 1 d λe=>cb h.aj 11 e aL λf=>aW h.aj true 11 f λg=>aD h.aj g λi k=>bH u b none 85 [i,(.s 5 0x657175616c),cZ] (aA k []) h λl m=>j5 d e f g l m
def XE:=aW h.aj true 11 c λd=>aD h.aj d λe f=>bH u b none 85 [e,(.s 3 0x6e6f74),aS] (aA f []) h λg i=>b0 g true (ZG u b (QB u b j3 g c) c i) (QB u b j3 g c ay ay ay ay ay i)
def I0:bI (e,f,g,i):=bX c k bG λl=>aP l (WC u b j3 d h) (XE u b j3 d h)
def MN:=bt 10 c λd=>aW h.aj false 1 d λe=>cb h.aj 11 e aL λf=>aW h.aj true 11 f λg=>aD h.aj g λi k=>bH u b none 85 [i,(.s 1 0x3c),cZ] (aA k []) h λl m=>j5 d e f g l m
def M6:=aW h.aj true 11 c λd=>aD h.aj d λe f=>bH u b none 85 [e,(.s 3 0x6e6f74),aS] (aA f []) h λg i=>b0 g true (MN u b (I0 u b j3 g c) c i) (I0 u b j3 g c ay ay ay ay ay i)
def Gl:=dz 56 b 1 none c h λd e=>aW e.aj true 11 d λf=>aD e.aj f λg i=>bH u b none 85 [g,(.s 1 0x3c),cZ] (aA i []) e λk l=>aP k (UF u b (DJ u b) d l) (M6 u b (DJ u b) d l)
def q3:=aZ la λc l=>bV l (Gl u b c (ba b a8))
def Qr:=bj b c h
def T3:bI u:=bp 0 c h λe=>eQ e aS λf=>b0 f false (bp 1 c h λi=>bY i (.s 1 0x30) λk=>(bX f dh k λl=>Qr b l h)) ((bX f dh ay λl=>Qr b l h))
def Zb:=dz 54 b 1 none c h λd e=>T3 u b d e
def Dj:=aZ la λc l=>bV l (Zb u b c (ba b a8))
def IS:=aD h.aj c λe f=>aD h.aj d λg i=>dJ b (.a0 [e,g]) (aA f (aA i [])) h
def OS:=bg u b 110 c h λf g=>bS f 0 λi=>bS f 1 λk=>IS b i k g
def ZE:bI u:=aJ b [] false 1 c h λk=>cC 0 7 d fX λl=>cC 7 1 k l λm=>eT m λn=>met b [] [n]<| cj h.aj 8 0 n (cG 1 fX) λo p=>c6 b 2078 (some [2078]) 120 8 1 false o (aA p []) h λq r=>met b [2079,2078] [e,q]<| eC b 2079 (some [2079,2079]) 120 8 136 e q false r λs t=>j4 f g s i t
def adF:=aJ b [] true 7 c h λi=>aJ b [3] true 7 d h λk=>met b [] [i,k]<| aD h.aj i λl m=>aD h.aj k λn o=>bH u b (some []) 109 [l,n] (aA m (aA o [])) h λp q=>bZ b [] 8 e f q λr=>bt 7 r λs=>ZE u b j4 s p g e d f q
def X9:=bZ b [] 8 c f h λg=>bt 0 g λi=>adF u b (λk l m n o=>bR n aS λp=>j4 k l m p o) i d c f e h
def Bz:=bq false c λg=>cm f g λi=>aP i (X9 u b j4 c d e f h) (j1 e h)
def Y2:=du 0 3 6 7 1000000 (Bz u b (OS u b)) c d .aE aL h
def Xd:=dz 54 b 3 none c h λe f=>aW f.aj true 7 e λg=>bg u b 41 g f λl m=>aP l (IS b .aE aL m) (Y2 u b d e m)
def Do:=aZ la λc l=>aZ l λd l=>bV l (Xd u b d c (ba b a8))
def PE:=aD h.aj c λe f=>aD h.aj d λg i=>dJ b (.a0 [e,g]) (aA f (aA i [])) h
def GJ:=bg u b 110 c h λf g=>bS f 0 λi=>bS f 1 λk=>PE b i k g
def Z5:=cb h.aj 8 d e λf=>aW h.aj true 8 f λg=>ce u b 111 c g h λn o=>(bR e aS λp=>j3 n d p o)
def AG:=bq false d λf=>cm e f λg=>aP g (Z5 u b j3 c d e h) (j1 c h)
def ar5:=fM 0 1 6 1000000 (AG u b (GJ u b)) c d aL h
def Em:=aZ la λc l=>aZ l λd l=>bV l (ar5 u b c d (ba b a8))
def uT:=fK h.aj c true 7 λe=>aD h.aj e λf g=>aD h.aj d λi k=>dJ b (.a0 [f,i]) (aA g (aA k [])) h
def Xg:bI u:=cb h.aj 8 c aL λe=>bt 0 e λf=>aW h.aj true 7 f λg=>aX b none 7 d g h λ_ i=>uT b d dh i
def De:bI (f,g,i,k,l):=bX c m bG λn=>aP n (Xg u b d e h) (j1 e h)
def GB:=bq false c λe=>bY e aS λf=>b0 f true (cb h.aj 8 c aL λg=>bt 7 g λi=>aW h.aj false 1 i λk=>bq false k λl=>bY l aL λm=>De u b (λn o=>eT dx λp=>aX b none 7 n p o λ_ q=>uT b n bG q) f c d c g i k l m h) (De u b (λn o=>eT dx λp=>aX b none 7 n p o λ_ q=>uT b n bG q) f c d ay ay ay ay ay ay h)
def Cm:=ci 54 b 2 none dx h λd e=>bq false c λf=>bY f aL λg=>aP g (bH u b none 60 [aL] [] e λi k=>aX b none 7 d i k λ_ l=>uT b d dh l) (GB u b c d e)
def ud:=aZ la λc l=>bV l (Cm u b c (ba b a8))
def Qi:=mH b [c] [] h
def Tg:bI u:=cC 0 1 c [.aE,aL,aL] λi=>cC 1 1 d i λk=>eT k λl=>cj h.aj 3 0 l (cG 1 [.aE,aL,aL]) λm n=>c6 b 2081 none 118 3 1 false m (aA n []) h λo p=>eC b 2082 none 118 3 40 e o false p λq r=>j3 f q g r
def HB:bI k:=bX c l bG λm=>aP m (Tg u b j3 d e f g i h) (j3 g f i h)
def Lo:=bg u b 40 c h λk l=>bS k 0 λm=>bS k 1 λn=>bS k 2 λo=>bY o aL λp=>b0 p true (eQ n aL λq=>HB u b j3 p m n d e f n q l) (HB u b j3 p m n d e f ay ay l)
def O1:=cb h.aj 11 c e λf=>aW h.aj true 11 f λg=>Lo u b (λi k l m=>bR l aS λn=>j3 i k n m) g d c e h
def xd:=bq false c λf=>cm e f λg=>aP g (O1 u b j3 c d e h) (j1 d h)
def UG:=fM 0 3 4 1000000 (xd u b (λd e=>Qi b d e)) c .aE aL h
def wq:=aZ la λc l=>bV l (UG u b c (ba b a8))
def vA:=bj b c h
def DS:bI u:=aW h.aj true 37 g λl=>cj h.aj 37 0 l (cG 1 zt) λm n=>c6 b 2190 none 132 37 1 false m (aA n []) h λo p=>eC b 2191 none 132 37 608 d o false p λq r=>j6 c q e f i k r
def Sv:=aW h.aj true 11 c λn=>aW h.aj true 11 d λo=>cj h.aj 11 0 n (cG 2 ca) λp q=>cj h.aj 11 1 o p λr s=>c6 b 2179 none 56 11 2 false r (aA q (aA s [])) h λt v=>aD v.aj t λw x=>bH u b none 122 [(.s 1 0x3c),w] (aA x []) v λy z=>bt 26 e λA=>aX b none 11 A y z λ_ B=>j7 f g i k e l m B
def N1:=aW h.aj true 11 c λn=>cj h.aj 11 0 d (cG 2 ca) λo p=>cj h.aj 11 1 n o λq r=>c6 b 2184 none 56 11 2 false q (aA p (aA r [])) h λs t=>aD t.aj s λv w=>bH u b none 122 [(.s 1 0x3c),v] (aA w []) t λx y=>bg u b 123 x y λB C=>bt 26 e λD=>aX b none 11 D B C λ_ E=>j7 f g i k e l m E
def Kr:=bg u b 121 c h λp q=>ci 56 b 18 none ca q λr s=>aX b none 11 r p s λ_ t=>bp 24 d t λw=>aP w (Sv u b (DS u b j6) r e d f g i k l m t) (aW t.aj true 11 e λx=>N1 u b (DS u b j6) r x d f g i k l m t)
def E1:=cC 0 11 c zt λr=>cC 11 11 d r λs=>cC 22 1 e s λt=>cC 23 1 f t λv=>cC 24 1 g v λw=>cC 25 1 i w λx=>eT x λy=>ci 132 b 17 (some [17]) zt h λz A=>met b [17] [z]<| aX b (some [17]) 37 z y A λ_ B=>bH u b none 36 [] [] B λC D=>Kr u b j6 C z k l m n o p q D
def GV:=aJ b [2099] false 1 c h λr=>b0 r true (bZ b [2099] 13 l o h λs=>bt 12 s λt=>aJ b [2099] false 1 t h λv=>(bX r v bG λw=>E1 u b j6 d e f g w i k l m n o p q h)) ((bX r ay bG λw=>E1 u b j6 d e f g w i k l m n o p q h))
def Hr:=aJ b [2099] false 1 c h λp=>bZ b [2099] 13 d e h λq=>bt 11 q λr=>aJ b [2099] false 1 r h λs=>bZ b [2099] 13 d f h λt=>bt 12 t λv=>GV u b j6 v g i p s k l d m f e n o h
def JU:=aJ b [2099] true 11 c h λn=>bZ b [2099] 13 d e h λo=>bt 0 o λp=>aJ b [2099] true 11 p h λq=>bZ b [2099] 13 d f h λr=>bt 11 r λs=>Hr u b j6 s d e f n q g i k l m h
def zf:=bg u b 120 g h λn o=>ci 56 b 16 none ca o λp q=>aX b none 11 p n q λ_ r=>bZ b [2099] 13 c e r λs=>bt 0 s λt=>JU u b j6 t c f e g p d i k r
def I9:bI (u,b,m):=bX c dh n λo=>aP o (j6 d e f g i k h) (j7 d e f g l i k h)
def Qs:=bS c 0 λl=>bS c 1 λm=>eQ m aL λn=>b0 n false (bg u b 119 l h λq r=>I9 u b j6 (zf u b j6) n d e f g i k l l q r) (I9 u b j6 (zf u b j6) n d e f g i k l ay ay h)
def Oe:=aJ b [2099] false 1 c h λl=>bZ b [2099] 13 d e h λm=>bt 11 m λn=>aJ b [2099] false 1 n h λo=>met b [] [l,o]<| aD h.aj l λp q=>aD h.aj o λr s=>bH u b (some []) 118 [p,r] (aA q (aA s [])) h λt v=>Qs u b j6 t d f g e i k v
def KB:=bZ b [2099] 13 c e h λk=>bt 11 k λl=>Oe u b j6 l c f d e g i h
def Hh:=bq false d λk=>il k tz λl=>aP l (vA b d h) (KB u b (λm n o p q r s=>bR p aS λt=>j6 m n o t q r s) c d e f g i h)
def uy:=bq false c λk=>cm f k λl=>aP l (Hh u b j6 c d e f g i h) (j4 c d g i h)
def ZN:=ih 3 11 12 13 54 55 1000000 (uy u b (λg i k l m=>bR l aS λn=>j4 g i k n m)) c d f f e f h
def wx:=cm f e λg=>aP g (ZN u b j4 c d e f h) (j1 d h)
def yj:=bq false c λd=>du 3 11 54 55 1000000 (wx u b (λe f=>vA b e f)) c .aE d aL h
def Wo:bI u:=aW h.aj true 11 c λl=>bY d aS λm=>cC 0 11 l [aL,(.s 0 0),(.s 0 0),aL,(.s 0 0),(.s 0 0),(.s 0 0),(.s 0 0),(.s 0 0),.aE,.aE,.aE,bG] λn=>cC 11 1 e n λo=>cC 12 1 m o λp=>eT p λq=>cj h.aj 13 0 q (cG 1 [aL,(.s 0 0),(.s 0 0),aL,(.s 0 0),(.s 0 0),(.s 0 0),(.s 0 0),(.s 0 0),.aE,.aE,.aE,bG]) λr s=>c6 b 2098 none 182 13 1 false r (aA s []) h λt v=>eC b 2099 none 182 13 208 f t false v λw x=>j4 w g i k x
def FW:=bg u b 117 e h λn o=>bS n 0 λp=>bS n 1 λq=>ci 54 b 9 none dx o λr s=>aX b none 7 r p s λ_ t=>ht q λv=>aP v (Wo u b j4 d f e c g i k t) (j4 c g i k t)
def ze:bI (u,b,m):=bX c dh n λo=>aP o (j4 d e f g h) (j7 d i k l e f g h)
def Fs:=bS c 0 λk=>bS c 1 λl=>bS c 2 λm=>ht m λn=>b0 n false (bY l gg λo=>ze u b j4 (FW u b j4) n d e f g i k l l o h) (ze u b j4 (FW u b j4) n d e f g i k l ay ay h)
def C2:=cb h.aj 11 d f λg=>aW h.aj true 11 g λi=>ci 56 b 5 none ca h λk l=>aX b none 11 k i l λ_ m=>aW m.aj true 11 k λn=>bg u b 116 n m λq r=>Fs u b (λs t v w x=>bR w aS λy=>j4 s t v y x) q c d e f k r
def sX:=cm f e λg=>aP g (C2 u b j4 c d e f h) (j1 c h)
def OT:=bq false c λd=>du 3 19 20 21 1000000 (sX u b (yj u b)) .aE c d aL h
def z5:=aZ la λc l=>bV l (OT u b c (ba b a8))
def Qz:=aD h.aj c λe f=>aD h.aj d λg i=>dJ b (.a0 [e,g]) (aA f (aA i [])) h
def Im:=bg u b 110 c h λf g=>bS f 0 λi=>bS f 1 λk=>Qz b i k g
def ade:=met b [] [c,d]<| aD h.aj c λm n=>aD h.aj d λo p=>bH u b (some []) 124 [m,o] (aA n (aA p [])) h λq r=>cC 0 7 e fX λs=>cC 7 1 q s λt=>eT t λv=>met b [] [f,v]<| aD r.aj f λw x=>aD r.aj v λy z=>bH u b (some []) 111 [w,y] (aA x (aA z [])) r λA B=>j5 g i A k l B
def aac:=bZ b [] 8 c d h λk=>bt 7 k λl=>aJ b [] false 1 l h λm=>bZ b [] 8 e f h λn=>bt 7 n λo=>aJ b [] false 1 o h λp=>ade u b j5 m p g i c e d f h
def aa7:=aJ b [] true 7 c h λk=>bZ b [] 8 d e h λl=>bt 0 l λm=>aJ b [] true 7 m h λn=>met b [] [k,n]<| aD h.aj k λo p=>aD h.aj n λq r=>bH u b (some []) 109 [o,q] (aA p (aA r [])) h λs t=>aac u b j5 f g d e s i t
def aay:=bZ b [] 8 c f h λi=>bt 0 i λk=>aa7 u b (λl m n o p q=>bR p aS λr=>j5 l m n o r q) k d g c f e h
def Df:=bq false d λi=>cm g i λk=>aP k (aay u b j5 c d e f g h) (j4 c d e f h)
def aaR:=fs 0 1 6 7 8 1000000 (Df u b (λg i k l m=>bR l aS λn=>j4 g i k n m)) c d e f aL h
def wl:=bq false c λg=>cm f g λi=>aP i (aaR u b j4 c d e f h) (j1 e h)
def ap7:=du 0 1 6 7 1000000 (wl u b (Im u b)) c d .aE aL h
def CH:=aZ la λc l=>aZ l λd l=>bV l (ap7 u b c d (ba b a8))
def RJ:=fK h.aj c true 11 λd=>bj b d h
def Wz:bI u:=dz 54 b 1 none c h λd e=>ci 56 b 2 none ca e λf g=>aW g.aj true 7 d λi=>cC 0 1 cZ ca λk=>cC 3 7 i k λl=>eT l λm=>aX b none 11 f m g λ_ n=>RJ b f n
def Eh:=aZ la λc l=>bV l (Wz u b c (ba b a8))
def abL:=fK h.aj c true 7 λd=>bj b d h
def Tz:=ci 54 b 2 none dx h λd e=>bg u b 125 c e λi k=>aD k.aj i λl m=>bH u b none 114 [l,(.s 1 0x31)] (aA m []) k λn o=>aX b none 7 d n o λ_ p=>abL b d p
def Fj:=aZ la λc l=>bV l (Tz u b c (ba b a8))
def Av:=fK h.aj c true 11 λd=>bj b d h
def aaT:=aJ b [3] true 11 c h λi=>met b [] [d,i]<| cj h.aj 11 0 d (cG 2 ca) λk l=>cj h.aj 11 1 i k λm n=>c6 b 2078 (some [2078]) 56 11 2 false m (aA l (aA n [])) h λo p=>met b [2078] [o]<| aD p.aj o λq r=>bH u b (some []) 62 [(.s 8 0x62696e6172792d2b),q] (aA r []) p λs t=>met b [3] [c]<| aX b (some [3]) 11 c s t λ_ v=>j4 e f c g v
def acn:=bZ b [] 8 c f h λg=>aJ b [] true 8 g h λi=>met b [] [i]<| aD h.aj i λk l=>bH u b (some []) 126 [k] (aA l []) h λm n=>aaT u b (λo p q r s=>cP r aS λt=>j4 o p q t s) e m c d f n
def tM:=il f aL λg=>aP g (acn u b j4 c d e f h) (j2 d e h)
def aed:=bg u b 126 c h λi k=>ci 56 b 3 none ca k λl m=>aX b none 11 l i m λ_ n=>bq false d λo=>cP o cZ λp=>du 0 2 3 4 1000000 (tM u b (λq r s=>aW s.aj true 11 r λt=>aX b none 11 q t s λ_ v=>Av b q v)) d e l p n
def Uq:=bq false c λe=>cP e aS λf=>cb h.aj 8 c f λg=>aW h.aj true 8 g λi=>aed u b i c d h
def Wu:=bH u b none 60 [aL] [] h λd e=>bg u b 59 d e λi k=>aX b none 11 c i k λ_ l=>Av b c l
def MH:=ci 56 b 2 none ca h λd e=>bq false c λf=>bY f aL λg=>aP g (Wu u b d e) (Uq u b c d e)
def yN:=aZ la λc l=>bV l (MH u b c (ba b a8))
def ajI:=fK h.aj c true 11 λd=>bj b d h
def atg:=ci 56 b 4 none ca h λe f=>bg u b 71 c f λk l=>ce u b 81 k d l λq r=>aX b none 11 e q r λ_ s=>ajI b e s
def Xo:=aZ la λc l=>aZ l λd l=>bV l (atg u b c d (ba b a8))
def kN:=fK h.aj c true 7 λd=>bj b d h
def VR:=aJ b [9] true 7 c h λg=>cP d aS λi=>aD h.aj i λk l=>o7 u b [4097] [4096,4098] [e,i] 63 [e,k] (aA l []) h λm n=>met b [4096,4098,4096,4098] [g,m]<| aD n.aj g λo p=>aD n.aj m λq r=>bH u b (some []) 130 [o,q] (aA p (aA r [])) n λs t=>met b [4] [f]<| aX b (some [4]) 7 f s t λ_ v=>kN b f v
def Ol:=cP d aS λf=>aD h.aj f λg i=>dd u b 63 [c,g] (aA i []) h λk l=>ci 54 b 9 none dx l λm n=>aX b none 7 m k n λ_ o=>VR u b m d c e o
def Hz:=dd u b 30 [c,EP] [] h λe f=>cP e gg λg=>bg u b 60 g f λl m=>aX b none 7 d l m λ_ n=>kN b d n
def Ot:=dd u b 30 [c,gg] [] h λe f=>kw (.s 3 0x616263) (some e) none λg=>kw g none (some aS) λi=>bg u b 28 i f λm n=>bg u b 127 m n λq r=>aX b none 7 d q r λ_ s=>kN b d s
def Ku:=dd u b 30 [c,gg] [] h λe f=>kw (.s 2 0x7071) none (some e) λg=>bg u b 128 g f λl m=>aX b none 7 d l m λ_ n=>kN b d n
def C1:=bg u b 129 d h λg i=>aX b none 7 c g i λ_ k=>kN b c k
def Uv:=cP d aS λk=>aD h.aj k λl m=>dd u b 63 [c,l] (aA m []) h λn o=>cj o.aj 7 0 n (cG 1 dx) λp q=>c6 b 2124 none 54 7 1 false p (aA q []) o λr s=>eC b 2125 none 54 7 112 f r false s λt v=>(bR i aS λw=>j6 c d e t g w v)
def Ac:=cm i g λk=>aP k (Uv u b j6 c d e f g i h) (j2 e f h)
def It:=dd u b 30 [c,jf] [] h λf g=>ih 0 1 4 6 7 8 1000000 (Ac u b (C1 u b)) c d e .aE f aL g
def aim:bI (u,b):=bY c Nd λg=>aP g (j4 d e f g h) (bY c tz λi=>j4 d e f i h)
def awK:=bY c mQ λg=>aP g ((aP g (It u b d e f h) (j3 d e f h))) (aim u b (λi k l m n=>aP m (It u b i k l n) (j3 i k l n)) c d e f h)
def aob:=bY c pQ λg=>aP g (bH u b none 60 [aS] [] h λi k=>aX b none 7 d i k λ_ l=>kN b d l) (awK u b j3 c e f d h)
def asK:=bY c vW λg=>aP g (bH u b none 60 [aL] [] h λi k=>aX b none 7 d i k λ_ l=>kN b d l) (aob u b j3 c d e f h)
def arO:=bY c EP λg=>aP g (Ku u b d e h) (asK u b j3 c e d f h)
def alV:=bY c v2 λg=>aP g (Ot u b d e h) (arO u b j3 c d e f h)
def awo:=bY c rz λg=>aP g (bH u b none 114 [(.s 2 0x2d35),(.s 1 0x33)] [] h λi k=>aX b none 7 d i k λ_ l=>kN b d l) (alV u b j3 c e d f h)
def WJ:=bY c jf λg=>aP g (bH u b none 114 [(.s 1 0x31),(.s 1 0x32)] [] h λi k=>aX b none 7 d i k λ_ l=>kN b d l) (awo u b j3 c d e f h)
def ap8:=bY c cZ λg=>aP g ((aP g (Hz u b d f h) (WJ u b j3 c f d e h))) (bY c gg λi=>(aP i (Hz u b d f h) (WJ u b j3 c f d e h)))
def aDC:=bY c aS λg=>aP g (bH u b none 87 [] [] h λi k=>aX b none 7 d i k λ_ l=>kN b d l) (ap8 u b j3 c e f d h)
def Gw:=bY f aL λg=>aP g (bH u b none 66 [] [] h λi k=>aX b none 7 e i k λ_ l=>kN b e l) (aDC u b (Ol u b) f e c d h)
def EC:bI (u,b,i):=bX c k bG λl=>aP l (cP d vW λm=>j4 e f g m h) (j4 e f g d h)
def Pm:=ci 54 b 4 none dx h λe f=>dd u b 30 [c,n14] [] f λg i=>cm d aS λk=>b0 k true (fw g pQ λl=>EC u b (Gw u b) k g c d e g l i) (EC u b (Gw u b) k g c d e ay ay i)
def uq:=aZ la λc l=>aZ l λd l=>bV l (Pm u b c d (ba b a8))
def m9:=bj b c h
def QY:=bZ b [] 7 c d h λi=>aJ b [] true 7 i h λk=>met b [] [e,k]<| aD h.aj e λl m=>aD h.aj k λn o=>bH u b (some []) 65 [l,n] (aA m (aA o [])) h λp q=>ht p λr=>aP r (m9 b bG q) (j3 f g d q)
def Lg:=bt 6 c λf=>aJ b [2] false 1 f h λg=>bZ b [] 7 g e h λi=>aJ b [] true 7 i h λk=>bt 6 d λl=>aJ b [3] false 1 l h λm=>QY u b (λn o p q=>bR p aS λr=>j3 n o r q) m e k c d h
def sO:=bp 6 c h λg=>bq false g λi=>cm e i λk=>aP k (Lg u b j3 c d e h) (j0 h)
def Jh:=fM 2 3 5 1000000 (sO u b (λe=>m9 b dh e)) c d aL h
def qN:bI (u,f,g,i,k,l,m):=bX c dh n λo=>aP o (m9 b bG h) (j2 d e h)
def E6:bI (u,b):=bt 6 c λe=>aW h.aj false 1 e λf=>bq false f λg=>bt 6 d λi=>aW h.aj false 1 i λk=>bq false k λl=>eQ g l λm=>j7 e f g i k l m h
def q1:bI (f,g,i,k):=bX c dh l λm=>b0 m false (E6 u b (qN u b j2 m d e) d e h) (qN u b j2 m d e ay ay ay ay ay ay ay h)
def qA:bI (f,g,i,k):=bX c dh l λm=>b0 m false (bt 5 d λn=>aW h.aj false 1 n λo=>bt 5 e λp=>aW h.aj false 1 p λq=>eQ o q λr=>q1 u b j2 m d e n o p q r h) (q1 u b j2 m d e ay ay ay ay ay h)
def qR:bI (f,g,i,k):=bX c dh l λm=>b0 m false (bt 3 d λn=>aW h.aj true 2 n λo=>bt 3 e λp=>aW h.aj true 2 p λq=>mV true o q λr=>qA u b j2 m d e n o p q r h) (qA u b j2 m d e ay ay ay ay ay h)
def q2:bI (f,g,i,k):=bX c dh l λm=>b0 m false (bt 2 d λn=>aW h.aj false 1 n λo=>bt 2 e λp=>aW h.aj false 1 p λq=>eQ o q λr=>qR u b j2 m d e n o p q r h) (qR u b j2 m d e ay ay ay ay ay h)
def sd:=aW h.aj false 1 c λg=>eQ d g λi=>b0 i false (bt 1 e λk=>aW h.aj false 1 k λl=>bt 1 f λm=>aW h.aj false 1 m λn=>eQ l n λo=>q2 u b j2 i e f k l m n o h) (q2 u b j2 i e f ay ay ay ay ay h)
def rJ:=dz 54 b 2 none c h λe f=>dz 54 b 3 none d f λg i=>bp 0 e i λl=>bt 0 g λm=>sd u b (Jh u b) m l e g i
def n3:=aZ la λc l=>aZ l λd l=>bV l (rJ u b c d (ba b a8))
def aD5:=fK h.aj c true 7 λd=>bj b d h
def al1:=ci 54 b 0 none dx h λc d=>bH u b none 71 [(.s 3 0x6e696c)] [] d λe f=>bg u b 127 e f λk l=>aX b none 7 c k l λ_ m=>aD5 b c m
def ZC:=bV la (al1 u b (ba b a8))
def qZ:=bj b c h
def Oo:=bZ b [] 11 c d h λg=>aJ b [] true 11 g h λi=>met b [] [e,i]<| aD h.aj e λk l=>aD h.aj i λm n=>bH u b (some []) 24 [k,m] (aA l (aA n [])) h λo p=>ht o λq=>aP q (qZ b bG p) (j3 f c d p)
def OF:=bZ b [] 11 c e h λf=>aJ b [] true 11 f h λg=>Oo u b (λi k l m=>bR l aS λn=>j3 i k n m) d e g c h
def sv:=bq false c λf=>cm e f λg=>aP g (OF u b j3 c d e h) (j0 h)
def IH:=fM 0 1 5 1000000 (sv u b (λe=>qZ b dh e)) c d aL h
def zk:=bq false c λe=>bq false d λf=>eQ e f λg=>aP g (qZ b bG h) (IH u b c d h)
def r9:=aZ la λc l=>aZ l λd l=>bV l (zk u b c d (ba b a8))
def ak6:=fK h.aj c true 2 λd=>bj b d h
def asj:bI u:=ci 52 b 2 none [(.s 0 0),(.s 0 0)] h λd e=>cC 0 1 (.s 4 0x6c697370) [(.s 0 0),(.s 0 0)] λf=>cC 1 1 c f λg=>eT g λi=>aX b none 2 d i e λ_ k=>ak6 b d k
def Se:=aZ la λc l=>bV l (asj u b c (ba b a8))
def age:=fK h.aj c true 11 λd=>bj b d h
def akV:=ci 56 b 4 none ca h λe f=>bg u b 28 c f λk l=>ce u b 81 k d l λq r=>aX b none 11 e q r λ_ s=>age b e s
def aaU:=aZ la λc l=>aZ l λd l=>bV l (akV u b c d (ba b a8))
def acG:=fK h.aj c true 11 λd=>bj b d h
def QU:bI u:=dz 52 b 2 none c h λe f=>ci 56 b 4 none ca f λg i=>aW i.aj true 2 e λk=>cC 0 1 gg ca λl=>cC 1 2 k l λm=>cC 10 1 d m λn=>eT n λo=>aX b none 11 g o i λ_ p=>acG b g p
def AX:=aZ la λc l=>aZ l λd l=>bV l (QU u b c d (ba b a8))
def Xy:=bj b c h
def acU:bI (u,f,g,i,k):=bX c l bG λm=>b0 m true (bt 10 d λn=>aJ b [3] false 1 n h λo=>bq false o λp=>bY p e λq=>(bX m q bG λr=>Xy b r h)) ((bX m ay bG λr=>Xy b r h))
def axu:=bt 1 c λe=>aJ b [3] true 2 e h λf=>met b [] [d]<| aD h.aj d λg i=>bH u b (some []) 71 [g] (aA i []) h λk l=>mV false f k λm=>j5 e f d k m l
def aqK:=dz 56 b 3 none c h λf g=>bt 0 f λi=>aJ b [3] false 1 i g λk=>bY k gg λl=>b0 l true (axu u b (acU u b l f d) f e g) (acU u b l f d ay ay ay ay ay g)
def aau:=aZ la λc l=>aZ l λd l=>aZ l λe l=>bV l (aqK u b c e d (ba b a8))
def yx:=fK h.aj c true 11 λd=>bj b d h
def EO:=aW h.aj true 2 d λf=>ce u b 81 f e h λm n=>aX b none 11 c m n λ_ o=>yx b c o
def X6:=cP e aS λm=>aD h.aj d λn o=>aD h.aj m λp q=>dd u b 96 [c,n,p] (aA o (aA q [])) h λr s=>cj s.aj 11 0 r (cG 1 ca) λt v=>c6 b 2122 none 56 11 1 false t (aA v []) s λw x=>eC b 2123 none 56 11 176 k w false x λy z=>(bR l aS λA=>j8 c d e f g i y A z)
def zy:=cm l i λm=>aP m (X6 u b j8 c d e f g i k l h) (j3 f g k h)
def J0:=aW h.aj true 2 g λi=>ce u b 153 d i h λo p=>bS o 0 λq=>bS o 1 λ_=>yJ 0 1 2 6 8 11 13 14 1000000 (zy u b (EO u b)) c d e f g q .aE aL p
def aei:=bq false c λk=>aD h.aj k λl m=>dd u b 30 [d,l] (aA m []) h λn o=>cb o.aj 1 c n λp=>aW o.aj false 1 p λq=>bg u b 152 q o λt v=>aX b none 2 e t v λ_ w=>j5 d f g i e w
def VA:=bq false c λk=>aD h.aj k λl m=>dd u b 30 [d,l] (aA m []) h λn o=>cb o.aj 1 c n λp=>aW o.aj false 1 p λq=>bg u b 28 q o λt v=>aX b none 2 e t v λ_ w=>j5 d f g i e w
def RV:=ci 52 b 8 none [(.s 0 0),(.s 0 0)] h λg i=>bH u b none 150 [] [] i λk l=>bH u b none 151 [] [] l λm n=>dd u b 30 [c,jf] [] n λo p=>cm o gg λq=>aP q (aei u b (J0 u b) k c g d e f p) (VA u b (J0 u b) m c g d e f p)
def adb:=dd u b 63 [c,aS] [] h λe f=>bg u b 59 e f λk l=>aX b none 11 d k l λ_ m=>yx b d m
def PY:=bY c gg λi=>aP i (adb u b d e h) (j4 d f g e h)
def AJ:=cm g gg λi=>aP i (dd u b 33 [c] [] h λk l=>aX b none 11 f k l λ_ m=>yx b f m) (PY u b (RV u b) g c f d e h)
def BE:bI (u,b,k):=bX c l bG λm=>aP m (c8 (fA .rem d jf) λn=>j5 e f g i n h) (j5 e f g i d h)
def KM:=ci 56 b 6 none ca h λf g=>dd u b 30 [c,tz] [] g λi k=>cm d aS λl=>b0 l true (fw i gg λm=>BE u b (AJ u b) l i c e d f i m k) (BE u b (AJ u b) l i c e d f ay ay k)
def uz:=aZ la λc l=>aZ l λd l=>aZ l λe l=>bV l (KM u b c e d (ba b a8))
def xP:=bj b c h
def Oi:=aJ b [] true 11 c h λg=>aJ b [3] true 11 d h λi=>met b [] [g,i]<| aD h.aj g λk l=>aD h.aj i λm n=>bH u b (some []) 24 [k,m] (aA l (aA n [])) h λo p=>aP o (xP b dh p) (j3 e d f p)
def Np:=bZ b [] 11 c e h λf=>Oi u b (λg i k l=>bR k aS λm=>j3 g i m l) f d c e h
def x8:=bq false c λf=>cm e f λg=>aP g (Np u b j3 c d e h) (j0 h)
def NT:=dz 56 b 3 none c h λe f=>fM 0 3 5 1000000 (x8 u b (λg=>xP b bG g)) d e aL f
def yA:=aZ la λc l=>aZ l λd l=>bV l (NT u b d c (ba b a8))
def ZU:=bj b c h
def Zv:bI (u,f,g,i,k):=bX c l bG λm=>b0 m true (bp 10 d h λo=>bq false o λp=>bY p e λq=>(bX m q bG λr=>ZU b r h)) ((bX m ay bG λr=>ZU b r h))
def azP:bI (u,b):=bt 1 c λe=>aW h.aj true 2 e λf=>cC 0 1 (.s 4 0x6c697370) [(.s 0 0),(.s 0 0)] λg=>cC 1 1 d g λi=>eT i λk=>mV false f k λl=>j5 e f d k l h
def are:=dz 56 b 3 none c h λf g=>bp 0 f g λk=>bY k gg λl=>b0 l true (azP u b (Zv u b l f d) f e g) (Zv u b l f d ay ay ay ay ay g)
def SX:=aZ la λc l=>aZ l λd l=>aZ l λe l=>bV l (are u b c e d (ba b a8))
def Ev:=aD h.aj c λe f=>aD h.aj d λg i=>dJ b (.a0 [e,g]) (aA f (aA i [])) h
def Tp:=ce u b 156 c d h λk l=>bS k 0 λm=>bS k 1 λn=>Ev b m n l
def aek:=bH u b none 37 [fC] [] h λe f=>ce u b 155 d e f λm n=>bS m 0 λo=>bS m 1 λp=>eQ p aL λq=>aP q (Ev b .aE p n) (Tp u b c o n)
def abH:=aW h.aj true 11 c λe=>bg u b 154 e h λi k=>bS i 0 λl=>bS i 1 λm=>eQ m aL λn=>aP n (Ev b .aE m k) (aek u b d l k)
def TN:=aW h.aj true 11 c λe=>bg u b 154 e h λi k=>bS i 0 λl=>bS i 1 λm=>eQ m aL λn=>aP n (Ev b .aE m k) (abH u b d l k)
def aak:=dz 56 b 2 none c h λe f=>dz 56 b 3 none d f λg i=>TN u b e g i
def DG:=aZ la λc l=>aZ l λd l=>bV l (aak u b c d (ba b a8))
def Yc:=fK h.aj c true 7 λd=>bj b d h
def VW:bI u:=ci 54 b 2 none dx h λd e=>cC 0 1 aS dx λf=>cC 1 1 c f λg=>cC 2 1 (.s 1 0x31) g λi=>eT i λk=>aX b none 7 d k e λ_ l=>Yc b d l
def E4:=aZ la λc l=>bV l (VW u b c (ba b a8))
def aat:=bj b c h
def RW:=bg u b 157 c h λf g=>aat b f g
def BH:=aZ la λc l=>bV l (RW u b c (ba b a8))
def Vw:=bj b c h
def Tv:=dz 54 b 1 none c h λd e=>aW e.aj true 7 d λf=>aD e.aj f λg i=>bH u b none 169 [g,EX] (aA i []) e λk l=>Vw b k l
def ES:=aZ la λc l=>bV l (Tv u b c (ba b a8))
def rx:=bj b c h
def adJ:bI (e,f):=bX c g bG λi=>b0 i true (bg u b 171 d h λm n=>kt m zi λo=>(bX i o bG λp=>rx b p n)) ((bX i ay bG λp=>rx b p h))
def Ri:bI (f,g,i):=bX c k bG λl=>b0 l true (bg u b 171 e h λo p=>kt o zi λq=>adJ u b l d e o q p) (adJ u b l d ay ay ay h)
def abu:bI (g,i,k):=bX c l bG λm=>b0 m true (bt 2 f λn=>aW h.aj false 1 n λo=>bY d o λp=>Ri u b m d e d n o p h) (Ri u b m d e ay ay ay ay h)
def abP:bI (g,i,k):=bX c l bG λm=>b0 m true (bt 1 f λn=>aW h.aj false 1 n λo=>bY e o λp=>abu u b m d e f e n o p h) (abu u b m d e f ay ay ay ay h)
def Y8:bI (g,i):=bX c k bG λl=>b0 l true (bt 6 f λm=>aW h.aj false 1 m λn=>bq false n λo=>bY o aL λp=>abP u b l d e f m n o p h) (abP u b l d e f ay ay ay ay h)
def aDQ:=ce u b 170 c d h λm n=>bS m 0 λo=>bS m 1 λp=>b0 e true (bt 5 f λq=>aW n.aj false 1 q λr=>bY r (.s 0 0) λs=>Y8 u b e p o f q r s n) (Y8 u b e p o f ay ay ay n)
def aDB:=bp 1 c h λf=>bp 2 c h λi=>aDQ u b f i d c h
def ac0:bI (u,e,f):=bX c g bG λi=>b0 i true (bp 6 d h λl=>bq false l λm=>bY m aL λn=>(bX i n bG λo=>rx b o h)) ((bX i ay bG λo=>rx b o h))
def W6:bI (e,f):=bX c g bG λi=>b0 i true (bt 5 d λk=>aW h.aj false 1 k λl=>bY l (.s 0 0) λm=>ac0 u b i d k l m h) (ac0 u b i d ay ay ay h)
def XH:bI (e,f):=bX c g bG λi=>b0 i true (bt 2 d λk=>aW h.aj false 1 k λl=>bY l (.s 0 0) λm=>W6 u b i d k l m h) (W6 u b i d ay ay ay h)
def aD1:=bt 3 c λd=>aW h.aj true 2 d λe=>bg u b 172 e h λi k=>b0 i true (bt 1 c λl=>aW k.aj false 1 l λm=>bY m (.s 0 0) λn=>XH u b i c l m n k) (XH u b i c ay ay ay k)
def TO:bI (u,e,f,g):=bX c i bG λk=>b0 k true (bp 6 d h λm=>bq false m λn=>bY n aL λo=>(bX k o bG λp=>rx b p h)) ((bX k ay bG λp=>rx b p h))
def Tb:bI (e,f):=bX c g bG λi=>b0 i true (bt 5 d λk=>aW h.aj false 1 k λl=>bq true l λm=>kt m zY λn=>TO u b i d k l m n h) (TO u b i d ay ay ay ay h)
def WE:bI (e,f):=bX c g bG λi=>b0 i true (bt 2 d λk=>aW h.aj false 1 k λl=>bY l (.s 0 0) λm=>Tb u b i d k l m h) (Tb u b i d ay ay ay h)
def aiJ:=b0 c true (bt 1 d λe=>aW h.aj false 1 e λf=>bY f (.s 0 0) λg=>WE u b c d e f g h) (WE u b c d ay ay ay h)
def Ze:=bt 6 c λd=>aW h.aj false 1 d λe=>cb h.aj 7 e aS λf=>aW h.aj true 7 f λg=>bg u b 107 g h λl m=>j5 d e f g l m
def PA:bI (e,f,g,i):=bX c k bG λl=>b0 l true (Ze u b (λ_ _ _ _ m n=>bX l m bG λo=>rx b o n) d h) ((bX l ay bG λo=>rx b o h))
def ZL:=bt 6 c λd=>aW h.aj false 1 d λe=>cb h.aj 7 e aL λf=>aW h.aj true 7 f λg=>bg u b 107 g h λl m=>j5 d e f g l m
def Lt:bI (e,f,g):=bX c i bG λk=>b0 k true (ZL u b (PA u b k d) d h) (PA u b k d ay ay ay ay ay h)
def NY:bI (e,f):=bX c g bG λi=>b0 i true (bt 6 d λk=>aW h.aj false 1 k λl=>bq false l λm=>bY m cZ λn=>Lt u b i d k l m n h) (Lt u b i d ay ay ay ay h)
def LS:bI (e,f):=bX c g bG λi=>b0 i true (bt 5 d λk=>aW h.aj false 1 k λl=>bY l (.s 0 0) λm=>NY u b i d k l m h) (NY u b i d ay ay ay h)
def MO:bI (e,f):=bX c g bG λi=>b0 i true (bt 2 d λk=>aW h.aj false 1 k λl=>bY l (.s 0 0) λm=>LS u b i d k l m h) (LS u b i d ay ay ay h)
def aet:=b0 c true (bt 1 d λe=>aW h.aj false 1 e λf=>bY f (.s 0 0) λg=>MO u b c d e f g h) (MO u b c d ay ay ay h)
def Xl:=bY c jf λf=>aP f (aet u b d e h) (j0 h)
def aeU:=bY c gg λf=>aP f (aiJ u b d e h) (Xl u b j0 c d e h)
def Ur:=bY c cZ λf=>aP f (aD1 u b d h) (aeU u b j0 c e d h)
def YT:=aW h.aj true 2 c λe=>eT [(.s 0 0),(.s 0 0)] λf=>mV false e f λg=>bp 0 d h λk=>bY k aS λl=>aP l (aDB u b d g h) (Ur u b (λm=>rx b bG m) k d g h)
def YH:=dz 54 b 1 none c h λd e=>bt 3 d λf=>YT u b f d e
def Dz:=aZ la λc l=>bV l (YH u b c (ba b a8))
def Dv:=aD h.aj c λe f=>aD h.aj d λg i=>dJ b (.a0 [e,g]) (aA f (aA i [])) h
def V9:=ce u b 44 c d h λk l=>bS k 0 λm=>bS k 1 λn=>Dv b m n l
def aci:=ce u b 43 c d h λl m=>bS l 0 λn=>bS l 1 λo=>eQ o aL λp=>aP p (Dv b .aE o m) (V9 u b e n m)
def WV:=bg u b 173 c h λg i=>bS g 0 λk=>bS g 1 λl=>eQ l aL λm=>aP m (Dv b .aE l i) ((bH u b none 60 [fC] [] i λn o=>aci u b k n d o))
def T5:=bg u b 173 c h λg i=>bS g 0 λk=>bS g 1 λl=>eQ l aL λm=>aP m (Dv b .aE l i) ((aW i.aj true 11 d λn=>WV u b n k i))
def Wk:=dz 56 b 2 none c h λe f=>dz 56 b 3 none d f λg i=>aW i.aj true 11 g λk=>T5 u b k e i
def Ed:=aZ la λc l=>aZ l λd l=>bV l (Wk u b c d (ba b a8))
def Y6:=fK h.aj c true 7 λd=>bj b d h
def acY:=met b [] [c,d]<| aD h.aj c λg i=>aD h.aj d λk l=>bH u b (some []) 174 [g,k] (aA i (aA l [])) h λm n=>met b [] [e,m]<| aD n.aj e λo p=>aD n.aj m λq r=>bH u b (some []) 114 [o,q] (aA p (aA r [])) n λs t=>met b [4] [f]<| aX b (some [4]) 7 f s t λ_ v=>Y6 b f v
def Z1:=met b [] [c,d]<| aD h.aj c λi k=>aD h.aj d λl m=>bH u b (some []) 174 [i,l] (aA k (aA m [])) h λn o=>bt 2 e λp=>aJ b [5] false 1 p o λq=>bt 2 f λr=>aJ b [6] false 1 r o λs=>acY u b q s n g o
def aaz:=met b [5] [c]<| aX b (some [5]) 7 c d h λ_ i=>met b [6] [e]<| aX b (some [6]) 7 e f i λ_ k=>bt 1 c λl=>aJ b [5] false 1 l k λm=>bt 1 e λn=>aJ b [6] false 1 n k λo=>Z1 u b m o c e g k
def RI:=met b [] [c]<| aD h.aj c λf g=>bH u b (some []) 113 [f] (aA g []) h λi k=>aJ b [3] true 7 d k λl=>met b [] [l]<| aD k.aj l λm n=>bH u b (some []) 113 [m] (aA n []) k λo p=>ci 54 b 5 (some [5]) dx p λq r=>ci 54 b 6 (some [6]) dx r λs t=>aaz u b q i s o e t
def adA:=dz 54 b 2 none c h λe f=>dz 54 b 3 none d f λg i=>ci 54 b 4 none dx i λk l=>aJ b [2] true 7 e l λm=>RI u b m g k l
def Di:=aZ la λc l=>aZ l λd l=>bV l (adA u b c d (ba b a8))
def Ov:=aD h.aj c λe f=>aD h.aj d λg i=>dJ b (.a0 [e,g]) (aA f (aA i [])) h
def Uh:=bg u b 175 c h λf g=>ht f λi=>aP i (Ov b .aE cZ g) ((Ov b c aL g))
def Cr:=aZ la λc l=>bV l (Uh u b c (ba b a8))
def zC:=bj b c h
def IG:bI u:=aJ b [3] true 8 d h λg=>met b [] [g]<| cj h.aj 8 0 g (cG 1 fX) λi k=>c6 b 2122 (some [2122]) 120 8 1 false i (aA k []) h λl m=>met b [2078,2082,2113,2122] [f,l]<| eC b 2123 (some [2123,2078,2082,2113]) 120 8 136 f l false m λn o=>met b [] [c,e]<| k7 o.aj 8 c (some e) none λp=>met b [2078,2082,2113,2123] [n,p]<| eC b 2127 (some [2127,2078,2082,2113,2123]) 120 8 136 n p false o λq r=>zC b q r
def FU:bI u:=bR d aS λf=>k7 h.aj 8 c (some f) none λg=>eC b 2119 none 120 8 136 e g false h λi k=>zC b i k
def aab:bI u:=aW h.aj true 7 c λi=>bp 7 d h λl=>cC 0 7 i fX λm=>cC 7 1 l m λn=>eT n λo=>cj h.aj 8 0 o (cG 1 fX) λp q=>c6 b 2112 none 120 8 1 false p (aA q []) h λr s=>eC b 2113 none 120 8 136 e r false s λt v=>j3 f g t v
def aaK:=met b [7] [c]<| aX b (some [7]) 7 c d h λ_ k=>aW k.aj true 7 c λl=>bg u b 41 l k λo p=>ht o λq=>aP q (aab u b (FU u b) c e f g i p) (FU u b g i f p)
def Y3:=aJ b [] true 7 c h λi=>bt 0 d λk=>aJ b [3] true 7 k h λl=>met b [] [i,l]<| aD h.aj i λm n=>aD h.aj l λo p=>bH u b (some []) 177 [m,o] (aA n (aA p [])) h λq r=>ci 54 b 7 (some [7]) dx r λs t=>aaK u b s q d e f g t
def Rb:=bZ b [] 8 c d h λg=>bt 0 g λi=>Y3 u b i e f c d h
def IK:bI (i,k,l,m,n,o):=bX c p bG λq=>aP q (Rb u b d e f g h) (j4 d f e g h)
def Ux:=bZ b [] 8 c d h λf=>aJ b [] true 8 f h λg=>aJ b [3] true 8 e h λi=>met b [] [g,i]<| aD h.aj g λk l=>aD h.aj i λm n=>bH u b (some []) 176 [k,m] (aA l (aA n [])) h λo p=>bY o aL λq=>j7 c d f g i o q p
def adV:=met b [] [c,d]<| k7 h.aj 8 c none (some d) λg=>met b [2078] [e,g]<| eC b 2082 (some [2082,2078]) 120 8 136 e g false h λi k=>bq false c λl=>cm d l λm=>b0 m true (Ux u b (IK u b (IG u b) m c d f i) c d f k) (IK u b (IG u b) m c d f i ay ay ay ay ay ay ay k)
def QS:=bq false c λf=>bR f aS λg=>i3 b (some [2078]) (nf (Nat.add b 2078) 120 8 136 (h.aj (Nat.add b 2078)).cd fX aL g) h λi k=>adV u b c e i d k
def HW(u:Fn)(b:Nat)(a j:mj)(c d e f g i k l m n o:an)(h:aI):aw:=bX c o bG λp=>aP p (a d e f h) (j d e f h)
def TY:=bZ b [] 8 c d h λf=>aJ b [] true 8 f h λg=>aJ b [3] true 8 e h λi=>met b [] [g,i]<| aD h.aj g λk l=>aD h.aj i λm n=>bH u b (some []) 176 [k,m] (aA l (aA n [])) h λo p=>cm o aL λq=>j7 c d f g i o q p
def BB(u:Fn)(b:Nat)(a j:mj)(c d e:an)(h:aI):aw:=bq false c λf=>cm e f λg=>b0 g true (TY u b (HW u b (λi k l m=>bR l aS λn=>j i k n m) a g c d e) c e d h) (HW u b (λi k l m=>bR l aS λn=>j i k n m) a g c d e ay ay ay ay ay ay ay h)
def Z2:=fM 0 3 5 1000000 (BB u b (QS u b)) c d aL h
def TI:=dz 120 b 3 none c h λe f=>bt 0 e λg=>aW f.aj true 7 g λi=>bg u b 41 i f λm n=>aP m (zC b d n) (Z2 u b d e n)
def En:=aZ la λc l=>aZ l λd l=>bV l (TI u b d c (ba b a8))
def MB:=fK h.aj c true 7 λd=>bj b d h
def aaI:=bp 0 c h λf=>bY f aS λg=>aP g (aW h.aj true 7 c λi=>aX b none 7 d i h λ_ k=>MB b d k) ((bH u b none 60 [aL] [] h λl m=>aX b none 7 d l m λ_ n=>MB b d n))
def aaj:=dz 54 b 1 none c h λd e=>ci 54 b 2 none dx e λf g=>aaI u b d f g
def C5:=aZ la λc l=>bV l (aaj u b c (ba b a8))
def Za:=fK h.aj c true 7 λd=>bj b d h
def aax:=ce u b 170 c d h λl m=>bS l 0 λn=>bS l 1 λo=>cC 0 1 aS dx λp=>cC 1 1 n p λq=>cC 2 1 o q λr=>eT r λs=>aX b none 7 e s m λ_ t=>Za b e t
def Vc:=ci 54 b 4 none dx h λe f=>aax u b c d e f
def CF:=aZ la λc l=>aZ l λd l=>bV l (Vc u b c d (ba b a8))
def P3:=aD h.aj c λf g=>aD h.aj d λi k=>aD h.aj e λl m=>dJ b (.a0 [f,i,l]) (aA g (aA k (aA m []))) h
def UA:=bg u b 35 c h λf g=>bS f 0 λi=>bS f 1 λk=>bS f 2 λl=>bY l aL λm=>b0 m true (eQ k aL λn=>(bX m n bG λo=>P3 b i k o g)) ((bX m ay bG λo=>P3 b i k o g))
def W3:=dz 56 b 1 none c h λd e=>aW e.aj true 11 d λf=>UA u b f e
def yo:=aZ la λc l=>bV l (W3 u b c (ba b a8))
def wu:=fK h.aj c true 7 λe=>aD h.aj e λf g=>aD h.aj d λi k=>dJ b (.a0 [f,i]) (aA g (aA k [])) h
def SM:bI u:=cb h.aj 8 c aL λe=>bt 0 e λf=>aW h.aj true 7 f λg=>aX b none 7 d g h λ_ i=>wu b d dh i
def Bs:bI (f,g,i,k,l):=bX c m bG λn=>aP n (SM u b d e h) (j1 e h)
def Gs:=bq false c λe=>bY e aS λf=>b0 f true (cb h.aj 8 c aL λg=>bt 7 g λi=>aW h.aj false 1 i λk=>bq false k λl=>bY l aL λm=>Bs u b j1 f c d c g i k l m h) (Bs u b j1 f c d ay ay ay ay ay ay h)
def FB:=bq false c λe=>bY e aL λf=>aP f (bH u b none 37 [aL] [] h λg i=>aX b none 7 d g i λ_ k=>wu b d dh k) (Gs u b (λl m=>eT dx λn=>aX b none 7 l n m λ_ o=>wu b l bG o) c d h)
def Cj:=ci 54 b 2 none dx h λd e=>FB u b c d e
def uL:=aZ la λc l=>bV l (Cj u b c (ba b a8))
def QX:=aD h.aj c λe f=>aD h.aj d λg i=>dJ b (.a0 [e,g]) (aA f (aA i [])) h
def xz:=dd u b 184 [c] [] h λd e=>bS d 0 λf=>bS d 1 λg=>QX b f g e
def Qb:=aW h.aj true 7 c λq=>ce u b 160 d q h λw x=>cC 0 7 w fX λy=>cC 7 1 e y λz=>eT z λA=>cj x.aj 8 0 A (cG 1 fX) λB C=>c6 b 2088 none 120 8 1 false B (aA C []) x λD E=>eC b 2089 none 120 8 136 f D true E λG H=>j9 g G i k l m n o p H
def Uw:=aW h.aj false 1 c λq=>cj h.aj 1 0 d (cG 2 [.aE]) λr s=>cj h.aj 1 1 q r λt v=>c6 b 2076 none 30 1 2 false t (aA s (aA v [])) h λw x=>aD x.aj w λy z=>dd u b 181 [y] (aA z []) x λA B=>dd u b 182 [A,(.bu (.func (.func 183) #[] #[]))] [] B λ_ C=>bt 0 e λD=>aW C.aj true 7 D λE=>bt 0 f λG=>Qb u b j9 G E A g i e k l m n o p C
def Pf:=cb h.aj 8 k m λn=>aW h.aj true 8 n λo=>ci 120 b 10 none fX h λp q=>aX b none 8 p o q λ_ r=>bp 7 e r λt=>bt 7 p λv=>Uw u b (λw x y z A B C D E G=>bR E aS λH=>j9 w x y z A B C D H G) v t e p d c f g i k l m r
def wQ:=cm m l λn=>aP n (Pf u b j9 c d e f g i k l m h) (j5 c d f g i h)
def Qq:=cb h.aj 8 e g λi=>aW h.aj true 8 i λk=>ci 120 b 8 none fX h λl m=>aX b none 8 l k m λ_ n=>bq false c λo=>zl 1 6 8 12 13 14 18 19 20 1000000 (wQ u b (λp q r s t v=>bR t aS λw=>j5 p q r s w v)) c d l e f g c o aL n
def p2:=cm g f λi=>aP i (Qq u b j5 c d e f g h) (j1 d h)
def ayo:=bq false c λe=>fs 1 6 12 13 14 1000000 (p2 u b (xz u b)) d .aE c e aL h
def w1:=aZ la λc l=>aZ l λd l=>bV l (ayo u b c d (ba b a8))
def wF:=bj b c h
def P5:bI u:=cb h.aj 8 c e λf=>aW h.aj true 8 f λg=>ci 120 b 4 none fX h λi k=>aX b none 8 i g k λ_ l=>bp 7 i l λn=>bq false n λo=>fw o jf λp=>aP p (wF b dh l) ((bR e aS λq=>j3 c d q l))
def wX:=cm e d λf=>aP f (P5 u b j3 c d e h) (j0 h)
def NR:=bq false c λd=>fM 5 6 7 1000000 (wX u b (λe=>wF b bG e)) c d aL h
def yK:=aZ la λc l=>bV l (NR u b c (ba b a8))
def yF:=fK h.aj c true 11 λd=>bj b d h
def SL:=aJ b [3] true 11 c h λi=>met b [] [d,i]<| cj h.aj 11 0 d (cG 2 ca) λk l=>cj h.aj 11 1 i k λm n=>c6 b 2078 (some [2078]) 56 11 2 false m (aA l (aA n [])) h λo p=>met b [2078] [o]<| aD p.aj o λq r=>bH u b (some []) 122 [(.s 8 0x62696e6172792d2b),q] (aA r []) p λs t=>met b [3] [c]<| aX b (some [3]) 11 c s t λ_ v=>j4 e f c g v
def TR:=bZ b [] 8 c f h λg=>aJ b [] true 8 g h λi=>met b [] [i]<| aD h.aj i λk l=>bH u b (some []) 186 [k] (aA l []) h λm n=>SL u b (λo p q r s=>cP r aS λt=>j4 o p q t s) e m c d f n
def tq:=il f aL λg=>aP g (TR u b j4 c d e f h) (j2 d e h)
def Vj:=bg u b 186 c h λi k=>ci 56 b 3 none ca k λl m=>aX b none 11 l i m λ_ n=>bq false d λo=>cP o cZ λp=>du 0 2 3 4 1000000 (tq u b (λq r s=>aW s.aj true 11 r λt=>aX b none 11 q t s λ_ v=>yF b q v)) d e l p n
def Sh:=bq false c λe=>cP e aS λf=>cb h.aj 8 c f λg=>aW h.aj true 8 g λi=>Vj u b i c d h
def Vx:=bH u b none 37 [aL] [] h λd e=>bg u b 185 d e λi k=>aX b none 11 c i k λ_ l=>yF b c l
def OV:=ci 56 b 2 none ca h λd e=>bq false c λf=>bY f aL λg=>aP g (Vx u b d e) (Sh u b c d e)
def y9:=aZ la λc l=>bV l (OV u b c (ba b a8))
def Xu:=fK h.aj c true 11 λd=>bj b d h
def abS:=dz 54 b 1 none c h λd e=>ci 56 b 2 none ca e λf g=>aW g.aj true 7 d λi=>bg u b 185 i g λm n=>aX b none 11 f m n λ_ o=>Xu b f o
def BY:=aZ la λc l=>bV l (abS u b c (ba b a8))
def aCG:=fK h.aj c true 11 λd=>bj b d h
def ajU:=ci 56 b 4 none ca h λe f=>cC 0 1 (.s 4 0x6c697370) [(.s 0 0),(.s 0 0)] λg=>cC 1 1 c g λi=>eT i λk=>ce u b 187 k d f λp q=>aX b none 11 e p q λ_ r=>aCG b e r
def acB:=aZ la λc l=>aZ l λd l=>bV l (ajU u b c d (ba b a8))
def WG:=fK h.aj c true 11 λd=>bj b d h
def aeB:=dz 56 b 1 none c h λd e=>ci 56 b 2 none ca e λf g=>aW g.aj true 11 d λi=>cj g.aj 11 0 i (cG 1 ca) λk l=>c6 b 2052 none 56 11 1 false k (aA l []) g λm n=>aD n.aj m λo p=>bH u b none 122 [(.s 3 0x6e6f74),o] (aA p []) n λq r=>aX b none 11 f q r λ_ s=>WG b f s
def Cd:=aZ la λc l=>bV l (aeB u b c (ba b a8))
def aDU:=bj b c h
def aod:bI u:=cb h.aj 11 c d λi=>aW h.aj true 11 i λk=>cj h.aj 11 0 k (cG 1 ca) λl m=>c6 b 2093 none 56 11 1 false l (aA m []) h λn o=>eC b 2094 none 56 11 176 e n false o λp q=>bR d aS λr=>j5 c f p r g q
def aAj:bI u:=cb h.aj 11 c d λi=>aW h.aj true 11 i λk=>cj h.aj 11 0 k (cG 1 ca) λl m=>c6 b 2102 none 56 11 1 false l (aA m []) h λn o=>eC b 2103 none 56 11 176 e n false o λp q=>bR d aS λr=>j5 f c p g r q
def ahl:=bX c dh k λl=>aP l (aod u b j5 d e f g i h) (aAj u b j5 g i f d e h)
def agZ:bI (l,m,n,o,p,q,r,s,t):=bC (ahl u b j5 c d e f g i) λj1=>b0 c false (bX k v bG λw=>j1 w h) (j1 ay h)
def aCM:=aJ b [] true 11 c h λi=>bZ b [] 11 d e h λk=>aJ b [] true 11 k h λl=>met b [] [i,l]<| aD h.aj i λm n=>aD h.aj l λo p=>bH u b (some []) 188 [m,o] (aA n (aA p [])) h λq r=>kt q aL λs=>j10 f g c i d e k l q s r
def ajO:bI (k,l,m,n):=bC (agZ u b j5 c d e f g i o) λj10=>b0 o true (bZ b [] 11 d e h λp=>aCM u b j10 p g i d e h) (j10 ay ay ay ay ay ay ay ay ay ay h)
def asM:=bq false d λi=>bY g i λk=>bC (ajO u b j5 k c f e d g) λa=>b0 k false (bq false c λl=>cm f l λm=>a f c l m m h) (a ay ay ay ay ay h)
def azT(u:Fn)(b:Nat)(j5:kb)(j1:gx)(c d e f g i k l m n:an)(h:aI):aw:=bX c dh n λo=>aP o (j5 d e f g i h) (j1 f h)
def ajl:=bC (asM u b j5) λa=>bq false c λi=>cm f i λk=>bC (azT u b a j1 k c d e f g) λj4=>b0 k false (bq false d λl=>cm g l λm=>j4 g d l m h) (j4 ay ay ay ay h)
def ajA:=bC (λe f=>aDU b e f) λj1=>ft [0,1,5,6,7] 1000000 (ajl u b j1) c d .aE aL aL h
def abD:=aZ la λc l=>aZ l λd l=>bV l (ajA u b c d (ba b a8))
def RP:=bj b c h
def ZB:=bg u b 157 c h λf g=>RP b f g
def CT:=aZ la λc l=>bV l (ZB u b c (ba b a8))
def zW:=fK h.aj c true 11 λd=>bj b d h
def NU:=aJ b [5] true 11 c h λi=>met b [] [d,i]<| cj h.aj 11 0 d (cG 2 ca) λk l=>cj h.aj 11 1 i k λm n=>c6 b 2092 (some [2092]) 56 11 2 false m (aA l (aA n [])) h λo p=>met b [2092] [o]<| aD p.aj o λq r=>bH u b (some []) 62 [(.s 8 0x62696e6172792d2a),q] (aA r []) p λs t=>met b [5] [c]<| aX b (some [5]) 11 c s t λ_ v=>j4 e f c g v
def Mm:=bZ b [2071,2073] 11 d f h λg=>aJ b [2071,2073] true 11 g h λi=>NU u b (λk l m n o=>cP n aS λp=>j4 k l m p o) e i c d f h
def rO:=il f aL λg=>aP g (Mm u b j4 c d e f h) (j2 c e h)
def KC:=aW h.aj true 11 c λf=>ci 56 b 5 none ca h λg i=>aX b none 11 g f i λ_ k=>bq false d λl=>cP l cZ λm=>du 2 4 5 6 1000000 (rO u b (λn o p=>aW p.aj true 11 o λq=>aX b none 11 n q p λ_ r=>zW b n r)) e d g m k
def CN:=bq false d λe=>cP e aS λf=>cb h.aj 11 d f λg=>KC u b g d c h
def ab0:bI u:=aW h.aj true 11 c λf=>cj h.aj 11 0 f (cG 1 ca) λg i=>c6 b 2071 none 56 11 1 false g (aA i []) h λk l=>eC b 2073 none 56 11 176 k d false l λm n=>j2 e m n
def Pw:=aJ b [1] true 7 c h λg=>bH u b (some []) 60 [aS] [] h λi k=>met b [] [g,i]<| aD k.aj g λl m=>aD k.aj i λn o=>bH u b (some []) 65 [l,n] (aA m (aA o [])) k λp q=>ht p λr=>aP r (ab0 u b j2 d e f q) (j2 f e q)
def MV:=bp 7 c h λg=>bt 0 c λi=>Pw u b (CN u b) i e g d h
def Jz:=bp 7 c h λg=>bq false g λi=>bY i aL λk=>aP k (aW h.aj true 11 d λl=>aX b none 11 e l h λ_ m=>zW b e m) (MV u b c e d h)
def IA:=dz 120 b 1 none c h λd e=>ci 56 b 2 none ca e λf g=>bt 0 d λi=>aW g.aj true 7 i λk=>bg u b 59 k g λn o=>ci 56 b 3 none ca o λp q=>aX b none 11 p n q λ_ r=>Jz u b d p f r
def xt:=aZ la λc l=>bV l (IA u b c (ba b a8))
def aD2:=fK h.aj c true 7 λd=>bj b d h
def agu:bI u:=dz 52 b 1 none c h λd e=>ci 54 b 2 none dx e λf g=>aW g.aj true 2 d λi=>cC 0 1 cZ dx λk=>cC 3 2 i k λl=>eT l λm=>aX b none 7 f m g λ_ n=>aD2 b f n
def adm:=aZ la λc l=>bV l (agu u b c (ba b a8))
def Cv:=fK h.aj c true 7 λd=>bj b d h
def ab9:=aJ b [] true 7 c h λi=>aJ b [3] true 7 d h λk=>met b [] [i,k]<| aD h.aj i λl m=>aD h.aj k λn o=>bH u b (some []) 130 [l,n] (aA m (aA o [])) h λp q=>met b [3] [d]<| aX b (some [3]) 7 d p q λ_ r=>j4 e f d g r
def aal:=bZ b [] 7 c f h λg=>ab9 u b (λi k l m n=>cP m aS λo=>j4 i k l o n) g e c d f h
def AH:=il f aL λg=>aP g (aal u b j4 c d e f h) (j2 d e h)
def RT:=bH u b none 66 [] [] h λe f=>ci 54 b 3 none dx f λg i=>aX b none 7 g e i λ_ k=>bq false c λl=>cP l aS λm=>du 0 2 3 4 1000000 (AH u b (λn o p=>aW p.aj true 7 o λq=>aX b none 7 n q p λ_ r=>Cv b n r)) c d g m k
def OM:=ci 54 b 2 none dx h λd e=>RT u b c d e
def zA:=aZ la λc l=>bV l (OM u b c (ba b a8))
def Z6:=fK h.aj c true 7 λd=>bj b d h
def aae:bI u:=ci 54 b 4 none dx h λe f=>aW f.aj true 7 c λg=>aW f.aj true 7 d λi=>cj f.aj 7 0 g (cG 2 dx) λk l=>cj f.aj 7 1 i k λm n=>c6 b 2055 none 54 7 2 false m (aA l (aA n [])) f λo p=>cC 0 1 jf dx λq=>cC 6 1 o q λr=>eT r λs=>aX b none 7 e s p λ_ t=>Z6 b e t
def PV:=dz 54 b 2 none c h λe f=>dz 54 b 3 none d f λg i=>aae u b e g i
def zD:=aZ la λc l=>aZ l λd l=>bV l (PV u b c d (ba b a8))
def Wh:=aD h.aj c λe f=>aD h.aj d λg i=>dJ b (.a0 [e,g]) (aA f (aA i [])) h
def aql:=bC (λe f=>Wh b e dh f) λj1=>aW h.aj true 7 c λg=>bg u b 197 g h λl m=>ht l λn=>aP n (Wh b .aE bG m) (j1 d m)
def ay0:bI u:=cb h.aj 7 c aL λf=>aW h.aj true 7 f λg=>cj h.aj 7 0 g (cG 1 dx) λi k=>c6 b 2060 none 54 7 1 false i (aA k []) h λl m=>eC b 2061 none 54 7 112 d l false m λn o=>bp 6 e o λq=>cb o.aj 7 q aS λr=>aW o.aj true 7 r λs=>aX b none 7 e s o λ_ t=>j2 e n t
def aEu(u:Fn)(b:Nat)(a j:gT)(c d:an)(h:aI):aw:=bC (λe f g=>bp 6 e g λk=>ay0 u b j k f e g) λj2=>aW h.aj true 7 c λl=>bg u b 196 l h λo p=>aP o (j2 c d p) (a c d p)
def ajY:=dz 54 b 1 none c h λd e=>bC (aql u b) λj2=>ft [1,4] 1000000 (aEu u b j2) d .aE e
def aa4:=aZ la λc l=>bV l (ajY u b c (ba b a8))
def HU:=bj b c h
def QC:bI u:=dz 56 b 1 none c h λd e=>bp 0 d e λg=>eQ g gg λi=>aP i (HU b .aE e) ((bp 10 d e λl=>HU b l e))
def tY:=aZ la λc l=>bV l (QC u b c (ba b a8))
def pC:=aD h.aj c λe f=>aD h.aj d λg i=>dJ b (.a0 [e,g]) (aA f (aA i [])) h
def abw:bI u:=aJ b [1] true 11 c h λe=>met b [] [e]<| cj h.aj 11 0 e (cG 1 ca) λf g=>c6 b 2150 (some [2150]) 56 11 1 false f (aA g []) h λi k=>cC 0 7 d fX λl=>cC 7 1 i l λm=>eT m λn=>met b [2150] [n]<| cj k.aj 8 0 n (cG 1 fX) λo p=>c6 b 2152 (some [2152]) 120 8 1 false o (aA p []) k λq r=>pC b q aL r
def XA:=bt 3 c λd=>aW h.aj true 7 d λe=>bg u b 204 e h λi k=>bS i 0 λl=>bS i 1 λm=>pC b l m k
def Sz:=ce u b 118 c d h λk l=>bS k 0 λm=>bS k 1 λn=>pC b m n l
def abh:=ce u b 156 c d h λk l=>bS k 0 λm=>bS k 1 λn=>pC b m n l
def Qo:=bt 1 c λf=>bp 1 f h λi=>bY i (.s 8 0x62696e6172792d2b) λk=>aP k (abh u b d e h) (j2 d e h)
def Ns:=aW h.aj true 11 c λf=>bg u b 154 f h λk l=>bS k 0 λm=>bS k 1 λn=>eQ n aL λo=>aP o (pC b .aE n l) (Qo u b (Sz u b) d e m l)
def O6:=bp 10 c h λf=>cb h.aj 11 f aS λg=>Ns u b g c d h
def Ow:=aW h.aj true 11 c λe=>bg u b 154 e h λi k=>bS i 0 λl=>bS i 1 λm=>eQ m aL λn=>aP n (pC b .aE m k) (O6 u b d l k)
def Ib:=bp 10 c h λe=>cb h.aj 11 e aL λf=>Ow u b f c h
def ad3:=bH u b none 37 [fC] [] h λd e=>ce u b 155 c d e λl m=>bS l 0 λn=>bS l 1 λo=>pC b n o m
def Us:=aW h.aj true 11 c λd=>bg u b 154 d h λg i=>bS g 0 λk=>bS g 1 λl=>eQ l aL λm=>aP m (pC b .aE l i) (ad3 u b k i)
def Z7:=bp 10 c h λe=>cb h.aj 11 e aL λf=>Us u b f h
def aos:=aW h.aj false 1 c λd=>cb h.aj 11 d aL λe=>bt 3 e λf=>aW h.aj true 7 f λg=>bg u b 165 g h λl m=>bg u b 204 l m λp q=>bS p 0 λr=>bS p 1 λs=>pC b r s q
def N5:bI (e,f,g,i,k):=bX c l bG λm=>aP m (bt 10 d λn=>aos u b n h) (j1 d h)
def ahh:bI (u,b):=bt 10 c λd=>aW h.aj false 1 d λe=>cb h.aj 11 e aL λf=>bt 0 f λg=>aW h.aj false 1 g λi=>bY i cZ λk=>j6 d e f g i k h
def Tl:=aW h.aj true 11 c λd=>aD h.aj d λe f=>bH u b none 98 [e,(.s 7 0x756e6172792d2f),aS] (aA f []) h λg i=>b0 g true (ahh u b (N5 u b j1 g c) c i) (N5 u b j1 g c ay ay ay ay ay ay i)
def Hk:=aW h.aj true 11 c λd=>aD h.aj d λe f=>bH u b none 98 [e,(.s 7 0x756e6172792d2d),aS] (aA f []) h λg i=>aP g (Z7 u b c i) (Tl u b j1 c i)
def GY:=aW h.aj true 11 c λd=>aD h.aj d λe f=>bH u b none 98 [e,(.s 8 0x62696e6172792d2a),cZ] (aA f []) h λg i=>j2 c g i
def El:=aW h.aj true 11 c λd=>aD h.aj d λe f=>bH u b none 98 [e,(.s 8 0x62696e6172792d2b),cZ] (aA f []) h λg i=>aP g ((aP g (Ib u b c i) (Hk u b j1 c i))) (GY u b (λk l m=>aP l (Ib u b k m) (Hk u b j1 k m)) c i)
def A0:=dz 56 b 1 none c h λd e=>bp 0 d e λg=>bY g cZ λi=>aP i (XA u b d e) (El u b (λk l=>bH u b (some []) 37 [aS] [] l λm n=>abw u b k m n) d e)
def lV:=aZ la λc l=>bV l (A0 u b c (ba b a8))
def KV:=aD h.aj c λe f=>aD h.aj d λg i=>dJ b (.a0 [e,g]) (aA f (aA i [])) h
def Bf:=dd u b 184 [c] [] h λd e=>bS d 0 λf=>bS d 1 λg=>KV b f g e
def XI:bI u:=aJ b [8] false 1 c h λl=>cC 0 7 d fX λm=>cC 7 1 l m λn=>eT n λo=>met b [] [o]<| cj h.aj 8 0 o (cG 1 fX) λp q=>c6 b 2071 (some [2071]) 120 8 1 false p (aA q []) h λr s=>met b [2072,2071] [e,r]<| eC b 2072 (some [2072,2072]) 120 8 136 e r true s λt v=>j5 f t g i k v
def aeJ:=bt 0 c λk=>aJ b [8] true 7 k h λl=>aJ b [3] true 7 d h λm=>met b [] [l,m]<| aD h.aj l λn o=>aD h.aj m λp q=>bH u b (some []) 160 [n,p] (aA o (aA q [])) h λr s=>bt 7 c λt=>XI u b j5 t r e d f g i s
def Xh:=cb h.aj 8 e g λi=>aW h.aj true 8 i λk=>ci 120 b 8 none fX h λl m=>aX b none 8 l k m λ_ n=>aeJ u b (λo p q r s t=>bR s aS λv=>j5 o p q r v t) l c d e f g n
def yh:=cm g f λi=>aP i (Xh u b j5 c d e f g h) (j1 d h)
def aCr:=dz 54 b 3 none c h λe f=>bq false d λg=>fs 3 6 9 10 11 1000000 (yh u b (Bf u b)) e .aE d g aL f
def C0:=aZ la λc l=>aZ l λd l=>bV l (aCr u b d c (ba b a8))
def G0:=aD h.aj c λe f=>aD h.aj d λg i=>dJ b (.a0 [e,g]) (aA f (aA i [])) h
def aeX:=cj h.aj 1 0 c (cG 2 [.aE]) λe f=>cj h.aj 1 1 d e λg i=>c6 b 2056 none 98 1 2 false g (aA f (aA i [])) h λk l=>aD l.aj k λm n=>dd u b 205 [m] (aA n []) l λo p=>dd u b 184 [o] [] p λq r=>bS q 0 λs=>bS q 1 λt=>G0 b s t r
def CV:=aZ la λc l=>aZ l λd l=>bV l (aeX u b c d (ba b a8))
def acW:=fK h.aj c true 7 λd=>bj b d h
def WF:=met b [] [c,d]<| aD h.aj c λg i=>aD h.aj d λk l=>bH u b (some []) 211 [g,k] (aA i (aA l [])) h λm n=>met b [] [e,m]<| aD n.aj e λo p=>aD n.aj m λq r=>bH u b (some []) 210 [o,q] (aA p (aA r [])) n λs t=>met b [4] [f]<| aX b (some [4]) 7 f s t λ_ v=>acW b f v
def ab5:=met b [] [c,d]<| aD h.aj c λi k=>aD h.aj d λl m=>bH u b (some []) 211 [i,l] (aA k (aA m [])) h λn o=>bt 2 e λp=>aJ b [2] false 1 p o λq=>bt 2 f λr=>aJ b [3] false 1 r o λs=>WF u b q s n g o
def R9:=met b [2] [c]<| aX b (some [2]) 7 c d h λ_ i=>met b [3] [e]<| aX b (some [3]) 7 e f i λ_ k=>bt 1 c λl=>aJ b [2] false 1 l k λm=>bt 1 e λn=>aJ b [3] false 1 n k λo=>ab5 u b m o c e g k
def Ud:=aJ b [2] true 7 c h λf=>met b [] [f]<| aD h.aj f λg i=>bH u b (some []) 209 [g] (aA i []) h λk l=>aJ b [3] true 7 d l λm=>met b [] [m]<| aD l.aj m λn o=>bH u b (some []) 209 [n] (aA o []) l λp q=>R9 u b c k d p e q
def aaA:=dz 54 b 2 none c h λe f=>dz 54 b 3 none d f λg i=>ci 54 b 4 none dx i λk l=>Ud u b e g k l
def Fe:=aZ la λc l=>aZ l λd l=>bV l (aaA u b c d (ba b a8))
def CP:=bj b c h
def YY:=bp 6 d h λg=>cb h.aj 7 g aS λi=>aW h.aj true 7 i λk=>cP c e λl=>ce u b 169 k l h λq r=>bR e q λs=>CP b s r
def S9:=cP c aS λf=>ce u b 169 d f h λm n=>bR aS m λo=>il o c λp=>aP p (CP b c n) (YY u b c e o n)
def PB:=bp 6 d h λf=>cb h.aj 7 f aL λg=>aW h.aj true 7 g λi=>S9 u b c i d h
def Ka:bI (u,f):=bX c dh g λi=>aP i (CP b aS h) (j2 d e h)
def PL:=bp 6 c h λf=>bq false f λg=>eQ g cZ λi=>b0 i false (kt d aS λk=>Ka u b (PB u b) i d c d k h) (Ka u b (PB u b) i d c ay ay h)
def Li:=dz 54 b 2 none c h λe f=>PL u b e d f
def A6:=aZ la λc l=>aZ l λd l=>bV l (Li u b c d (ba b a8))
def Ug:=aD h.aj c λe f=>aD h.aj d λg i=>dJ b (.a0 [e,g]) (aA f (aA i [])) h
def atI:=ce u b 220 c d h λn o=>bS n 0 λp=>bS n 1 λ_=>sy true e f λq=>ce u b 180 q g o λw x=>aD x.aj p λy z=>bH u b none 180 [bG,y] (aA z []) x λA B=>Ug b w A B
def awO:=ce u b 219 c d h λo p=>bg u b 179 o p λs t=>bS s 0 λ_=>bS s 1 λv=>ce u b 220 e v t λA B=>bS A 0 λC=>bS A 1 λ_=>atI u b f v g i C B
def aiV:=bg u b 179 c h λk l=>bS k 0 λm=>bS k 1 λn=>awO u b c d n f m e l
def alx:=bg u b 179 c h λg i=>bS g 0 λk=>bS g 1 λl=>bq false l λm=>bY m aL λn=>aP n (Ug b (.s 1 0x30) (.s 1 0x31) i) (aiV u b d c k l i)
def abV:=aZ la λc l=>aZ l λd l=>bV l (alx u b d c (ba b a8))
def avy:=bj b c h
def avb:=bg u b 179 c h λf g=>bS f 0 λ_=>bS f 1 λi=>bq false i λk=>c8 (pR true aS k) λl=>avy b l g
def abJ:=aZ la λc l=>bV l (avb u b c (ba b a8))
def asB:=bj b c h
def aj3:bI (u,e,f,g):=bX c i bG λk=>bC (λ_ _ _ l m=>bX k l bG λn=>asB b n m) λj4=>b0 k true (bt 1 d λo=>aW h.aj false 1 o λp=>bq true p λq=>kt q n40 λr=>j4 o p q r h) (j4 ay ay ay ay h)
def ak4:=aW h.aj false 1 c λe=>bg u b 221 e h λi k=>bC (aj3 u b i d) λj4=>b0 i true (bt 1 d λl=>aW k.aj false 1 l λm=>bq true m λn=>il n aS λo=>j4 l m n o k) (j4 ay ay ay ay k)
def azB:=dz 52 b 1 none c h λd e=>bt 0 d λf=>ak4 u b f d e
def R2:=aZ la λc l=>bV l (azB u b c (ba b a8))
def qG:=aD h.aj c λe f=>aD h.aj d λg i=>dJ b (.a0 [e,g]) (aA f (aA i [])) h
def Y1:=cC 0 7 c fX λe=>cC 7 1 d e λf=>eT f λg=>met b [2147] [g]<| cj h.aj 8 0 g (cG 1 fX) λi k=>c6 b 2149 (some [2149]) 120 8 1 false i (aA k []) h λl m=>met b [2149] [l]<| aD m.aj l λn o=>bH u b (some []) 110 [n] (aA o []) m λp q=>bS p 0 λr=>bS p 1 λs=>qG b r s q
def Om:=bH u b (some []) 60 [aS] [] h λd e=>aJ b [1] true 11 c e λf=>met b [] [f]<| cj e.aj 11 0 f (cG 1 ca) λg i=>c6 b 2147 (some [2147]) 56 11 1 false g (aA i []) e λk l=>Y1 u b d k l
def R4:=ce u b 58 c d h λk l=>bS k 0 λm=>bS k 1 λn=>qG b m n l
def ZP:=ce u b 44 c d h λk l=>bS k 0 λm=>bS k 1 λn=>qG b m n l
def KQ:=bt 1 c λf=>bp 1 f h λi=>bY i (.s 8 0x62696e6172792d2b) λk=>aP k (ZP u b d e h) (R4 u b d e h)
def Qj:=aW h.aj true 11 c λf=>bg u b 173 f h λk l=>bS k 0 λm=>bS k 1 λn=>eQ n aL λo=>aP o (qG b .aE n l) (KQ u b d e m l)
def Kz:=bp 10 c h λf=>cb h.aj 11 f aS λg=>Qj u b g c d h
def Lr:=aW h.aj true 11 c λe=>bg u b 173 e h λi k=>bS i 0 λl=>bS i 1 λm=>eQ m aL λn=>aP n (qG b .aE m k) (Kz u b d l k)
def JR:=bp 10 c h λe=>cb h.aj 11 e aL λf=>Lr u b f c h
def UO:=bH u b none 60 [fC] [] h λd e=>ce u b 43 c d e λl m=>bS l 0 λn=>bS l 1 λo=>qG b n o m
def aaX:=aW h.aj true 11 c λd=>bg u b 173 d h λg i=>bS g 0 λk=>bS g 1 λl=>eQ l aL λm=>aP m (qG b .aE l i) (UO u b k i)
def WU:=bp 10 c h λe=>cb h.aj 11 e aL λf=>aaX u b f h
def amh:=aW h.aj false 1 c λd=>cb h.aj 11 d aL λe=>bt 3 e λf=>aW h.aj true 7 f λg=>bg u b 55 g h λl m=>bg u b 222 l m λp q=>bS p 0 λr=>bS p 1 λs=>qG b r s q
def Lw:bI (e,f,g,i,k):=bX c l bG λm=>aP m (bt 10 d λn=>amh u b n h) (j1 d h)
def aia:bI (u,b):=bt 10 c λd=>aW h.aj false 1 d λe=>cb h.aj 11 e aL λf=>bt 0 f λg=>aW h.aj false 1 g λi=>bY i cZ λk=>j6 d e f g i k h
def abr:=aW h.aj true 11 c λd=>aD h.aj d λe f=>bH u b none 85 [e,(.s 7 0x756e6172792d2f),aS] (aA f []) h λg i=>b0 g true (aia u b (Lw u b j1 g c) c i) (Lw u b j1 g c ay ay ay ay ay ay i)
def JB:=aW h.aj true 11 c λd=>aD h.aj d λe f=>bH u b none 85 [e,(.s 7 0x756e6172792d2d),aS] (aA f []) h λg i=>aP g (WU u b c i) (abr u b j1 c i)
def Ji:=aW h.aj true 11 c λd=>aD h.aj d λe f=>bH u b none 85 [e,(.s 8 0x62696e6172792d2a),cZ] (aA f []) h λg i=>j2 c g i
def BM:=aW h.aj true 11 c λd=>aD h.aj d λe f=>bH u b none 85 [e,(.s 8 0x62696e6172792d2b),cZ] (aA f []) h λg i=>aP g ((aP g (JR u b c i) (JB u b (Om u b) c i))) (Ji u b (λk l m=>aP l (JR u b k m) (JB u b (Om u b) k m)) c i)
def abe:=bt 3 c λd=>aW h.aj true 7 d λe=>bg u b 222 e h λi k=>bS i 0 λl=>bS i 1 λm=>qG b l m k
def yB:=dz 56 b 1 none c h λd e=>bp 0 d e λg=>bY g cZ λi=>aP i (abe u b d e) (BM u b d e)
def lT:=aZ la λc l=>bV l (yB u b c (ba b a8))
def SP:=bj b c h
def Wi:=bg u b 179 c h λi k=>bS i 0 λl=>bS i 1 λm=>sy true d l λn=>ce u b 223 e m k λs t=>ce u b 180 n s t λz A=>SP b z A
def RD:=bg u b 179 c h λg i=>bS g 0 λk=>bS g 1 λl=>Wi u b d k l i
def DC:=aZ la λc l=>aZ l λd l=>bV l (RD u b c d (ba b a8))
def wv:=bj b c h
def MY:bI (u,f,g,i,k,l,m,n):=bX c o bG λp=>aP p (wv b bG h) (j2 d e h)
def acq:=bZ b [] 8 c d h λg=>aJ b [] true 8 g h λi=>aJ b [4] true 8 e h λk=>met b [] [i,k]<| aD h.aj i λl m=>aD h.aj k λn o=>bH u b (some []) 176 [l,n] (aA m (aA o [])) h λp q=>il p aL λr=>j8 c f d g i k p r q
def KS:=fw d aL λf=>bC (MY u b j2 f c d) λj8=>b0 f true (cP d aS λg=>acq u b j8 c g e d h) (j8 ay ay ay ay ay ay ay ay h)
def NO:bI u:=bX c dh i λk=>aP k (wv b bG h) (j4 d e f g h)
def EG:bI (k,l,m,n,o,p,q,r,s,t,v,w):=bC (NO u b j4 c d e f g) λj1=>b0 c false (bX i x bG λy=>j1 y h) (j1 ay h)
def V2:=aJ b [4] false 1 c h λl=>bZ b [] 11 l d h λm=>aJ b [] true 11 m h λn=>met b [] [e,n]<| aD h.aj e λo p=>aD h.aj n λq r=>bH u b (some []) 188 [o,q] (aA p (aA r [])) h λs t=>fw s aL λv=>j13 f g d i k e c l d m n s v t
def Ua:=bt 7 c λe=>aJ b [4] false 1 e h λf=>cP d aS λg=>bZ b [] 11 f g h λi=>aJ b [] true 11 i h λk=>bt 7 c λl=>V2 u b j13 l d k e f g i h
def adO:bI (i,k):=bC (EG u b j4 c d e f g l) λj13=>b0 l true (Ua u b j13 f g h) (j13 ay ay ay ay ay ay ay ay ay ay ay ay ay h)
def aa1:=aJ b [] true 11 c h λi=>met b [] [i]<| aD h.aj i λk l=>bH u b (some []) 199 [k] (aA l []) h λm n=>ht m λo=>bC (adO u b j4 o d e f g) λj3=>b0 o false (fw g aL λp=>j3 g p p n) (j3 ay ay ay n)
def XN:=bt 7 e λg=>aJ b [4] false 1 g h λi=>bZ b [] 11 i f h λk=>aa1 u b (λl m n o p=>bR o aS λq=>j4 l m n q p) k c d e f h
def x0:=bp 7 e h λi=>bq false i λk=>cm f k λl=>aP l (XN u b j4 c d e f h) (j3 c d e h)
def ab3:=du 0 3 4 5 1000000 (x0 u b (KS u b j2)) c d e aL h
def RH:bI (u,g,i,k):=bX c dh l λm=>aP m (wv b bG h) (j3 d e f h)
def RL:bI (g,i):=bX c dh k λl=>bC (RH u b j3 l d e f) λj4=>b0 l false (bt 7 f λm=>aW h.aj false 1 m λn=>bq false n λo=>fw o vW λp=>j4 m n o p h) (j4 ay ay ay ay h)
def aav:=bg u b 39 c h λk l=>ht k λm=>bC (RL u b j3 m d e f) λa=>b0 m false (bt 0 f λn=>aW l.aj true 7 n λo=>bg u b 41 o l λr s=>a n o r s) (a ay ay ay l)
def UN:=cb h.aj 8 c d λe=>aW h.aj true 8 e λf=>ci 120 b 4 none fX h λg i=>aX b none 8 g f i λ_ k=>bt 0 g λl=>aW k.aj true 7 l λm=>aav u b (ab3 u b (λn o p=>bR o aS λq=>j2 n q p)) m c d g k
def Bq:=bq false c λe=>cm d e λf=>aP f (UN u b j2 c d h) (j0 h)
def Xt:=oq 0 3 1000000 (Bq u b (λd=>wv b dh d)) c aL h
def Tt:=bq false c λd=>fw d Gz λe=>aP e (wv b bG h) (Xt u b c h)
def Ej:=aZ la λc l=>bV l (Tt u b c (ba b a8))
def pf:=bj b c h
def N3:=bZ b [] 11 c d h λi=>aJ b [] true 11 i h λk=>met b [] [e,k]<| aD h.aj e λl m=>aD h.aj k λn o=>bH u b (some []) 188 [l,n] (aA m (aA o [])) h λp q=>eQ p aL λr=>aP r (pf b p q) (j3 f g d q)
def NA:=bt 7 c λf=>aJ b [2] false 1 f h λg=>bZ b [] 11 g e h λi=>aJ b [] true 11 i h λk=>bt 7 d λl=>aJ b [3] false 1 l h λm=>N3 u b (λn o p q=>bR p aS λr=>j3 n o r q) m e k c d h
def tE:=bp 7 c h λg=>bq false g λi=>cm e i λk=>aP k (NA u b j3 c d e h) (j0 h)
def MZ:=fM 2 3 5 1000000 (tE u b (λe=>pf b aL e)) c d aL h
def Na:bI u:=bp 7 c h λf=>bq false f λg=>bp 7 d h λk=>bq false k λl=>cm g l λm=>aP m (pf b fC h) ((pf b aS h))
def Ff:=bp 7 c h λf=>bq false f λg=>bp 7 d h λk=>bq false k λl=>eQ g l λm=>aP m (Na u b c d h) (MZ u b c d h)
def Du:=dz 120 b 2 none c h λe f=>dz 120 b 3 none d f λg i=>Ff u b e g i
def tW:=aZ la λc l=>aZ l λd l=>bV l (Du u b c d (ba b a8))
def Tu:=fK h.aj c true 7 λd=>bj b d h
def abj:=met b [] [c,d]<| aD h.aj c λg i=>aD h.aj d λk l=>bH u b (some []) 174 [g,k] (aA i (aA l [])) h λm n=>met b [] [e,m]<| aD n.aj e λo p=>aD n.aj m λq r=>bH u b (some []) 114 [o,q] (aA p (aA r [])) n λs t=>met b [4] [f]<| aX b (some [4]) 7 f s t λ_ v=>Tu b f v
def VP:=met b [] [c,d]<| aD h.aj c λi k=>aD h.aj d λl m=>bH u b (some []) 224 [i,l] (aA k (aA m [])) h λn o=>bt 2 e λp=>aJ b [5] false 1 p o λq=>bt 2 f λr=>aJ b [6] false 1 r o λs=>abj u b q s n g o
def abg:=bt 1 c λg=>aJ b [6] false 1 g h λi=>bt 2 d λk=>aJ b [5] false 1 k h λl=>met b [] [i,l]<| aD h.aj i λm n=>aD h.aj l λo p=>bH u b (some []) 174 [m,o] (aA n (aA p [])) h λq r=>VP u b e q d c f r
def abx:=bt 1 c λf=>aJ b [5] false 1 f h λg=>bt 2 d λi=>aJ b [6] false 1 i h λk=>met b [] [g,k]<| aD h.aj g λl m=>aD h.aj k λn o=>bH u b (some []) 174 [l,n] (aA m (aA o [])) h λp q=>abg u b d c p e q
def Su:=aJ b [3] true 7 c h λf=>met b [] [f]<| aD h.aj f λg i=>bH u b (some []) 113 [g] (aA i []) h λk l=>ci 54 b 5 (some [5]) dx l λm n=>ci 54 b 6 (some [6]) dx n λo p=>met b [5] [m]<| aX b (some [5]) 7 m d p λ_ q=>met b [6] [o]<| aX b (some [6]) 7 o k q λ_ r=>abx u b m o e r
def aan:=dz 54 b 2 none c h λe f=>dz 54 b 3 none d f λg i=>ci 54 b 4 none dx i λk l=>aJ b [2] true 7 e l λm=>met b [] [m]<| aD l.aj m λn o=>bH u b (some []) 113 [n] (aA o []) l λp q=>Su u b g p k q
def Bv:=aZ la λc l=>aZ l λd l=>bV l (aan u b c d (ba b a8))
def ZI:=aD h.aj c λe f=>aD h.aj d λg i=>dJ b (.a0 [e,g]) (aA f (aA i [])) h
def axP:bI u:=bC (λi k l m n o=>cP n aS λp=>j5 i k l m p o) λa=>iN c g λq=>cP q uB λr=>c8 (hs .i64 r) λs=>cj h.aj 1 0 s (cG 1 [aL]) λt v=>c6 b 2081 none 3 1 1 false t (aA v []) h λw x=>eC b 2082 none 3 1 8 f w false x λy z=>a c d e y g z
def az6:=bC (axP u b j5) λa=>il g e λi=>aP i (a c d e f g h) (j2 d f h)
def aDy:=bC (λf g i=>ZI b f g i) λj2=>bq true c λk=>cP k aS λl=>ft [0,4,5,6,7] 1000000 (az6 u b j2) c d e .aE l h
def asn:=iN c aL λd=>bY d uY λe=>bC (aDy u b) λj3=>aP e (j3 c e aS h) (j3 c e aL h)
def aio:bI (u,e):=bX c dh f λg=>aP g (ZI b bG .aE h) (j1 d h)
def al3:=bC (asn u b) λj1=>bg u b 229 c h λf g=>ht f λi=>bC (aio u b j1 i c) λj2=>b0 i false (bY c (.s 1 0x30) λk=>j2 c k g) (j2 ay ay g)
def Vf:=aZ la λc l=>bV l (al3 u b c (ba b a8))
def Sj:=bj b c h
def ajL:bI u:=bC (λf g i k=>cP i aS λl=>j3 f g l k) λa=>cb h.aj 1 c e λm=>aW h.aj false 1 m λn=>bR amg n λo=>c8 (hs .u8 o) λp=>cj h.aj 1 0 p (cG 1 [wD]) λq r=>c6 b 2078 none 5 1 1 false q (aA r []) h λs t=>eC b 2079 none 5 1 1 d s false t λv w=>a c v e w
def agS:=bC (ajL u b j3) λa=>il e aL λf=>aP f (a c d e h) (j1 d h)
def alM:=bC (λe f=>c8 (In f.aj e) λg=>Sj b g f) λj1=>bq false c λi=>cP i aS λk=>ft [1,5,6] 1000000 (agS u b j1) c d k h
def ajk:bI u:=cj h.aj 1 0 uY (cG 1 [wD]) λd e=>c6 b 2062 none 5 1 1 false d (aA e []) h λf g=>eC b 2063 none 5 1 1 .aE f false g λi k=>j2 c i k
def aBn:=bC (alM u b) λj2=>aP c (ajk u b j2 d h) (j2 d .aE h)
def ajV:=bg u b 230 c h λg i=>bC (aBn u b) λj2=>bq false g λk=>bY k aL λl=>aP l (Sj b (.s 1 0x30) i) (j2 d g i)
def aea:=aZ la λc l=>aZ l λd l=>bV l (ajV u b d c (ba b a8))
def ahu:=mH b [c] [] h
def B4:bI u:=cb h.aj 1 d f λg=>aW h.aj false 1 g λi=>eC b 2081 none 56 11 176 c i true h λk l=>(bR f aS λm=>j4 k d e m l)
def xL:=cm f e λg=>aP g (B4 u b j4 c d e f h) (j1 c h)
def IU:=aD h.aj d λe f=>dd u b 231 [.aE,e] (aA f []) h λg i=>bq false c λk=>du 6 25 26 27 1000000 (xL u b (λl m=>ahu b l m)) g c k aL i
def Q0:bI (u,b):=cb h.aj 1 e g λi=>aW h.aj false 1 i λk=>bq false k λl=>bR d l λm=>cm m aL λn=>aP n (.ax) ((bR g aS λo=>j5 c m e f o h))
def BC:=cm g f λi=>aP i (Q0 u b j5 c d e f g h) (j2 c d h)
def alq:=bq false c λd=>fs 0 3 9 10 11 1000000 (BC u b (IU u b)) c aL c d aL h
def xQ:=aZ la λc l=>bV l (alq u b c (ba b a8))
def arw:=dJ b (.a0 []) [] h
def M8:=bq false c λe=>aD h.aj e λf g=>aD h.aj d λi k=>dd u b 232 [c,f,i] (aA g (aA k [])) h λ_ l=>arw b l
def uO:=aZ la λc l=>aZ l λd l=>bV l (M8 u b c d (ba b a8))
def LP:=bj b c h
def aq0:=aW h.aj true 11 c λe=>aW h.aj true 11 d λf=>ce u b 235 e f h λm n=>LP b m n
def ael:=met b [5] [c]<| i3 b (some [5]) (v7 h.aj 3 c) h λg i=>met b [6] [d]<| i3 b (some [6]) (v7 i.aj 3 d) i λk l=>met b [] [g,k]<| aD l.aj g λm n=>aD l.aj k λo p=>bH u b (some []) 234 [m,o] (aA n (aA p [])) l λq r=>eQ q aL λs=>aP s (LP b q r) (aq0 u b e f r)
def aas:=met b [] [c,d]<| aD h.aj c λi k=>aD h.aj d λl m=>bH u b (some []) 233 [i,l] (aA k (aA m [])) h λn o=>ci 281 b 5 (some [5]) [aL,aL,aL] o λp q=>ci 281 b 6 (some [6]) [aL,aL,aL] q λr s=>met b [5] [p]<| aX b (some [5]) 3 p e s λ_ t=>met b [6] [r]<| aX b (some [6]) 3 r n t λ_ v=>ael u b p r f g v
def RZ:=aJ b [2] true 11 c h λe=>eT [aL,aL,aL] λf=>met b [] [e,f]<| aD h.aj e λg i=>aD h.aj f λk l=>bH u b (some []) 233 [g,k] (aA i (aA l [])) h λm n=>aJ b [3] true 11 d n λo=>eT [aL,aL,aL] λp=>aas u b o p m c d n
def aa5:=dz 56 b 2 none c h λe f=>dz 56 b 3 none d f λg i=>RZ u b e g i
def xx:=aZ la λc l=>aZ l λd l=>bV l (aa5 u b c d (ba b a8))
end
end Go.Hf

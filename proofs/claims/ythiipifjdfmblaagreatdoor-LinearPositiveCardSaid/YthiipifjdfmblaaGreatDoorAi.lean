import Derived.Test.YthiipifjdfmblaaGreatDoorAh
set_option maxRecDepth 100000
set_option linter.all false
namespace Go.Hf
noncomputable section
variable(u:Fn) (la:aB) (b:Nat) (j0:Ba) (j1:gx) (j2:gT) (j3:mj) (j4:mS) (j5:kb) (j6:nP) (j7:sM) (j8:tA) (j9:sZ) (j10:u6) (j11:zv) (j12:KZ) (j13:NW) (j14:Pb) (j15:O9) (j16:N7) (j17:QG) (j18:Ni) (j19:Zq) (c d e f g i k l m n o p q r s t v w x y z A B C D E G H I K:an) (h:aI) (a8:b1)
def ast:=bj b c h
def al9:bI u:=aW h.aj false 1 c λe=>bY e jf λf=>b0 f true (bp 6 d h λi=>bq false i λk=>bY k cZ λl=>(bX f l bG λm=>ast b m h)) ((bX f ay bG λm=>ast b m h))
def akQ:=ip 54 b 1 none c h λd e=>bt 0 d λf=>al9 u b f d e
def RS:=aZ la λc l=>bV l (akQ u b c (ba b a8))
def Hn:=aD h.aj c λe f=>aD h.aj d λg i=>dJ b (.a0 [e,g]) (aA f (aA i [])) h
def ack:=aW h.aj true 7 c λd=>cC 0 7 d fX λe=>eT e λf=>cj h.aj 8 0 f (cG 1 fX) λg i=>c6 b 2057 none 120 8 1 true g (aA i []) h λk l=>fD u b 184 [k] [] l λm n=>bS m 0 λo=>bS m 1 λp=>Hn b o p n
def Zp:=ip 54 b 1 none c h λd e=>bp 0 d e λg=>eQ g aS λi=>aP i (Hn b .aE aL e) (ack u b d e)
def BA:=aZ la λc l=>bV l (Zp u b c (ba b a8))
def apg:=mH b [c] [] h
def DU:bI u:=cb h.aj 1 d f λg=>aW h.aj false 1 g λi=>eC b 2081 none 120 8 136 c i true h λk l=>(bR f aS λm=>j4 k d e m l)
def yn:=cm f e λg=>aP g (DU u b j4 c d e f h) (j1 c h)
def FO:=aD h.aj d λe f=>fD u b 262 [.aE,e] (aA f []) h λg i=>bq false c λk=>du 6 25 26 27 1000000 (yn u b (λl m=>apg b l m)) g c k aL i
def Ps:bI (u,b):=cb h.aj 1 e g λi=>aW h.aj false 1 i λk=>bq false k λl=>bR d l λm=>cm m aL λn=>aP n (.ax) ((bR g aS λo=>j5 c m e f o h))
def Fy:=cm g f λi=>aP i (Ps u b j5 c d e f g h) (j2 c d h)
def ag0:=bq false c λd=>fs 0 3 9 10 11 1000000 (Fy u b (FO u b)) c aL c d aL h
def xJ:=aZ la λc l=>bV l (ag0 u b c (ba b a8))
def M1:=fK h.aj c true 7 λd=>bj b d h
def abo:=bp 0 c h λf=>bY f aS λg=>aP g (aW h.aj true 7 c λi=>aX b none 7 d i h λ_ k=>M1 b d k) ((bH u b none 37 [aL] [] h λl m=>aX b none 7 d l m λ_ n=>M1 b d n))
def RR:=ip 54 b 1 none c h λd e=>ci 54 b 2 none dx e λf g=>abo u b d f g
def C6:=aZ la λc l=>bV l (RR u b c (ba b a8))
def adx:=fK h.aj c true 7 λd=>bj b d h
def TQ:=ce u b 265 c d h λl m=>bS l 0 λn=>bS l 1 λo=>cC 0 1 aS dx λp=>cC 1 1 n p λq=>cC 2 1 o q λr=>eT r λs=>aX b none 7 e s m λ_ t=>adx b e t
def adT:=ci 54 b 4 none dx h λe f=>TQ u b c d e f
def BR:=aZ la λc l=>aZ l λd l=>bV l (adT u b c d (ba b a8))
def OH:=bj b c h
def aty:=met b [] [c,d]<| aD h.aj c λf g=>aD h.aj d λi k=>bH u b (some []) 269 [f,i] (aA g (aA k [])) h λl m=>cC 0 1 e [bG,.aE] λn=>cC 1 1 l n λo=>eT o λp=>met b [] [p]<| aD m.aj p λq r=>bH u b (some []) 270 [q] (aA r []) m λs t=>OH b s t
def ax5:=bt 0 c λf=>aJ b [9] false 1 f h λg=>sy true d g λi=>bt 1 e λk=>aJ b [8] false 1 k h λl=>bt 1 c λm=>aJ b [9] false 1 m h λn=>aty u b l n i h
def asg:=bg u b 268 c h λg i=>bg u b 268 d i λm n=>ci 313 b 8 none [bG,.aE] n λo p=>ci 313 b 9 none [bG,.aE] p λq r=>aX b none 2 o g r λ_ s=>aX b none 2 q m s λ_ t=>bt 0 o λv=>aJ b [8] false 1 v t λw=>ax5 u b q w o t
def R6:=c8 (fA .mul c d) λe=>aD h.aj e λf g=>bH u b none 267 [f,mQ] (aA g []) h λi k=>OH b i k
def acO:=aD h.aj c λe f=>aD h.aj d λg i=>bH u b none 266 [e,g,pQ] (aA f (aA i [])) h λk l=>bS k 0 λm=>bS k 1 λn=>bS k 2 λo=>aP o (R6 u b m n l) (asg u b c d l)
def Bh:=aZ la λc l=>aZ l λd l=>bV l (acO u b c d (ba b a8))
def aCu:=bj b c h
def atV:=bg u b 271 c h λg i=>kt g F3 λk=>bC (λ_ l m=>bX k l bG λn=>aCu b n m) λj2=>b0 k true (aW i.aj true 7 d λo=>bg u b 272 o i λr s=>j2 o r s) (j2 ay ay i)
def ax8:=ip 54 b 1 none c h λd e=>aW e.aj true 7 d λf=>atV u b f d e
def XZ:=aZ la λc l=>bV l (ax8 u b c (ba b a8))
def adh:=bj b c h
def VN:bI u:=ip 54 b 1 none c h λd e=>bp 1 d e λg=>bY g (.s 1 0x30) λi=>adh b i e
def C3:=aZ la λc l=>bV l (VN u b c (ba b a8))
def B1:=fK h.aj c true 7 λd=>bj b d h
def Mu:=met b [] [c,d]<| aD h.aj c λg i=>aD h.aj d λk l=>bH u b (some []) 211 [g,k] (aA i (aA l [])) h λm n=>met b [] [e,m]<| aD n.aj e λo p=>aD n.aj m λq r=>bH u b (some []) 210 [o,q] (aA p (aA r [])) n λs t=>met b [4] [f]<| aX b (some [4]) 7 f s t λ_ v=>B1 b f v
def Nq:=met b [] [c,d]<| aD h.aj c λi k=>aD h.aj d λl m=>bH u b (some []) 274 [i,l] (aA k (aA m [])) h λn o=>bt 2 e λp=>aJ b [2] false 1 p o λq=>bt 2 f λr=>aJ b [3] false 1 r o λs=>Mu u b q s n g o
def K5:=bt 1 c λg=>aJ b [3] false 1 g h λi=>bt 2 d λk=>aJ b [2] false 1 k h λl=>met b [] [i,l]<| aD h.aj i λm n=>aD h.aj l λo p=>bH u b (some []) 211 [m,o] (aA n (aA p [])) h λq r=>Nq u b e q d c f r
def FK:=bt 1 c λf=>aJ b [2] false 1 f h λg=>bt 2 d λi=>aJ b [3] false 1 i h λk=>met b [] [g,k]<| aD h.aj g λl m=>aD h.aj k λn o=>bH u b (some []) 211 [l,n] (aA m (aA o [])) h λp q=>K5 u b d c p e q
def S7:=bp 1 c h λg=>bp 1 d h λk=>ce u b 274 g k h λp q=>bg u b 100 p q λt v=>aX b none 7 e t v λ_ w=>B1 b e w
def CR:bI (g,i):=bX c k bG λl=>aP l (S7 u b d e f h) (j3 d e f h)
def HA:=bp 2 c h λg=>bY g (.s 1 0x31) λi=>b0 i true (bt 2 d λk=>aW h.aj false 1 k λl=>bY l (.s 1 0x31) λm=>CR u b (FK u b) i c d e k l m h) (CR u b (FK u b) i c d e ay ay ay h)
def H7:=met b [] [c]<| aD h.aj c λg i=>bH u b (some []) 209 [g] (aA i []) h λk l=>aJ b [3] true 7 d l λm=>met b [] [m]<| aD l.aj m λn o=>bH u b (some []) 209 [n] (aA o []) l λp q=>met b [2] [e]<| aX b (some [2]) 7 e k q λ_ r=>met b [3] [d]<| aX b (some [3]) 7 d p r λ_ s=>HA u b e d f s
def Ht:=ip 54 b 2 none c h λe f=>ip 54 b 3 none d f λg i=>ci 54 b 4 none dx i λk l=>aJ b [2] true 7 e l λm=>H7 u b m g e k l
def sq:=aZ la λc l=>aZ l λd l=>bV l (Ht u b c d (ba b a8))
def KW:=bj b c h
def axS:bI u:=iN c aL λd=>bY d uY λe=>aP e (kw c (some aS) none λf=>KW b f h) (j1 c h)
def apH:=bg u b 275 c h λf g=>bC (λi k=>bR (.s 1 0x2d) i λl=>KW b l k) λj1=>bY f (.s 1 0x30) λm=>aP m (KW b f g) (axS u b j1 f g)
def aaE:=aZ la λc l=>bV l (apH u b c (ba b a8))
def aBt:=bj b c h
def aft:=ce u b 220 c d h λk l=>bS k 0 λ_=>bS k 1 λm=>j2 d m l
def arN:=bq false d λe=>fw e aL λf=>aP f (aft u b j2 c d h) (j1 c h)
def aiv:=bS c 1 λe=>bg u b 179 d h λi k=>bS i 0 λ_=>bS i 1 λl=>oq 6 8 1000000 (arN u b (λm n=>aD n.aj m λo p=>bH u b none 180 [bG,o] (aA p []) n λq r=>aBt b q r)) e l k
def akm:=bg u b 179 c h λg i=>bS g 0 λ_=>aiv u b g d i
def ZJ:=aZ la λc l=>aZ l λd l=>bV l (akm u b c d (ba b a8))
def ao4:=aD h.aj c λe f=>aD h.aj d λg i=>dJ b (.a0 [e,g]) (aA f (aA i [])) h
def ay9:=ce u b 277 f d h λn o=>cb o.aj 1 e g λp=>aW o.aj false 1 p λq=>bR q aS λr=>cb o.aj 1 e g λs=>aX b none 1 s r o λ_ t=>j5 c d e n g t
def aCo(u:Fn)(b:Nat)(a j:kb)(c d e f g:an)(h:aI):aw:=ce u b 276 f d h λn o=>il n aL λp=>aP p (ay9 u b j c d e f g o) (a c d e f g o)
def alg:=cb h.aj 1 c g λi=>aW h.aj false 1 i λk=>cj h.aj 1 0 k (cG 1 [aL]) λl m=>c6 b 2071 none 3 1 1 false l (aA m []) h λn o=>eC b 2073 none 3 1 8 n f false o λp q=>bg u b 230 p q λt v=>fs 0 1 6 7 8 1000000 (aCo u b (λw x y z A B=>cP A aS λC=>j5 w x y z C B)) c d e t g v
def avi:=il g aL λi=>aP i (alg u b j5 c d e f g h) (j2 e f h)
def afj:=bq false c λe=>i3 b none (nf (Nat.add b 2059) 3 1 8 (h.aj (Nat.add b 2059)).cd [aL] e e) h λf g=>bq false c λi=>cP i aS λk=>fs 0 1 6 7 8 1000000 (avi u b (λl m n=>bg u b 230 l n λq r=>ao4 b q m r)) c d f .aE k g
def RY:=aZ la λc l=>aZ l λd l=>bV l (afj u b c d (ba b a8))
def aCC:=bj b c h
def aux:bI u:=bR f g λk=>c8 (fA .rem i mQ) λl=>cb h.aj 1 e k λm=>aX b none 1 m l h λ_ n=>c8 (fA .quo i mQ) λo=>j6 c d e f o g n
def aja:bI u:=bZ b [] 1 c d h λk=>aJ b [] false 1 k h λl=>bZ b [] 1 e f h λm=>aJ b [] false 1 m h λn=>c8 (fA .mul l n) λo=>bR g o λp=>j6 c e i d f p h
def ahm:=bR f i λk=>cb h.aj 1 e k λl=>aW h.aj false 1 l λm=>bR m g λn=>bq false d λo=>cm i o λp=>aP p (aja u b (aux u b (λq r s t v w x=>bR w aS λy=>j6 q r s t v y x)) c f d i n e h) (aux u b (λq r s t v w x=>bR w aS λy=>j6 q r s t v y x) c d e f i n h)
def apw(u:Fn)(b:Nat)(j6:nP)(j4:mS)(c d e f g i k l m:an)(h:aI):aw:=bX c dh m λn=>aP n (j6 d e f g i k h) (j4 d e f g h)
def akh:=bq false d λk=>cm i k λl=>b0 l false (fw g aL λm=>apw u b (ahm u b j6) j4 l c d e f g i g m h) (apw u b (ahm u b j6) j4 l c d e f g i ay ay h)
def azN:=ih 0 1 5 6 7 8 1000000 (akh u b (λg i k l m=>bR l aS λn=>j4 g i k n m)) c d e f aL aL h
def aqs:=bq false c λg=>cm f g λi=>aP i (azN u b j4 c d e f h) (j1 e h)
def azf:=bq false c λe=>bq false d λf=>bR e f λg=>bR g aS λi=>i3 b none (nf (Nat.add b 2064) 3 1 8 (h.aj (Nat.add b 2064)).cd [aL] i i) h λk l=>du 0 1 5 6 1000000 (aqs u b (λm n=>bg u b 230 m n λq r=>aCC b q r)) c d k aL l
def abB:=aZ la λc l=>aZ l λd l=>bV l (azf u b c d (ba b a8))
def yC:=bj b c h
def acz:=ce u b 277 e c h λl m=>ce u b 180 d l m λr s=>yC b r s
def ac2:=ce u b 277 c d h λl m=>ce u b 180 e l m λr s=>yC b r s
def PJ:=ce u b 276 d f h λm n=>il m aL λo=>aP o (ac2 u b d f c n) (acz u b d e f n)
def We:=ce u b 278 c d h λl m=>ce u b 180 e l m λr s=>yC b r s
def Iw:=bS c 1 λf=>bg u b 179 d h λk l=>bS k 0 λm=>bS k 1 λn=>sy false e m λo=>aP o (We u b f n e l) (PJ u b e f m n l)
def HL:=bg u b 179 c h λg i=>bS g 0 λk=>Iw u b g d k i
def wP:=aZ la λc l=>aZ l λd l=>bV l (HL u b c d (ba b a8))
def Ru:=bj b c h
def aFc:bI u:=bY c cZ λd=>aP d (Ru b gg h) (j0 h)
def aCh:=bY c gg λd=>aP d (Ru b cZ h) (aFc u b j0 c h)
def aA9:=ip 54 b 1 none c h λd e=>bp 0 d e λg=>bY g aS λi=>aP i (Ru b aS e) (aCh u b (λk=>Ru b jf k) g e)
def aeR:=aZ la λc l=>bV l (aA9 u b c (ba b a8))
def De:=bj b c h
def aac:=ce u b 276 c d h λk l=>De b k l
def akf:=ce u b 276 c d h λk l=>De b k l
def Ob:=bX c g bG λi=>aP i (De b aS h) (aP d (akf u b e f h) (j2 f e h))
def Ux:=ni c λg=>b0 g true (Ob u b j2 g c d e f h) (Ob u b j2 g c d e ay h)
def Gd:bI g:=bX c i bG λk=>aP k (De b fC h) (Ux u b j2 c d e f h)
def N2:=bg u b 179 c h λi k=>bS i 0 λl=>bS i 1 λm=>b0 d true (ni l λn=>Gd u b (aac u b) d m e l l n k) (Gd u b (aac u b) d m e l ay ay k)
def N3:=bg u b 179 c h λg i=>bS g 0 λk=>bS g 1 λl=>N2 u b d k l i
def HU:=aZ la λc l=>aZ l λd l=>bV l (N3 u b c d (ba b a8))
def JL:=bj b c h
def aif:bI (u,f,g,i):=bX c dh k λl=>aP l (JL b bG h) (j2 d e h)
def apt:=iN c d λe=>cm e uB λf=>b0 f false (iN c d λg=>fw g DY λi=>aif u b (λk l m=>bR l aS λn=>j2 k n m) f c d c d g i h) (aif u b (λk l m=>bR l aS λn=>j2 k n m) f c d ay ay ay ay h)
def atU:=bq true c λe=>cm d e λf=>aP f (apt u b j2 c d h) (j0 h)
def ayI:=oq 0 4 1000000 (atU u b (λe=>JL b dh e)) c d h
def ayP:bI (u,f,g,i):=bX c dh k λl=>aP l (JL b bG h) (j2 d e h)
def avM:=bq true c λe=>kt e d λf=>b0 f false (iN c d λg=>bY g uB λi=>ayP u b (ayI u b) f c d c d g i h) (ayP u b (ayI u b) f c d ay ay ay ay h)
def afU:bI (u,b,e,f):=bX c g bG λi=>aP i (j2 d aS h) (j2 d aL h)
def aA4:=bq true c λd=>fw d aL λe=>b0 e true (iN c aL λf=>bY f uY λg=>afU u b (avM u b) e c c f g h) (afU u b (avM u b) e c ay ay ay h)
def ahV:=bY c (.s 1 0x30) λd=>aP d (JL b dh h) (aA4 u b c h)
def Re:=aZ la λc l=>bV l (ahV u b c (ba b a8))
def azC:=bj b c h
def an9(u:Fn)(b:Nat)(a j:gT)(c d e f g i k l m:an)(h:aI):aw:=bX c m bG λn=>aP n (a d e h) (j d e h)
def avO(u:Fn)(b:Nat)(a j:gT)(c d:an)(h:aI):aw:=fw d aL λe=>b0 e true (cP d aS λf=>cb h.aj 1 c f λg=>aW h.aj false 1 g λi=>bY i aL λk=>an9 u b (λl m n=>cP m aS λo=>j l o n) a e c d c d f g i k h) (an9 u b (λl m n=>cP m aS λo=>j l o n) a e c d ay ay ay ay ay ay h)
def apL:=bq false c λd=>oq 0 3 1000000 (avO u b (λe f g=>k7 g.aj 1 e none (some f) λi=>azC b i g)) c d h
def abK:=aZ la λc l=>bV l (apL u b c (ba b a8))
def aer:=mH b [c] [] h
def aag:bI u:=c8 (vo c) λe=>k7 h.aj 11 c none (some e) λf=>i3 b none (ua (Nat.add b 2070) 56 11 176 (h.aj (Nat.add b 2070)).cd ca f d true) h λg i=>bq false c λk=>k7 i.aj 11 g none (some k) λl=>j1 l i
def Xz:=c8 (vo c) λe=>bq false c λf=>cP e f λg=>cP d g λi=>fw i aL λk=>aP k (aag u b (λl m=>aer b l m) c i h) ((aer b c h))
def YE:=cm c aL λe=>aP e (.ax) (Xz u b d c h)
def zP:=aZ la λc l=>aZ l λd l=>bV l (YE u b d c (ba b a8))
def al4:=dJ b (.a0 []) [] h
def aEx:=aD h.aj c λk l=>aD h.aj d λm n=>aD h.aj e λo p=>aD h.aj f λq r=>aD h.aj g λs t=>bH u b none 280 [k,m,o,q,s] (aA l (aA n (aA p (aA r (aA t []))))) h λ_ v=>j4 c f g i v
def aAB:=bR g f λi=>cm i d λk=>aP k (aEx u b (λl m n o p=>c8 (fA .mul o cZ) λq=>j4 l m n q p) c g i d e f h) ((c8 (fA .mul f cZ) λq=>j4 c d e q h))
def alw:=bR g f λk=>aD h.aj c λl m=>aD h.aj g λn o=>aD h.aj k λp q=>aD h.aj i λr s=>aD h.aj e λt v=>bH u b none 280 [l,n,p,r,t] (aA m (aA o (aA q (aA s (aA v []))))) h λ_ w=>c8 (fA .mul cZ f) λx=>bR i x λy=>j6 c d e f i y w
def aAI:=kt i d λk=>aP k (alw u b j6 c d e f g i h) (j5 c d e f g h)
def aro:=c8 (fA .mul cZ f) λg=>ih 0 1 2 6 7 8 1000000 (aAI u b (aAB u b j4)) c d e f aL g h
def M0:=cm f d λg=>aP g (aro u b j4 c d e f h) (al4 b h)
def IP:=aD h.aj g λi k=>aD h.aj d λl m=>aD h.aj e λn o=>fD u b 279 [c,i,l,n] (aA k (aA m (aA o []))) h λ_ p=>du 0 1 2 6 1000000 (M0 u b) c d e f p
def aiM:=aD h.aj g λk l=>aD h.aj i λm n=>aD h.aj e λo p=>fD u b 279 [c,k,m,o] (aA l (aA n (aA p []))) h λ_ q=>bR i f λr=>j6 c d e f i r q
def Hg:=kt i d λk=>aP k (aiM u b j6 c d e f g i h) (j5 c d e f g h)
def aCI:=ih 0 1 2 6 7 8 1000000 (Hg u b (IP u b)) c d e n20 aL n20 h
def wS:=aZ la λc l=>aZ l λd l=>aZ l λe l=>bV l (aCI u b c d e (ba b a8))
def AZ:=fK h.aj c true 3 λd=>bj b d h
def Zd:bI u:=c8 (ov 3 1 c aL) λe=>aW h.aj false 1 e λf=>bR f aS λg=>c8 (ov 3 1 c aL) λi=>aX b none 1 i g h λ_ k=>j2 c d k
def Wx:=bt 3 c λg=>aJ b [2] true 7 g h λi=>met b [] [i]<| aD h.aj i λk l=>bH u b (some []) 271 [k] (aA l []) h λm n=>bR d m λo=>c8 (ov 3 1 e cZ) λp=>met b [3] [p]<| aX b (some [3]) 1 p o n λ_ q=>j2 e f q
def Zw:=c8 (ov 3 1 c cZ) λf=>aJ b [3] false 1 f h λg=>Wx u b j2 d g c e h
def aaY:=cb h.aj 11 e g λi=>aW h.aj true 11 i λk=>ci 56 b 6 none ca h λl m=>aX b none 11 l k m λ_ n=>aW n.aj true 11 l λo=>aW n.aj true 3 c λp=>ce u b 233 o p n λv w=>aX b none 3 c v w λ_ x=>(bR g aS λy=>j5 c d e f y x)
def Am:=cm g f λi=>aP i (aaY u b j5 c d e f g h) (j2 c d h)
def TD:=c8 (ov 3 1 c aS) λf=>aW h.aj false 1 f λg=>bR g aS λi=>c8 (ov 3 1 c aS) λk=>aX b none 1 k i h λ_ l=>bp 10 d l λn=>bq false n λo=>fs 3 4 31 32 33 1000000 (Am u b j2) c e n o aL l
def aaf:=bY c gg λg=>aP g (TD u b j2 d e f h) (j2 d f h)
def Ll:=bY c cZ λg=>aP g (Zw u b j2 d e f h) (aaf u b j2 c d e f h)
def J1:=ci 281 b 4 none [aL,aL,aL] h λe f=>bp 0 c f λi=>bY i aS λk=>aP k (Zd u b (λl m n=>aW n.aj true 3 l λo=>aX b none 3 m o n λ_ p=>AZ b m p) d e f) (Ll u b (λl m n=>aW n.aj true 3 l λo=>aX b none 3 m o n λ_ p=>AZ b m p) i d c e f)
def Kp:=ip 56 b 2 none c h λe f=>ip 281 b 3 none d f λg i=>J1 u b e g i
def qK:=aZ la λc l=>aZ l λd l=>bV l (Kp u b c d (ba b a8))
def v5:=bj b c h
def YA:bI u:=bq false c λe=>bq false d λf=>cm e f λg=>aP g (v5 b fC h) ((v5 b aL h))
def rS:=cb h.aj 1 d e λl=>aW h.aj false 1 l λm=>ce u b 281 f m h λr s=>eQ r aL λt=>aP t (v5 b r s) (j5 c d g i k s)
def rj:=cb h.aj 1 e g λi=>aW h.aj false 1 i λk=>bq false d λl=>il g l λm=>aP m (v5 b aS h) (rS u b (λn o p q r s=>bR r aS λt=>j5 n o p q t s) c d g k e f g h)
def qD:=cm g f λi=>aP i (rj u b j5 c d e f g h) (j2 c d h)
def Is:=bq false c λe=>fs 0 1 9 10 11 1000000 (qD u b (YA u b)) c d c e aL h
def xC:=aZ la λc l=>aZ l λd l=>bV l (Is u b c d (ba b a8))
def aiS:=dJ b (.a0 []) [] h
def QR:=bq false c λe=>aD h.aj e λf g=>aD h.aj d λi k=>fD u b 284 [c,f,i] (aA g (aA k [])) h λ_ l=>aiS b l
def v9:=aZ la λc l=>aZ l λd l=>bV l (QR u b c d (ba b a8))
def Ad:=bj b c h
def XB:=bp 7 c h λf=>bp 7 d h λi=>aD h.aj f λk l=>aD h.aj i λm n=>bH u b none 285 [k,m,(.bu (.func (.func 183) #[] #[]))] (aA l (aA n [])) h λo p=>Ad b o p
def K0:bI u:=bp 7 c h λf=>bq false f λg=>bp 7 d h λk=>bq false k λl=>cm g l λm=>aP m (Ad b fC h) ((Ad b aS h))
def Hj:=bp 7 c h λf=>bq false f λg=>bp 7 d h λk=>bq false k λl=>eQ g l λm=>aP m (K0 u b c d h) (XB u b c d h)
def IL:=ip 120 b 2 none c h λe f=>ip 120 b 3 none d f λg i=>Hj u b e g i
def vO:=aZ la λc l=>aZ l λd l=>bV l (IL u b c d (ba b a8))
def Fh:=mH b [c] [] h
def IZ:bI u:=k7 h.aj 8 c (some d) none λe=>i3 b none (zF h.aj 120 8 fX e) h λ_ f=>k7 f.aj 8 c none (some d) λg=>Fh b g f
def abp:bI u:=aW h.aj true 8 c λi=>cb h.aj 8 d e λk=>aX b none 8 k i h λ_ l=>bR e aS λm=>j4 d f m g l
def abc:=cb h.aj 8 c f λg=>aW h.aj true 8 g λi=>ci 120 b 7 none fX h λk l=>aX b none 8 k i l λ_ m=>aW m.aj true 8 k λn=>nN u b d [n] [] m λo p=>ni o λq=>aP q (abp u b (λr s t v w=>bR v aS λx=>j4 r s t x w) k c e d f p) ((bR f aS λx=>j4 c d e x p))
def EA:=bq false c λg=>cm f g λi=>aP i (abc u b j4 c d e f h) (j2 c e h)
def T4:=bR e aS λf=>du 0 1 5 6 1000000 (EA u b (IZ u b)) c d e f h
def OK:=aD h.aj c λe f=>fD u b 286 [d,e] (aA f []) h λg i=>bY g fC λk=>aP k (Fh b d i) (T4 u b d c g i)
def vH:=aZ la λc l=>aZ l λd l=>bV l (OK u b d c (ba b a8))
def Td:=bj b c h
def Vq:=ip 120 b 1 none c h λd e=>bt 0 d λf=>aW e.aj true 7 f λg=>bg u b 213 g e λl m=>Td b l m
def Fb:=aZ la λc l=>bV l (Vq u b c (ba b a8))
def Fi:=mH b [c] [] h
def UB:bI u:=Fc false c λd=>aP d (Fi b .aE h) ((c6 b 2053 none 56 11 0 false (cG 0 ca) [] h λe f=>eC b 2055 none 56 11 176 e c false f λg i=>Fi b g i))
def vv:=aZ la λc l=>bV l (UB u b c (ba b a8))
def JP:=fK h.aj c true 11 λd=>bj b d h
def U2:=aJ b [3] true 11 c h λi=>met b [] [d,i]<| cj h.aj 11 0 d (cG 2 ca) λk l=>cj h.aj 11 1 i k λm n=>c6 b 2071 (some [2071]) 56 11 2 false m (aA l (aA n [])) h λo p=>met b [2071] [o]<| aD p.aj o λq r=>bH u b (some []) 122 [(.s 8 0x62696e6172792d2a),q] (aA r []) p λs t=>met b [3] [c]<| aX b (some [3]) 11 c s t λ_ v=>j4 e f c g v
def aap:=bZ b [] 11 c f h λg=>aJ b [] true 11 g h λi=>U2 u b (λk l m n o=>cP n aS λp=>j4 k l m p o) e i c d f h
def tK:=il f aL λg=>aP g (aap u b j4 c d e f h) (j2 d e h)
def aec:=aW h.aj true 11 c λf=>ci 56 b 3 none ca h λg i=>aX b none 11 g f i λ_ k=>bq false d λl=>cP l cZ λm=>du 0 2 3 4 1000000 (tK u b (λn o p=>aW p.aj true 11 o λq=>aX b none 11 n q p λ_ r=>JP b n r)) d e g m k
def acV:=ci 56 b 2 none ca h λd e=>bq false c λf=>cP f aS λg=>cb e.aj 11 c g λi=>aec u b i c d e
def CI:=aZ la λc l=>bV l (acV u b c (ba b a8))
def zL:=bj b c h
def LN:bI u:=fw c d λe=>aP e (zL b aS h) (j0 h)
def Jg:=cm c d λe=>aP e (zL b fC h) (LN u b (λf=>zL b aL f) c d h)
def xp:=aZ la λc l=>aZ l λd l=>bV l (Jg u b c d (ba b a8))
def rc:=fK h.aj c true 7 λd=>bj b d h
def aiH:bI u:=bp 6 c h λf=>cb h.aj 7 f aS λg=>aW h.aj true 7 g λi=>aX b none 7 d i h λ_ k=>rc b d k
def acu:bI u:=bp 6 c h λf=>cb h.aj 7 f aL λg=>aW h.aj true 7 g λi=>aX b none 7 d i h λ_ k=>rc b d k
def ZG:=bY c (.s 3 0x636172) λf=>aP f (acu u b d e h) (aiH u b d e h)
def KQ:=aW h.aj true 7 c λf=>bg u b 196 f h λk l=>ni k λm=>aP m (bH u b none 66 [] [] l λn o=>aX b none 7 d n o λ_ p=>rc b d p) (ZG u b e c d l)
def acS:=bp 0 c h λf=>bY f jf λg=>bg u b 287 g h λl m=>aX b none 7 d l m λ_ n=>rc b d n
def aiq:=bp 0 c h λf=>bY f cZ λg=>bg u b 287 g h λl m=>aX b none 7 d l m λ_ n=>rc b d n
def aBh:=bp 0 c h λf=>bY f gg λg=>bg u b 287 g h λl m=>aX b none 7 d l m λ_ n=>rc b d n
def aia:=bp 0 c h λf=>bY f aS λg=>bg u b 287 g h λl m=>aX b none 7 d l m λ_ n=>rc b d n
def ahS:=aW h.aj true 7 c λe=>bg u b 288 e h λi k=>bg u b 287 i k λn o=>aX b none 7 d n o λ_ p=>rc b d p
def aju:=aW h.aj true 7 c λe=>bg u b 56 e h λi k=>aX b none 7 d i k λ_ l=>rc b d l
def aAX:=aW h.aj true 7 c λe=>bg u b 55 e h λi k=>aX b none 7 d i k λ_ l=>rc b d l
def aws:=bp 1 c h λf=>aD h.aj f λg i=>bH u b none 114 [g,(.s 1 0x31)] (aA i []) h λk l=>aX b none 7 d k l λ_ m=>rc b d m
def aD7:=bp 2 c h λf=>aD h.aj f λg i=>bH u b none 114 [g,(.s 1 0x31)] (aA i []) h λk l=>aX b none 7 d k l λ_ m=>rc b d m
def aqJ:=bp 2 c h λg=>ce u b 289 d g h λn o=>bS n 0 λp=>bS n 1 λ_=>aD o.aj p λq r=>bH u b none 114 [q,(.s 1 0x31)] (aA r []) o λs t=>aX b none 7 e s t λ_ v=>rc b e v
def aym:=bt 3 c λe=>bp 1 e h λg=>bg u b 128 g h λl m=>aX b none 7 d l m λ_ n=>rc b d n
def aFT:=bt 3 c λe=>bp 0 e h λg=>bg u b 128 g h λl m=>aX b none 7 d l m λ_ n=>rc b d n
def aEU:=aW h.aj true 7 c λe=>bg u b 290 e h λi k=>bq true i λl=>bg u b 60 l k λo p=>aX b none 7 d o p λ_ q=>rc b d q
def aFG:=cj h.aj 1 0 d (cG 1 [wD]) λe f=>c6 b 2166 none 5 1 1 false e (aA f []) h λg i=>c8 (In i.aj g) λk=>bg u b 128 k i λn o=>aX b none 7 c n o λ_ p=>rc b c p
def aEV:=bg u b 291 c h λg i=>bS g 0 λk=>bS g 1 λl=>ni l λm=>aP m (bH u b none 128 [(.s 0 0)] [] i λn o=>aX b none 7 d n o λ_ p=>rc b d p) (aFG u b d k i)
def aFR:=bY c (.s 11 0x627974652d737472696e67) λf=>aP f (aW h.aj true 7 d λg=>aEV u b g e h) (j1 e h)
def aFK:=bY c (.s 13 0x737472696e672d6c656e677468) λf=>aP f (aEU u b d e h) (aFR u b j1 c d e h)
def axl:=bY c (.s 19 0x73796d626f6c2d7061636b6167652d6e616d65) λf=>aP f (aFT u b d e h) (aFK u b j1 c d e h)
def aFi:=bY c (.s 11 0x73796d626f6c2d6e616d65) λf=>aP f (aym u b d e h) (axl u b j1 c d e h)
def aF9:=bY c (.s 5 0x666c6f6f72) λg=>aP g (bp 1 d h λk=>aqJ u b d k e h) (aFi u b j1 c f e h)
def aFQ:=bY c (.s 11 0x64656e6f6d696e61746f72) λg=>aP g (aD7 u b d e h) (aF9 u b j1 c d e f h)
def ayd:=bY c (.s 9 0x6e756d657261746f72) λg=>aP g (aws u b d e h) (aFQ u b j1 c d e f h)
def atu:=bY c (.s 7 0x756e6172792d2f) λg=>aP g (aAX u b d e h) (ayd u b j1 c f e d h)
def aiO:=bY c (.s 7 0x756e6172792d2d) λg=>aP g (aju u b d e h) (atu u b j1 c d e f h)
def aay:=bY c (.s 8 0x696e746567657270) λg=>aP g (ahS u b d e h) (aiO u b j1 c d e f h)
def T3:=bY c (.s 9 0x726174696f6e616c70) λg=>aP g (aia u b d e h) (aay u b j1 c d e f h)
def T9:=bY c (.s 7 0x737472696e6770) λg=>aP g (aBh u b d e h) (T3 u b j1 c d e f h)
def Nf:=bY c (.s 7 0x73796d626f6c70) λg=>aP g (aiq u b d e h) (T9 u b j1 c d e f h)
def Ed:=bY c (.s 5 0x636f6e7370) λg=>aP g (acS u b d e h) (Nf u b j1 c d e f h)
def zM:=bY c (.s 3 0x636172) λg=>aP g ((aP g (KQ u b d e c h) (Ed u b (λi k=>eT dx λl=>aX b none 7 i l k λ_ m=>rc b i m) c d e f h))) (bY c (.s 3 0x636472) λn=>(aP n (KQ u b d e c h) (Ed u b (λi k=>eT dx λl=>aX b none 7 i l k λ_ m=>rc b i m) c d e f h)))
def zq:=ip 54 b 3 none c h λe f=>ci 54 b 4 none dx f λg i=>aW i.aj true 7 e λk=>bg u b 113 k i λn o=>ci 54 b 5 none dx o λp q=>aX b none 7 p n q λ_ r=>zM u b d e g p r
def xU:=aZ la λc l=>aZ l λd l=>bV l (zq u b d c (ba b a8))
def wi:=fK h.aj c true 7 λd=>bj b d h
def ahD:=aW h.aj true 7 c λf=>aW h.aj true 7 d λg=>ce u b 65 f g h λn o=>bg u b 287 n o λr s=>aX b none 7 e r s λ_ t=>wi b e t
def aoE:=aW h.aj true 7 c λf=>aW h.aj true 7 d λg=>ce u b 130 f g h λn o=>aX b none 7 e n o λ_ p=>wi b e p
def ap2:=aW h.aj true 7 c λf=>aW h.aj true 7 d λg=>ce u b 177 f g h λn o=>aX b none 7 e n o λ_ p=>wi b e p
def aj7:=aW h.aj true 7 c λf=>aW h.aj true 7 d λg=>ce u b 109 f g h λn o=>aX b none 7 e n o λ_ p=>wi b e p
def ade:=aW h.aj true 7 c λf=>aW h.aj true 7 d λg=>ce u b 112 f g h λn o=>bg u b 287 n o λr s=>aX b none 7 e r s λ_ t=>wi b e t
def amz:=aW h.aj true 2 d λe=>bg u b 127 e h λi k=>aX b none 7 c i k λ_ l=>wi b c l
def amw:bI (f,g):=bX c dh i λk=>aP k (bH u b none 66 [] [] h λl m=>aX b none 7 d l m λ_ n=>wi b d n) (j2 d e h)
def apD:bI (f,g):=bX c dh i λk=>b0 k false (aW h.aj true 2 e λl=>bg u b 292 l h λo p=>ni o λq=>amw u b j2 k d e l o q p) (amw u b j2 k d e ay ay ay h)
def asa:=bp 0 c h λi=>eQ i gg λk=>b0 k false (bt 0 f λl=>aW h.aj false 1 l λm=>eQ m gg λn=>apD u b (amz u b) k d e l m n h) (apD u b (amz u b) k d e ay ay ay h)
def aE0:=aJ b [4] true 7 c h λg=>met b [] [g]<| aD h.aj g λi k=>bH u b (some []) 290 [i] (aA k []) h λl m=>cC 0 1 d [(.s 0 0),(.s 0 0)] λn=>cC 1 1 l n λo=>eT o λp=>ci 52 b 7 (some [7]) [(.s 0 0),(.s 0 0)] m λq r=>met b [7] [q]<| aX b (some [7]) 2 q p r λ_ s=>asa u b c e q f s
def asp:=aJ b [5] true 7 c h λf=>met b [] [f]<| aD h.aj f λg i=>bH u b (some []) 290 [g] (aA i []) h λk l=>aE0 u b d k e c l
def aBZ:=aJ b [5] true 7 c h λf=>met b [] [f]<| aD h.aj f λg i=>bH u b (some []) 290 [g] (aA i []) h λk l=>bR d k λm=>met b [] [m]<| aD l.aj m λn o=>bH u b (some []) 128 [n] (aA o []) l λp q=>met b [6] [e]<| aX b (some [6]) 7 e p q λ_ r=>wi b e r
def aF8:=aJ b [4] true 7 c h λf=>met b [] [f]<| aD h.aj f λg i=>bH u b (some []) 290 [g] (aA i []) h λk l=>aBZ u b d k e l
def aFb:=bp 5 c h λg=>iN g e λi=>c8 (hs .i64 i) λk=>bg u b 60 k h λn o=>aX b none 7 d n o λ_ p=>wi b d p
def aFe:=ce u b 293 c d h λm n=>bS m 0 λo=>bS m 1 λp=>ni p λq=>aP q (bH u b none 66 [] [] n λr s=>aX b none 7 e r s λ_ t=>wi b e t) (aFb u b f e o n)
def aBW:=bY c (.s 11 0x737472696e672d62797465) λg=>aP g (aW h.aj true 7 d λi=>aW h.aj true 7 e λk=>aFe u b i k f d h) (j1 f h)
def aFh:=bY c (.s 13 0x737472696e672d617070656e64) λg=>aP g (aF8 u b d e f h) (aBW u b j1 c d e f h)
def aET:=bY c (.s 6 0x696e7465726e) λg=>aP g (asp u b d e f h) (aFh u b j1 c e d f h)
def abe:=bY c (.s 1 0x3c) λg=>aP g (ade u b d e f h) (aET u b j1 c e d f h)
def Yo:=bY c (.s 8 0x62696e6172792d2a) λg=>aP g (aj7 u b d e f h) (abe u b j1 c d e f h)
def UO:=bY c (.s 8 0x62696e6172792d2b) λg=>aP g (ap2 u b d e f h) (Yo u b j1 c d e f h)
def Oy:=bY c (.s 4 0x636f6e73) λg=>aP g (aoE u b d e f h) (UO u b j1 c d e f h)
def Ge:=ip 54 b 4 none c h λf g=>ip 54 b 5 none d g λi k=>ci 54 b 6 none dx k λl m=>bY e (.s 5 0x657175616c) λn=>aP n (ahD u b f i l m) (Oy u b (λo p=>eT dx λq=>aX b none 7 o q p λ_ r=>wi b o r) e f i l m)
def zh:=aZ la λc l=>aZ l λd l=>aZ l λe l=>bV l (Ge u b d e c (ba b a8))
def No:=aD h.aj c λe f=>aD h.aj d λg i=>dJ b (.a0 [e,g]) (aA f (aA i [])) h
def agz(u:Fn)(b:Nat)(a j:gT)(c d e f g i k:an)(h:aI):aw:=bX c k bG λl=>aP l (a d e h) (j d e h)
def azS(u:Fn)(b:Nat)(a j:gT)(c d:an)(h:aI):aw:=bC (λe f g=>bR f aS λi=>j e i g) λj2=>bq true c λk=>cm d k λl=>bC (agz u b j2 a l c d) λj4=>b0 l true (iN c d λm=>eQ m abm λn=>j4 c d m n h) (j4 ay ay ay ay h)
def axA:=aD h.aj c λf g=>aD h.aj d λi k=>bH u b none 295 [f,i,y6,Nz] (aA g (aA k [])) h λl m=>aP l (cP e aS λn=>bR d cZ λo=>j3 c o n m) (bR d aS λp=>j3 c p e m)
def akW:=aD h.aj c λf g=>aD h.aj d λi k=>bH u b none 295 [f,i,Nz,y6] (aA g (aA k [])) h λl m=>aP l (bR e aS λn=>bR d cZ λo=>j3 c o n m) (axA u b j3 c d e m)
def aCV:=bq true c λf=>il d f λg=>aP g (No b d bG h) (akW u b j3 c d e h)
def apA:=bC (aCV u b j3) λa=>fw e aL λf=>aP f (a c d e h) (j2 c d h)
def aov:=aD h.aj c λe f=>aD h.aj d λg i=>bH u b none 295 [e,g,Nz,y6] (aA f (aA i [])) h λk l=>aP k (bR d cZ λm=>ft [0,1,6] 1000000 (apA u b j2) c m aS l) (No b d dh l)
def aoN:=iN c d λe=>bY e WS λf=>aP f (ft [0,1] 1000000 (azS u b j2) c d h) (aov u b j2 c d h)
def avq:=iN c d λe=>bg u b 294 e h λi k=>aP i (bR d aS λl=>j2 c l k) (aoN u b j2 c d k)
def azQ:=bC (avq u b j2) λa=>bq true c λe=>cm d e λf=>aP f (a c d h) (j1 d h)
def alZ:=bC (λe f=>No b e dh f) λj1=>ft [0,1] 1000000 (azQ u b j1) c d h
def aaM:=aZ la λc l=>aZ l λd l=>bV l (alZ u b c d (ba b a8))
def sg:=fK h.aj c true 5 λf=>aD h.aj f λg i=>aD h.aj d λk l=>fK h.aj e true 2 λm=>aD h.aj m λn o=>dJ b (.a0 [g,k,n]) (aA i (aA l (aA o []))) h
def atT:bI u:=aJ b [7] true 5 e h λi=>aJ b [8] true 2 f h λk=>met b [4] [c]<| aX b (some [4]) 5 c i h λ_ l=>met b [6] [d]<| aX b (some [6]) 2 d k l λ_ m=>sg b c g d m
def aff:=aJ b [7] true 5 c h λi=>met b [] [d]<| aD h.aj d λk l=>bH u b (some []) 194 [cZ,k] (aA l []) h λm n=>met b [4] [e]<| aX b (some [4]) 5 e i n λ_ o=>met b [6] [f]<| aX b (some [6]) 2 f m o λ_ p=>sg b e g f p
def atG:bI (l,m,n):=bX c dh o λp=>aP p (aff u b d e f g i h) (j5 f g d k i h)
def apv:=bg u b 171 c h λn o=>fw n zi λp=>bC (atG u b j5 p d e f g i k) λj4=>b0 p false (bt 4 d λq=>aW o.aj false 1 q λr=>bg u b 171 r o λv w=>fw v zi λx=>j4 q r v x w) (j4 ay ay ay ay o)
def agO:=ce u b 170 c d h λq r=>bS q 0 λs=>bS q 1 λt=>bt 3 e λv=>aX b none 1 v s r λ_ w=>bt 4 e λx=>aX b none 1 x t w λ_ y=>bp 3 e y λA=>apv u b j5 A e f g i k l y
def awx:=bt 0 f λm=>aX b none 1 m rz h λ_ n=>bg u b 302 k n λq r=>bg u b 302 l r λv w=>agO u b j5 q v f c d e i g w
def ajy:=aJ b [7] true 5 c h λi=>met b [] [d]<| aD h.aj d λk l=>bH u b (some []) 194 [tz,k] (aA l []) h λm n=>met b [4] [e]<| aX b (some [4]) 5 e i n λ_ o=>met b [6] [f]<| aX b (some [6]) 2 f m o λ_ p=>sg b e g f p
def ajT:=bC (awx u b j5) λj8=>bg u b 302 c h λo p=>bY o (.s 1 0x30) λq=>aP q (ajy u b d e f g i p) (j8 e f g d k i l c p)
def awU:=bt 0 c λk=>aX b none 1 k v2 h λ_ l=>bt 3 c λm=>aX b none 1 m d l λ_ n=>aW n.aj true 5 c λo=>aD n.aj o λp q=>bH u b none 297 [p,bG] (aA q []) n λr s=>aX b none 2 e r s λ_ t=>j5 f g c e i t
def agb:=bS c 2 λo=>bC (atT u b) λj5=>bY d (.s 1 0x2e) λp=>aP p (bt 0 e λq=>aX b none 1 q gg h λ_ r=>j5 f g e i k r) (aP o (ajT u b j5 l e m f g k i n h) (awU u b j5 e d i f g k h))
def agW:=bg u b 301 k h λn o=>bS n 0 λp=>bS n 1 λq=>agb u b n k f d e g i q c p o
def az9:=aD h.aj c λk l=>aD h.aj d λm n=>aD h.aj e λo p=>aD h.aj f λq r=>bH u b none 300 [k,m,o,q] (aA l (aA n (aA p (aA r [])))) h λs t=>bS s 0 λv=>bS s 1 λw=>bS s 2 λx=>aX b none 5 g v t λ_ y=>aX b none 2 i x y λ_ z=>sg b g w i z
def ay8:=ce u b 299 c d h λo p=>kw c (some d) (some o) λq=>bC (agW u b) λj7=>aD p.aj c λr s=>aD p.aj o λt v=>bH u b none 295 [r,t,LG,LG] (aA s (aA v [])) p λw x=>aP w (aW x.aj true 5 g λy=>az9 u b c y q o e f x) (j7 d e f g i o q x)
def arC:bI u:=aX b none 1 c aS h λ_ k=>aJ b [7] true 5 d k λl=>bR e aS λm=>aJ b [8] true 2 f k λn=>met b [4] [g]<| aX b (some [4]) 5 g l k λ_ o=>met b [6] [i]<| aX b (some [6]) 2 i n o λ_ p=>sg b g m i p
def aDH:bI u:=aX b none 1 c cZ h λ_ k=>aJ b [7] true 5 d k λl=>bR e aS λm=>aJ b [8] true 2 f k λn=>met b [4] [g]<| aX b (some [4]) 5 g l k λ_ o=>met b [6] [i]<| aX b (some [6]) 2 i n o λ_ p=>sg b g m i p
def aj6:bI u:=aX b none 1 c jf h λ_ k=>aJ b [7] true 5 d k λl=>bR e aS λm=>aJ b [8] true 2 f k λn=>met b [4] [g]<| aX b (some [4]) 5 g l k λ_ o=>met b [6] [i]<| aX b (some [6]) 2 i n o λ_ p=>sg b g m i p
def afv:bI u:=aJ b [7] true 5 f h λi=>aJ b [8] true 2 g h λk=>met b [4] [d]<| aX b (some [4]) 5 d i h λ_ l=>met b [6] [e]<| aX b (some [6]) 2 e k l λ_ m=>sg b d c e m
def aub:=bp 1 c h λk=>aD h.aj k λl m=>bH u b none 194 [cZ,l] (aA m []) h λn o=>aX b none 2 d n o λ_ p=>j5 e f g c d p
def aqT:bI (k,l,m):=bX c n bG λo=>aP o (aub u b j5 d e f g i h) (j5 f g i d e h)
def ags:=bC (afv u b) λj5=>bp 0 c h λk=>bY k aL λl=>bC (aqT u b j5 l d c e f g) λj4=>b0 l true (bt 3 d λm=>aW h.aj false 1 m λn=>bq true n λo=>fw o zY λp=>j4 m n o p h) (j4 ay ay ay ay h)
def ao1:=bR c aS λk=>aD h.aj d λl m=>aD h.aj k λn o=>bH u b none 296 [l,n,NF] (aA m (aA o [])) h λp q=>bS p 0 λr=>bS p 1 λs=>bS p 2 λt=>bt 3 e λv=>aX b none 1 v r q λ_ w=>aX b none 2 f t w λ_ x=>ags u b f e s g i x
def aiL:bI u:=aJ b [7] true 5 f h λi=>aJ b [8] true 2 g h λk=>met b [4] [d]<| aX b (some [4]) 5 d i h λ_ l=>met b [6] [e]<| aX b (some [6]) 2 e k l λ_ m=>sg b d c e m
def arY:=aW h.aj true 5 c λi=>aD h.aj i λk l=>bH u b none 297 [k,dh] (aA l []) h λm n=>aX b none 2 d m n λ_ o=>j5 e f g c d o
def aEr:=bt 3 c λl=>aX b none 1 l d h λ_ m=>aX b none 2 e f m λ_ n=>bC (aiL u b) λj5=>bp 0 e n λp=>bY p aL λq=>aP q (arY u b j5 c e g i k n) (j5 g i k c e n)
def ari:=bt 0 c λk=>aX b none 1 k v2 h λ_ l=>bR d aS λm=>aD l.aj e λn o=>aD l.aj m λp q=>bH u b none 296 [n,p,y6] (aA o (aA q [])) l λr s=>bS r 0 λt=>bS r 1 λv=>bS r 2 λw=>aEr u b c t f w v g i s
def aCe:=aJ b [7] true 5 c h λg=>met b [] [d]<| aD h.aj d λi k=>bH u b (some []) 194 [tz,i] (aA k []) h λl m=>met b [4] [e]<| aX b (some [4]) 5 e g m λ_ n=>met b [6] [f]<| aX b (some [6]) 2 f l n λ_ o=>sg b e d f o
def axT:=bg u b 298 c h λn o=>ni n λp=>aP p (aCe u b d e f g o) (j6 i e f g d k o)
def amM:=bY c y6 λl=>aP l (ari u b d e f g i k h) (axT u b j6 c d e i k f g h)
def awN:=bY c NF λl=>aP l (bt 0 d λm=>aX b none 1 m EP h λ_ n=>ao1 u b e f d g i k n) (amM u b j6 c d e f g i k h)
def afX:=bY c aeg λl=>aP l (bt 0 d λm=>aj6 u b m d e f g i h) (awN u b j6 c d e k f g i h)
def af2:=bY c aev λl=>aP l (bt 0 d λm=>aDH u b m d e f g i h) (afX u b j6 c d e f g i k h)
def ahB:=ci 252 b 7 none [aL,aL,(.s 0 0),(.s 0 0),(.s 0 0)] h λi k=>aX b none 5 i c k λ_ l=>ci 195 b 8 none [aL,aL] l λm n=>bC (ay8 u b) λj6=>iN d e λo=>bY o Ys λp=>aP p (bt 0 i λq=>arC u b q i e m f g n) (af2 u b j6 o i e m f g d n)
def afL:=ci 252 b 4 none [aL,aL,(.s 0 0),(.s 0 0),(.s 0 0)] h λe f=>ci 195 b 6 none [aL,aL] f λg i=>cC 1 1 c [aL,aL,(.s 0 0),(.s 0 0),(.s 0 0)] λk=>eT k λl=>ahB u b l d c e g i
def Xw:=aZ la λc l=>aZ l λd l=>bV l (afL u b d c (ba b a8))
def ahO:=fK h.aj c true 2 λe=>aD h.aj e λf g=>aD h.aj d λi k=>dJ b (.a0 [f,i]) (aA g (aA k [])) h
def anl:bI u:=cC 0 1 c [(.s 0 0),(.s 0 0)] λf=>cC 1 1 d f λg=>eT g λi=>aX b none 2 e i h λ_ k=>ahO b e aL k
def anV:bI u:=bp 1 c h λg=>cb h.aj 2 g d λi=>aW h.aj true 2 i λk=>aX b none 2 e k h λ_ l=>ahO b e aL l
def an7:=bC (λi k l m n o=>bR n aS λp=>j5 i k l m p o) λa=>bp 1 f h λr=>cb h.aj 2 r g λs=>bp 1 s h λv=>bY v d λw=>aP w (anV u b f g e h) (a c d e f g h)
def anB:=bC (an7 u b j5) λa=>bp 1 f h λk=>bq false k λl=>cm g l λm=>aP m (a c d e f g h) (j3 c d e h)
def amO:=bC (anl u b) λj3=>ft [1,2,6,8,10] 1000000 (anB u b j3) c d e f aL h
def amc:bI (u,i,k):=bX c dh l λm=>aP m (eT [(.s 0 0),(.s 0 0)] λn=>aX b none 2 d n h λ_ o=>ahO b d gg o) (j4 e f d g h)
def alc:=bC (amO u b) λj4=>bq true d λg=>cm g aS λi=>bC (amc u b j4 i e c d f) λj3=>b0 i false (bq true d λk=>fw k n40 λl=>j3 d k l h) (j3 ay ay ay h)
def amN:=bS c 1 λi=>ci 70 b 8 none [(.s 0 0),.aE] h λk l=>aX b none 2 k d l λ_ m=>bC (alc u b) λj4=>ni i λn=>aP n (eT [(.s 0 0),(.s 0 0)] λo=>aX b none 2 e o m λ_ p=>ahO b e aoj p) (j4 f g e k m)
def amy:=ci 52 b 6 none [(.s 0 0),(.s 0 0)] h λf g=>ce u b 303 c d g λn o=>bS n 0 λp=>amN u b n p f d e o
def aj1:=aZ la λc l=>aZ l λd l=>aZ l λe l=>bV l (amy u b c d e (ba b a8))
def Eu:=fK h.aj c true 7 λe=>aD h.aj e λf g=>fK h.aj d true 2 λi=>aD h.aj i λk l=>dJ b (.a0 [f,k]) (aA g (aA l [])) h
def ag2:bI u:=aW h.aj true 7 e λf=>eT [aL,aL] λg=>aX b none 7 c f h λ_ i=>aX b none 2 d g i λ_ k=>Eu b c d k
def aqL:=aJ b [2149] true 7 c h λk=>aJ b [7] true 7 d h λl=>met b [4096,4098] [k,l]<| aD h.aj k λm n=>aD h.aj l λo p=>bH u b (some []) 130 [m,o] (aA n (aA p [])) h λq r=>met b [7] [d]<| aX b (some [7]) 7 d q r λ_ s=>j5 e f g d i s
def am9:=bC (λi k l m n o=>cP n aS λp=>j5 i k l m p o) λa=>bZ b [2149] 7 e g h λq=>aqL u b a q f c d e g h
def azx:=bC (am9 u b j5) λa=>il g aL λi=>aP i (a c d e f g h) (j3 c d f h)
def alh:=aW h.aj false 1 c λk=>bR k aS λl=>hY d λm=>bt 3 m λn=>aX b none 1 n l h λ_ o=>bC (ag2 u b) λj3=>bq false e λp=>cP p aS λq=>ft [4,5,6,7,13] 1000000 (azx u b j3) f g e i q o
def asJ:bI u:=aW h.aj true 7 k λl=>cj h.aj 7 0 l (cG 1 dx) λm n=>c6 b 2148 none 54 7 1 false m (aA n []) h λo p=>eC b 2149 none 54 7 112 g o false p λq r=>j6 c d e f q i r
def aEk:bI u:=eT dx λf=>aJ b [12] true 2 c h λg=>met b [4] [d]<| aX b (some [4]) 7 d f h λ_ i=>met b [5] [e]<| aX b (some [5]) 2 e g i λ_ k=>Eu b d e k
def ayZ:=ci 195 b 12 none [aL,aL] h λn o=>aX b none 7 c d o λ_ p=>aX b none 2 n e p λ_ q=>bC (asJ u b j6) λj7=>bp 0 n q λs=>eQ s aL λt=>aP t (aEk u b n f g q) (j7 i k f g l m c q)
def awp:=aD h.aj d λk l=>fD u b 195 [c,k] (aA l []) h λm n=>bS m 0 λo=>bS m 1 λp=>ci 54 b 11 none dx n λq r=>ayZ u b j6 q o p e f c d g i r
def aDh:=eT dx λf=>bp 1 c h λi=>aD h.aj i λk l=>bH u b none 194 [Nd,k] (aA l []) h λm n=>aX b none 7 d f n λ_ o=>aX b none 2 e m o λ_ p=>Eu b d e p
def an5:=eT dx λf=>bp 1 c h λi=>aD h.aj i λk l=>bH u b none 194 [tz,k] (aA l []) h λm n=>aX b none 7 d f n λ_ o=>aX b none 2 e m o λ_ p=>Eu b d e p
def ajs:=bY c aL λg=>aP g (aDh u b d e f h) (an5 u b d e f h)
def azH:=aJ b [4098] true 5 c h λk=>ci 252 b 10 (some [10]) [aL,aL,(.s 0 0),(.s 0 0),(.s 0 0)] h λl m=>met b [10] [l]<| aX b (some [10]) 5 l k m λ_ n=>bp 0 l n λp=>bY p cZ λq=>aP q (j5 d e f g i n) (ajs u b p l e f n)
def aAx:=hY c λi=>bt 2 i λk=>aJ b [4096] false 1 k h λl=>hY c λm=>bt 3 m λn=>aJ b [4096] false 1 n h λo=>bZ b [4098,4096,4098] 5 l o h λp=>azH u b j5 p c d e f g h
def auF:bI u:=eT dx λf=>aJ b [9] true 2 c h λg=>met b [4] [d]<| aX b (some [4]) 7 d f h λ_ i=>met b [5] [e]<| aX b (some [5]) 2 e g i λ_ k=>Eu b d e k
def azL:=aX b none 2 c d h λ_ m=>bC (λn o p q r s t=>aW t.aj true 7 s λv=>aX b none 7 r v t λ_ w=>aAx u b j5 n o p q r w) λj6=>bp 0 c m λy=>eQ y aL λz=>aP z (auF u b c e f m) (j6 g e f i k l m)
def asV:=hY c λl=>bt 3 l λm=>aX b none 1 m d h λ_ n=>aD n.aj e λo p=>fD u b 195 [c,o] (aA p []) n λq r=>bS q 0 λs=>bS q 1 λt=>ci 54 b 8 none dx r λv w=>ci 195 b 9 none [aL,aL] w λx y=>aX b none 7 v s y λ_ z=>azL u b j5 x t f g c i k v z
def aDq:=hY c λk=>bp 3 k h λm=>bR m aS λn=>asV u b j5 c n d e f g i h
def apf:bI (l,m):=bX c n bG λo=>aP o (aDq u b j5 d e f g i k h) (j6 d e f g i k h)
def aDf:=bZ b [4098,4096,4098] 5 c d h λm=>bt 0 m λn=>aJ b [4098] false 1 n h λo=>bY o gg λp=>bC (apf u b j5 j6 p e f g i k l) λj3=>b0 p true (bq false k λq=>fw q aL λr=>j3 k q r h) (j3 ay ay ay h)
def aqt(u:Fn)(b:Nat)(j6:nP)(j5:kb)(c d e f g i:an)(h:aI):aw:=bC (awp u b j6) λa=>hY c λk=>bt 2 k λl=>aJ b [4096] false 1 l h λm=>hY c λn=>bt 3 n λo=>aJ b [4096] false 1 o h λp=>aDf u b j5 a m p c d e f g i h
def aBX(u:Fn)(b:Nat)(j6:nP)(j5:kb)(c d e f g i k l:an)(h:aI):aw:=aJ b [4096] false 1 c h λm=>bZ b [4098,4096,4098] 5 d m h λn=>bt 0 n λo=>aJ b [4098] false 1 o h λp=>eQ p cZ λq=>aP q (j6 e f g i k l h) (j5 e g i k l h)
def alz:=bC (aqt u b j6 j5) λa=>hY c λk=>bt 2 k λl=>aJ b [4096] false 1 l h λm=>hY c λn=>bt 3 n λo=>aBX u b a j5 o m c d e f g i h
def arT:=ci 54 b 4 none dx h λe f=>ci 195 b 5 none [aL,aL] f λg i=>bH u b none 66 [] [] i λk l=>ci 54 b 7 none dx l λm n=>aX b none 7 m k n λ_ o=>bC (λp q r s t v=>hY p λw=>bt 3 w λx=>alh u b x p s q r t v) λj5=>ft [0,1,4,5,6,7] 1000000 (alz u b j5) c d e g .aE m o
def Ve:=aZ la λc l=>aZ l λd l=>bV l (arT u b c d (ba b a8))
def T0:=mH b [c] [] h
def acQ:bI u:=c8 (vo c) λe=>k7 h.aj 8 c none (some e) λf=>i3 b none (ua (Nat.add b 2070) 120 8 136 (h.aj (Nat.add b 2070)).cd fX f d true) h λg i=>bq false c λk=>k7 i.aj 8 g none (some k) λl=>j1 l i
def ad4:=c8 (vo c) λe=>bq false c λf=>cP e f λg=>cP d g λi=>fw i aL λk=>aP k (acQ u b (λl m=>T0 b l m) c i h) ((T0 b c h))
def ZA:=cm c aL λe=>aP e (.ax) (ad4 u b d c h)
def zK:=aZ la λc l=>aZ l λd l=>bV l (ZA u b d c (ba b a8))
def Br:=aD h.aj c λe f=>aD h.aj d λg i=>dJ b (.a0 [e,g]) (aA f (aA i [])) h
def av9:=ce u b 315 c e h λl m=>bS l 0 λn=>bS l 1 λ_=>ce u b 315 d e m λs t=>bS s 0 λv=>bS s 1 λ_=>Br b n v t
def aCj:=ce u b 314 c d h λk l=>bY k (.s 1 0x31) λm=>aP m (Br b c d l) (av9 u b c d k l)
def aud:=bg u b 216 c h λg i=>bg u b 216 d i λm n=>j2 g m n
def aDo:=iN c aL λe=>bY e uY λf=>aP f (aud u b j2 d c h) (j2 d c h)
def abW:=bY c (.s 1 0x31) λe=>aP e (Br b d c h) (aDo u b j2 c d h)
def XG:=bg u b 275 c h λg i=>bg u b 275 d i λm n=>bY m (.s 1 0x30) λo=>aP o (Br b (.s 1 0x30) (.s 1 0x31) n) (abW u b (aCj u b) m g n)
def Cf:=aZ la λc l=>aZ l λd l=>bV l (XG u b c d (ba b a8))
def L5:=aD h.aj c λf g=>aD h.aj d λi k=>aD h.aj e λl m=>dJ b (.a0 [f,i,l]) (aA g (aA k (aA m []))) h
def MA:=aD h.aj c λe f=>bH u b none 317 [e,mQ,GC] (aA f []) h λg i=>bS g 0 λk=>bS g 1 λ_=>aD i.aj d λl m=>bH u b none 317 [l,mQ,GC] (aA m []) i λn o=>bS n 0 λp=>bS n 1 λ_=>L5 b k p dh o
def KA:bI (u,f,g):=bX c dh i λk=>aP k (L5 b aL aL bG h) (j2 d e h)
def QD:bI (f,g):=bX c dh i λk=>b0 k false (bg u b 316 e h λn o=>ni n λp=>KA u b j2 k d e e n p o) (KA u b j2 k d e ay ay ay h)
def NJ:bI (f,g,i):=bX c dh k λl=>b0 l false (bg u b 316 d h λo p=>ni o λq=>QD u b j2 l d e d o q p) (QD u b j2 l d e ay ay ay h)
def XY:=bq true c λf=>fw f d λg=>b0 g false (bq true e λi=>fw i d λk=>NJ u b (MA u b) g c e e i d k h) (NJ u b (MA u b) g c e ay ay ay ay h)
def Dx:=aZ la λc l=>aZ l λd l=>aZ l λe l=>bV l (XY u b c e d (ba b a8))
def ahw:=fK h.aj c true 2 λd=>bj b d h
def ahF:=bp 1 d h λf=>bg u b 320 f h λk l=>bt 1 d λm=>aX b none 1 m k l λ_ n=>aW n.aj true 2 d λo=>aX b none 2 c o n λ_ p=>ahw b c p
def arA:bI u:=bS c 1 λ_=>bp 1 d h λl=>c8 (hs .u32 e) λm=>cj h.aj 1 0 m (cG 1 [(.V .u32 18446744073709551616)]) λn o=>c6 b 2084 none 26 1 1 false n (aA o []) h λp q=>eC b 2085 none 26 1 4 l p false q λr s=>bt 1 d λt=>aX b none 1 t r s λ_ v=>kw f none (some g) λw=>j3 i w d v
def aq9:=bq true d λf=>cP f pQ λg=>c8 (pR true aL g) λi=>kw d (some i) none λk=>aD h.aj k λl m=>bH u b none 319 [l,mQ,n32] (aA m []) h λn o=>bS n 0 λp=>arA u b j3 n e p d i c o
def arL:=bC (aq9 u b j3) λa=>bq true d λf=>fw f aL λg=>aP g (a c d e h) (j2 c e h)
def aqV:=bq true c λf=>bq true d λg=>cm f g λi=>cC 0 1 i [bG,.aE] λk=>eT k λl=>ci 313 b 4 none [bG,.aE] h λm n=>aX b none 2 m l n λ_ o=>bC (ahF u b) λj2=>ft [2,3,4] 1000000 (arL u b j2) e c m o
def arF:=ci 313 b 2 none [bG,.aE] h λd e=>bg u b 275 c e λi k=>aD k.aj i λl m=>bH u b none 318 [l,(.s 1 0x2d)] (aA m []) k λn o=>aqV u b n i d o
def afh:=aZ la λc l=>bV l (arF u b c (ba b a8))
def ai7:=bj b c h
def aqr:bI u:=bq false c λl=>bR e l λm=>c8 (hs .u32 f) λn=>cb h.aj 1 d m λo=>aX b none 1 o n h λ_ p=>j5 c d g i k p
def ai2:bI u:=c8 (hs .u64 c) λs=>c8 (fA .mul d s) λt=>bR e t λv=>bR v f λw=>bR g i λx=>c8 (fA .rem w (.V .u64 18446744074709551616)) λy=>c8 (hs .u32 y) λz=>c8 (fA .quo w (.V .u64 18446744074709551616)) λA=>cb h.aj 1 k x λB=>aX b none 1 B z h λ_ C=>j11 l k g m A n o p q r i C
def ajj:=bC (λp q r s t v w x y z A B=>bR A aS λC=>j11 p q r s t v w x y z C B) λa=>cb h.aj 1 m o λD=>aW h.aj false 1 D λE=>bR e o λG=>cb h.aj 1 d G λH=>aW h.aj false 1 H λI=>c8 (hs .u64 I) λK=>c8 (hs .u64 f) λL=>ai2 u b a E L K g e o d c f i k l m n h
def amr:=cm o n λp=>bC (ajj u b j11) λa=>aP p (a c d e f g i k l m n o h) (j7 c d e g i k l h)
def apU:=bC (λi k l m n o=>bR n aS λp=>j5 i k l m p o) λa=>cb h.aj 1 e g λq=>aW h.aj false 1 q λr=>bC (aqr u b a) λj7=>bq false c λs=>ft [1,5,6,7,8,18,19,20,25,26,27] 1000000 (amr u b j7) c d g r (.V .u64 18446744073709551616) e f g c s aL h
def aqP:=cm g f λi=>bC (apU u b j5) λa=>aP i (a c d e f g h) (j1 d h)
def ajf:=bq false c λe=>bq false d λf=>bR e f λg=>i3 b none (nf (Nat.add b 2065) 26 1 4 (h.aj (Nat.add b 2065)).cd [(.V .u32 18446744073709551616)] g g) h λi k=>bC (λl m=>bg u b 320 l m λp q=>ai7 b p q) λj1=>bq false c λr=>ft [1,5,18,19,20] 1000000 (aqP u b j1) d i c r aL k
def ait:=aZ la λc l=>aZ l λd l=>bV l (ajf u b c d (ba b a8))
def Um:=bj b c h
def S4:=ip 54 b 1 none c h λd e=>aW e.aj true 7 d λf=>aD e.aj f λg i=>bH u b none 324 [g,EX] (aA i []) e λk l=>c8 (pR true aL k) λm=>cP EX m λn=>Um b n l
def Ec:=aZ la λc l=>bV l (S4 u b c (ba b a8))
def Nt:=bj b c h
def afY:=bt 1 c λd=>aW h.aj false 1 d λe=>bt 2 c λf=>aW h.aj false 1 f λg=>ce u b 326 e g h λn o=>j5 d e f g n o
def Ue:bI (e,f,g):=bX c i bG λk=>bC (λ_ _ _ _ l m=>bX k l bG λn=>Nt b n m) λj5=>b0 k true (afY u b j5 d h) (j5 ay ay ay ay ay h)
def afo:=aW h.aj true 7 c λd=>aD h.aj d λe f=>bH u b none 325 [e,dh,bG,bG] (aA f []) h λg i=>bC (Ue u b g c) λj4=>b0 g true (bt 6 c λk=>aW i.aj false 1 k λl=>bq false l λm=>bY m aL λn=>j4 k l m n i) (j4 ay ay ay ay i)
def XR:bI (e,f,g):=bX c i bG λk=>bC (λ_ _ l m=>bX k l bG λn=>Nt b n m) λj3=>b0 k true (bt 3 d λo=>aW h.aj true 2 o λp=>bg u b 327 p h λs t=>j3 o p s t) (j3 ay ay ay h)
def ac5:=aW h.aj true 7 c λd=>aD h.aj d λe f=>bH u b none 325 [e,bG,dh,bG] (aA f []) h λg i=>bC (XR u b g c) λj4=>b0 g true (bt 6 c λk=>aW i.aj false 1 k λl=>bq false l λm=>bY m aL λn=>j4 k l m n i) (j4 ay ay ay ay i)
def TC:bI (u,e,f,g):=bX c i bG λk=>bC (λ_ _ _ l m=>bX k l bG λn=>Nt b n m) λj4=>b0 k true (bt 5 d λo=>aW h.aj false 1 o λp=>bq true p λq=>kt q zY λr=>j4 o p q r h) (j4 ay ay ay ay h)
def U1:=aW h.aj true 7 c λd=>aD h.aj d λe f=>bH u b none 325 [e,bG,bG,dh] (aA f []) h λg i=>bC (TC u b g c) λj4=>b0 g true (bt 6 c λk=>aW i.aj false 1 k λl=>bq false l λm=>bY m aL λn=>j4 k l m n i) (j4 ay ay ay ay i)
def Xp:=bY c gg λe=>aP e (U1 u b d h) (j0 h)
def SQ:=bY c cZ λe=>aP e (ac5 u b d h) (Xp u b j0 c d h)
def aez:=bC (λd=>Nt b bG d) λj0=>bp 0 c h λf=>bY f aS λg=>aP g (afo u b c h) (SQ u b j0 f c h)
def XU:bI u:=bp 6 c h λe=>cb h.aj 7 e aS λf=>aW h.aj true 7 f λg=>aX b none 7 c g h λ_ i=>j1 c i
def aad:bI (u,e,f,g,i,k):=bX c dh l λm=>aP m (Nt b bG h) (j1 d h)
def agn:=bt 6 c λd=>aW h.aj false 1 d λe=>cb h.aj 7 e aL λf=>aW h.aj true 7 f λg=>bg u b 272 g h λl m=>ni l λn=>j6 d e f g l n m
def Wc:bI (e,f):=bX c dh g λi=>bC (aad u b j1 i d) λj6=>b0 i false (agn u b j6 d h) (j6 ay ay ay ay ay ay h)
def agK:=aW h.aj false 1 c λe=>bq false e λf=>eQ f cZ λg=>bC (Wc u b j1 g d) λj3=>b0 g false (aW h.aj true 7 d λi=>aD h.aj i λk l=>bH u b none 325 [k,bG,bG,bG] (aA l []) h λm n=>ni m λo=>j3 i m o n) (j3 ay ay ay h)
def Wh:=bC (XU u b j1) λa=>bt 6 c λd=>agK u b a d c h
def agA(u:Fn)(b:Nat)(a j:gx)(c:an)(h:aI):aw:=bC (Wh u b j) λj1=>bp 0 c h λe=>bY e jf λf=>aP f (j1 c h) (a c h)
def acX:=ip 54 b 1 none c h λd e=>bC (aez u b) λj1=>ft [1] 1000000 (agA u b j1) d e
def SD:=aZ la λc l=>bV l (acX u b c (ba b a8))
def QM:=bj b c h
def aEb:=bg u b 268 c h λg i=>bg u b 268 d i λm n=>ce u b 329 g m n λs t=>bg u b 270 s t λx y=>QM b x y
def VX:=bR c d λe=>aD h.aj e λf g=>bH u b none 267 [f,mQ] (aA g []) h λi k=>QM b i k
def abY:=aD h.aj c λe f=>aD h.aj d λg i=>bH u b none 266 [e,g,Ui] (aA f (aA i [])) h λk l=>bS k 0 λm=>bS k 1 λn=>bS k 2 λo=>aP o (VX u b m n l) (aEb u b c d l)
def B2:=aZ la λc l=>aZ l λd l=>bV l (abY u b c d (ba b a8))
def NQ:=bj b c h
def adv:=bg u b 316 c h λf g=>aP f (NQ b c g) ((NQ b (.s 1 0x30) g))
def C9:=aZ la λc l=>bV l (adv u b c (ba b a8))
def BO:=bj b c h
def atD:bI u:=bZ b [] 1 c e h λf=>aJ b [] false 1 f h λg=>bZ b [] 1 d e h λi=>aJ b [] false 1 i h λk=>fw g k λl=>aP l (BO b aS h) (j3 c d e h)
def azG:=bZ b [] 1 c e h λf=>aJ b [] false 1 f h λg=>bZ b [] 1 d e h λi=>aJ b [] false 1 i h λk=>cm g k λl=>aP l (BO b fC h) (atD u b (λm n o p=>cP o aS λq=>j3 m n q p) c d e h)
def aoy:=il e aL λf=>aP f (azG u b j3 c d e h) (j0 h)
def ajc:=bq false c λe=>cP e aS λf=>fM 0 1 5 1000000 (aoy u b (λg=>BO b aL g)) c d f h
def azU:bI u:=bq false c λe=>bq false d λf=>cm e f λg=>aP g (BO b fC h) ((BO b aS h))
def av7:=bq false c λe=>bq false d λf=>eQ e f λg=>aP g (azU u b c d h) (ajc u b c d h)
def R8:=aZ la λc l=>aZ l λd l=>bV l (av7 u b c d (ba b a8))
def arc:=bj b c h
def afR:bI u:=cj h.aj 1 0 i (cG 1 [aL]) λk l=>c6 b 2085 none 3 1 1 false k (aA l []) h λm n=>eC b 2086 none 3 1 8 e m false n λo p=>j5 c d o f g p
def aA1:=cm g aL λi=>aP i (bR g mQ λk=>afR u b j5 c d e aS f k h) (afR u b j5 c d e aL f g h)
def aqy:bI (u,b):=cb h.aj 1 c d λi=>aW h.aj false 1 i λk=>cP e k λl=>j5 f c g d l h
def alG:=cb h.aj 1 c g λi=>aW h.aj false 1 i λk=>cP k f λl=>bq false d λm=>cm g m λn=>aP n (aqy u b (aA1 u b (λo p q r s t=>bR s aS λv=>j5 o p q r v t)) d g l c e h) (aA1 u b (λo p q r s t=>bR s aS λv=>j5 o p q r v t) c d e g l h)
def ahb:=bq false c λi=>cm g i λk=>aP k (alG u b j5 c d e f g h) (j1 e h)
def asm:=fs 0 1 5 6 7 1000000 (ahb u b (λe f=>bg u b 230 e f λk l=>arc b k l)) c d .aE aL aL h
def VJ:=aZ la λc l=>aZ l λd l=>bV l (asm u b c d (ba b a8))
def akN:=bj b c h
def aCZ:bI u:=c8 (fA .rem g mQ) λi=>cj h.aj 1 0 i (cG 1 [aL]) λk l=>c6 b 2097 none 3 1 1 false k (aA l []) h λm n=>eC b 2098 none 3 1 8 e m false n λo p=>c8 (fA .quo g mQ) λq=>j5 c d o q f p
def ajN:bI (u,b):=cb h.aj 1 c d λi=>aW h.aj false 1 i λk=>bR e k λl=>j5 f c g d l h
def awn:=bq false d λi=>cm f i λk=>aP k (ajN u b (aCZ u b j5) d f g c e h) (aCZ u b j5 c d e f g h)
def al8:bI (u,b):=cb h.aj 1 c d λi=>aW h.aj false 1 i λk=>bR e k λl=>j5 c f g d l h
def ant:=bq false c λi=>cm g i λk=>aP k (al8 u b (awn u b (λl m n o p q=>bR p aS λr=>j5 l m n o r q)) c g f d e h) (awn u b (λl m n o p q=>bR p aS λr=>j5 l m n o r q) c d e g f h)
def aij(u:Fn)(b:Nat)(j5:kb)(j1:gx)(c d e f g i k l:an)(h:aI):aw:=bX c dh l λm=>aP m (j5 d e f g i h) (j1 f h)
def awI(u:Fn)(b:Nat)(j5:kb)(j1:gx)(c d e f g i k l m n:an)(h:aI):aw:=bX c dh n λo=>b0 o false (fw g aL λp=>aij u b j5 j1 o d e f g i g p h) (aij u b j5 j1 o d e f g i ay ay h)
def awE:=bq false c λi=>cm g i λk=>b0 k false (bq false d λl=>cm g l λm=>awI u b (ant u b j5) j1 k c d e f g g d l m h) (awI u b (ant u b j5) j1 k c d e f g ay ay ay ay h)
def ajK:=fs 0 1 5 6 7 1000000 (awE u b (λe f=>akN b e f)) c d .aE aL aL h
def abt:=aZ la λc l=>aZ l λd l=>bV l (ajK u b c d (ba b a8))
def SF:=dJ b (.a0 []) [] h
def To:bI u:=aJ b [4098] true 11 c h λn=>bZ b [4098] 11 d e h λo=>met b [4098] [o]<| aX b (some [4098]) 11 o f h λ_ p=>bZ b [4098] 11 d g p λq=>met b [4098] [q]<| aX b (some [4098]) 11 q n p λ_ r=>j6 d i k l m e r
def Oc:=cP i aS λk=>cP i aS λl=>bZ b [4098] 11 c l h λm=>aJ b [4098] true 11 m h λn=>bZ b [4098] 11 c i h λo=>To u b (λp q r s t v w=>cP v aS λx=>j6 p q r s t x w) o c i n k d e f g h
def IJ(u:Fn)(b:Nat)(j6:nP)(j5:kb)(c d e f g i k l m n o p q r s t v w x:an)(h:aI):aw:=bX c x bG λy=>aP y (j6 d e f g i k h) (j5 d e f g i h)
def TE:=bZ b [4098] 11 c d h λf=>aJ b [4098] true 11 f h λg=>cP d aS λi=>bZ b [4098] 11 c i h λk=>aJ b [4098] true 11 k h λl=>n6 u b [4097] [4096,4098] e [g,l] [] h λm n=>cm m aL λo=>j12 e c d f g c d i k l m o n
def Ao:=fw i d λk=>b0 k true (TE u b (IJ u b (Oc u b j6) j5 k c d e f g i) c i f h) (IJ u b (Oc u b j6) j5 k c d e f g i ay ay ay ay ay ay ay ay ay ay ay ay h)
def R3:=ih 0 1 2 3 8 9 1000000 (Ao u b (λi k l m n o=>bR n aS λp=>j5 i k l m p o)) c d e f g g h
def su:=cm g e λi=>aP i (R3 u b j5 c d e f g h) (SF b h)
def Pu:=bR c aS λg=>fs 0 1 2 3 8 1000000 (su u b) d c e f g h
def uj:=aZ la λc l=>aZ l λd l=>aZ l λe l=>aZ l λf l=>bV l (Pu u b d c e f (ba b a8))
def sj:=bj b c h
def Kx:bI u:=fw c d λe=>aP e (sj b aS h) ((sj b aL h))
def Hw:=cm c d λe=>aP e (sj b fC h) (Kx u b c d h)
def II:=aP e (sj b aS h) (Hw u b c d h)
def auo:bI u:=aP c (sj b aL h) ((sj b fC h))
def JI:=bg u b 331 c h λg i=>bg u b 331 d i λm n=>aP g (auo u b m n) (II u b c d m n)
def wO:=aZ la λc l=>aZ l λd l=>bV l (JI u b c d (ba b a8))
def auG:=dJ b (.a0 []) [] h
def Tc:=aD h.aj c λk l=>aD h.aj d λm n=>aD h.aj e λo p=>aD h.aj f λq r=>fD u b 336 [g,k,m,o,q] (aA l (aA n (aA p (aA r [])))) h λ_ s=>j4 g e f i s
def MP:=bR g f λi=>cm i d λk=>aP k (Tc u b (λl m n o p=>c8 (fA .mul o cZ) λq=>j4 l m n q p) g i d e c f h) ((c8 (fA .mul f cZ) λq=>j4 c d e q h))
def arU:=bR g f λk=>aD h.aj g λl m=>aD h.aj k λn o=>aD h.aj i λp q=>aD h.aj e λr s=>fD u b 336 [c,l,n,p,r] (aA m (aA o (aA q (aA s [])))) h λ_ t=>c8 (fA .mul cZ f) λv=>bR i v λw=>j6 c d e f i w t
def P8:=kt i d λk=>aP k (arU u b j6 c d e f g i h) (j5 c d e f g h)
def adk:=c8 (fA .mul cZ f) λg=>ih 0 1 2 6 7 8 1000000 (P8 u b (MP u b j4)) c d e f aL g h
def ym:=cm f d λg=>aP g (adk u b j4 c d e f h) (auG b h)
def w9:=aD h.aj g λi k=>aD h.aj d λl m=>aD h.aj e λn o=>fD u b 335 [c,i,l,n] (aA k (aA m (aA o []))) h λ_ p=>du 0 1 2 6 1000000 (ym u b) c d e f p
def abs:=aD h.aj g λk l=>aD h.aj i λm n=>aD h.aj e λo p=>fD u b 335 [c,k,m,o] (aA l (aA n (aA p []))) h λ_ q=>bR i f λr=>j6 c d e f i r q
def wG:=kt i d λk=>aP k (abs u b j6 c d e f g i h) (j5 c d e f g h)
def axa:=ih 0 1 2 6 7 8 1000000 (wG u b (w9 u b)) c d e n20 aL n20 h
def xM:=aZ la λc l=>aZ l λd l=>aZ l λe l=>bV l (axa u b c d e (ba b a8))
def vb:=bj b c h
def ts:bI u:=bq false c λe=>bq false d λf=>cm e f λg=>aP g (vb b fC h) ((vb b aL h))
def Ky:=cb h.aj 11 d f λm=>aW h.aj true 11 m λn=>ci 56 b 9 none ca h λo p=>aX b none 11 o n p λ_ q=>aW q.aj true 11 g λr=>aW q.aj true 11 o λs=>nN u b e [r,s] [] q λt v=>eQ t aL λw=>aP w (vb b t v) (j6 c d e i k l v)
def MS:=cb h.aj 11 f i λk=>aW h.aj true 11 k λl=>ci 56 b 8 none ca h λm n=>aX b none 11 m l n λ_ o=>bq false d λp=>il i p λq=>aP q (vb b aS o) (Ky u b (λr s t v w x y=>bR x aS λz=>j6 r s t v w z y) c d e i m f g i o)
def qH:=cm i g λk=>aP k (MS u b j6 c d e f g i h) (j2 c d h)
def Gg:=bq false c λf=>ih 0 1 2 11 12 13 1000000 (qH u b (ts u b)) c d e c f aL h
def uZ:=aZ la λc l=>aZ l λd l=>aZ l λe l=>bV l (Gg u b c d e (ba b a8))
def uS:=bj b c h
def adD:=cb h.aj 8 c f λg=>aW h.aj true 8 g λi=>nN u b d [i] [] h λk l=>aP k (uS b f l) ((bR f aS λm=>j4 c d e m l))
def ut:=cm f e λg=>aP g (adD u b j4 c d e f h) (j0 h)
def arE:=bq false c λe=>du 0 1 7 8 1000000 (ut u b (λf=>uS b fC f)) c d e aL h
def wW:=aZ la λc l=>aZ l λd l=>bV l (arE u b c d (ba b a8))
def ape:=fK h.aj c true 7 λd=>bj b d h
def ayw:=ci 54 b 2 none dx h λd e=>aP c (bH u b none 87 [] [] e λf g=>aX b none 7 d f g λ_ i=>ape b d i) ((bH u b none 66 [] [] e λk l=>aX b none 7 d k l λ_ m=>ape b d m))
def abd:=aZ la λc l=>bV l (ayw u b c (ba b a8))
def Un:=bj b c h
def Y2:bI u:=bp 0 c h λe=>bY e aS λf=>b0 f true (bp 2 c h λi=>bY i (.s 1 0x31) λk=>(bX f k bG λl=>Un b l h)) ((bX f ay bG λl=>Un b l h))
def Xf:=ip 54 b 1 none c h λd e=>Y2 u b d e
def I0:=aZ la λc l=>bV l (Xf u b c (ba b a8))
def ahj:=bj b c h
def aAz:bI (u,e):=bX c dh f λg=>bC (λ_ i k=>bX g dh i λl=>ahj b l k) λj2=>b0 g false (bY d akJ λm=>j2 d m h) (j2 ay ay h)
def ame:bI e:=bX c dh f λg=>bC (aAz u b g d) λj2=>b0 g false (bY d abm λi=>j2 d i h) (j2 ay ay h)
def aAH:=bY c u32 λd=>bC (ame u b d c) λj2=>b0 d false (bY c ai6 λe=>j2 c e h) (j2 ay ay h)
def RN:=aZ la λc l=>bV l (aAH u b c (ba b a8))
def aun:=bj b c h
def aC8:bI (u,g,i,k,l):=bX c m bG λn=>bC (λ_ _ _ _ _ o p=>bX n o bG λq=>aun b q p) λj6=>b0 n true (bR d aS λr=>iN e r λs=>bY s f λt=>j6 e d r s f t h) (j6 ay ay ay ay ay ay h)
def arR:bI (i,k,l,m):=bX c n bG λo=>bC (aC8 u b o d e f) λj5=>b0 o true (iN e d λp=>bY p g λq=>j5 e d p g q h) (j5 ay ay ay ay ay h)
def aE2:=il c aL λg=>bC (arR u b g c d e f) λj5=>b0 g true (bR c aS λi=>bq true d λk=>cm i k λl=>j5 c i d k l h) (j5 ay ay ay ay ay h)
def VM:=aZ la λc l=>aZ l λd l=>aZ l λe l=>aZ l λf l=>bV l (aE2 u b d c f e (ba b a8))
def ajS:=fK h.aj c true 2 λd=>bj b d h
def ak9:=bp 1 c h λf=>aD h.aj f λg i=>bH u b none 194 [cZ,g] (aA i []) h λk l=>aX b none 2 d k l λ_ m=>ajS b d m
def akP:=bp 1 c h λf=>aD h.aj f λg i=>bH u b none 194 [gg,g] (aA i []) h λk l=>aX b none 2 d k l λ_ m=>ajS b d m
def alJ:=bX c dh f λg=>aP g (akP u b d e h) (j1 e h)
def aln:bI (g,i,k):=bC (alJ u b j1 c d e) λa=>b0 c false (bX f l bG λm=>a m h) (a ay h)
def aok:bI (f,g,i):=bC (aln u b j1 c d e k) λj4=>b0 k true (bt 2 d λl=>aW h.aj false 1 l λm=>bg u b 338 m h λp q=>ni p λr=>j4 l m p r q) (j4 ay ay ay ay h)
def amS:bI (f,g):=bX c i bG λk=>bC (aok u b j1 k d e) λj4=>b0 k false (bt 2 d λl=>aW h.aj false 1 l λm=>eQ m (.s 0 0) λn=>j4 l m n n h) (j4 ay ay ay ay h)
def anv:=bC (amS u b j1 c d e) λj3=>b0 c true (bt 3 d λf=>aW h.aj false 1 f λg=>bY g (.s 0 0) λi=>j3 f g i h) (j3 ay ay ay h)
def am7:=bC (λf g=>eT [aL,aL] λi=>aX b none 2 f i g λ_ k=>ajS b f k) λj1=>bp 3 c h λm=>bq true m λn=>fw n n40 λo=>aP o (ak9 u b c d h) (anv u b j1 e c d h)
def anW:=ip 252 b 2 none c h λe f=>ci 195 b 4 none [aL,aL] f λg i=>am7 u b e g d i
def ajY:=aZ la λc l=>aZ l λd l=>bV l (anW u b c d (ba b a8))
def aw4:=bj b c h
def ahz:bI (u,e):=bX c f bG λg=>bC (λ_ i k=>bX g i bG λl=>aw4 b l k) λj2=>b0 g true (eQ d LG λm=>j2 d m h) (j2 ay ay h)
def avD:bI e:=bX c f bG λg=>bC (ahz u b g d) λj2=>b0 g true (eQ d y6 λi=>j2 d i h) (j2 ay ay h)
def aCS:bI e:=bX c f bG λg=>bC (avD u b g d) λj2=>b0 g true (eQ d WS λi=>j2 d i h) (j2 ay ay h)
def akA:bI e:=bX c f bG λg=>bC (aCS u b g d) λj2=>b0 g true (eQ d NF λi=>j2 d i h) (j2 ay ay h)
def amm:bI e:=bX c f bG λg=>bC (akA u b g d) λj2=>b0 g true (eQ d aeg λi=>j2 d i h) (j2 ay ay h)
def ajR:bI e:=bX c f bG λg=>bC (amm u b g d) λj2=>b0 g true (eQ d aev λi=>j2 d i h) (j2 ay ay h)
def aqZ:bI e:=bX c f bG λg=>bC (ajR u b g d) λj2=>b0 g true (eQ d Ys λi=>j2 d i h) (j2 ay ay h)
def as4:=il c al2 λd=>bC (aqZ u b d c) λj2=>b0 d true (kt c ae1 λe=>j2 c e h) (j2 ay ay h)
def VE:=aZ la λc l=>bV l (as4 u b c (ba b a8))
def aoa:=bj b c h
def anC(u:Fn)(b:Nat)(j2:gT)(j1:gx)(c d e f g i k:an)(h:aI):aw:=bX c k bG λl=>aP l (j2 d e h) (j1 e h)
def am3:=bC (λe f g=>bR f aS λi=>j2 e i g) λa=>bq true c λk=>cm d k λl=>bC (anC u b a j1 l c d) λj4=>b0 l true (iN c d λm=>bg u b 298 m h λp q=>j4 c d m p q) (j4 ay ay ay ay h)
def ana:=bC (λe f=>aoa b e f) λj1=>ft [0,1] 1000000 (am3 u b j1) c d h
def ajW:=aZ la λc l=>aZ l λd l=>bV l (ana u b c d (ba b a8))
def ED:=aD h.aj c λf g=>aD h.aj d λi k=>aD h.aj e λl m=>dJ b (.a0 [f,i,l]) (aA g (aA k (aA m []))) h
def auf:bI u:=kw c none (some d) λe=>bR d aS λf=>kw c (some f) none λg=>ED b e g dh h
def avX:bI (u,g,i,k):=bX c dh l λm=>aP m (ED b (.s 0 0) (.s 0 0) bG h) (j3 d e f h)
def aua:=bC (λf g i k=>bR i aS λl=>j3 f g l k) λa=>iN c e λm=>cm m uB λn=>bC (avX u b a n c d e) λj4=>b0 n false (iN c e λo=>fw o DY λp=>j4 c e o p h) (j4 ay ay ay ay h)
def aC3:=bC (aua u b j3) λa=>bq true c λf=>cm e f λg=>aP g (a c d e h) (j2 c d h)
def ag3:=bC (auf u b) λj2=>bR d aS λe=>ft [0,6,7] 1000000 (aC3 u b j2) c d e h
def aAo:bI (u,f,g,i,k):=bX c dh l λm=>aP m (ED b (.s 0 0) (.s 0 0) bG h) (j2 d e h)
def ax7:=bC (ag3 u b) λj2=>iN c d λe=>eQ e ak8 λf=>bC (aAo u b j2 f c d) λj5=>b0 f false (bR d aS λg=>bq true c λi=>bY g i λk=>j5 d g c i k h) (j5 ay ay ay ay ay h)
def aui:=bC (ax7 u b) λj2=>bq true c λe=>bY d e λf=>aP f (ED b c (.s 1 0x31) dh h) (j2 c d h)
def ayA:=bC (aui u b) λj2=>bY e d λf=>aP f (ED b (.s 0 0) (.s 0 0) bG h) (j2 c e h)
def anO(u:Fn)(b:Nat)(a j:mj)(c d e f g i k l:an)(h:aI):aw:=bX c l bG λm=>aP m (a d e f h) (j d e f h)
def alX(u:Fn)(b:Nat)(a j:mj)(c d e f g i k l:an)(h:aI):aw:=bX c l bG λm=>bC (anO u b a j m d e f) λj4=>b0 m true (iN d f λn=>kt n DY λo=>j4 d f n o h) (j4 ay ay ay ay h)
def ama(u:Fn)(b:Nat)(a j:mj)(c d e:an)(h:aI):aw:=bC (λf g i k=>bR i aS λl=>j f g l k) λj3=>bq true c λm=>cm e m λn=>bC (alX u b j3 a n c d e) λj4=>b0 n true (iN c e λo=>il o uB λp=>j4 c e o p h) (j4 ay ay ay ay h)
def aww:=bC (ayA u b) λj3=>ft [0,5,6] 1000000 (ama u b j3) c d d h
def agT:bI (u,b,e,f):=bX c g bG λi=>aP i (j2 d aS h) (j2 d aL h)
def apS:=bC (aww u b) λj2=>bq true c λd=>fw d aL λe=>bC (agT u b j2 e c) λj3=>b0 e true (iN c aL λf=>bY f uY λg=>j3 c f g h) (j3 ay ay ay h)
def aeQ:=aZ la λc l=>bV l (apS u b c (ba b a8))
def aka:=fK h.aj c true 2 λe=>aD h.aj e λf g=>aD h.aj d λi k=>dJ b (.a0 [f,i]) (aA g (aA k [])) h
def aol:bI u:=cb h.aj 2 c d λf=>aW h.aj true 2 f λg=>aX b none 2 e g h λ_ i=>aka b e dh i
def akC:=bC (λg i k l m=>bR l aS λn=>j4 g i k n m) λa=>cb h.aj 2 c f λo=>bp 0 o h λq=>bY q d λr=>aP r (aol u b c f e h) (a c d e f h)
def ale:=bC (akC u b j4) λa=>bq false c λg=>cm f g λi=>aP i (a c d e f h) (j1 e h)
def aog:=ci 70 b 4 none [(.s 0 0),.aE] h λe f=>bC (λg i=>eT [(.s 0 0),.aE] λk=>aX b none 2 g k i λ_ l=>aka b g bG l) λj1=>ft [0,1,4,6] 1000000 (ale u b j1) c d e aL f
def aj3:=aZ la λc l=>aZ l λd l=>bV l (aog u b c d (ba b a8))
def ah9:=bj b c h
def aqR:bI u:=bC (λf=>ah9 b aS f) λj0=>bZ b [] 1 c d h λg=>aJ b [] false 1 g h λi=>bZ b [] 1 e d h λk=>aJ b [] false 1 k h λl=>cm i l λm=>aP m (ah9 b fC h) (j0 h)
def aiN:=bC (λf g i k=>cP i aS λl=>j3 f g l k) λa=>bZ b [] 1 c e h λm=>aJ b [] false 1 m h λn=>bZ b [] 1 d e h λo=>aJ b [] false 1 o h λp=>eQ n p λq=>aP q (aqR u b c e d h) (a c d e h)
def aiZ:=bC (aiN u b j3) λa=>il e aL λf=>aP f (a c d e h) (j0 h)
def aiG:=bC (λe=>ah9 b aL e) λj0=>bq false c λf=>cP f aS λg=>ft [0,1,5] 1000000 (aiZ u b j0) c d g h
def ajo:bI u:=bC (λe=>ah9 b aS e) λj0=>bq false c λf=>bq false d λg=>cm f g λi=>aP i (ah9 b fC h) (j0 h)
def ai1:=bC (aiG u b) λj2=>bq false c λe=>bq false d λf=>eQ e f λg=>aP g (ajo u b c d h) (j2 c d h)
def air:=aZ la λc l=>aZ l λd l=>bV l (ai1 u b c d (ba b a8))
def apr:=bj b c h
def ajm:=cC 0 1 bG [bG,.aE] λd=>cC 1 1 c d λe=>eT e λf=>bg u b 270 f h λk l=>apr b k l
def apy:=ce u b 347 c d h λk l=>bS k 0 λ_=>bS k 1 λm=>j2 d m l
def aqn:=bC (apy u b j2) λa=>bq false d λe=>fw e aL λf=>aP f (a c d h) (j1 c h)
def ajr:=bg u b 268 c h λg i=>Eb false 1 1 g λk=>bg u b 268 d i λn o=>Eb false 1 1 n λp=>bC (ajm u b) λj1=>ft [5,6] 1000000 (aqn u b j1) k p o
def aiB:=aZ la λc l=>aZ l λd l=>bV l (ajr u b c d (ba b a8))
def Hs:=bj b c h
def afQ:bI (u,g,i,k):=bX c dh l λm=>aP m (Hs b bG h) (j3 d e f h)
def Yh:=bC (λf g i k=>bR i aS λl=>j3 f g l k) λa=>iN c e λm=>cm m uB λn=>bC (afQ u b a n c d e) λj4=>b0 n false (iN c e λo=>fw o DY λp=>j4 c e o p h) (j4 ay ay ay ay h)
def agB:=cm e d λf=>bC (Yh u b j3) λa=>aP f (a c d e h) (j0 h)
def ahp:=bC (λd=>Hs b dh d) λj0=>bq true c λe=>ft [3,17,18] 1000000 (agB u b j0) c e aL h
def aa4:bI (u,f,g):=bX c dh i λk=>aP k (bY d (.s 1 0x30) λl=>Hs b l h) (j1 e h)
def aeA:=aD h.aj c λd e=>bH u b none 318 [d,(.s 1 0x2d)] (aA e []) h λf g=>bC (ahp u b) λj1=>bY f (.s 0 0) λi=>bC (aa4 u b j1 i c f) λj3=>b0 i false (iN f aL λk=>bY k uB λl=>j3 f k l g) (j3 ay ay ay g)
def SR:=aZ la λc l=>bV l (aeA u b c (ba b a8))
def aoI:=bj b c h
def ahU:=ce u b 352 c d h λk l=>aoI b k l
def U4:=aZ la λc l=>aZ l λd l=>bV l (ahU u b c d (ba b a8))
def ah4:=bj b c h
def aie:bI (u,b):=bq false c λd=>cP d aS λe=>k7 h.aj 1 c none (some e) λf=>j1 f h
def aaw(u:Fn)(b:Nat)(a j:gx)(c d e f g i k l m:an)(h:aI):aw:=bX c m bG λn=>aP n (a d h) (j d h)
def afM(u:Fn)(b:Nat)(a j:gx)(c:an)(h:aI):aw:=bC (aie u b j) λj1=>bq false c λd=>fw d aL λe=>bC (aaw u b j1 a e c) λj7=>b0 e true (bq false c λf=>cP f aS λg=>cb h.aj 1 c g λi=>aW h.aj false 1 i λk=>bY k (.V .u32 18446744073709551616) λl=>j7 c c f g i k l h) (j7 ay ay ay ay ay ay ay h)
def Yw:=bC (λd e=>ah4 b d e) λj1=>ft [0] 1000000 (afM u b j1) c h
def S2:=aZ la λc l=>bV l (Yw u b c (ba b a8))
def aqq:=bj b c h
def anL:=fD u b 354 [c] [] h λ_ e=>hY c λf=>bp 1 f e λi=>cj e.aj 1 0 d (cG 1 [wD]) λk l=>c6 b 2061 none 5 1 1 false k (aA l []) e λm n=>eC b 2062 none 5 1 1 i m false n λo p=>hY c λq=>bt 1 q λr=>aX b none 1 r o p λ_ s=>aqq b (.bu .nilIface) s
def Xb:=aZ la λc l=>aZ l λd l=>bV l (anL u b c d (ba b a8))
def ar1:=aD h.aj c λe f=>aD h.aj d λg i=>dJ b (.a0 [e,g]) (aA f (aA i [])) h
def aq7:=fD u b 354 [c] [] h λ_ e=>hY c λf=>bp 1 f e λi=>GK b 2062 none 5 1 i d false e λk l=>hY c λm=>bt 1 m λn=>aX b none 1 n k l λ_ o=>bq true d λp=>ar1 b p (.bu .nilIface) o
def St:=aZ la λc l=>aZ l λd l=>bV l (aq7 u b c d (ba b a8))
def xw:=bj b c h
def ab8:=aW h.aj true 7 c λf=>cP d aS λg=>ce u b 324 f g h λn o=>bp 6 e o λq=>cb o.aj 7 q aS λr=>aW o.aj true 7 r λs=>aX b none 7 e s o λ_ t=>j2 n e t
def LJ:=bp 6 d h λf=>cb h.aj 7 f aL λg=>ab8 u b j2 g c d h
def ET(u:Fn)(b:Nat)(j2:gT)(j1:gx)(c d e f g i k:an)(h:aI):aw:=bX c k bG λl=>aP l (j2 d e h) (j1 d h)
def vR:=fw c aL λe=>b0 e true (bt 6 d λf=>aW h.aj false 1 f λg=>bq false g λi=>bY i cZ λk=>ET u b (LJ u b j2) j1 e c d f g i k h) (ET u b (LJ u b j2) j1 e c d ay ay ay ay h)
def Zs:=ip 54 b 2 none c h λe f=>oq 1 2 1000000 (vR u b (λg i=>cP g aS λk=>xw b k i)) d e f
def D5:=aZ la λc l=>aZ l λd l=>bV l (Zs u b c d (ba b a8))
def aah:=bj b c h
def ago:bI (u,e,f):=bC (λi k=>bX c i bG λl=>aah b l k) λj1=>b0 c true (bX d dh g λm=>j1 m h) (j1 ay h)
def afg:bI e:=bC (ago u b c f) λj3=>b0 f false (bt 5 d λg=>aW h.aj false 1 g λi=>bY i (.s 0 0) λk=>j3 g i k h) (j3 ay ay ay h)
def af6:=bX c f bG λg=>bC (afg u b g d) λj2=>b0 g true (j2 e e h) (j2 ay ay h)
def ae4:bI (g,i,k):=bC (af6 u b c d e) λj1=>b0 c true (bX f dh l λm=>j1 m h) (j1 ay h)
def agk:bI f:=bC (ae4 u b c d e g) λj4=>b0 g false (bt 3 d λi=>aW h.aj true 2 i λk=>eT [(.s 0 0),(.s 0 0)] λl=>mV false k l λm=>j4 i k l m h) (j4 ay ay ay ay h)
def agl:=bX c dh g λi=>bC (agk u b i d e) λj2=>b0 i true (j2 f f h) (j2 ay ay h)
def aeH:bI (i,k):=bC (agl u b c d e f) λj1=>b0 c false (bX g l bG λm=>j1 m h) (j1 ay h)
def ZO:bI (g,i,k):=bC (aeH u b c d e f l) λj3=>b0 l true (bt 2 d λm=>aW h.aj false 1 m λn=>bY n (.s 0 0) λo=>j3 m n o h) (j3 ay ay ay h)
def agw:=ip 54 b 4 none c h λg i=>bC (ZO u b d g e f) λj4=>b0 d false (bt 1 g λk=>aW i.aj false 1 k λl=>bY l (.s 0 0) λm=>j4 k l m m i) (j4 ay ay ay ay i)
def R2:=aZ la λc l=>aZ l λd l=>aZ l λe l=>aZ l λf l=>bV l (agw u b c d f e (ba b a8))
def OE:=bj b c h
def XX:=ce u b 265 c d h λk l=>bS k 0 λm=>bS k 1 λn=>bY m c λo=>bC (λ_ _ p q=>bX o p bG λr=>OE b r q) λj3=>b0 o true (bY n d λs=>j3 n d s l) (j3 ay ay ay l)
def aeI:bI (u,f,g):=bX c dh i λk=>aP k (OE b bG h) (j2 d e h)
def V7:bI (f,g):=bX c dh i λk=>bC (aeI u b j2 k d e) λj3=>b0 k false (bg u b 355 e h λn o=>fw n zi λp=>j3 e n p o) (j3 ay ay ay h)
def abO:bI (f,g):=bX c dh i λk=>bC (V7 u b j2 k d e) λj3=>b0 k false (bg u b 355 d h λn o=>fw n zi λp=>j3 d n p o) (j3 ay ay ay h)
def afw:=bC (XX u b) λj2=>bg u b 316 c h λg i=>ni g λk=>bC (abO u b j2 k c d) λj3=>b0 k false (bg u b 316 d i λn o=>ni n λp=>j3 d n p o) (j3 ay ay ay i)
def Sw:=aZ la λc l=>aZ l λd l=>bV l (afw u b c d (ba b a8))
def acM:=bj b c h
def Tj:bI u:=eQ c c λd=>acM b d h
def Dd:=aZ la λc l=>bV l (Tj u b c (ba b a8))
def acR:=dJ b (.a0 []) [] h
def Z8:bI u:=aJ b [4098] true 8 c h λn=>bZ b [4098] 8 d e h λo=>met b [4098] [o]<| aX b (some [4098]) 8 o f h λ_ p=>bZ b [4098] 8 d g p λq=>met b [4098] [q]<| aX b (some [4098]) 8 q n p λ_ r=>j6 d i k l m e r
def NK:=cP i aS λk=>cP i aS λl=>bZ b [4098] 8 c l h λm=>aJ b [4098] true 8 m h λn=>bZ b [4098] 8 c i h λo=>Z8 u b (λp q r s t v w=>cP v aS λx=>j6 p q r s t x w) o c i n k d e f g h
def Jk(u:Fn)(b:Nat)(j6:nP)(j5:kb)(c d e f g i k l m n o p q r s t v w x:an)(h:aI):aw:=bX c x bG λy=>aP y (j6 d e f g i k h) (j5 d e f g i h)
def aaS:=bZ b [4098] 8 c d h λf=>aJ b [4098] true 8 f h λg=>cP d aS λi=>bZ b [4098] 8 c i h λk=>aJ b [4098] true 8 k h λl=>n6 u b [4097] [4096,4098] e [g,l] [] h λm n=>cm m aL λo=>j12 e c d f g c d i k l m o n
def z4:=fw i d λk=>b0 k true (aaS u b (Jk u b (NK u b j6) j5 k c d e f g i) c i f h) (Jk u b (NK u b j6) j5 k c d e f g i ay ay ay ay ay ay ay ay ay ay ay ay h)
def Wg:=ih 0 1 2 3 8 9 1000000 (z4 u b (λi k l m n o=>bR n aS λp=>j5 i k l m p o)) c d e f g g h
def sR:=cm g e λi=>aP i (Wg u b j5 c d e f g h) (acR b h)
def Ln:=bR c aS λg=>fs 0 1 2 3 8 1000000 (sR u b) d c e f g h
def vV:=aZ la λc l=>aZ l λd l=>aZ l λe l=>aZ l λf l=>bV l (Ln u b d c e f (ba b a8))
def qu:=dJ b (.a0 []) [] h
def YG:=aD h.aj c λi k=>aD h.aj d λl m=>aD h.aj e λn o=>aD h.aj f λp q=>fD u b 336 [g,i,l,n,p] (aA k (aA m (aA o (aA q [])))) h λ_ r=>qu b r
def JM:bI (k,l):=bX c m bG λn=>aP n (YG u b d e f g i h) (qu b h)
def Cy:=cm f g λi=>b0 i true (cm g d λk=>JM u b i f g d e c g d k h) (JM u b i f g d e c ay ay ay h)
def abQ:=aD h.aj c λl m=>aD h.aj d λn o=>aD h.aj e λp q=>aD h.aj f λr s=>fD u b 336 [g,l,n,p,r] (aA m (aA o (aA q (aA s [])))) h λ_ t=>j5 g i f e k t
def HC:bI (m,n):=bX c o bG λp=>aP p (abQ u b j5 d e f g i k l h) (j5 i k g f l h)
def Cx:=cm d i λl=>b0 l true (cm i g λm=>HC u b (Cy u b) l d i g f c e k i g m h) (HC u b (Cy u b) l d i g f c e k ay ay ay h)
def abl:=aD h.aj c λm n=>aD h.aj d λo p=>aD h.aj e λq r=>aD h.aj f λs t=>fD u b 358 [g,m,o,q,s] (aA n (aA p (aA r (aA t [])))) h λ_ v=>j7 g i k f l c e v
def HM:bI (n,o):=bX c p bG λq=>aP q (abl u b j7 d e f g i k l m h) (j7 i k l g m d f h)
def Ha:=cP k l λm=>cm l e λn=>b0 n true (cm e m λo=>HM u b (Cx u b) n l e m g c d f i e m o h) (HM u b (Cx u b) n l e m g c d f i ay ay ay h)
def UI:=bZ b [4098] 8 c d h λq=>aJ b [4098] true 8 q h λr=>n6 u b [4097] [4096,4098] e [f,r] [] h λs t=>cm s aL λv=>ni v λw=>aP w (bR d aS λx=>j10 c g i k e l m x n o t) (j10 c g i k e l m p d o t)
def aaZ:=bR l m λo=>c8 (hs .u64 o) λp=>c8 (pt .shr p (.V .u64 18446744073709551617)) λq=>c8 (hs .i64 q) λr=>cP n r λs=>bZ b [4098] 8 c s h λt=>aJ b [4098] true 8 t h λv=>UI u b j10 c r g v d e f i k m n l h
def Dg:=cm l m λo=>aP o (aaZ u b j10 c d e f g i k l m n h) (j8 c d e f g i k l h)
def Ix:=cP k aS λn=>DM 0 1 2 3 4 18 19 20 21 22 1000000 (Dg u b (Ha u b)) c d e f g i k l m n h
def Sk:=c8 (hs .u64 c) λk=>c8 (pt .shr k (.V .u64 18446744073709551617)) λl=>c8 (hs .i64 l) λm=>bR m d λn=>fw d m λo=>aP o (cP n e λp=>Ix u b f g d e i m n p m h) (Ix u b f g d e i m n g d h)
def aew:bI u:=aJ b [4098] true 8 c h λk=>bZ b [4098] 8 d e h λl=>met b [4098] [l]<| aX b (some [4098]) 8 l f h λ_ m=>bZ b [4098] 8 d g m λn=>met b [4098] [n]<| aX b (some [4098]) 8 n k m λ_ o=>j3 d i e o
def aex:=cP e aS λf=>cP e aS λg=>bZ b [4098] 8 c g h λi=>aJ b [4098] true 8 i h λk=>bZ b [4098] 8 c e h λl=>aew u b (λm n o p=>cP o aS λq=>j3 m n q p) l c e k f d h
def AQ:=fw e d λf=>aP f (aex u b j3 c d e h) (qu b h)
def acm:=bZ b [4098] 8 c d h λl=>aJ b [4098] true 8 l h λm=>n6 u b [4097] [4096,4098] e [f,m] [] h λn o=>cm n aL λp=>ni p λq=>aP q (bR d aS λr=>j5 c g e r i o) (j5 c g e k d o)
def Vl:=bR f g λi=>c8 (hs .u64 i) λk=>c8 (pt .shr k (.V .u64 18446744073709551617)) λl=>c8 (hs .i64 l) λm=>bZ b [4098] 8 c d h λn=>aJ b [4098] true 8 n h λo=>acm u b j5 c m e o d g f h
def Ek:=cm f g λi=>aP i (Vl u b j5 c d e f g h) (j3 c d f h)
def Xc:=fs 0 2 4 14 15 1000000 (Ek u b (λg i k l=>fM 0 14 17 1000000 (AQ u b) g k i l)) c d e f d h
def XW:=cP f e λi=>bY i aS λk=>aP k (Xc u b c e g d h) ((bR d f λl=>Sk u b l e f c d g h))
def YB:bI u:=aJ b [4098] true 8 c h λk=>bZ b [4098] 8 d e h λl=>met b [4098] [l]<| aX b (some [4098]) 8 l f h λ_ m=>bZ b [4098] 8 d g m λn=>met b [4098] [n]<| aX b (some [4098]) 8 n k m λ_ o=>j3 d i e o
def VG:=bR e aS λf=>bR e aS λg=>bZ b [4098] 8 c g h λi=>aJ b [4098] true 8 i h λk=>bZ b [4098] 8 c e h λl=>YB u b (λm n o p=>bR o aS λq=>j3 m n q p) l c e k f d h
def Ab:=cP d aS λf=>cm e f λg=>aP g (VG u b j3 c d e h) (qu b h)
def aee:=aJ b [4098] true 8 c h λl=>bZ b [4098] 8 d e h λm=>aJ b [4098] true 8 m h λn=>n6 u b [4097] [4096,4098] f [l,n] [] h λo p=>cm o aL λq=>aP q (bR g aS λr=>j5 d e f r i p) (j5 d e f k g p)
def SC:=bR f g λi=>c8 (hs .u64 i) λk=>c8 (pt .shr k (.V .u64 18446744073709551617)) λl=>c8 (hs .i64 l) λm=>bZ b [4098] 8 c m h λn=>aee u b j5 n c d e m g f h
def Dp:=cm f g λi=>aP i (SC u b j5 c d e f g h) (j3 c d f h)
def S5:=fs 0 1 4 10 11 1000000 (Dp u b (λi k l m=>fM 0 10 13 1000000 (Ab u b) i l k m)) c d e f g h
def Vy:=cP c d λi=>bY i aS λk=>aP k (S5 u b e d f c g h) (XW u b e d c g f h)
def Fv:=aZ la λc l=>aZ l λd l=>aZ l λe l=>aZ l λf l=>aZ l λg l=>bV l (Vy u b e d c g f (ba b a8))
def ajP:=aD h.aj c λe f=>aD h.aj d λg i=>dJ b (.a0 [e,g]) (aA f (aA i [])) h
def ajt:=met b [2060] [c]<| aD h.aj c λe f=>bH u b (some [2060]) 320 [e] (aA f []) h λg i=>aJ b [7] false 1 d i λk=>ajP b g k i
def aiX:=met b [] [c,d]<| aD h.aj c λn o=>aD h.aj d λp q=>bH u b (some []) 269 [n,p] (aA o (aA q [])) h λr s=>met b [] [e,r]<| aD s.aj e λt v=>aD s.aj r λw x=>bH u b (some []) 349 [t,w] (aA v (aA x [])) s λy z=>met b [7] [f]<| aX b (some [7]) 1 f y z λ_ A=>j6 g i k f l m A
def apn:=aJ b [7] false 1 c h λk=>aJ b [3] false 1 d h λl=>met b [] [e]<| cj h.aj 1 0 e (cG 1 [(.V .u32 18446744073709551616)]) λm n=>c6 b 2087 (some [2087]) 26 1 1 false m (aA n []) h λo p=>met b [2087] [o]<| aD p.aj o λq r=>bH u b (some []) 320 [q] (aA r []) p λs t=>aiX u b j6 l s k c f d g i e t
def aqO:=c8 (FF 362 [c,d]) λi=>fD u b 361 [aig,i] [] h λk l=>cP k aS λm=>c8 (hs .u32 m) λn=>apn u b j6 d c n e f g l
def aqv:=bC (λi k l m n o p=>cb p.aj 1 l n λq=>aX b none 1 q o p λ_ r=>j5 i k l m n r) λj6=>aW h.aj false 1 c λs=>aW h.aj false 1 d λt=>ce u b 313 s t h λz A=>il z aL λB=>aP B (aqO u b j6 d c e f g A) (j6 e d f c g (.V .u32 18446744073709551616) A)
def aql:=met b [] [c]<| cj h.aj 1 0 c (cG 1 [(.V .u32 18446744073709551616)]) λk l=>c6 b 2072 (some [2072]) 26 1 1 false k (aA l []) h λm n=>aJ b [7] false 1 d n λo=>met b [2072] [m,o]<| eC b 2074 (some [2074,2072]) 26 1 4 m o false n λp q=>met b [2072,2074] [p]<| aD q.aj p λr s=>bH u b (some []) 320 [r] (aA s []) q λt v=>met b [7] [d]<| aX b (some [7]) 1 d t v λ_ w=>aqv u b j5 d e f g i w
def api:=bC (λi k l m n o=>cP n aS λp=>j5 i k l m p o) λa=>bZ b [] 1 c g h λq=>aJ b [] false 1 q h λr=>aql u b a r f d c e g h
def aqM:=bC (api u b j5) λa=>il g aL λi=>aP i (a c d e f g h) (j2 e f h)
def ajE:=ip 311 b 3 none c h λe f=>bq false d λg=>i3 b none (nf (Nat.add b 2060) 26 1 4 (f.aj (Nat.add b 2060)).cd [(.V .u32 18446744073709551616)] g g) f λi k=>ci 311 b 7 none [.aE] k λl m=>bC (ajt u b) λj2=>bq false d λn=>cP n aS λo=>ft [0,3,6,7,8] 1000000 (aqM u b j2) d e i l o m
def aib:=aZ la λc l=>aZ l λd l=>bV l (ajE u b d c (ba b a8))
def aop:=bj b c h
def aji:bI u:=c8 (hs .u32 i) λm=>cb h.aj 1 e g λn=>aX b none 1 n m h λ_ o=>j6 c d e f k l o
def aoo:=bC (aji u b j6) λj8=>cm g aL λl=>aP l (bR g aig λm=>j8 c d e aS f m i k h) (j8 c d e aL f g i k h)
def aou:bI (u,b):=cb h.aj 1 c d λk=>aW h.aj false 1 k λl=>c8 (hs .i64 l) λm=>cP e m λn=>j7 f c g d n i d h
def aqf:=bC (λk l m n o p q=>bR p aS λr=>j6 k l m n o r q) λa=>cb h.aj 1 c i λs=>aW h.aj false 1 s λt=>c8 (hs .i64 t) λv=>cP v f λw=>bC (aoo u b a) λj7=>bq false d λx=>cm i x λy=>aP y (aou u b j7 d i w c e g h) (j7 c d e i w g i h)
def aoK:=cm i g λk=>bC (aqf u b j6) λa=>aP k (a c d e f g i h) (j1 e h)
def aoO:=bq false c λe=>i3 b none (nf (Nat.add b 2059) 26 1 4 (h.aj (Nat.add b 2059)).cd [(.V .u32 18446744073709551616)] e e) h λf g=>bC (λi k=>bg u b 320 i k λn o=>aop b n o) λj1=>bq false c λp=>ft [0,1,5,6,13,14] 1000000 (aoK u b j1) c d f aL p aL g
def aiC:=aZ la λc l=>aZ l λd l=>bV l (aoO u b c d (ba b a8))
def Ye:=bj b c h
def ahA:=bC (λe f=>Ye b e f) λj1=>ce u b 367 c d h λm n=>aP m (bq true d λo=>kw c (some o) none λp=>Ye b p n) (j1 c n)
def U0:=aZ la λc l=>aZ l λd l=>bV l (ahA u b c d (ba b a8))
def auC:=bj b c h
def agP:=bg u b 275 c h λf g=>aD g.aj f λi k=>bH u b none 318 [i,(.s 1 0x2d)] (aA k []) g λl m=>bq true l λn=>auC b n m
def Z9:=aZ la λc l=>bV l (agP u b c (ba b a8))
def YM:=dJ b (.a0 []) [] h
def OU:=cP d f λg=>aD h.aj g λi k=>aD h.aj d λl m=>aD h.aj f λn o=>aD h.aj e λp q=>fD u b 372 [c,i,l,n,p] (aA k (aA m (aA o (aA q [])))) h λ_ r=>YM b r
def WK:=cP c d λi=>aD h.aj i λk l=>aD h.aj c λm n=>aD h.aj e λo p=>aD h.aj f λq r=>fD u b 372 [g,k,m,o,q] (aA l (aA n (aA p (aA r [])))) h λ_ s=>cP d e λt=>j5 g c f t e s
def adU:=cP c d λi=>bR c e λk=>cP k d λl=>aD h.aj i λm n=>aD h.aj l λo p=>aD h.aj d λq r=>aD h.aj f λs t=>fD u b 372 [g,m,o,q,s] (aA n (aA p (aA r (aA t [])))) h λ_ v=>cP e d λw=>j5 g c f d w v
def Vh:=fw f g λi=>aP i (WK u b j5 d f g e c h) (adU u b j5 d f g e c h)
def Lu:=eQ f g λi=>aP i (Vh u b j5 c d e f g h) (j4 c d e f h)
def abz:=cP c d λi=>cP e c λk=>fs 0 2 4 10 11 1000000 (Lu u b (OU u b)) f c g i k h
def C4:=aZ la λc l=>aZ l λd l=>aZ l λe l=>aZ l λf l=>aZ l λg l=>bV l (abz u b e d f c g (ba b a8))
def ahP:=bj b c h
def aha:=bR d e λf=>c8 (hs .u64 f) λg=>c8 (pt .shr g (.V .u64 18446744073709551617)) λi=>c8 (hs .i64 i) λk=>nN u b c [k] [] h λl m=>ni l λn=>aP n (bR k aS λo=>j3 c o e m) (j3 c d k m)
def ahY:=bC (aha u b j3) λa=>cm d e λf=>aP f (a c d e h) (j1 d h)
def arp:=bC (λe f=>ahP b e f) λj1=>ft [1,5,6] 1000000 (ahY u b j1) c aL d h
def af9:=aZ la λc l=>aZ l λd l=>bV l (arp u b d c (ba b a8))
def ahJ:=bj b c h
def ahy:=met b [4098,2056] [c,d]<| aD h.aj c λf g=>aD h.aj d λi k=>bH u b (some []) 269 [f,i] (aA g (aA k [])) h λl m=>aJ b [4096] false 1 e m λn=>met b [4098] [l,n]<| aD m.aj l λo p=>aD m.aj n λq r=>bH u b (some []) 313 [o,q] (aA p (aA r [])) m λs t=>fw s aL λv=>ahJ b v t
def aq5:=aJ b [4096] false 1 c h λf=>c8 (hs .u32 d) λg=>met b [] [g]<| cj h.aj 1 0 g (cG 1 [(.V .u32 18446744073709551616)]) λi k=>c6 b 2056 (some [2056]) 26 1 1 false i (aA k []) h λl m=>ahy u b f l e m
def Zc:=aZ la λc l=>aZ l λd l=>aZ l λe l=>bV l (aq5 u b d c e (ba b a8))
def an6:=bj b c h
def ajp:bI u:=bq true c λe=>bq true d λf=>il e f λg=>bC (λ_ _ _ _ _ i k=>bX g i bG λl=>an6 b l k) λj6=>b0 g true (bq true d λm=>kw c none (some m) λn=>bY n d λo=>j6 c d m n d o h) (j6 ay ay ay ay ay ay h)
def V8:=aZ la λc l=>aZ l λd l=>bV l (ajp u b c d (ba b a8))
def adq:=dJ b (.a0 []) [] h
def aeC:bI u:=aJ b [4098] true 8 c h λn=>bZ b [4098] 8 d e h λo=>met b [4098] [o]<| aX b (some [4098]) 8 o f h λ_ p=>bZ b [4098] 8 d g p λq=>met b [4098] [q]<| aX b (some [4098]) 8 q n p λ_ r=>j5 d i k l m r
def Qe:=bR d g λi=>bR e g λk=>bR e g λl=>bZ b [4098] 8 c l h λm=>aJ b [4098] true 8 m h λn=>bR d g λo=>bZ b [4098] 8 c o h λp=>aeC u b (λq r s t v w=>bR v aS λx=>j5 q r s t x w) p c i n k d e f g h
def Cl:=cm g f λi=>aP i (Qe u b j5 c d e f g h) (adq b h)
def XC:=fs 0 1 2 3 10 1000000 (Cl u b) c d e f aL h
def CQ:=aZ la λc l=>aZ l λd l=>aZ l λe l=>aZ l λf l=>aZ l λg l=>bV l (XC u b c d e f (ba b a8))
end
end Go.Hf

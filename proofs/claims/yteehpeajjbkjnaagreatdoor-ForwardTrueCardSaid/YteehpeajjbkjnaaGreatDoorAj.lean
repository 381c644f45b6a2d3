import Derived.Test.YteehpeajjbkjnaaGreatDoorAh
set_option maxRecDepth 100000
set_option linter.all false
namespace Go.Hf
noncomputable section
abbrev rz:=aO->ay
abbrev g9:=ao->rz
abbrev gZ:=ao->g9
abbrev n1:=ao->gZ
abbrev iF:=ao->n1
abbrev lA:=ao->iF
abbrev rB:=ao->lA
abbrev IC:=ao->rB
abbrev vg:=ao->IC
abbrev ID:=ao->vg
abbrev rA:=ao->ID
abbrev Iu:=ao->rA
abbrev Iv:=ao->Iu
abbrev Iw:=ao->Iv
abbrev sE:=ao->Iw
abbrev Iy:=ao->sE
abbrev Iz:=ao->Iy
abbrev IA:=ao->Iz
abbrev IB:=ao->IA
abbrev Nr:=ao->IB
abbrev ci {α:Type _} (_:α):=ay
def dx:ao:= .U true
def cQ:ao:= .U false
def aK:ao:= .bD []
def Rp:List (Nat×List Bool):=[(6,[false]),(7,[false]),(10,[false]),(16,[true]),(20,[false]),(21,[false]),(22,[false]),(24,[false]),(71,[false]),(78,[true]),(80,[true]),(84,[true,false]),(85,[true]),(97,[false,false]),(104,[true]),(106,[true]),(111,[false]),(117,[true]),(118,[false]),(119,[false]),(132,[true]),(140,[false]),(144,[false]),(157,[false]),(158,[false]),(159,[false]),(161,[true,false]),(162,[true]),(167,[true,true,false]),(168,[false]),(176,[false]),(181,[false]),(185,[false]),(195,[true,false]),(199,[false]),(205,[false]),(206,[false]),(209,[true,false]),(244,[true]),(257,[false]),(259,[true,false]),(264,[true,false]),(307,[true,false]),(335,[true]),(339,[true,false]),(394,[false]),(397,[true]),(416,[false]),(417,[true]),(434,[false]),(436,[false]),(443,[false]),(459,[false]),(462,[false]),(464,[true]),(476,[false]),(480,[false]),(506,[false]),(510,[false]),(516,[false]),(517,[false]),(521,[false]),(522,[false]),(546,[true]),(547,[false]),(551,[false]),(552,[false]),(561,[false]),(589,[true]),(590,[false]),(594,[false]),(604,[true,false]),(605,[true,false]),(617,[true,false]),(618,[true]),(619,[false]),(627,[false]),(630,[false])]
def u32:ao:= .ag .u8 18446744073709551648
def n20:ao:= .ag .i64 18446744073709551636
def aeJ:ao:= .ag .u8 18446744073709551673
def LH:ao:= .ag .i64 18446744073709553631
def aeF:ao:= .ag .u8 18446744073709551731
def aeG:ao:= .ag .u8 18446744073709551732
def aeK:ao:= .ag .u8 18446744073709551707
def HZ:ao:= .ag .u8 18446744073709551709
def acq:ao:= .ag .i64 18446744073709551664
def tA:ao:= .ag .u8 18446744073709551616
def MU:ao:= .ag .u8 18446744073709551664
def MT:ao:= .ag .u8 18446744073709551661
def aeH:ao:= .ag .u8 18446744073709551734
def aeL:ao:= .ag .u8 18446744073709551715
def aeI:ao:= .ag .u8 18446744073709551656
def HX:ao:= .ag .u8 18446744073709551657
def aco:ao:= .ag .i64 18446744073709554616
def ll:ao:= .ag .i64 18446744073709551615
def n32:ao:= .ag .i64 18446744073709551648
def C6:ao:= .ag .i64 18446744073709554617
def n14:ao:= .ag .i64 18446744073709551630
def LM:ao:= .ag .i64 18446744073709551625
def tj:ao:= .ag .i64 18446744073709551626
def arI:ao:= .ag .i64 18446744073709551627
def LL:ao:= .ag .i64 18446744073709551657
def z8:ao:= .ag .i64 18446744073709553663
def n24:ao:= .ag .i64 18446744073709551640
def ye:ao:= .ag .i64 18446744073709551624
def uL:ao:= .ag .i64 18446744073709551622
def yd:ao:= .ag .i64 18446744073709551623
def LG:ao:= .ag .i64 18446744073709553616
def Sf:ao:= .ag .i64 18446744073709551628
def G1:ao:= .ag .i64 18446744073709551816
def n30:ao:= .ag .i64 18446744073709551646
def dM:ao:= .ag .i64 18446744073709551618
def uK:ao:= .ag .i64 18446744073709551621
def ku:ao:= .ag .i64 18446744073709551620
def bt:ao:= .ag .i64 18446744073709551616
def eB:ao:= .ag .i64 18446744073709551619
def br:ao:= .ag .i64 18446744073709551617
def LF:ao:= .ag .i64 18446744073709551716
def n40:ao:= .ag .i64 18446744073709551656
abbrev nx:az:=[bt,.s 0 0,.s 0 0,.s 0 0,.ba,.s 0 0,.s 0 0,.ba,cQ,bt,.s 0 0,.s 0 0,bt,.s 0 0,.s 0 0,.s 0 0,.s 0 0,.s 0 0,.ba,.ba,.ba,.ba,.ba,.ba,.s 0 0,.s 0 0,.ba,.ba,.ba,.ba,.s 0 0,(.ag .u64 18446744073709551616)]
abbrev hG:az:=[.s 0 0,.s 0 0,bt,.ba,.s 0 0,.s 0 0,bt,.s 0 0,.s 0 0,bt,.s 0 0,.s 0 0,.s 0 0,.s 0 0,.s 0 0,.ba,.ba,bt,.s 0 0,.s 0 0,bt,.s 0 0,.s 0 0,.s 0 0,.s 0 0,.s 0 0,.ba,.ba,.ba,bt,.ba,bt,.s 0 0,.s 0 0]
abbrev nZ:az:=[.s 0 0,.s 0 0,.ba,bt,bt,.s 0 0,.s 0 0,bt,.s 0 0,.s 0 0,.s 0 0,.s 0 0,.s 0 0,.ba,.ba,bt,.s 0 0,.s 0 0,bt,.s 0 0,.s 0 0,.s 0 0,.s 0 0,.s 0 0,.ba,.ba,bt,.s 0 0,.s 0 0,bt,.s 0 0,.s 0 0,.s 0 0,.s 0 0,.s 0 0,.ba,.ba]
abbrev cW:az:=[bt,.s 0 0,.s 0 0,bt,.s 0 0,.s 0 0,.s 0 0,.s 0 0,.s 0 0,.ba,.ba]
abbrev dD:az:=[bt,.s 0 0,.s 0 0,.s 0 0,.s 0 0,.s 0 0,.ba]
abbrev axQ:az:=[bt,.s 0 0,.s 0 0,.s 0 0,.s 0 0,.s 0 0,.ba,.ba]
def bE(u:Fn)(b f:Nat)(x:ao)(h:aO)(k:dv):ay:=bi h.am x λq s=>cm u b none f [q] (aZ s []) h k
def b4(u:Fn)(b f:Nat)(x y:ao)(h:aO)(k:dv):ay:=bi h.am x λq s=>bi h.am y λr t=>cm u b none f [q,r] (aZ s (aZ t [])) h k
def bJ(b:Nat)(x:ao)(h:aO):ay:=bi h.am x λq s=>im b q (aZ s []) h
def aS(b:Nat)(r:List Nat)(a:Bool)(n:Nat)(x:ao)(h:aO)(k:ao->ay):ay:=met b r [x]<| bh h.am a n x k
def dW(b:Nat)(r:List Nat)(n:Nat)(x y:ao)(h:aO)(k:ao->ay):ay:=met b r [x,y]<| de h.am n x y k
def bn(n:Nat)(x:ao)(h:aO)(k:ao->ay):ay:=bz n x λp=>bh h.am false 1 p k
def lK(a M n:Nat)(f:gZ->gZ):gZ:=lj [a,M] n f
def ji(a M N n:Nat)(f:n1->n1):n1:=lj [a,M,N] n f
def gd(a M N O n:Nat)(f:iF->iF):iF:=lj [a,M,N,O] n f
def fm(a M N O P n:Nat)(f:lA->lA):lA:=lj [a,M,N,O,P] n f
def k1(a M N O P Q n:Nat)(f:rB->rB):rB:=lj [a,M,N,O,P,Q] n f
def uG(a M N O P Q R al n:Nat)(f:vg->vg):vg:=lj [a,M,N,O,P,Q,R,al] n f
def z3(a M N O P Q R al ar bd n:Nat)(f:rA->rA):rA:=lj [a,M,N,O,P,Q,R,al,ar,bd] n f
def C1(a M N O P Q R al ar bd bs bx b1 b2 n:Nat)(f:sE->sE):sE:=lj [a,M,N,O,P,Q,R,al,ar,bd,bs,bx,b1,b2] n f
variable(u:Fn) (T:az) (b:Nat) (j0:rz) (X:g9) (j:gZ) (J:n1) (L:iF) (F:lA) (j6:rB) (S:IC) (W:vg) (Y:ID) (kE:rA) (Z:Iu) (j12:Iv) (j13:Iw) (V:sE) (j15:Iy) (j16:Iz) (j17:IA) (j18:IB) (j19:Nr) (c d e f g i k l m n o p q r s t v w x y z A B C D E G H I K:ao) (h:aO) (bj:cD)
def eE:=bJ b c h
def JO:ci (u,i):=cS c k cQ λl=>bp l (eE b cQ h) (L d e f g h)
def Pa:=bi h.am c λi k=>bi h.am d λl m=>bi h.am e λn o=>cm u b none 11 [i,l,n] (aZ k (aZ m (aZ o []))) h λp q=>cP p 0 λr=>cP p 1 λs=>cZ s true (gr r λt=>JO u b L s c e f g r t q) (JO u b L s c e f g aK aK q)
def Pb:=de h.am 14 e f λg=>bz 3 g λi=>bh h.am true 11 i λk=>Pa u b (λl m n o p=>dT o br λq=>L l m n q p) c k d e f h
def zq:=cv false e λg=>fi f g λi=>bp i (Pb u b L c d e f h) (j0 h)
def Pc:=bi h.am c λg i=>dC u b 10 [d,g,eB] (aZ i []) h λk l=>eo l.am 11 0 k (eF 1 cW) λm n=>fB b 2105 none 44 11 1 false m (aZ n []) l λo p=>bi p.am c λq r=>bi p.am e λs t=>bi p.am o λv w=>cm u b none 9 [q,.ba,s,v] (aZ r (aZ t (aZ w []))) p λx y=>gd 7 10 13 14 1000000 (zq u b (λz=>eE b dx z)) c f x bt y
def FC:ci (u,i):=cS c dx k λl=>bp l (eE b dx h) (L d e f g h)
def JP:=bi h.am c λg i=>bi h.am d λk l=>bi h.am e λm n=>cm u b none 8 [g,k,m] (aZ i (aZ l (aZ n []))) h λo p=>cP o 0 λq=>cP o 1 λr=>gr q λs=>cZ s false (gr r λt=>FC u b (Pc u b) s c f d e r t p) (FC u b (Pc u b) s c f d e aK aK p)
def FD:=bE u b 5 c h λi k=>eu 0 1 d [.ba,bt] λl=>fO l λm=>eR 29 b 31 none m k λn o=>bi o.am i λp q=>dC u b 6 [n,p] (aZ q []) o λr s=>eu 0 1 e [.ba,bt] λt=>fO t λv=>eR 29 b 37 none v s λw x=>dC u b 7 [w] [] x λy z=>JP u b i r y n z
def zr:ci (u,g,i):=cS c dx k λl=>bp l (eE b dx h) (J d e f h)
def B1:=cv false d λf=>mQ f LF λg=>cZ g false (cv false e λi=>mQ i n40 λk=>zr u b (FD u b) g c d e e i k h) (zr u b (FD u b) g c d e aK aK aK h)
def B2:=cm u b none 4 [] [] h λf g=>gr f λi=>bp i (eE b cQ g) (B1 u b c d e g)
def ik:=b0 T λc l=>b0 l λd l=>b0 l λe l=>dF l (B2 u b c d e (bN b bj))
def eV:=bJ b c h
def ai8:=met b [] [c]<| de h.am 14 c bt λd=>bz 0 d λe=>aS b [] true 2 e h λf=>cm u b (some []) 15 [(.s 9 0x706f73702d6e617470)] [] h λg i=>iP false f g λk=>j6 c d e f g k i
def Xn:ci (e,f,g,i,k,l,m):=cS c n cQ λo=>cZ o true (ai8 u b (λ_ _ _ _ _ p q=>cS o p cQ λr=>eV b r q) d h) ((cS o aK cQ λr=>eV b r h))
def ai9:=met b [] [c]<| eo h.am 11 0 c (eF 1 cW) λi k=>fB b 2067 (some [2067]) 44 11 1 false i (aZ k []) h λl m=>met b [2067] [l]<| bi m.am l λn o=>cm u b (some []) 13 [(.s 4 0x6e617470),n] (aZ o []) m λp q=>met b [] [d,p]<| bi q.am d λr s=>bi q.am p λt v=>cm u b (some []) 14 [r,t] (aZ s (aZ v [])) q λw x=>W e f g d c l p w x
def aja:=met b [] [c]<| de h.am 14 c bt λe=>bz 3 e λf=>aS b [] true 11 f h λg=>aS b [1] true 11 d h λi=>ai9 u b W i g c e f h
def ajb:=met b [] [c]<| eo h.am 11 0 c (eF 1 cW) λf g=>fB b 2056 (some [2056]) 44 11 1 false f (aZ g []) h λi k=>met b [2056] [d,i]<| bi k.am d λl m=>bi k.am i λn o=>cm u b (some []) 9 [l,.ba,n,.ba] (aZ m (aZ o [])) k λp q=>cv false p λr=>cj r br λs=>cZ s true (aja u b (Xn u b s p) p e q) (Xn u b s p aK aK aK aK aK aK aK aK q)
def ajc:=bl b none 11 c d h λ_ e=>cm u b (some []) 5 [(.ag .u32 18446744073709552128)] [] e λf g=>aS b [1] true 11 c g λi=>met b [] [i]<| eo g.am 11 0 i (eF 1 cW) λk l=>fB b 2054 (some [2054]) 44 11 1 false k (aZ l []) g λm n=>met b [2054] [m]<| bi n.am m λo p=>cm u b (some []) 13 [(.s 4 0x706f7370),o] (aZ p []) n λq r=>ajb u b q f c r
def ajd:=cm u b none 12 [(.s 1 0x61)] [] h λc d=>dw 44 b 1 none cW d λe f=>ajc u b e c f
def jT:=dF T (ajd u b (bN b bj))
def hM:=bJ b c h
def JU:ci u:=bh h.am true 32 g λi=>eo h.am 32 0 i (eF 1 nx) λk l=>fB b 2131 none 73 32 1 false k (aZ l []) h λm n=>fW b 2132 none 73 32 568 d m false n λo p=>L c o e f p
def Xq:ci u:=bh h.am true 34 c λk=>eo h.am 34 0 k (eF 1 hG) λl m=>fB b 2127 none 81 34 1 false l (aZ m []) h λn o=>bz 27 d λp=>bl b none 1 p n o λ_ q=>F e f g i d q
def Pk:=met b [4096,4098,2081,2132,2105,2127] [c,d,e,f]<| bi h.am c λm n=>bi h.am d λo p=>bi h.am e λq r=>bi h.am f λs t=>cm u b (some []) 19 [m,o,q,s] (aZ n (aZ p (aZ r (aZ t [])))) h λv w=>cP v 0 λx=>cP v 1 λy=>dw 81 b 9 (some [9]) hG w λz A=>met b [9] [z]<| bl b (some [9]) 34 z x A λ_ B=>cj y bt λC=>bp C (Xq u b F z g i c k l B) (F i c k l g B)
def Pl:=dW b [] 13 c d h λk=>bz 1 k λl=>aS b [] true 11 l h λm=>dW b [] 13 c d h λn=>bz 12 n λo=>aS b [] false 1 o h λp=>Pk u b F e f m p g i c d h
def Pm:=eu 0 1 ku nx λk=>eu 1 2 c k λl=>eu 21 1 d l λm=>fO m λn=>dw 73 b 8 (some [8]) nx h λo p=>met b [8] [o]<| bl b (some [8]) 32 o n p λ_ q=>bz 1 o λr=>aS b [8] true 2 r q λs=>Pl u b (JU u b L) e f g s o i q
def Pn:=met b [] [c]<| bi h.am c λi k=>cm u b (some []) 15 [i] (aZ k []) h λl m=>dW b [] 13 d e m λn=>bz 1 n λo=>aS b [] true 11 o m λp=>met b [] [p]<| eo m.am 11 0 p (eF 1 cW) λq r=>fB b 2105 (some [2105]) 44 11 1 false q (aZ r []) m λs t=>Pm u b L l s d e f g t
def Po:=dW b [] 13 e f h λg=>bz 0 g λi=>aS b [] false 1 i h λk=>Pn u b L k e f d c h
def Pp:=dj (yF .shr c f) λg=>dj (lZ .and g (.ag .u32 18446744073709551617)) λi=>cj i (.ag .u32 18446744073709551616) λk=>bp k ((dT f br λl=>L c d e l h)) (Po u b (λm n o p q=>dT p br λl=>L m n o l q) c d e f h)
def zu:=cv false e λg=>fi f g λi=>bp i (Pp u b L c d e f h) (X d h)
def Ph:=cm u b none 18 [] [] h λe f=>gd 0 3 6 7 1000000 (zu u b (λg i=>hM b g i)) c d e bt f
def Xo:ci u:=aS b [] false 1 c h λk=>eu 0 1 eB nx λl=>eu 1 2 d l λm=>eu 20 1 k m λn=>fO n λo=>met b [] [o]<| eo h.am 32 0 o (eF 1 nx) λp q=>fB b 2080 (some [2080]) 73 32 1 false p (aZ q []) h λr s=>met b [4096,4098,2081,2132,2080] [e,r]<| fW b 2081 (some [2081,4096,4098,2081,2132]) 73 32 568 e r false s λt v=>L f t g i v
def Xp:=dW b [] 1 e f h λg=>aS b [] false 1 g h λi=>met b [] [i]<| de h.am 37 i bt λk=>bz 0 k λl=>aS b [] true 2 l h λm=>dW b [] 1 e f h λn=>Xo u b (λo p q r s=>dT r br λt=>L o p q t s) n m d c e f h
def B4:=cv false e λg=>fi f g λi=>bp i (Xp u b L c d e f h) (j c d h)
def Pj:=dC u b 16 [] [] h λd e=>cm u b none 17 [] [] e λf g=>gd 0 3 4 5 1000000 (B4 u b (Ph u b)) c d f bt g
def jU:=b0 T λc l=>dF l (Pj u b c (bN b bj))
def i4:=bJ b c h
def JV:ci u:=bh h.am true 11 i λk=>eo h.am 11 0 k (eF 1 cW) λl m=>fB b 2101 none 44 11 1 false l (aZ m []) h λn o=>fW b 2102 none 44 11 176 e n false o λp q=>F c d p f g q
def Xt:=bh h.am true 11 c λk=>eo h.am 11 0 k (eF 1 cW) λl m=>fB b 2075 none 44 11 1 false l (aZ m []) h λn o=>bi o.am n λp q=>cm u b none 13 [(.s 4 0x706f7370),p] (aZ q []) o λr s=>bl b none 11 c r s λ_ t=>j6 d e f g i c t
def Xu:=bh h.am true 11 c λk=>eo h.am 11 0 k (eF 1 cW) λl m=>fB b 2080 none 44 11 1 false l (aZ m []) h λn o=>bi o.am n λp q=>cm u b none 13 [(.s 4 0x6e617470),p] (aZ q []) o λr s=>bl b none 11 c r s λ_ t=>j6 d e f g i c t
def Xv:=eo h.am 11 0 c (eF 1 cW) λl m=>fB b 2085 none 44 11 1 false l (aZ m []) h λn o=>bi o.am n λp q=>cm u b none 13 [(.s 3 0x6c656e),p] (aZ q []) o λr s=>dC u b 22 [d] [] s λt v=>eo v.am 11 0 r (eF 2 cW) λw x=>eo v.am 11 1 t w λy z=>fB b 2089 none 44 11 2 false y (aZ x (aZ z [])) v λA B=>bi B.am A λC D=>cm u b none 13 [(.s 1 0x3c),C] (aZ D []) B λE G=>bl b none 11 e E G λ_ H=>j6 d f g i k e H
def Xw:=dC u b 22 [c] [] h λk l=>dC u b 22 [c] [] l λm n=>eo n.am 11 0 k (eF 2 cW) λo p=>eo n.am 11 1 m o λq r=>fB b 2097 none 44 11 2 false q (aZ p (aZ r [])) n λs t=>bi t.am s λv w=>cm u b none 23 [(.s 6 0x6c696e6b6564),v] (aZ w []) t λx y=>bl b none 11 d x y λ_ z=>j6 c e f g i d z
def Xx:=cj c eB λl=>bp l (Xw u b j6 d e f g i k h) (j6 d f g i k e h)
def Xy:=cj c dM λl=>bp l (bh h.am true 11 d λm=>Xv u b j6 m e d f g i k h) (Xx u b j6 c e d f g i k h)
def Xz:=cj c br λl=>bp l (Xu u b j6 d e f g i k h) (Xy u b j6 c d e f g i k h)
def XA:=bi h.am d λi k=>dC u b 10 [c,i,br] (aZ k []) h λl m=>dw 44 b 8 none cW m λn o=>bl b none 11 n l o λ_ p=>dC u b 21 [c,uK] [] p λq r=>cj q bt λs=>bp s (Xt u b (JV u b (λt v w x y z=>dT y br λA=>F t v w x A z)) n c d e f g r) (Xz u b (JV u b (λt v w x y z=>dT y br λA=>F t v w x A z)) q n c d e f g r)
def xi:=fi g f λi=>bp i (XA u b F c d e f g h) (X e h)
def Xs:=bi h.am c λe f=>dC u b 20 [d,e,eB,dM] (aZ f []) h λg i=>dC u b 21 [d,ku] [] i λk l=>fm 0 1 5 6 7 1000000 (xi u b (λm n=>i4 b m n)) d c g k bt l
def FG:=b0 T λc l=>b0 l λd l=>dF l (Xs u b d c (bN b bj))
def mm:=bJ b c h
def XQ:=bh h.am false 1 c λk=>bE u b 15 k h λn o=>dC u b 24 [d,dM] [] o λp q=>eu 0 2 n [.s 0 0,.s 0 0,bt,.s 0 0,.s 0 0,.s 0 0,.s 0 0,.s 0 0,.ba] λr=>eu 2 7 p r λs=>fO s λt=>eo q.am 9 0 t (eF 1 [.s 0 0,.s 0 0,bt,.s 0 0,.s 0 0,.s 0 0,.s 0 0,.s 0 0,.ba]) λv w=>fB b 2066 none 91 9 1 false v (aZ w []) q λx y=>fW b 2067 none 91 9 144 e x false y λz A=>F d z f g i A
def XR:=de h.am 1 e g λi=>XQ u b (λk l m n o p=>dT o br λq=>F k l m n q p) i c d e f g h
def B8:=fi g f λi=>bp i (XR u b F c d e f g h) (X d h)
def XS:=eo h.am 1 0 (.s 1 0x78) (eF 4 [.s 0 0]) λd e=>eo h.am 1 1 (.s 1 0x79) d λf g=>eo h.am 1 2 (.s 1 0x7a) f λi k=>eo h.am 1 3 (.s 1 0x6e) i λl m=>fB b 2054 none 9 1 4 false l (aZ e (aZ g (aZ k (aZ m [])))) h λn o=>cv false n λp=>fm 0 3 6 7 8 1000000 (B8 u b (λq r=>mm b q r)) c .ba n p bt o
def FH:=b0 T λc l=>dF l (XS u b c (bN b bj))
def mn:=bi h.am c λe f=>bi h.am d λg i=>im b (.bD [e,g]) (aZ f (aZ i [])) h
def PM:ci (u,b):=cZ f true ((cS f i cQ λk=>F c d e k g h)) ((cS f aK cQ λk=>F c d e k g h))
def JZ:=bi h.am c λk l=>bi h.am d λm n=>bi h.am e λo p=>cm u b none 11 [k,m,o] (aZ l (aZ n (aZ p []))) h λq r=>cP q 0 λs=>cP q 1 λt=>gr t λv=>bp v (mn b cQ cQ r) (PM u b F c f e g i s r)
def J0:=de h.am 11 d g λi=>bh h.am true 11 i λk=>JZ u b (λl m n o p q=>dT p br λr=>F l m n o r q) c k e d f g h
def xm:=cv false d λi=>fi g i λk=>bp k (J0 u b F c d e f g h) (X f h)
def PN:=fm 0 1 2 8 9 1000000 (xm u b (λf g=>mn b f dx g)) c d e dx bt h
def FM:=b0 T λc l=>b0 l λd l=>b0 l λe l=>dF l (PN u b c d e (bN b bj))
def tu:=bJ b c h
def P4:ci (u,b):=cv false e λk=>cj k i λl=>bp l (X e h) (F c d e f g h)
def Yh:ci u:=eu 0 2 c [.s 0 0,.s 0 0,.ba,bt,.s 0 0,.s 0 0,bt,.s 0 0,.s 0 0,.s 0 0,.s 0 0,.s 0 0,.ba,.ba] λx=>eu 2 1 d x λy=>eu 3 11 e y λz=>fO z λA=>eo h.am 14 0 A (eF 1 [.s 0 0,.s 0 0,.ba,bt,.s 0 0,.s 0 0,bt,.s 0 0,.s 0 0,.s 0 0,.s 0 0,.s 0 0,.ba,.ba]) λB C=>fB b 2183 none 49 14 1 false B (aZ C []) h λD E=>fW b 2184 none 49 14 232 f D false E λG H=>bh H.am true 11 g λI=>eo H.am 11 0 I (eF 1 cW) λK a=>fB b 2187 none 44 11 1 false K (aZ a []) H λM N=>fW b 2188 none 44 11 176 i M false N λO P=>V k l G O m n o p q r s t v w P
def J7:=bz 0 l λv=>bh h.am true 2 v λw=>bh h.am true 11 n λx=>Yh u b V w m x e n f c d g i k l o p q r s t h
def J8:ci (u,b,w,x,y):=cS c dx z λA=>bp A (V d e f g i k l m n o p q r s h) (j16 d e f g i k l m t v n o p q r s h)
def P8:ci (w,x):=cS c dx y λz=>cZ z false (bh h.am true 11 v λA=>b4 u b 32 g A h λG H=>cj G br λI=>J8 u b V j16 z d e f g i k l m n o p q r s t v g A G I H) (J8 u b V j16 z d e f g i k l m n o p q r s t v aK aK aK aK h)
def Yk:=bn 0 c h λw=>cj w dM λx=>cZ x false (bh h.am true 11 c λy=>bE u b 31 y h λB C=>mQ B G1 λD=>P8 u b V (J7 u b V) x d e f g i k l m n o p q r s t c y B D C) (P8 u b V (J7 u b V) x d e f g i k l m n o p q r s t c aK aK aK h)
def Yl:=bz 17 l λt=>bh h.am true 11 t λv=>b4 u b 30 v m h λA B=>dw 44 b 23 none cW B λC D=>bl b none 11 C A D λ_ E=>Yk u b V C c d e f g i k l n o p q r s m E
def J9:ci (u,b,v,w,x):=cS c dx y λz=>bp z (V d e f g i k l m n o p q r s h) (j15 d e f g i k l m t n o p q r s h)
def P9:=cP c 1 λv=>gr v λw=>cZ w false (bz 17 m λx=>bh h.am true 11 x λy=>b4 u b 29 y t h λD E=>J9 u b V j15 w d e f g i k l m n o p q r s t x y t D E) (J9 u b V j15 w d e f g i k l m n o p q r s t aK aK aK aK h)
def Yb:=bn 3 l h λv=>bi h.am f λw x=>bi h.am v λy z=>bi h.am m λA B=>cm u b none 28 [w,y,A] (aZ x (aZ z (aZ B []))) h λC D=>cP C 0 λE=>P9 u b V (Yl u b V) C c d e f g i k l n o p q r s E D
def Yc:=met b [] [c,d]<| bi h.am c λv w=>bi h.am d λx y=>cm u b (some []) 27 [v,x,.ba] (aZ w (aZ y [])) h λz A=>cP z 0 λB=>cP z 1 λC=>gr C λD=>bp D (V e f g i k l m n o p q r s t A) (Yb u b V e f g i k l m n B o p q r s t A)
def Yd:=bz 28 l λt=>aS b [18] false 1 t h λv=>met b [] [v]<| de h.am 11 v bt λw=>aS b [] true 11 w h λx=>aS b [20] true 11 m h λy=>Yc u b V x y c d e f g i k l n o p q r s h
def P5:=de h.am 11 p r λs=>bh h.am true 11 s λt=>dw 44 b 20 none cW h λv w=>bl b none 11 v t w λ_ x=>cv false e λy=>p0 y n30 λz=>bp z (tu b e x) (Yd u b (λA B C D E G H I K a M N O P Q=>dT P br λR=>V A B C D E G H I K a M N O R Q) c d e f g i k l v m n o p q r x)
def Ci:=fi r q λs=>bp s (P5 u b V c d e f g i k l m n o p q r h) (kE c d e f g i k m n o h)
def Ye:=de h.am 34 l n λo=>bh h.am true 34 o λp=>dw 81 b 18 none hG h λq r=>bl b none 34 q p r λ_ s=>cv false k λt=>C1 3 9 12 13 14 15 16 18 68 69 70 74 75 76 1000000 (Ci u b (λv w x y z A B C D E G=>dT E br λH=>kE v w x y z A B C D H G)) c d e f g i k q l m n k t bt s
def Cj:=fi n m λo=>bp o (Ye u b kE c d e f g i k l m n h) (j6 c d e f g i h)
def Yf(u:Fn)(b:Nat)(F:lA)(X:g9)(c d e f g:ao)(h:aO):ay:=cv false e λi=>fW b 2112 none 44 11 176 .ba f false h λk l=>fW b 2114 none 44 11 176 k c false l λm n=>bE u b 26 m n λq r=>cv false d λs=>z3 3 9 12 13 14 15 16 68 69 70 1000000 (Cj u b (P4 u b X (λt v w x y z=>dT y br λA=>F t v w x A z))) c d e f g i q d s bt r
def Ck:=fi g eB λi=>bp i (Yf u b F X c d e f g h) (X e h)
def Yg:=fW b 2104 none 44 11 176 .ba c false h λg i=>fm 3 9 12 13 14 1000000 (Ck u b (λk l=>tu b k l)) d e f g bt i
def xo:=cv false e λf=>cj f bt λg=>bp g (tu b .ba h) (Yg u b c d e .ba h)
def P6:ci u:=bh h.am true 34 c λl=>eo h.am 34 0 l (eF 1 hG) λm n=>fB b 2096 none 81 34 1 false m (aZ n []) h λo p=>fW b 2097 none 81 34 544 d o false p λq r=>j6 e f q g i k r
def F4:ci (m,n,o):=cS c p cQ λq=>bp q (P6 u b j6 d e f g i k l h) (j6 f g e i k l h)
def F5:ci (m,n):=cS c dx o λp=>cZ p true (bz 28 d λq=>bh h.am false 1 q λr=>cv false r λs=>mQ s bt λt=>F4 u b j6 p d e f g i k l q r s t h) (F4 u b j6 p d e f g i k l aK aK aK aK h)
def Yi:=bl b none 34 c d h λ_ m=>bn 2 c m λo=>cj o eB λp=>cZ p false (bz 2 c λq=>bh m.am false 1 q λr=>cj r dM λs=>F5 u b j6 p c e f g i k l q r s m) (F5 u b j6 p c e f g i k l aK aK aK m)
def Yj:=de h.am 34 f i λk=>bh h.am true 34 k λl=>dw 81 b 11 none hG h λm n=>Yi u b (λo p q r s t v=>dT t br λw=>j6 o p q r s w v) m l e c d f g i n
def Cl:=fi i g λk=>bp k (Yj u b j6 c d e f g i h) (J c d e h)
def P7:=b4 u b 25 c d h λm n=>cv false m λo=>k1 2 3 9 26 27 28 1000000 (Cl u b (xo u b)) e f .ba m o bt n
def FR:=b0 T λc l=>b0 l λd l=>b0 l λe l=>b0 l λf l=>dF l (P7 u b c d e f (bN b bj))
def Dm:=jh h.am c true 11 λd=>bJ b d h
def Er:=bh h.am true 2 d λf=>b4 u b 38 f e h λm n=>bl b none 11 c m n λ_ o=>Dm b c o
def UH:=gU e br λm=>bi h.am d λn o=>bi h.am m λp q=>dC u b 10 [c,n,p] (aZ o (aZ q [])) h λr s=>eo s.am 11 0 r (eF 1 cW) λt v=>fB b 2122 none 44 11 1 false t (aZ v []) s λw x=>fW b 2123 none 44 11 176 k w false x λy z=>(dT l br λA=>W c d e f g i y A z)
def Bl:=fi l i λm=>bp m (UH u b W c d e f g i k l h) (J f g k h)
def I2:=bh h.am true 2 g λi=>b4 u b 37 d i h λo p=>cP o 0 λq=>cP o 1 λ_=>uG 0 1 2 6 8 11 13 14 1000000 (Bl u b (Er u b)) c d e f g q .ba bt p
def UI:=cv false c λk=>bi h.am k λl m=>dC u b 21 [d,l] (aZ m []) h λn o=>de o.am 1 c n λp=>bh o.am false 1 p λq=>bE u b 36 q o λt v=>bl b none 2 e t v λ_ w=>F d f g i e w
def UJ:=cv false c λk=>bi h.am k λl m=>dC u b 21 [d,l] (aZ m []) h λn o=>de o.am 1 c n λp=>bh o.am false 1 p λq=>bE u b 15 q o λt v=>bl b none 2 e t v λ_ w=>F d f g i e w
def UK:=dw 39 b 8 none [.s 0 0,.s 0 0] h λg i=>cm u b none 34 [] [] i λk l=>cm u b none 35 [] [] l λm n=>dC u b 21 [c,ku] [] n λo p=>fi o eB λq=>bp q (UI u b (I2 u b) k c g d e f p) (UJ u b (I2 u b) m c g d e f p)
def UL:=dC u b 24 [c,br] [] h λe f=>bE u b 33 e f λk l=>bl b none 11 d k l λ_ m=>Dm b d m
def NR:=cj c eB λi=>bp i (UL u b d e h) (L d f g e h)
def Bk:=fi g eB λi=>bp i (dC u b 22 [c] [] h λk l=>bl b none 11 f k l λ_ m=>Dm b f m) (NR u b (UK u b) g c f d e h)
def Es:ci (u,b,k):=cS c l cQ λm=>bp m (dj (gR .rem d ku) λn=>F e f g i n h) (F e f g i d h)
def NQ:=dw 44 b 6 none cW h λf g=>dC u b 21 [c,Sf] [] g λi k=>fi d br λl=>cZ l true (mQ i eB λm=>Es u b (Bk u b) l i c e d f i m k) (Es u b (Bk u b) l i c e d f aK aK k)
def pl:=b0 T λc l=>b0 l λd l=>b0 l λe l=>dF l (NQ u b c e d (bN b bj))
def adl:=bi h.am c λe f=>bi h.am d λg i=>im b (.bD [e,g]) (aZ f (aZ i [])) h
def UW:=bl b none 7 c d h λ_ f=>aS b [8] true 7 c f λg=>cm u b (some []) 41 [] [] f λi k=>met b [] [g,i]<| bi k.am g λl m=>bi k.am i λn o=>cm u b (some []) 40 [l,n] (aZ m (aZ o [])) k λp q=>gr p λr=>cj e bt λs=>adl b r s q
def UX:=eR 44 b 4 none c h λf g=>bh g.am true 11 f λi=>bi g.am d λk l=>bi g.am i λm n=>bi g.am e λo p=>cm u b none 39 [k,m,o,LG] (aZ l (aZ n (aZ p []))) g λq r=>cP q 0 λs=>cP q 1 λ_=>cP q 2 λt=>dw 42 b 8 none dD r λv w=>UW u b v s t w
def Et:=b0 T λc l=>b0 l λd l=>b0 l λe l=>dF l (UX u b d c e (bN b bj))
def Mf:=jh h.am c true 11 λd=>bJ b d h
def age:=dw 44 b 2 none cW h λd e=>bE u b 15 c e λi k=>bE u b 42 i k λn o=>bl b none 11 d n o λ_ p=>Mf b d p
def UY:=b0 T λc l=>dF l (age u b c (bN b bj))
def lX:=jh h.am c true 34 λe=>bi h.am e λf g=>bi h.am d λi k=>im b (.bD [f,i]) (aZ g (aZ k [])) h
def agP:=bz 6 d λe=>bh h.am true 11 e λf=>bz 17 d λg=>bh h.am true 11 g λi=>b4 u b 64 f i h λo p=>bz 30 d λq=>bl b none 1 q o p λ_ r=>j c d r
def agZ:=met b [2168] [c,d]<| fW b 2173 (some [2173,2168]) 39 2 32 c d false h λi k=>met b [2168,2173] [e,i]<| bi k.am e λl m=>bi k.am i λn o=>cm u b (some []) 63 [l,n] (aZ m (aZ o [])) k λp q=>gr p λr=>bp r (fO hG λs=>bl b none 34 f s q λ_ t=>lX b f LL t) (j f g q)
def aha:=met b [] [c]<| fW b 2168 (some [2168]) 39 2 32 .ba c false h λg i=>bz 6 d λk=>aS b [14] true 11 k i λl=>met b [2245,2277,2338,2559] [l]<| eo i.am 11 0 l (eF 1 cW) λm n=>fB b 2171 (some [2171]) 44 11 1 false m (aZ n []) i λo p=>met b [2171] [o]<| bi p.am o λq r=>cm u b (some []) 58 [q] (aZ r []) p λs t=>agZ u b j g s e f d t
def ahl:=dy (agP u b j) λa=>bz 17 e λf=>aS b [14] true 11 f h λg=>met b [2245,2277,2338,2559] [g]<| eo h.am 11 0 g (eF 1 cW) λi k=>fB b 2165 (some [2165]) 44 11 1 false i (aZ k []) h λl m=>met b [2165] [l]<| bi m.am l λn o=>cm u b (some []) 58 [n] (aZ o []) m λp q=>aha u b a d e p c q
def ahw:ci (u,g,i,k,l):=cS c dx m λn=>bp n (fO hG λo=>bl b none 34 d o h λ_ p=>lX b d n40 p) (J d e f h)
def ahH:=bz 6 c λd=>bz 1 d λe=>aS b [14] true 2 e h λf=>cm u b (some []) 47 [(.s 2 0x6966)] [] h λg i=>iP false f g λk=>F d e f g k i
def ahS:=dy (ahl u b j) λJ=>bz 6 e λf=>bz 0 f λg=>aS b [14] false 1 g h λi=>gJ i eB λk=>dy (ahw u b J k c d e) λF=>cZ k false (ahH u b F e h) (F aK aK aK aK aK h)
def ah3:ci u:=aS b [] true 11 c h λk=>bz 4 d λl=>met b [14] [l]<| bl b (some [14]) 2 l e h λ_ m=>bz 6 d λn=>met b [14] [n]<| bl b (some [14]) 11 n f m λ_ o=>bz 17 d λp=>met b [14] [p]<| bl b (some [14]) 11 p k o λ_ q=>J g i d q
def ah5:=aS b [11] false 1 c h λk=>met b [] [k]<| de h.am 11 k bt λl=>aS b [] true 11 l h λm=>bz 10 d λn=>aS b [11] false 1 n h λo=>met b [] [o]<| de h.am 11 o br λp=>ah3 u b J p e f m g i h
def agQ:=bz 1 c λg=>aS b [11] true 2 g h λi=>bz 10 c λk=>ah5 u b J k c d i e f h
def agS:=cm u b (some []) 61 [] [] h λi k=>bz 4 c λl=>met b [14] [l]<| bl b (some [14]) 2 l d k λ_ m=>bz 6 c λn=>met b [14] [n]<| bl b (some [14]) 11 n e m λ_ o=>bz 17 c λp=>met b [14] [p]<| bl b (some [14]) 11 p i o λ_ q=>J f g c q
def agT:=cm u b (some []) 47 [(.s 5 0x657175616c)] [] h λg i=>bz 10 c λk=>aS b [11] false 1 k i λl=>met b [] [l]<| de i.am 11 l bt λm=>aS b [] true 11 m i λn=>agS u b J d g n e f i
def agU:=met b [] [c]<| bi h.am c λk l=>cm u b (some []) 33 [k] (aZ l []) h λm n=>bz 4 d λo=>met b [14] [o]<| bl b (some [14]) 2 o e n λ_ p=>bz 6 d λq=>met b [14] [q]<| bl b (some [14]) 11 q f p λ_ r=>bz 17 d λs=>met b [14] [s]<| bl b (some [14]) 11 s m r λ_ t=>J g i d t
def agV:=cm u b (some []) 47 [(.s 3 0x696666)] [] h λg i=>aS b [11] true 11 c i λk=>cm u b (some []) 62 [] [] i λl m=>agU u b J l d g k e f m
def agW:=bh h.am true 11 c λg=>bi h.am g λi k=>cm u b none 60 [i,(.s 3 0x6e6f74),br] (aZ k []) h λl m=>bp l (agT u b J c d e f m) (agV u b J c d e f m)
def agX:ci (i,k,l):=cS c m cQ λn=>bp n (agQ u b J d e f g h) (agW u b J d e f g h)
def VV:ci (k,l,m):=cS c n cQ λo=>dy (agX u b J o d e f g) λL=>cZ o true (bz 1 d λp=>bh h.am true 2 p λq=>b4 u b 59 i q h λw x=>L i p q w x) (L aK aK aK aK h)
def VW:=dy (ahS u b j) λJ=>bn 0 c h λk=>cj k eB λl=>dy (VV u b J l c d e f g) λL=>cZ l true (bz 10 c λm=>bh h.am false 1 m λn=>cv false n λo=>cj o dM λp=>L m n o p h) (L aK aK aK aK h)
def agY:ci u:=met b [14] [c]<| bl b (some [14]) 11 c d h λ_ l=>bz 17 e λm=>met b [14] [m]<| bl b (some [14]) 11 m f l λ_ n=>bz 28 e λo=>met b [14] [o]<| bl b (some [14]) 1 o g n λ_ p=>bz 29 e λq=>met b [14] [q]<| bl b (some [14]) 1 q i p λ_ r=>j k e r
def ag0:=aS b [19] true 11 g h λi=>aS b [11] true 11 d h λk=>aS b [19] true 11 g h λl=>met b [] [l]<| eo h.am 11 0 l (eF 1 cW) λm n=>fB b 2245 (some [2245]) 44 11 1 false m (aZ n []) h λo p=>bz 6 e λq=>agY u b j q i e k o f c p
def ag1:=bE u b 58 c h λn o=>b4 u b 63 d n o λt v=>gr t λw=>bp w (fO hG λx=>bl b none 34 e x v λ_ y=>lX b e LL y) (F e f g i k v)
def ag2:=dy (ag0 u b j) λF=>bh h.am true 11 i λk=>eo h.am 11 0 k (eF 1 cW) λl m=>fB b 2237 none 44 11 1 false l (aZ m []) h λn o=>ag1 u b F n e c d f g i o
def ag3:=dy (ag2 u b j) λj6=>gr g λl=>bp l (dj (lZ .andNot z8 i) λm=>j6 c d e f m k h) (j6 c d e f i k h)
def ag4:ci (u,m,n):=cS c dx o λp=>bp p (fO hG λq=>bl b none 34 d q h λ_ r=>lX b d n40 r) (S d e f g i k l h)
def ag5:ci (m,n):=cS c dx o λp=>dy (ag4 u b S p d e f g i k l) λJ=>cZ p false (bz 1 l λq=>bh h.am true 2 q λr=>bE u b 66 r h λv w=>J q r v w) (J aK aK aK h)
def ag6:=bl b none 11 c d h λ_ n=>dy (ag3 u b j) λS=>gr e λo=>dy (ag5 u b S o f g i k l m c) λJ=>cZ o false (bz 0 c λp=>bh n.am false 1 p λq=>gJ q eB λr=>J p q r n) (J aK aK aK n)
def ag7:=bh h.am true 2 c λl=>bE u b 65 l h λo p=>cP o 0 λq=>cP o 1 λr=>bn 10 d p λt=>de p.am 11 t bt λv=>bh p.am true 11 v λw=>dw 44 b 19 none cW p λx y=>ag6 u b j x w r e f g i k q y
def ag8:ci (u,l,m,n):=cS c dx o λp=>bp p (fO hG λq=>bl b none 34 d q h λ_ r=>lX b d n40 r) (j6 d e f g i k h)
def ag9:ci (l,m,n):=cS c dx o λp=>dy (ag8 u b j6 p d e f g i k) λL=>cZ p false (bz 1 i λq=>aS b [15] true 2 q h λr=>cm u b (some []) 47 [(.s 3 0x6e6f74)] [] h λs t=>iP false r s λv=>L q r s v t) (L aK aK aK aK h)
def ahb:=aS b [15] false 1 c h λl=>gJ l eB λm=>dy (ag9 u b j6 m d e f g i k) λL=>cZ m false (bz 10 i λn=>aS b [15] false 1 n h λo=>cv false o λp=>gJ p br λq=>L n o p q h) (L aK aK aK aK h)
def ahc:=dy (λk l m n o p q=>bz 1 o λr=>ag7 u b j r o k l m n p q) λj6=>bz 0 g λs=>ahb u b j6 s c d e f g i h
def ahd:ci u:=bn 10 c h λk=>de h.am 11 k bt λl=>bh h.am true 11 l λm=>bl b none 11 c m h λ_ n=>j6 d e f g c cQ n
def ahe:=bh h.am true 11 c λg=>dw 44 b 15 none cW h λi k=>bl b none 11 i g k λ_ l=>dy (ahc u b j) λj6=>bh l.am true 11 i λm=>bi l.am m λn o=>cm u b none 60 [n,(.s 3 0x6e6f74),br] (aZ o []) l λp q=>bp p (ahd u b j6 i d c e f q) (j6 d c e f i dx q)
def ahf:ci u:=aS b [20] true 11 c h λg=>met b [] [g]<| eo h.am 11 0 g (eF 1 cW) λi k=>fB b 2277 (some [2277]) 44 11 1 false i (aZ k []) h λl m=>bz 17 d λn=>met b [14] [n]<| bl b (some [14]) 11 n e m λ_ o=>bz 28 d λp=>met b [14] [p]<| bl b (some [14]) 1 p l o λ_ q=>j f d q
def ahg:=dy (λk l m n o=>aS b [11] true 11 l o λp=>ahf u b j n m p k o) λL=>b4 u b 63 f e h λv w=>gr v λx=>bp x (fO hG λy=>bl b none 34 c y w λ_ z=>lX b c LL z) (L c d g i w)
def ahh:=dy (ahg u b j) λj6=>bn 0 i h λl=>gJ l eB λm=>bp m (fO hG λn=>bl b none 34 c n h λ_ o=>lX b c n40 o) (j6 c d e f g i h)
def ahi:ci u:=bn 10 c h λl=>de h.am 11 l bt λm=>bh h.am true 11 m λn=>bl b none 11 c n h λ_ o=>j6 d e f g i c o
def ahj:=bh h.am true 11 c λk=>dw 44 b 20 none cW h λl m=>bl b none 11 l k m λ_ n=>dy (ahh u b j) λj6=>bh n.am true 11 l λo=>bi n.am o λp q=>cm u b none 60 [p,(.s 3 0x6e6f74),br] (aZ q []) n λr s=>bp r (ahi u b j6 l d e f g i s) (j6 d e f g i l s)
def ahk:=dy (λk l m n o p q=>de q.am 11 l bt λr=>ahj u b j r k m n o p q) λj6=>cv false c λs=>cj s bt λt=>bp t (fO hG λv=>bl b none 34 d v h λ_ w=>lX b d n40 w) (j6 d c e f g i h)
def ahm:ci u:=bh h.am true 11 d λf=>bz 17 e λg=>bl b none 11 g f h λ_ i=>j c e i
def ahn:=dy (ahm u b j) λJ=>bn 28 e h λg=>cv false g λi=>cj i bt λk=>bp k (fO hG λl=>bl b none 34 c l h λ_ m=>lX b c n40 m) (J c d e h)
def aho:ci u:=aS b [] true 11 c h λm=>met b [] [m]<| eo h.am 11 0 m (eF 1 cW) λn o=>fB b 2337 (some [2337]) 44 11 1 false n (aZ o []) h λp q=>met b [2245,2277,2338,2559,2337] [d,p]<| fW b 2338 (some [2338,2245,2277,2338,2559]) 44 11 176 d p false q λr s=>bz 28 e λt=>met b [14] [t]<| bl b (some [14]) 1 t r s λ_ v=>j6 f g e i k l v
def ahp:=bz 28 c λk=>aS b [14] false 1 k h λl=>dW b [] 11 d e h λm=>aho u b j6 m l c f g i d e h
def ahq:ci (l,m,n,o,p,q,r):=cS c s cQ λt=>bp t (ahp u b j6 d e f g i k h) (j6 g i d k e f h)
def ahr:=de h.am 11 c d λf=>bh h.am true 11 f λg=>eo h.am 11 0 g (eF 1 cW) λi k=>fB b 2327 none 44 11 1 false i (aZ k []) h λl m=>bE u b 58 l m λp q=>b4 u b 63 e p q λw x=>W e c d f g l p w x
def ahs:ci (l,m,n,o,p,q):=cS c r cQ λs=>dy (ahq u b j6 s d e f g i k) λW=>cZ s true (ahr u b W e f k h) (W aK aK aK aK aK aK aK aK h)
def aht:=de h.am 11 c d λe=>bz 1 e λf=>bh h.am true 2 f λg=>bE u b 68 g h λl m=>gr l λn=>S c d e f g l n m
def ahu:=dy (λk l m n o p q=>dT p br λr=>j6 k l m n o r q) λa=>de h.am 11 g i λs=>bn 0 s h λv=>cj v eB λw=>dy (ahs u b a w e g i c d f) λS=>cZ w true (aht u b S g i h) (S aK aK aK aK aK aK aK h)
def ahv:=dy (ahu u b j6) λa=>cv false g λk=>fi i k λl=>bp l (a c d e f g i h) (J c d e h)
def ahx:=fW b 2294 none 39 2 32 .ba e false h λk l=>fW b 2296 none 39 2 32 k f false l λm n=>bn 10 i n λp=>bE u b 67 p n λs t=>dy (ahn u b j) λJ=>lj [8,11,14,22,23,24] 1000000 (ahv u b J) c d g m s bt t
def ahy:=dy (ahx u b j) λj6=>bh h.am true 11 i λk=>bi h.am k λl m=>cm u b none 60 [l,(.s 1 0x3c),dM] (aZ m []) h λn o=>gr n λp=>bp p (fO hG λq=>bl b none 34 c q o λ_ r=>lX b c n40 r) (j6 c d e f g i o)
def ahz:ci u:=bn 10 c h λl=>de h.am 11 l bt λm=>bh h.am true 11 m λn=>bl b none 11 c n h λ_ o=>j6 d e f g i c o
def ahA:=bh h.am true 11 c λi=>dw 44 b 21 none cW h λk l=>bl b none 11 k i l λ_ m=>dy (ahy u b j) λj6=>bh m.am true 11 k λn=>bi m.am n λo p=>cm u b none 60 [o,(.s 3 0x6e6f74),br] (aZ p []) m λq r=>bp q (ahz u b j6 k d c e f g r) (j6 d c e f g k r)
def ahB:ci u:=aS b [25] false 1 c h λi=>bz 6 d λk=>met b [14] [k]<| bl b (some [14]) 11 k e h λ_ l=>bz 17 d λm=>met b [14] [m]<| bl b (some [14]) 11 m f l λ_ n=>bz 28 d λo=>met b [14] [o]<| bl b (some [14]) 1 o i n λ_ p=>j g d p
def ahC:=aS b [25] true 11 e h λg=>aS b [26] true 11 f h λi=>bz 10 e λk=>ahB u b j k d g i c h
def ahD:=eo h.am 2 0 c (eF 1 [.s 0 0,.s 0 0]) λk l=>fB b 2441 none 39 2 1 false k (aZ l []) h λm n=>b4 u b 63 d m n λs t=>gr s λv=>bp v (fO hG λw=>bl b none 34 e w t λ_ x=>lX b e LL x) (L e f g i t)
def ahE:=dy (ahC u b j) λL=>bz 1 g λi=>bh h.am true 2 i λk=>ahD u b L k d c e f g h
def ahF:=aS b [] true 11 c h λn=>met b [] [d,n]<| bi h.am d λo p=>bi h.am n λq r=>cm u b (some []) 14 [o,q] (aZ p (aZ r [])) h λs t=>bp s (fO hG λv=>bl b none 34 e v t λ_ w=>lX b e n40 w) (S e f g i k l m t)
def ahG:=aS b [25] false 1 c h λm=>dW b [] 11 m d h λn=>aS b [] true 11 n h λo=>bz 10 e λp=>aS b [25] false 1 p h λq=>dW b [] 11 q f h λr=>ahF u b S r o g i k e l f d h
def ahI:=dy (λl m n o p q r s=>dT r br λt=>S l m n o p q t s) λa=>bz 10 f λv=>ahG u b a v k f i c d e g h
def ahJ:=dy (ahI u b S) λa=>fi k i λl=>bp l (a c d e f g i k h) (j6 c d e f g i h)
def ahK:ci (u,l,m,n,o,p):=cS c dx q λr=>bp r (fO hG λs=>bl b none 34 d s h λ_ t=>lX b d n40 t) (j6 d e f g i k h)
def ahL:ci u:=met b [] [c]<| de h.am 2 c bt λe=>aS b [] true 2 e h λf=>bz 1 d λg=>aS b [26] true 2 g h λi=>iP true f i λk=>j6 c e f g i k h
def ahM:ci (m,n):=cS c dx o λp=>dy (ahK u b j6 p d e f g i k) λa=>cZ p false (ahL u b a l i h) (a aK aK aK aK aK aK h)
def ahN:=dW b [] 11 c d h λm=>bz 0 m λn=>aS b [] false 1 n h λo=>gJ o eB λp=>dy (ahM u b j6 p e f g i k d l) λJ=>cZ p false (cv false l λq=>gJ q br λr=>J l q r h) (J aK aK aK h)
def ahO:=eo h.am 11 0 c (eF 1 cW) λl m=>fB b 2398 none 44 11 1 false l (aZ m []) h λn o=>bE u b 58 n o λr s=>dy (λt v w x y z A=>lj [8,12,14,25,26,27,29] 1000000 (ahJ u b j6) t v w x y z bt A) λa=>bz 10 d λB=>aS b [25] false 1 B s λC=>ahN u b a C e f g i d k r s
def ahP:=dy (λk l m n o p q=>dT p br λr=>j6 k l m n o r q) λa=>bn 10 f h λt=>de h.am 11 t i λv=>bh h.am true 11 v λw=>ahO u b a w f i c d e g h
def ahQ:=dy (ahP u b j6) λa=>bn 10 f h λl=>cv false l λm=>fi i m λn=>bp n (a c d e f g i h) (F c d e f g h)
def ahR:=aS b [] true 11 c h λi=>dw 44 b 25 (some [25]) cW h λk l=>dw 44 b 26 (some [26]) cW l λm n=>met b [25] [k]<| bl b (some [25]) 11 k d n λ_ o=>met b [26] [m]<| bl b (some [26]) 11 m i o λ_ p=>dy (ahE u b j) λF=>lj [8,12,14,25,26,27] 1000000 (ahQ u b F) e f g k m bt p
def ahT:=aS b [11] false 1 c h λi=>met b [] [i]<| de h.am 11 i bt λk=>aS b [] true 11 k h λl=>bz 10 d λm=>aS b [11] false 1 m h λn=>met b [] [n]<| de h.am 11 n br λo=>ahR u b j o l e f g h
def ahU:ci (u,i,k,l,m,n,o):=cS c dx p λq=>bp q (fO hG λr=>bl b none 34 d r h λ_ s=>lX b d n40 s) (L d e f g h)
def ahV:ci (u,b):=bz 10 c λd=>bh h.am false 1 d λe=>de h.am 11 e bt λf=>bz 10 f λg=>bh h.am false 1 g λi=>cv false i λk=>cj k bt λl=>S d e f g i k l h
def ahW:ci (i,k,l,m,n):=cS c dx o λp=>dy (ahU u b L p d e f g) λS=>cZ p false (ahV u b S e h) (S aK aK aK aK aK aK aK h)
def ahX:ci (u,b):=bz 10 c λd=>bh h.am false 1 d λe=>de h.am 11 e bt λf=>bz 0 f λg=>bh h.am false 1 g λi=>gJ i eB λk=>j6 d e f g i k h
def ahY:ci (i,k,l,m,n):=cS c dx o λp=>dy (ahW u b L p d e f g) λj6=>cZ p false (ahX u b j6 e h) (j6 aK aK aK aK aK aK h)
def ahZ:ci (u,b):=bz 10 c λd=>bh h.am false 1 d λe=>de h.am 11 e br λf=>bz 0 f λg=>bh h.am false 1 g λi=>gJ i br λk=>j6 d e f g i k h
def ah0:=dy (λg i k l m=>bz 10 i λn=>ahT u b j n i g k l m) λL=>bh h.am true 11 c λo=>bi h.am o λp q=>cm u b none 60 [p,(.s 5 0x657175616c),dM] (aZ q []) h λr s=>gr r λt=>dy (ahY u b L t d c e f) λj6=>cZ t false (ahZ u b j6 c s) (j6 aK aK aK aK aK aK s)
def ah1:ci u:=bh h.am true 2 e λf=>bz 4 d λg=>bl b none 2 g f h λ_ i=>j c d i
def ah2:ci (u,g,i,k,l):=cS c dx m λn=>bp n (fO hG λo=>bl b none 34 d o h λ_ p=>lX b d n40 p) (J d e f h)
def ah4:=aS b [31] true 2 c h λe=>met b [] [e]<| bi h.am e λf g=>cm u b (some []) 56 [f] (aZ g []) h λi k=>met b [] [d,i]<| bi k.am d λl m=>bi k.am i λn o=>cm u b (some []) 14 [l,n] (aZ m (aZ o [])) k λp q=>gr p λr=>F d e i p r q
def VX:=cP c 0 λi=>cP c 1 λk=>dw 60 b 32 none nZ h λl m=>bl b none 37 l i m λ_ n=>gr k λo=>dy (ah2 u b J o d e f) λF=>cZ o false (aS b [6] true 11 g n λp=>ah4 u b F f p n) (F aK aK aK aK aK n)
def VY:=bz 1 c λi=>bh h.am true 2 i λk=>dw 39 b 31 none [.s 0 0,.s 0 0] h λl m=>bl b none 2 l k m λ_ n=>dy (ah1 u b j) λJ=>bh n.am true 2 l λo=>b4 u b 69 d o n λt v=>VX u b J t e f l g v
def VZ:=bn 10 g h λk=>de h.am 11 k bt λl=>bn 10 l h λn=>de h.am 11 n bt λo=>VY u b j o c e f d h
def V0:ci (u,k,l,m,n,o,p,q,r):=cS c dx s λt=>bp t (fO hG λv=>bl b none 34 d v h λ_ w=>lX b d n40 w) (F e f d g i h)
def V1:ci (u,b):=bz 10 c λd=>bh h.am false 1 d λe=>de h.am 11 e bt λf=>bz 10 f λg=>bh h.am false 1 g λi=>de h.am 11 i bt λk=>bz 0 k λl=>bh h.am false 1 l λm=>gJ m eB λn=>Y d e f g i k l m n h
def V2:ci (k,l,m,n,o):=cS c dx p λq=>dy (V0 u b F q d e f g i) λY=>cZ q false (V1 u b Y i h) (Y aK aK aK aK aK aK aK aK aK h)
def V3:=bz 10 c λd=>bh h.am false 1 d λe=>de h.am 11 e bt λf=>bh h.am true 11 f λg=>bi h.am g λi k=>cm u b none 60 [i,(.s 8 0x626f6f6c65616e70),br] (aZ k []) h λl m=>gr l λn=>j6 d e f g l n m
def V4:=bl b none 11 c d h λ_ k=>dy (VZ u b j) λF=>bh k.am true 11 c λl=>bi k.am l λm n=>cm u b none 60 [m,(.s 2 0x6966),eB] (aZ n []) k λo p=>gr o λq=>dy (V2 u b F q e f g i c) λj6=>cZ q false (V3 u b j6 c p) (j6 aK aK aK aK aK aK p)
def V5:=bz 3 c λg=>bl b none 1 g .ba h λ_ i=>bh i.am true 11 d λk=>dw 44 b 30 none cW i λl m=>V4 u b j l k e f d c m
def V6:=bl b none 1 c .ba h λ_ i=>bh i.am true 34 d λk=>bh i.am true 11 e λl=>bi i.am f λm n=>bi i.am k λo p=>bi i.am l λq r=>cm u b none 70 [m,o,q] (aZ n (aZ p (aZ r []))) i λs t=>cP s 0 λv=>cP s 1 λw=>bl b none 34 g v t λ_ x=>lX b g w x
def ah6:ci u:=met b [14] [c]<| bl b (some [14]) 1 c .ba h λ_ i=>bz 17 d λk=>met b [14] [k]<| bl b (some [14]) 11 k e i λ_ l=>bz 28 d λm=>met b [14] [m]<| bl b (some [14]) 1 m f l λ_ n=>bh n.am true 34 d λo=>bl b none 34 g o n λ_ p=>lX b g bt p
def ah7:=aS b [6] true 11 c h λi=>dW b [] 11 d e h λk=>aS b [] true 11 k h λl=>met b [] [l]<| eo h.am 11 0 l (eF 1 cW) λm n=>fB b 2559 (some [2559]) 44 11 1 false m (aZ n []) h λo p=>bz 3 f λq=>ah6 u b q f i o g p
def ah8:ci (l,m,n,o,p,q,r):=cS c s cQ λt=>bp t (ah7 u b d e f g i h) (j6 d i g k e f h)
def ah9:=de h.am 11 c d λf=>bh h.am true 11 f λg=>eo h.am 11 0 g (eF 1 cW) λi k=>fB b 2550 none 44 11 1 false i (aZ k []) h λl m=>bE u b 58 l m λp q=>b4 u b 63 e p q λw x=>W e c d f g l p w x
def aia:ci (l,m,n,o,p,q):=cS c r cQ λs=>dy (ah8 u b j6 s d e f g i k) λW=>cZ s true (ah9 u b W e f k h) (W aK aK aK aK aK aK aK aK h)
def aib:=de h.am 11 c d λe=>bz 1 e λf=>bh h.am true 2 f λg=>bE u b 66 g h λl m=>gr l λn=>S c d e f g l n m
def aic:=dy (λk l m n o p q=>dT p br λr=>j6 k l m n o r q) λa=>de h.am 11 g i λs=>bn 0 s h λv=>cj v eB λw=>dy (aia u b a w c g i e d f) λS=>cZ w true (aib u b S g i h) (S aK aK aK aK aK aK aK h)
def aid:=dy (aic u b j6) λa=>cv false g λk=>fi i k λl=>bp l (a c d e f g i h) (X d h)
def aie:=bh h.am true 11 c λi=>eo h.am 11 0 i (eF 1 cW) λk l=>fB b 2521 none 44 11 1 false k (aZ l []) h λm n=>bE u b 67 m n λq r=>dy (λs t=>fO hG λv=>bl b none 34 s v t λ_ w=>lX b s n40 w) λX=>lj [6,8,14,34,35,36] 1000000 (aid u b X) d e f g q br r
def agR:=cj c ye λl=>bp l (fW b 2517 none 39 2 32 .ba d false h λm n=>fW b 2519 none 39 2 32 m e false n λo p=>aie u b f g i k o p) (fO hG λq=>bl b none 34 i q h λ_ r=>lX b i n24 r)
def VU:=cj c yd λm=>bp m (bz 3 d λn=>V6 u b n d e f g h) (agR u b c i k l e g d h)
def Ov:=cj c uL λm=>bp m (V5 u b j d e f g h) (VU u b c d e g f i k l h)
def Ow:=cj c uK λm=>bp m (ah0 u b j d e f g h) (Ov u b j c g i e k f l d h)
def Ox:=cj c ku λm=>bp m (ahA u b j d e f g i h) (Ow u b j c d e f i k l g h)
def Oy:=cj c eB λn=>bp n (ahk u b j d e f g i k h) (Ox u b j c f e g i k l m h)
def Oz:=cj c dM λn=>bp n (ahe u b j d e f g h) (Oy u b j c i e d f k g l m h)
def Jt:=eu 0 2 c hG λn=>eu 2 1 d n λo=>eu 3 1 e o λp=>fO p λq=>dw 81 b 14 none hG h λr s=>bl b none 34 r q s λ_ t=>dy (λv w x=>bh x.am true 34 w λy=>bl b none 34 v y x λ_ z=>lX b v bt z) λj=>cj d br λA=>bp A (VW u b j f r g i k t) (Oz u b j d f g i r e l m k t)
def Ju:=dw 44 b 11 none cW h λl m=>bl b none 11 l c m λ_ n=>bE u b 58 d n λq r=>bh r.am true 11 l λs=>eo r.am 11 0 s (eF 1 cW) λt v=>fB b 2093 none 44 11 1 false t (aZ v []) r λw x=>bE u b 58 w x λA B=>bh B.am true 2 e λC=>Jt u b C f d l g q i A k B
def Jv:=eR 39 b 5 none c h λg i=>eR 44 b 6 none d i λk l=>dw 81 b 8 none hG l λm n=>bh n.am true 11 k λo=>bE u b 57 o n λr s=>cP r 0 λt=>cP r 1 λv=>Ju u b v t g e m f k s
def n8:=b0 T λc l=>b0 l λd l=>b0 l λe l=>b0 l λf l=>dF l (Jv u b d e f c (bN b bj))
def At:=so b [c] [] h
def Jw:ci u:=bh h.am true 11 k λl=>eo h.am 11 0 l (eF 1 cW) λm n=>fB b 2100 none 44 11 1 false m (aZ n []) h λo p=>fW b 2101 none 44 11 176 f o false p λq r=>j6 c d e q g i r
def V7:=dC u b 22 [c] [] h λl m=>eo m.am 11 0 l (eF 1 cW) λn o=>fB b 2080 none 44 11 1 false n (aZ o []) m λp q=>bi q.am p λr s=>cm u b none 13 [(.s 5 0x636f6e7370),r] (aZ s []) q λt v=>bl b none 11 d t v λ_ w=>S c e f g i k d w
def V8:=dC u b 22 [c] [] h λl m=>dC u b 24 [c,bt] [] m λn o=>bE u b 33 n o λr s=>eo s.am 11 0 l (eF 2 cW) λt v=>eo s.am 11 1 r t λw x=>fB b 2089 none 44 11 2 false w (aZ v (aZ x [])) s λy z=>bi z.am y λA B=>cm u b none 13 [(.s 5 0x657175616c),A] (aZ B []) z λC D=>bl b none 11 d C D λ_ E=>S c e f g i k d E
def V9:=cm u b none 52 [bt] [] h λl m=>dC u b 22 [c] [] m λn o=>eo o.am 11 0 l (eF 2 cW) λp q=>eo o.am 11 1 n p λr s=>fB b 2096 none 44 11 2 false r (aZ q (aZ s [])) o λt v=>bi v.am t λw x=>cm u b none 13 [(.s 1 0x3c),w] (aZ x []) v λy z=>bl b none 11 d y z λ_ A=>S c e f g i k d A
def Wa:=cj c dM λm=>bp m (V9 u b S d e f g i k l h) (S d f g i k l e h)
def Wb:=cj c br λm=>bp m (V8 u b S d e f g i k l h) (Wa u b S c d e f g i k l h)
def Wc:=bi h.am d λk l=>bi h.am e λm n=>dC u b 71 [c,k,m] (aZ l (aZ n [])) h λo p=>dw 44 b 12 none cW p λq r=>bl b none 11 q o r λ_ s=>dC u b 21 [c,uL] [] s λt v=>cj t bt λw=>bp w (V7 u b (Jw u b (λx y z A B C D=>dT C br λE=>j6 x y z A B E D)) c q d e f g i v) (Wb u b (Jw u b (λx y z A B C D=>dT C br λE=>j6 x y z A B E D)) t c q d e f g i v)
def w2:=fi i g λk=>bp k (Wc u b j6 c d e f g i h) (X f h)
def Wd:=dT c br λg=>bi h.am g λi k=>dC u b 21 [d,i] (aZ k []) h λl m=>k1 0 1 3 9 10 11 1000000 (w2 u b (λn o=>At b n o)) d e f .ba l bt m
def EZ:=b0 T λc l=>b0 l λd l=>b0 l λe l=>b0 l λf l=>dF l (Wd u b e c d f (bN b bj))
def Mj:=bJ b c h
def Wl:ci u:=bz 1 c λf=>aS b [4096] false 1 f h λg=>gU g br λi=>dW b [4098] 1 d i h λk=>aS b [4098] false 1 k h λl=>dj (qp .i64 l) λm=>dj (gR .rem m e) λn=>Mj b n h
def Wm:=bh h.am false 1 c λf=>dT f br λg=>lS d λi=>bz 1 i λk=>bl b none 1 k g h λ_ l=>lS d λm=>bz 0 m λn=>aS b [4096] false 1 n l λo=>lS d λp=>Wl u b p o e l
def Jy:ci (u,f):=cS c dx g λi=>bp i (Mj b bt h) (j d e h)
def OL:=lS c λf=>bz 0 f λg=>aS b [4096] false 1 g h λi=>cv false i λk=>p0 d k λl=>cZ l false (fi e br λm=>Jy u b j l c e e m h) (Jy u b j l c e aK aK h)
def OM:=lS c λe=>bz 1 e λf=>aS b [4096] false 1 f h λg=>OL u b (λi k l=>lS i λm=>bz 1 m λn=>Wm u b n i k l) c g d h
def BJ:=b0 T λc l=>b0 l λd l=>dF l (OM u b c d (bN b bj))
def adt:=jh h.am c true 11 λd=>bJ b d h
def WM:=dw 44 b 2 none cW h λd e=>dC u b 21 [c,eB] [] e λf g=>p2 (.s 3 0x78797a) (some f) none λi=>p2 i none (some br) λk=>bE u b 12 k g λn o=>bl b none 11 d n o λ_ p=>adt b d p
def E5:=b0 T λc l=>dF l (WM u b c (bN b bj))
def mj:=jh h.am c true 7 λd=>bJ b d h
def WO:=aS b [9] true 7 c h λg=>gU d br λi=>bi h.am i λk l=>vV u b [4097] [4096,4098] [e,i] 24 [e,k] (aZ l []) h λm n=>met b [4096,4098,4096,4098] [g,m]<| bi n.am g λo p=>bi n.am m λq r=>cm u b (some []) 77 [o,q] (aZ p (aZ r [])) n λs t=>met b [4] [f]<| bl b (some [4]) 7 f s t λ_ v=>mj b f v
def OS:=gU d br λf=>bi h.am f λg i=>dC u b 24 [c,g] (aZ i []) h λk l=>dw 42 b 9 none dD l λm n=>bl b none 7 m k n λ_ o=>WO u b m d c e o
def JC:=dC u b 21 [c,yd] [] h λe f=>gU e eB λg=>bE u b 72 g f λl m=>bl b none 7 d l m λ_ n=>mj b d n
def OU:=dC u b 21 [c,eB] [] h λe f=>p2 (.s 3 0x616263) (some e) none λg=>p2 g none (some br) λi=>bE u b 15 i f λm n=>bE u b 74 m n λq r=>bl b none 7 d q r λ_ s=>mj b d s
def OV:=dC u b 21 [c,eB] [] h λe f=>p2 (.s 2 0x7071) none (some e) λg=>bE u b 75 g f λl m=>bl b none 7 d l m λ_ n=>mj b d n
def Fj:=bE u b 76 d h λg i=>bl b none 7 c g i λ_ k=>mj b c k
def WQ:=gU d br λk=>bi h.am k λl m=>dC u b 24 [c,l] (aZ m []) h λn o=>eo o.am 7 0 n (eF 1 dD) λp q=>fB b 2124 none 42 7 1 false p (aZ q []) o λr s=>fW b 2125 none 42 7 112 f r false s λt v=>(dT i br λw=>j6 c d e t g w v)
def BN:=fi i g λk=>bp k (WQ u b j6 c d e f g i h) (j e f h)
def JD:=dC u b 21 [c,ku] [] h λf g=>k1 0 1 4 6 7 8 1000000 (BN u b (Fj u b)) c d e .ba f bt g
def aii:ci (u,b):=cj c arI λg=>bp g (L d e f g h) (cj c Sf λi=>L d e f i h)
def aij:=cj c tj λg=>bp g ((bp g (JD u b d e f h) (J d e f h))) (aii u b (λi k l m n=>bp m (JD u b i k l n) (J i k l n)) c d e f h)
def aik:=cj c LM λg=>bp g (cm u b none 72 [br] [] h λi k=>bl b none 7 d i k λ_ l=>mj b d l) (aij u b J c e f d h)
def ail:=cj c ye λg=>bp g (cm u b none 72 [bt] [] h λi k=>bl b none 7 d i k λ_ l=>mj b d l) (aik u b J c d e f h)
def aim:=cj c yd λg=>bp g (OV u b d e h) (ail u b J c e d f h)
def ain:=cj c uL λg=>bp g (OU u b d e h) (aim u b J c d e f h)
def aio:=cj c uK λg=>bp g (cm u b none 73 [(.s 2 0x2d35),(.s 1 0x33)] [] h λi k=>bl b none 7 d i k λ_ l=>mj b d l) (ain u b J c e d f h)
def WP:=cj c ku λg=>bp g (cm u b none 73 [(.s 1 0x31),(.s 1 0x32)] [] h λi k=>bl b none 7 d i k λ_ l=>mj b d l) (aio u b J c d e f h)
def aip:=cj c dM λg=>bp g ((bp g (JC u b d f h) (WP u b J c f d e h))) (cj c eB λi=>(bp i (JC u b d f h) (WP u b J c f d e h)))
def aiq:=cj c br λg=>bp g (cm u b none 62 [] [] h λi k=>bl b none 7 d i k λ_ l=>mj b d l) (aip u b J c e f d h)
def JB:=cj f bt λg=>bp g (cm u b none 41 [] [] h λi k=>bl b none 7 e i k λ_ l=>mj b e l) (aiq u b (OS u b) f e c d h)
def Fi:ci (u,b,i):=cS c k cQ λl=>bp l (gU d ye λm=>L e f g m h) (L e f g d h)
def OT:=dw 42 b 4 none dD h λe f=>dC u b 21 [c,n14] [] f λg i=>fi d br λk=>cZ k true (mQ g LM λl=>Fi u b (JB u b) k g c d e g l i) (Fi u b (JB u b) k g c d e aK aK i)
def sS:=b0 T λc l=>b0 l λd l=>dF l (OT u b c d (bN b bj))
def Hv:=bJ b c h
def WR:ci u:=bn 27 c h λl=>fW b 2077 none 81 34 544 d l false h λm n=>F e m f g i n
def JE:ci (l,m,n,o):=cS c p cQ λq=>bp q (WR u b F d e f g i k h) (F f e g i k h)
def WS:=bz 1 c λe=>bh h.am true 2 e λf=>b4 u b 79 d f h λm n=>gr m λo=>F d e f m o n
def WT:=de h.am 32 e g λi=>bh h.am true 32 i λk=>dw 73 b 7 none nx h λl m=>bl b none 32 l k m λ_ n=>bn 0 l n λp=>cj p ku λq=>cZ q true (WS u b (JE u b (λr s t v w x=>dT w br λy=>F r s t v y x) q l d c e f g) l c n) (JE u b (λr s t v w x=>dT w br λy=>F r s t v y x) q l d c e f g aK aK aK aK aK n)
def BO:=fi g f λi=>bp i (WT u b F c d e f g h) (X d h)
def OW:=bi h.am c λe f=>dC u b 78 [e] (aZ f []) h λg i=>cv false d λk=>fm 1 5 10 11 12 1000000 (BO u b (λl m=>Hv b l m)) c g d k bt i
def Fk:=b0 T λc l=>b0 l λd l=>dF l (OW u b d c (bN b bj))
def Do:=bJ b c h
def WW:=de h.am 11 e g λi=>bh h.am true 11 i λk=>dw 44 b 7 none cW h λl m=>bl b none 11 l k m λ_ n=>bh n.am false 1 d λo=>bh n.am true 11 l λp=>nd u b o [p] [] n λ_ q=>(dT g br λr=>F c d e f r q)
def BS:=fi g f λi=>bp i (WW u b F c d e f g h) (X c h)
def WX:=dw 139 b 4 none [(.bo (.map none))] h λf g=>bl b none 1 f c g λ_ i=>dw 140 b 5 none [(.bo .nilFunc)] i λk l=>dj (AH 80 [f,d,k]) λm=>bl b none 1 k m l λ_ n=>cv false e λo=>fm 3 5 10 11 12 1000000 (BS u b (λp q=>bh q.am false 1 p λr=>Do b r q)) d k e o bt n
def OZ:=dw 30 b 3 none [.ba] h λd e=>lJ b none (some (.fX (Nat.add b 8) (Nat.add (e.am (Nat.add b 8)).cH 1),[(Nat.add b 8,.map (Nat.add (e.am (Nat.add b 8)).cH 1) [])])) e λf g=>WX u b f d c g
def Fl:=b0 T λc l=>dF l (OZ u b c (bN b bj))
def wc:=bi h.am c λe f=>bi h.am d λg i=>im b (.bD [e,g]) (aZ f (aZ i [])) h
def aiD:ci u:=gr e λk=>bp k (wc b .ba cQ h) (F c d f g i h)
def aiE:=bh h.am true 11 c λp=>bh h.am true 11 d λq=>bi h.am p λr s=>bi h.am q λt v=>bi h.am e λw x=>cm u b none 27 [r,t,w] (aZ s (aZ v (aZ x []))) h λy z=>cP y 0 λA=>cP y 1 λB=>bp B (j6 f A dx g i k z) (kE f e c l g i k m n o z)
def aiF(u:Fn)(b:Nat)(kE:rA)(j6:rB)(c d e f g i k l m n:ao)(h:aO):ay:=de h.am 11 l n λo=>bh h.am true 11 o λp=>dw 44 b 12 none cW h λq r=>bl b none 11 q p r λ_ s=>aiE u b j6 (λt v w x y z A B C D E=>dT D br λG=>kE t v w x y z A B C G E) e q d c g i k f l m n s
def aiG:=fi n m λo=>bp o (aiF u b kE j6 c d e f g i k l m n h) (j6 c d f g i k h)
def aiH:=cv false c λk=>z3 0 2 9 10 15 16 17 31 32 33 1000000 (aiG u b (aiD u b F)) c d e cQ f g i c k bt h
def O1:=bh h.am true 11 c λk=>b4 u b 30 k d h λp q=>b4 u b 32 e p q λw x=>gJ w br λy=>bp y (wc b .ba cQ x) (F e d f g i x)
def O2:=bl b none 11 c d h λ_ l=>bh l.am true 11 c λm=>b4 u b 29 m e l λr s=>gr r λt=>bp t (O1 u b F c e f g i k s) (aiH u b F f e c g i k s)
def O3:=de h.am 11 e g λi=>bh h.am true 11 i λk=>dw 44 b 9 none cW h λl m=>O2 u b (λn o p q r s=>dT r br λt=>F n o p q t s) l k d c e f g m
def xd:=fi g f λi=>bp i (O3 u b F c d e f g h) (X d h)
def JH:=cv false c λf=>fm 0 2 15 16 17 1000000 (xd u b (λg i=>wc b g dx i)) d e c f bt h
def sT:=b0 T λc l=>b0 l λd l=>b0 l λe l=>dF l (JH u b d c e (bN b bj))
def adA:=bJ b c h
def Xd:=eR 44 b 1 none c h λd e=>bh e.am true 11 d λf=>bi e.am f λg i=>cm u b none 86 [g,C6] (aZ i []) e λk l=>dj (rm true bt k) λm=>gU C6 m λn=>adA b n l
def JI:=b0 T λc l=>dF l (Xd u b c (bN b bj))
def ml:=bJ b c h
def O5:ci u:=cj c n32 λd=>bp d (ml b dM h) ((ml b bt h))
def BY:=bh h.am true 11 d λe=>b4 u b 95 c e h λl m=>dj (lZ .and l n32) λn=>cj n bt λo=>bp o (ml b br m) (O5 u b l m)
def O6:ci u:=dj (lZ .and f e) λg=>cj g bt λi=>bp i (ml b dM h) (j c d h)
def JM:=bh h.am true 11 c λg=>b4 u b 95 d g h λn o=>dj (lZ .andNot n e) λp=>cj p bt λq=>bp q (ml b br o) (O6 u b j d f e n o)
def JN:=bn 10 c h λg=>de h.am 11 g bt λi=>JM u b j i d e c h
def Fy:=bz 1 c λe=>bh h.am true 2 e λf=>bE u b 94 f h λk l=>cP k 0 λm=>cP k 1 λn=>bp n (JN u b j c d m l) (j d c l)
def BZ:ci (f,g,i):=cS c k cQ λl=>bp l (Fy u b j d e h) (j e d h)
def B0:=bn 0 d h λf=>cj f eB λg=>cZ g true (bz 10 d λi=>bh h.am false 1 i λk=>cv false k λl=>cj l br λm=>BZ u b (BY u b) g d c i k l m h) (BZ u b (BY u b) g d c aK aK aK aK h)
def Xf:ci (u,f,g):=cS c i cQ λk=>bp k (ml b dM h) (j d e h)
def aiJ:=bn 0 e h λi=>cj i dM λk=>cZ k true (bz 0 f λl=>bh h.am false 1 l λm=>cj m dM λn=>Xf u b j k c d l m n h) (Xf u b j k c d aK aK aK h)
def aiK:=bh h.am true 11 e λg=>bh h.am true 11 f λi=>b4 u b 93 g i h λo p=>bp o (ml b br p) (aiJ u b j c d e f p)
def aiL:=bh h.am true 11 c λi=>bE u b 91 i h λm n=>b4 u b 90 d m n λs t=>bp s (ml b dM t) (L d e f g t)
def aiM:=b4 u b 92 c d h λo p=>dw 44 b 7 none cW p λq r=>bl b none 11 q o r λ_ s=>bh s.am true 11 q λt=>b4 u b 90 e t s λz A=>bp z (ml b br A) (aiL u b L q e f g i A)
def aiN:=dw 44 b 5 (some [5]) cW h λg i=>dw 44 b 6 (some [6]) cW i λk l=>met b [5] [g]<| bl b (some [5]) 11 g c l λ_ m=>met b [6] [k]<| bl b (some [6]) 11 k d m λ_ n=>bh n.am true 11 k λo=>bh n.am true 11 g λp=>aiM u b (aiK u b j) o p e f g k n
def aiO:=met b [] [c]<| de h.am 11 c bt λf=>aS b [] true 11 f h λg=>bz 10 d λi=>aS b [3] false 1 i h λk=>met b [] [k]<| de h.am 11 k br λl=>aS b [] true 11 l h λm=>aiN u b j g m e d h
def aiP:=bz 10 c λe=>aS b [3] false 1 e h λf=>aiO u b j f c d h
def Fx:=bh h.am true 11 d λe=>bi h.am e λf g=>cm u b none 89 [f,(.s 5 0x657175616c),dM] (aZ g []) h λi k=>bp i (aiP u b (B0 u b) d c k) (B0 u b c d k)
def BW:=bh h.am true 11 d λe=>bE u b 91 e h λi k=>b4 u b 90 c i k λp q=>bp p (ml b dM q) (Fx u b c d q)
def xe:=bh h.am true 11 d λe=>b4 u b 90 c e h λl m=>bp l (ml b br m) (BW u b c d m)
def aiQ:ci u:=cj c dM λf=>bp f (ml b br h) (j d e h)
def aiR:=bn 10 c h λf=>de h.am 11 f bt λg=>bh h.am true 11 g λi=>b4 u b 32 d i h λo p=>cj o br λq=>bp q (ml b dM p) (aiQ u b j o d c p)
def zo:=bh h.am true 11 d λe=>bi h.am e λf g=>cm u b none 89 [f,(.s 3 0x6e6f74),br] (aZ g []) h λi k=>bp i (aiR u b (xe u b) d c k) (xe u b c d k)
def aiS:=bz 3 c λd=>bh h.am true 7 d λe=>bE u b 88 e h λi k=>gr i λl=>bE u b 87 l k λo p=>ml b o p
def zp:=eR 44 b 3 none c h λe f=>bn 0 e f λi=>cj i dM λk=>bp k (aiS u b e f) (zo u b d e f)
def tY:=b0 T λc l=>b0 l λd l=>dF l (zp u b d c (bN b bj))
def adB:=jh h.am c true 11 λd=>bJ b d h
def Xg:ci u:=eR 42 b 1 none c h λd e=>dw 44 b 2 none cW e λf g=>bh g.am true 7 d λi=>eu 0 1 dM cW λk=>eu 3 7 i k λl=>fO l λm=>bl b none 11 f m g λ_ n=>adB b f n
def Fz:=b0 T λc l=>dF l (Xg u b c (bN b bj))
def SW:=bi h.am c λe f=>bi h.am d λg i=>im b (.bD [e,g]) (aZ f (aZ i [])) h
def aiT:ci u:=bn 2 c h λe=>cv false e λf=>SW b f dx h
def Xh:=b4 u b 69 c d h λk l=>cP k 0 λm=>cP k 1 λn=>dw 60 b 8 none nZ l λo p=>bl b none 37 o m p λ_ q=>gr n λr=>bp r (SW b bt cQ q) (aiT u b o q)
def O7:=bh h.am true 2 c λe=>bE u b 96 e h λi k=>cP i 0 λl=>cP i 1 λm=>bp m (SW b l dx k) ((bh k.am true 2 c λn=>Xh u b d n k))
def O8:=eR 39 b 3 none c h λe f=>O7 u b e d f
def vA:=b0 T λc l=>b0 l λd l=>dF l (O8 u b d c (bN b bj))
def adC:=jh h.am c true 11 λd=>bJ b d h
def Xi:ci u:=eR 39 b 2 none c h λe f=>dw 44 b 4 none cW f λg i=>bh i.am true 2 e λk=>eu 0 1 eB cW λl=>eu 1 2 k l λm=>eu 10 1 d m λn=>fO n λo=>bl b none 11 g o i λ_ p=>adC b g p
def FA:=b0 T λc l=>b0 l λd l=>dF l (Xi u b c d (bN b bj))
def Mm:=jh h.am c true 7 λf=>bi h.am f λg i=>bi h.am d λk l=>bi h.am e λm n=>im b (.bD [g,k,m]) (aZ i (aZ l (aZ n []))) h
def Xj:ci u:=aS b [13] true 7 f h λg=>lS d λi=>bz 1 i λk=>aS b [19] false 1 k h λl=>gU e l λm=>met b [8] [c]<| bl b (some [8]) 7 c g h λ_ n=>Mm b c m bt n
def O9:=cP c 1 λi=>dw 42 b 13 none dD h λk l=>bl b none 7 k d l λ_ m=>gJ i bt λn=>bp n (fO dD λo=>bl b none 7 e o m λ_ p=>Mm b e bt i p) (Xj u b e f g k m)
def Xk:=eu 0 1 c [.ba,bt] λi=>eu 1 1 d i λk=>fO k λl=>eR 154 b 19 none l h λm n=>lS m λo=>bn 1 o n λq=>bh n.am true 11 e λr=>bi n.am f λs t=>dC u b 97 [m,r,s] (aZ t []) n λv w=>cP v 0 λx=>O9 u b v x g m q w
def Xl:=eR 44 b 5 none c h λg i=>dw 42 b 8 none dD i λk l=>dj (rm true d bt) λm=>Xk u b e m g f k l
def FB:=b0 T λc l=>b0 l λd l=>b0 l λe l=>b0 l λf l=>dF l (Xl u b d f c e (bN b bj))
def iI:=bJ b c h
def zs:=dW b [] 7 c d h λi=>aS b [] true 7 i h λk=>met b [] [e,k]<| bi h.am e λl m=>bi h.am k λn o=>cm u b (some []) 40 [l,n] (aZ m (aZ o [])) h λp q=>gr p λr=>bp r (iI b cQ q) (J f g d q)
def zt:=bz 6 c λf=>aS b [2] false 1 f h λg=>dW b [] 7 g e h λi=>aS b [] true 7 i h λk=>bz 6 d λl=>aS b [3] false 1 l h λm=>zs u b (λn o p q=>dT p br λr=>J n o r q) m e k c d h
def lF:=bn 6 c h λg=>cv false g λi=>fi e i λk=>bp k (zt u b J c d e h) (j0 h)
def B3:=ji 2 3 5 1000000 (lF u b (λe=>iI b dx e)) c d bt h
def mC:ci (u,f,g,i,k,l,m):=cS c dx n λo=>bp o (iI b cQ h) (j d e h)
def vB:ci (u,b):=bz 6 c λe=>bh h.am false 1 e λf=>cv false f λg=>bz 6 d λi=>bh h.am false 1 i λk=>cv false k λl=>gJ g l λm=>S e f g i k l m h
def mD:ci (f,g,i,k):=cS c dx l λm=>cZ m false (vB u b (mC u b j m d e) d e h) (mC u b j m d e aK aK aK aK aK aK aK h)
def mE:ci (f,g,i,k):=cS c dx l λm=>cZ m false (bz 5 d λn=>bh h.am false 1 n λo=>bz 5 e λp=>bh h.am false 1 p λq=>gJ o q λr=>mD u b j m d e n o p q r h) (mD u b j m d e aK aK aK aK aK h)
def mF:ci (f,g,i,k):=cS c dx l λm=>cZ m false (bz 3 d λn=>bh h.am true 2 n λo=>bz 3 e λp=>bh h.am true 2 p λq=>iP true o q λr=>mE u b j m d e n o p q r h) (mE u b j m d e aK aK aK aK aK h)
def mB:ci (f,g,i,k):=cS c dx l λm=>cZ m false (bz 2 d λn=>bh h.am false 1 n λo=>bz 2 e λp=>bh h.am false 1 p λq=>gJ o q λr=>mF u b j m d e n o p q r h) (mF u b j m d e aK aK aK aK aK h)
def m7:=bh h.am false 1 c λg=>gJ d g λi=>cZ i false (bz 1 e λk=>bh h.am false 1 k λl=>bz 1 f λm=>bh h.am false 1 m λn=>gJ l n λo=>mB u b j i e f k l m n o h) (mB u b j i e f aK aK aK aK aK h)
def m8:=eR 42 b 2 none c h λe f=>eR 42 b 3 none d f λg i=>bn 0 e i λl=>bz 0 g λm=>m7 u b (B3 u b) m l e g i
def kW:=b0 T λc l=>b0 l λd l=>dF l (m8 u b c d (bN b bj))
def auI:=bJ b c h
def aiU:=cm u b none 99 [] [] h λc d=>cm u b none 100 [] [] d λe f=>bi f.am c λg i=>bi f.am e λk l=>cm u b none 98 [g,(.s 4 0x6c697370),k] (aZ i (aZ l [])) f λm n=>cP m 0 λo=>cP m 1 λp=>dw 158 b 2 none [bt,bt] n λq r=>bl b none 2 q p r λ_ s=>auI b o s
def Xm:=dF T (aiU u b (bN b bj))
def auJ:=jh h.am c true 32 λd=>bJ b d h
def aiV:ci u:=bz 0 d λe=>bh h.am true 2 e λf=>bh h.am true 37 d λg=>eo h.am 37 0 g (eF 1 nZ) λi k=>fB b 2145 none 60 37 1 false i (aZ k []) h λl m=>eu 0 1 eB nx λn=>eu 1 2 f n λo=>eu 20 1 l o λp=>fO p λq=>bl b none 32 c q m λ_ r=>auJ b c r
def ai0:=bh h.am true 7 c λi=>bi h.am d λk l=>bi h.am e λm n=>bi h.am i λo p=>cm u b none 102 [k,m,o] (aZ l (aZ n (aZ p []))) h λq r=>cP q 0 λs=>cP q 1 λ_=>bz 26 f λt=>bl b none 11 t s r λ_ v=>j g f v
def ai1:=dy (aiV u b) λj=>bi h.am e λi k=>cm u b none 103 [i,(.s 7 0x6d656173757265)] (aZ k []) h λl m=>cP l 0 λn=>cP l 1 λo=>dw 42 b 14 none dD m λp q=>bl b none 7 p n q λ_ r=>bp o (ai0 u b j p c g f d r) (j d f r)
def ai2:=bh h.am true 7 c λk=>bi h.am d λl m=>bi h.am e λn o=>bi h.am k λp q=>cm u b none 102 [l,n,p] (aZ m (aZ o (aZ q []))) h λr s=>cP r 0 λt=>cP r 1 λ_=>bz 4 f λv=>bl b none 11 v t s λ_ w=>F d g i f e w
def ai3:=dy (ai1 u b) λF=>bi h.am c λi k=>cm u b none 103 [i,(.s 5 0x6775617264)] (aZ k []) h λl m=>cP l 0 λn=>cP l 1 λo=>dw 42 b 12 none dD m λp q=>bl b none 7 p n q λ_ r=>bp o (ai2 u b F p d e f g c r) (F d g c f e r)
def ai4:=de h.am 7 c d λk=>bh h.am true 7 k λl=>bi h.am e λm n=>bi h.am f λo p=>bi h.am l λq r=>cm u b none 102 [m,o,q] (aZ n (aZ p (aZ r []))) h λs t=>cP s 0 λv=>cP s 1 λ_=>bz 15 g λw=>bl b none 11 w v t λ_ x=>ai3 u b c e f g i x
def ai5:=bh h.am true 37 f λg=>eo h.am 37 0 g (eF 1 nZ) λi k=>fB b 2100 none 60 37 1 false i (aZ k []) h λl m=>cv false e λn=>gU n br λo=>ai4 u b e o c l f d m
def ai6:ci u:=aS b [] true 2 c h λm=>met b [] [m]<| eo h.am 2 0 m (eF 1 [.s 0 0,.s 0 0]) λn o=>fB b 2096 (some [2096]) 39 2 1 false n (aZ o []) h λp q=>met b [2097,2096] [d,p]<| fW b 2097 (some [2097,2097]) 39 2 32 d p false q λr s=>bz 2 e λt=>met b [7] [t]<| bl b (some [7]) 1 t r s λ_ v=>j6 f g i e k l v
def ai7:=dy (λk l m n o p q=>dT p br λr=>j6 k l m n o r q) λa=>bz 2 f λs=>aS b [7] false 1 s h λt=>dW b [] 7 g i h λv=>bz 3 v λw=>ai6 u b a w t f c d e g i h
def aiW:=dy (ai7 u b j6) λa=>cv false g λk=>fi i k λl=>bp l (a c d e f g i h) (L c d e f h)
def aiX:=met b [7] [c]<| bl b (some [7]) 37 c d h λ_ i=>de i.am 7 e dM λk=>bh i.am true 7 k λl=>bE u b 101 l i λo p=>cP o 0 λq=>cP o 1 λ_=>dy (ai5 u b) λL=>lj [0,4,5,7,8,10] 1000000 (aiW u b L) f g e c q bt p
def aiY:=aS b [] true 2 c h λg=>cm u b (some []) 62 [] [] h λi k=>met b [] [i]<| bi k.am i λl m=>cm u b (some []) 33 [l] (aZ m []) k λn o=>eu 0 2 g nZ λp=>eu 3 1 br p λq=>eu 4 11 n q λr=>fO r λs=>dw 60 b 7 (some [7]) nZ o λt v=>aiX u b t s d e f v
def aiZ:=eR 42 b 3 none c h λe f=>dw 73 b 4 none nx f λg i=>bh i.am true 7 e λk=>bE u b 101 k i λn o=>cP n 0 λp=>cP n 1 λ_=>met b [] [p]<| de o.am 7 p br λq=>bz 3 q λr=>aiY u b r p d g o
def Pd:=b0 T λc l=>b0 l λd l=>dF l (aiZ u b d c (bN b bj))
def qk:=bJ b c h
def FE:ci (u,i,k,l,m,n,o,p,q,r,s):=cS c t cQ λv=>bp v (qk b dx h) (L d e f g h)
def Pe:ci u:=aS b [] false 1 c h λk=>dW b [] 34 k d h λl=>bz 4 l λm=>aS b [] true 2 m h λn=>aS b [3] true 2 e h λo=>iP false n o λp=>Z f g i c k d l m n o p h
def JS:=bz 2 c λi=>aS b [] false 1 i h λk=>cj k uL λl=>cZ l true (dW b [] 32 d f h λm=>bz 27 m λn=>Pe u b (FE u b L l d e f g) n g e d f m h) (FE u b L l d e f g aK aK aK aK aK aK aK aK aK aK aK h)
def JT:=dW b [] 32 c e h λg=>bz 27 g λi=>aS b [] false 1 i h λk=>dW b [] 34 k f h λl=>JS u b (λm n o p q=>dT p br λr=>L m n o r q) l c d e f h
def rQ:=de h.am 32 c e λg=>bn 27 g h λk=>cv false k λl=>fi f l λm=>bp m (JT u b L c d e f h) (J c d e h)
def Pf:=de h.am 32 c e λf=>bn 0 f h λi=>gJ i ku λk=>bp k ((dT e br λl=>J c d l h)) ((gd 0 3 5 6 1000000 (rQ u b (λm n o p=>dT o br λl=>J m n l p)) c d e bt h))
def xg:=cv false c λf=>fi e f λg=>bp g (Pf u b J c d e h) (j0 h)
def Pg:=ji 0 3 5 1000000 (xg u b (λe=>qk b cQ e)) c d bt h
def FF:ci (u,f,g):=cS c dx i λk=>bp k (qk b dx h) (j d e h)
def JQ:=aS b [3] true 2 c h λe=>cm u b (some []) 47 [(.s 5 0x657175616c)] [] h λf g=>iP false e f λi=>cZ i false (aS b [3] true 2 c g λk=>cm u b (some []) 47 [(.s 3 0x696666)] [] g λl m=>iP false k l λn=>FF u b (Pg u b) i d c k l n m) (FF u b (Pg u b) i d c aK aK aK g)
def JR:=eR 39 b 3 none c h λe f=>JQ u b e d f
def xf:=b0 T λc l=>b0 l λd l=>dF l (JR u b d c (bN b bj))
def Mn:=jh h.am c true 37 λe=>bi h.am e λf g=>bi h.am d λi k=>im b (.bD [f,i]) (aZ g (aZ k [])) h
def Xr:=de h.am 32 c e λg=>bh h.am true 32 g λi=>bE u b 113 i h λm n=>de n.am 37 m f λo=>bh n.am true 37 o λp=>bl b none 37 d p n λ_ q=>Mn b d dx q
def Pq:=cP c 0 λf=>cP c 1 λg=>cP c 2 λi=>gr i λk=>bp k (fO nZ λl=>bl b none 37 d l h λ_ m=>Mn b d cQ m) (Xr u b e d f g h)
def Pr:=eR 39 b 3 none c h λe f=>dw 60 b 4 none nZ f λg i=>bh i.am true 2 e λk=>b4 u b 112 d k i λp q=>Pq u b p g d q
def xh:=b0 T λc l=>b0 l λd l=>dF l (Pr u b d c (bN b bj))
def Au:=jh h.am c true 34 λe=>bi h.am e λf g=>bi h.am d λi k=>im b (.bD [f,i]) (aZ g (aZ k [])) h
def ajg:ci u:=met b [4] [c]<| bl b (some [4]) 1 c d h λ_ k=>bz 32 e λl=>met b [4] [l]<| bl b (some [4]) 2 l f k λ_ m=>bz 4 e λn=>met b [4] [n]<| bl b (some [4]) 2 n g m λ_ o=>bh o.am true 34 e λp=>bl b none 34 i p o λ_ q=>Au b i bt q
def ajr:=bz 1 c λk=>aS b [8] true 2 k h λl=>bz 1 d λm=>aS b [9] true 2 m h λn=>bz 6 e λo=>met b [4] [o]<| bl b (some [4]) 11 o f h λ_ p=>bz 31 e λq=>ajg u b q g e l n i p
def ajC:ci (u,l,m,n,o,p,q):=cS c dx r λs=>bp s (fO hG λt=>bl b none 34 d t h λ_ v=>Au b d n40 v) (j6 e d f g i k h)
def ajD:=met b [] [c,d,e]<| bi h.am c λg i=>bi h.am d λk l=>bi h.am e λm n=>cm u b (some []) 114 [g,k,m] (aZ i (aZ l (aZ n []))) h λo p=>met b [] [f,o]<| bi p.am f λq r=>bi p.am o λs t=>cm u b (some []) 14 [q,s] (aZ r (aZ t [])) p λv w=>gr v λx=>S f c d e o v x w
def ajE:=aS b [13] true 11 c h λg=>aS b [12] true 11 d h λi=>aS b [10] true 11 e h λk=>aS b [11] true 11 f h λl=>ajD u b S i k l g h
def ajF:=dy (λn o p q r s t=>aS b [12] true 11 r t λv=>ajr u b p q n v s o t) λj6=>fi m bt λw=>dy (ajC u b j6 w d c e f k m) λS=>cZ w false (ajE u b S l k g i h) (S aK aK aK aK aK aK aK h)
def ajG:ci u:=dW b [] 11 c d h λr=>bz 1 r λs=>aS b [] true 2 s h λt=>iP false e t λv=>bp v (fO hG λw=>bl b none 34 f w h λ_ x=>Au b f n40 x) (Z g f i k l m n o p d q h)
def ajH:=aS b [12] false 1 c h λq=>dW b [] 11 q d h λr=>bz 1 r λs=>aS b [] true 2 s h λt=>bz 10 e λv=>aS b [12] false 1 v h λw=>ajG u b Z w f t g i k l m n e o p d h
def ajI:=dy (λp q r s t v w x y z A B=>dT A br λC=>Z p q r s t v w x y z C B) λa=>bz 10 k λD=>ajH u b a D o k n d c e f g i l m h
def ajh:=dy (ajI u b Z) λa=>fi o n λp=>bp p (a c d e f g i k l m n o h) (kE c d e f g i k l m n h)
def aji:ci u:=dW b [] 11 c d h λp=>bz 1 p λq=>aS b [] true 2 q h λr=>bz 1 e λs=>aS b [10] true 2 s h λt=>iP false r t λv=>bp v (kE f g i k e l m n d d h) (kE f g i k e l m n o d h)
def ajj:=dy (λo p q r s t v w x y z=>lj [4,6,8,9,10,11,12,13,14,15,16] 1000000 (ajh u b kE) o p q r s t v w x y bt z) λa=>bz 10 k λA=>aS b [12] false 1 A h λB=>aji u b a B n g c d e f i k l m h
def ajk:ci (u,p,q,r,s,t,v,w,x):=cS c dx y λz=>bp z (fO hG λA=>bl b none 34 d A h λ_ B=>Au b d n40 B) (kE e d f g i k l m n o h)
def ajl:ci u:=aS b [12] false 1 c h λf=>dW b [] 11 f d h λg=>bz 1 g λi=>aS b [] true 2 i h λk=>bz 1 e λl=>aS b [11] true 2 l h λm=>iP false k m λn=>Y c f d g i k l m n h
def ajm:=dW b [] 11 c d h λp=>bz 0 p λq=>aS b [] false 1 q h λr=>gJ r br λs=>dy (ajk u b kE s e f g i k l m n o d) λY=>cZ s false (bz 10 m λt=>ajl u b Y t d l h) (Y aK aK aK aK aK aK aK aK aK h)
def ajn:=dy (λo p q r s t v w x y z=>dT y br λA=>kE o p q r s t v w x A z) λa=>dy (ajj u b a) λM=>bz 10 k λB=>aS b [12] false 1 B h λC=>ajm u b M C n d c e f g i k l m h
def ajo:=dy (ajn u b kE) λa=>bn 10 k h λp=>cv false p λq=>fi n q λr=>bp r (a c d e f g i k l m n h) (Y c d e f g i k l m h)
def ajp:=dy (ajF u b) λY=>lj [4,6,8,9,10,11,12,13,14,15] 1000000 (ajo u b Y) c d e f g i k l ll bt h
def ajq:ci (u,n,o,p):=cS c dx q λr=>bp r (fO hG λs=>bl b none 34 d s h λ_ t=>Au b d n40 t) (W e d f g i k l m h)
def ajs:ci (n,o):=cS c dx p λq=>dy (ajq u b W q d e f g i k l m) λL=>cZ q false (bz 1 l λr=>aS b [12] true 2 r h λs=>cm u b (some []) 47 [(.s 2 0x6966)] [] h λt v=>iP false s t λw=>L r s t w v) (L aK aK aK aK h)
def ajt:ci (n,o,p,q):=cS c dx r λs=>dy (ajs u b W s d e f g i k l m) λJ=>cZ s false (bz 0 l λt=>aS b [12] false 1 t h λv=>gJ v eB λw=>J t v w h) (J aK aK aK h)
def aju:ci u:=bz 1 c λe=>aS b [10] true 2 e h λf=>bz 1 d λg=>aS b [11] true 2 g h λi=>iP false f i λk=>F e f g i k h
def ajv:ci (n,o):=cS c dx p λq=>dy (ajt u b W q d e f g i k l m) λF=>cZ q false (aju u b F i k h) (F aK aK aK aK aK h)
def ajw:=aS b [10] false 1 c h λn=>gJ n br λo=>dy (ajv u b W o d e f g i k l m) λJ=>cZ o false (bz 0 k λp=>aS b [11] false 1 p h λq=>gJ q br λr=>J p q r h) (J aK aK aK h)
def ajx:=met b [10] [c]<| bl b (some [10]) 11 c d h λ_ q=>met b [11] [e]<| bl b (some [11]) 11 e f q λ_ r=>met b [12] [g]<| bl b (some [12]) 11 g i r λ_ s=>met b [13] [k]<| bl b (some [13]) 11 k l s λ_ t=>dy (ajp u b) λW=>bz 0 c λv=>ajw u b W v m n o p c e g k t
def ajy:=aS b [9] false 1 c h λm=>met b [] [m]<| de h.am 11 m br λn=>aS b [] true 11 n h λo=>dw 44 b 10 (some [10]) cW h λp q=>dw 44 b 11 (some [11]) cW q λr s=>dw 44 b 12 (some [12]) cW s λt v=>dw 44 b 13 (some [13]) cW v λw x=>ajx u b p d r e t f w o g i k l x
def ajz:=aS b [] true 11 c h λk=>bz 10 d λl=>aS b [9] false 1 l h λm=>met b [] [m]<| de h.am 11 m bt λn=>aS b [] true 11 n h λo=>bz 10 d λp=>ajy u b p e k o f g i d h
def ajA:=aS b [8] false 1 c h λi=>met b [] [i]<| de h.am 11 i bt λk=>aS b [] true 11 k h λl=>bz 10 d λm=>aS b [8] false 1 m h λn=>met b [] [n]<| de h.am 11 n br λo=>ajz u b o e l f g d h
def ajB:ci (u,i,k,l,m):=cS c dx n λo=>bp o (fO hG λp=>bl b none 34 d p h λ_ q=>Au b d n40 q) (L e d f g h)
def XB:=bz 1 c λe=>bh h.am true 2 e λf=>b4 u b 59 d f h λm n=>gr m λo=>F d e f m o n
def Ps:ci (k,l,m,n):=cS c dx o λp=>dy (ajB u b L p d e f g) λF=>cZ p false (XB u b F g i h) (F aK aK aK aK aK h)
def Pt:=bz 1 c λe=>bh h.am true 2 e λf=>b4 u b 59 d f h λm n=>gr m λo=>F d e f m o n
def Pu:ci (k,l,m):=cS c dx n λo=>dy (Ps u b L o d e f g i) λF=>cZ o false (Pt u b F f i h) (F aK aK aK aK aK h)
def Pv:ci (k,l,m):=cS c dx n λo=>dy (Pu u b L o d e f g i) λa=>cZ o false (bz 10 g λp=>bh h.am false 1 p λq=>cv false q λr=>gJ r dM λs=>a p q r s h) (a aK aK aK aK h)
def Pw:ci (k,l):=cS c dx m λn=>dy (Pv u b L n d e f g i) λa=>cZ n false (bz 10 f λo=>bh h.am false 1 o λp=>cv false p λq=>gJ q dM λr=>a o p q r h) (a aK aK aK aK h)
def Px:=dy (λi k l m n=>bz 10 l λo=>ajA u b o l m k i n) λL=>bn 0 c h λq=>gJ q eB λr=>dy (Pw u b L r d e c f g) λJ=>cZ r false (bz 0 f λs=>bh h.am false 1 s λt=>gJ t eB λv=>J s t v h) (J aK aK aK h)
def Py:=met b [] [c]<| de h.am 11 c br λi=>aS b [] true 11 i h λk=>dw 44 b 8 (some [8]) cW h λl m=>dw 44 b 9 (some [9]) cW m λn o=>met b [8] [l]<| bl b (some [8]) 11 l d o λ_ p=>met b [9] [n]<| bl b (some [9]) 11 n k p λ_ q=>Px u b l e f n g q
def Pz:=bz 10 e λg=>aS b [5] false 1 g h λi=>met b [] [i]<| de h.am 11 i bt λk=>aS b [] true 11 k h λl=>bz 10 e λm=>aS b [5] false 1 m h λn=>Py u b n l f d c h
def PA:=dy (Pz u b) λL=>bh h.am true 11 c λg=>bi h.am g λi k=>cm u b none 60 [i,(.s 7 0x696d706c696573),dM] (aZ k []) h λl m=>gr l λn=>bp n (fO hG λo=>bl b none 34 d o m λ_ p=>Au b d n40 p) (L e f c d m)
def PB:=eR 81 b 4 none c h λf g=>eR 44 b 5 none d g λi k=>dw 81 b 6 none hG k λl m=>PA u b i l e f m
def tZ:=b0 T λc l=>b0 l λd l=>b0 l λe l=>dF l (PB u b d e c (bN b bj))
def pF:=jh h.am c true 11 λd=>bJ b d h
def B5:=bh h.am true 11 c λe=>eo h.am 11 0 e (eF 1 cW) λf g=>fB b 2066 none 44 11 1 false f (aZ g []) h λi k=>bi k.am i λl m=>cm u b none 13 [(.s 3 0x6e6f74),l] (aZ m []) k λn o=>bl b none 11 d n o λ_ p=>pF b d p
def XE:=met b [2076] [c]<| bi h.am c λe f=>cm u b (some []) 13 [(.s 5 0x657175616c),e] (aZ f []) h λg i=>met b [] [g]<| eo i.am 11 0 g (eF 1 cW) λk l=>fB b 2078 (some [2078]) 44 11 1 false k (aZ l []) i λm n=>met b [2078] [m]<| bi n.am m λo p=>cm u b (some []) 13 [(.s 3 0x6e6f74),o] (aZ p []) n λq r=>met b [6] [d]<| bl b (some [6]) 11 d q r λ_ s=>pF b d s
def PC:=aS b [7] true 11 c h λi=>gU d br λk=>bi h.am e λl m=>bi h.am k λn o=>vV u b [4097] [4096,4098] [f,e,k] 10 [f,l,n] (aZ m (aZ o [])) h λp q=>met b [4096,4098,4096,4098] [i,p]<| eo q.am 11 0 i (eF 2 cW) λr s=>eo q.am 11 1 p r λt v=>fB b 2076 (some [2076]) 44 11 2 false t (aZ s (aZ v [])) q λw x=>XE u b w g x
def PD:=dC u b 22 [c] [] h λe f=>eo f.am 11 0 e (eF 1 cW) λg i=>fB b 2084 none 44 11 1 false g (aZ i []) f λk l=>bi l.am k λm n=>cm u b none 13 [(.s 5 0x636f6e7370),m] (aZ n []) l λo p=>eo p.am 11 0 o (eF 1 cW) λq r=>fB b 2086 none 44 11 1 false q (aZ r []) p λs t=>bi t.am s λv w=>cm u b none 13 [(.s 3 0x6e6f74),v] (aZ w []) t λx y=>bl b none 11 d x y λ_ z=>pF b d z
def XF:=bi h.am c λi k=>bi h.am d λl m=>vV u b [4097] [4096,4098] [e,c,d] 10 [e,i,l] (aZ k (aZ m [])) h λn o=>met b [4096,4098,4096,4098] [f,n]<| eo o.am 11 0 f (eF 2 cW) λp q=>eo o.am 11 1 n p λr s=>fB b 2096 (some [2096]) 44 11 2 false r (aZ q (aZ s [])) o λt v=>met b [2096] [t]<| bi v.am t λw x=>cm u b (some []) 13 [(.s 5 0x657175616c),w] (aZ x []) v λy z=>met b [6] [g]<| bl b (some [6]) 11 g y z λ_ A=>pF b g A
def PE:=aS b [7] true 11 c h λi=>gU d br λk=>XF u b e k f i g h
def XG:=eo h.am 11 0 c (eF 2 cW) λf g=>eo h.am 11 1 d f λi k=>fB b 2107 none 44 11 2 false i (aZ g (aZ k [])) h λl m=>bi m.am l λn o=>cm u b none 13 [(.s 1 0x3c),n] (aZ o []) m λp q=>eo q.am 11 0 p (eF 1 cW) λr s=>fB b 2109 none 44 11 1 false r (aZ s []) q λt v=>bi v.am t λw x=>cm u b none 13 [(.s 3 0x6e6f74),w] (aZ x []) v λy z=>bl b none 11 e y z λ_ A=>pF b e A
def PF:=dC u b 22 [c] [] h λg i=>gU d br λk=>bi i.am e λl m=>bi i.am k λn o=>dC u b 10 [c,l,n] (aZ m (aZ o [])) i λp q=>XG u b g p f q
def ajL:=cj c uK λk=>bp k (PF u b d e f g h) (j g i h)
def ajJ:=cj c ku λk=>bp k (PE u b d e f g i h) (ajL u b j c g e f i d h)
def ajK:=cj c eB λk=>bp k (PD u b d e h) (ajJ u b j c f g i d e h)
def JW:=cj c dM λk=>bp k (PC u b d e f g i h) (ajK u b j c g i d e f h)
def XC:=dC u b 21 [c,ye] [] h λi k=>cj i bt λl=>bp l ((bp l (B5 u b g f k) (JW u b (λm n o=>bh o.am true 11 n λp=>bl b none 11 m p o λ_ q=>pF b m q) i g e d c f k))) (cj i br λr=>(bp r (B5 u b g f k) (JW u b (λm n o=>bh o.am true 11 n λp=>bl b none 11 m p o λ_ q=>pF b m q) i g e d c f k)))
def XD:=dw 44 b 6 none cW h λf g=>bi g.am c λi k=>bi g.am d λl m=>dC u b 10 [e,i,l] (aZ k (aZ m [])) g λn o=>dw 44 b 7 none cW o λp q=>bl b none 11 p n q λ_ r=>XC u b e c d f p r
def FI:=b0 T λc l=>b0 l λd l=>b0 l λe l=>dF l (XD u b d e c (bN b bj))
end
end Go.Hf

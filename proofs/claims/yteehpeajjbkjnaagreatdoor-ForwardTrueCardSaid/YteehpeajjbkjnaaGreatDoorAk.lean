import Derived.Test.YteehpeajjbkjnaaGreatDoorAj
import Derived.Test.YteehpeajjbkjnaaGreatDoorAi
import Derived.Test.YteehpeajjbkjnaaGreatDoorAg
import Derived.Test.YteehpeajjbkjnaaGreatDoorProg
set_option maxRecDepth 100000
set_option linter.all false
namespace Go.Hf
open Go.RowKit
noncomputable section
variable(u:Fn) (j:az) (b:Nat) (N:rz) (J:g9) (a:gZ) (M:n1) (L:iF) (F:lA) (j6:rB) (P:IC) (O:vg) (S:ID) (kE:rA) (Z:Iu) (V:Iv) (Y:Iw) (W:sE) (Q:Iy) (R:Iz) (T:IA) (X:IB) (j19:Nr) (c d e f g i k l m n o p q r s t v w x y z A B C D E G H I K:ao) (h:aO) (bj:cD)
def adD:=jh h.am c true 7 λd=>bJ b d h
def XH:=b4 u b 116 c d h λl m=>cP l 0 λn=>cP l 1 λo=>eu 0 1 br dD λp=>eu 1 1 n p λq=>eu 2 1 o q λr=>fO r λs=>bl b none 7 e s m λ_ t=>adD b e t
def XI:=dw 42 b 4 none dD h λe f=>XH u b c d e f
def FJ:=b0 j λc l=>b0 l λd l=>dF l (XI u b c d (bN b bj))
def Hy:=jh h.am c true 7 λd=>bJ b d h
def XJ:=aS b [] true 7 c h λi=>aS b [3] true 7 d h λk=>met b [] [i,k]<| bi h.am i λl m=>bi h.am k λn o=>cm u b (some []) 77 [l,n] (aZ m (aZ o [])) h λp q=>met b [3] [d]<| bl b (some [3]) 7 d p q λ_ r=>L e f d g r
def XK:=dW b [] 7 c f h λg=>XJ u b (λi k l m n=>gU m br λo=>L i k l o n) g e c d f h
def B6:=p0 f bt λg=>bp g (XK u b L c d e f h) (a d e h)
def XL:=cm u b none 41 [] [] h λe f=>dw 42 b 3 none dD f λg i=>bl b none 7 g e i λ_ k=>cv false c λl=>gU l br λm=>gd 0 2 3 4 1000000 (B6 u b (λn o p=>bh p.am true 7 o λq=>bl b none 7 n q p λ_ r=>Hy b n r)) c d g m k
def XM:=dw 42 b 2 none dD h λd e=>XL u b c d e
def FK:=b0 j λc l=>dF l (XM u b c (bN b bj))
def adE:=jh h.am c true 7 λd=>bJ b d h
def XN:ci u:=dw 42 b 4 none dD h λe f=>bh f.am true 7 c λg=>bh f.am true 7 d λi=>eo f.am 7 0 g (eF 2 dD) λk l=>eo f.am 7 1 i k λm n=>fB b 2055 none 42 7 2 false m (aZ l (aZ n [])) f λo p=>eu 0 1 ku dD λq=>eu 6 1 o q λr=>fO r λs=>bl b none 7 e s p λ_ t=>adE b e t
def XO:=eR 42 b 2 none c h λe f=>eR 42 b 3 none d f λg i=>XN u b e g i
def B7:=b0 j λc l=>b0 l λd l=>dF l (XO u b c d (bN b bj))
def auK:=so b [c] [] h
def ajM:ci u:=bh h.am true 34 c λk=>eo h.am 34 0 k (eF 1 hG) λl m=>fB b 2067 none 81 34 1 false l (aZ m []) h λn o=>fW b 2068 none 81 34 544 d n false o λp q=>F e p f g i q
def ajN:=dw 81 b 5 none hG h λk l=>bl b none 34 k c l λ_ m=>bz 0 k λn=>bh m.am true 2 n λo=>b4 u b 79 d o m λt v=>gr t λw=>bp w (ajM u b F k e d f g i v) (F d e f g i v)
def ajO:=dy (λi k l m n o=>dT n br λp=>F i k l m p o) λal=>de h.am 34 e g λq=>bh h.am true 34 q λr=>ajN u b al r c d e f g h
def ajP:=fi g f λi=>dy (ajO u b F) λal=>bp i (al c d e f g h) (J d h)
def ajQ:=dy (λd e=>auK b d e) λJ=>dC u b 117 [] [] h λf g=>cv false f λi=>lj [0,3,6,7,8] 1000000 (ajP u b J) c .ba f i bt g
def zv:=b0 j λc l=>dF l (ajQ u b c (bN b bj))
def Mo:=bJ b c h
def ajR:ci u:=de h.am 2 d f λg=>bh h.am true 2 g λi=>dw 39 b 6 none [.s 0 0,.s 0 0] h λk l=>bl b none 2 k i l λ_ m=>bh m.am true 2 k λn=>bh m.am true 2 c λo=>iP false n o λp=>bp p (Mo b dx m) ((dT f br λq=>L c d e q m))
def PG:=fi f e λg=>bp g (ajR u b L c d e f h) (N h)
def XP:=eR 39 b 3 none c h λe f=>cv false d λg=>gd 3 7 8 9 1000000 (PG u b (λi=>Mo b cQ i)) e d g bt f
def FL:=b0 j λc l=>b0 l λd l=>dF l (XP u b d c (bN b bj))
def Av:=im b (.bD []) [] h
def XT:=de h.am 11 d f λg=>bh h.am true 11 g λi=>dw 44 b 7 none cW h λk l=>bl b none 11 k i l λ_ m=>bh m.am false 1 c λn=>bh m.am true 11 k λo=>nd u b n [o] [] m λ_ p=>(dT f br λq=>L c d e q p)
def xj:=fi f e λg=>bp g (XT u b L c d e f h) (Av b h)
def PH:=bn 10 c h λf=>cv false f λg=>gd 3 25 26 27 1000000 (xj u b) d f g bt h
def XU:=dW b [4098,2067] 11 c d h λk=>met b [4098,2067] [k]<| bl b (some [4098,2067]) 11 k e h λ_ l=>met b [4096] [f]<| bl b (some [4096]) 1 f c l λ_ m=>bn 0 g m λo=>cj o eB λp=>bp p (PH u b g i m) (Av b m)
def XV:=lJ b none (yD h.am 1 c d dx) h λ_ i=>aS b [4096] false 1 e i λk=>aS b [4] true 11 f i λl=>cv false k λm=>eo i.am 11 0 (.agg cW) (eF 1 cW) λn o=>fB b 2066 (some [2066]) 44 11 1 false n (aZ o []) i λp q=>met b [4098,2066] [k,p]<| fW b 2067 (some [2067,4098]) 44 11 176 k p true q λr s=>XU u b r m l e f g s
def PI:=bh h.am true 11 c λg=>bE u b 81 g h λl m=>bh m.am false 1 d λn=>dj (u0 m.am 1 false (.bool false) n l) λo=>bp o (Av b m) ((bh m.am false 1 d λp=>XV u b p l e c f m))
def JX:=eR 44 b 4 none c h λg i=>PI u b g d e f i
def FN:=b0 j λc l=>b0 l λd l=>b0 l λe l=>b0 l λf l=>dF l (JX u b c d e f (bN b bj))
def adF:=bJ b c h
def PJ:=eR 44 b 1 none c h λd e=>dw 183 b 3 none [(.bo (.pointer none)),.ba] e λf g=>bh g.am true 11 d λi=>bi g.am i λk l=>dC u b 118 [f,k] (aZ l []) g λ_ m=>dC u b 119 [f] [] m λn o=>adF b n o
def B9:=b0 j λc l=>dF l (PJ u b c (bN b bj))
def pG:=bJ b c h
def XW:=bz 3 c λe=>bh h.am true 7 e λf=>bE u b 123 f h λk l=>gU d k λm=>pG b m l
def XX:=bh h.am true 11 d λi=>b4 u b 86 i c h λo p=>L o e f g p
def PK:=de h.am 11 d f λg=>bh h.am true 11 g λi=>dw 44 b 6 none cW h λk l=>bl b none 11 k i l λ_ m=>tc c bt λn=>bp n (dj (rm false c bt) λo=>pG b o m) (XX u b (λp q r s t=>dT s br λv=>L p q r v t) c k d e f m)
def sU:=fi f e λg=>bp g (PK u b L c d e f h) (J c h)
def PL:=gU c br λe=>bn 10 d h λg=>cv false g λi=>gd 1 21 22 23 1000000 (sU u b (λk l=>pG b k l)) e g i bt h
def JY:=cj c eB λf=>bp f (PL u b d e h) (J d h)
def FO:=eR 44 b 2 none c h λe f=>bn 0 e f λi=>cj i dM λk=>bp k (XW u b e d f) (JY u b (λl m=>gU l br λn=>pG b n m) i d e f)
def xk:=b0 j λc l=>b0 l λd l=>dF l (FO u b c d (bN b bj))
def Dr:=bJ b c h
def Ca:ci (u,f,g,i,k):=cS c l cQ λm=>cZ m true (bn 10 d h λo=>cv false o λp=>cj p e λq=>(cS m q cQ λr=>Dr b r h)) ((cS m aK cQ λr=>Dr b r h))
def Cb:ci (g,i,k):=cS c l cQ λm=>cZ m true (bz 1 d λn=>bz 1 n λo=>bh h.am false 1 o λp=>cj p f λq=>Ca u b m d e n o p f q h) (Ca u b m d e aK aK aK aK aK h)
def FP:=bn 0 c h λg=>cj g eB λi=>cZ i true (bz 1 c λk=>bz 0 k λl=>bh h.am false 1 l λm=>cj m (.s 4 0x6c697370) λn=>Cb u b i c d e k l m n h) (Cb u b i c d e aK aK aK aK h)
def FQ:=eR 44 b 3 none c h λf g=>FP u b f d e g
def xl:=b0 j λc l=>b0 l λd l=>b0 l λe l=>dF l (FQ u b c e d (bN b bj))
def wd:=bJ b c h
def PO:=bh h.am true 11 c λi=>dw 44 b 6 none cW h λk l=>bl b none 11 k i l λ_ m=>bh m.am true 11 k λn=>bh m.am true 11 d λo=>b4 u b 93 n o m λt v=>bp t (wd b dx v) (L d e f g v)
def PP:=de h.am 11 d f λg=>PO u b (λi k l m n=>dT m br λo=>L i k l o n) g c d e f h
def vC:=fi f e λg=>bp g (PP u b L c d e f h) (N h)
def PQ:=eR 44 b 3 none c h λe f=>cv false d λg=>gd 3 7 8 9 1000000 (vC u b (λi=>wd b cQ i)) e d g bt f
def Cc:=b0 j λc l=>b0 l λd l=>dF l (PQ u b d c (bN b bj))
def Mp:=jh h.am c true 11 λd=>bJ b d h
def XY:=bh h.am true 11 c λe=>eo h.am 11 0 e (eF 1 cW) λf g=>fB b 2058 none 44 11 1 false f (aZ g []) h λi k=>bi k.am i λl m=>cm u b none 125 [(.s 3 0x6e6f74),l] (aZ m []) k λn o=>bl b none 11 d n o λ_ p=>Mp b d p
def XZ:ci u:=bn 10 c h λf=>de h.am 11 f bt λg=>bh h.am true 11 g λi=>bl b none 11 d i h λ_ k=>Mp b d k
def PR:=eR 44 b 1 none c h λd e=>dw 44 b 2 none cW e λf g=>bh g.am true 11 d λi=>bi g.am i λk l=>cm u b none 124 [k,(.s 3 0x6e6f74),br] (aZ l []) g λm n=>bp m (XZ u b d f n) (XY u b d f n)
def Cd:=b0 j λc l=>dF l (PR u b c (bN b bj))
def adG:=jh h.am c true 11 λd=>bJ b d h
def X0:=eR 44 b 3 none c h λe f=>dw 44 b 4 none cW f λg i=>bh i.am true 11 d λk=>bh i.am true 11 e λl=>eo i.am 11 0 k (eF 2 cW) λm n=>eo i.am 11 1 l m λo p=>fB b 2055 none 44 11 2 false o (aZ n (aZ p [])) i λq r=>bi r.am q λs t=>cm u b none 125 [(.s 5 0x657175616c),s] (aZ t []) r λv w=>bl b none 11 g v w λ_ x=>adG b g x
def X1:=eR 44 b 2 none c h λe f=>X0 u b d e f
def FT:=b0 j λc l=>b0 l λd l=>dF l (X1 u b c d (bN b bj))
def Ds:=bJ b c h
def X2:=bz 10 c λe=>bh h.am false 1 e λf=>bz 10 d λg=>bh h.am false 1 g λi=>bi h.am f λk l=>bi h.am i λm n=>cm u b none 127 [k,m,(.bo (.func (.func 93) #[] #[]))] (aZ l (aZ n [])) h λo p=>F e f g i o p
def Ce:ci (f,g,i,k):=cS c l cQ λm=>cZ m true (X2 u b (λ_ _ _ _ n o=>cS m n cQ λp=>Ds b p o) d e h) ((cS m aK cQ λp=>Ds b p h))
def PS:=bz 3 c λe=>bh h.am true 7 e λf=>bz 3 d λg=>bh h.am true 7 g λi=>b4 u b 126 f i h λo p=>F e f g i o p
def Cf:ci (f,g,i,k):=cS c l cQ λm=>cZ m true (PS u b (Ce u b m d e) d e h) (Ce u b m d e aK aK aK aK aK h)
def FU:=bh h.am false 1 c λg=>cj d g λi=>cZ i true (bz 1 e λk=>bh h.am true 2 k λl=>bz 1 f λm=>bh h.am true 2 m λn=>iP false l n λo=>Cf u b i e f k l m n o h) (Cf u b i e f aK aK aK aK aK h)
def FV:=eR 44 b 2 none c h λe f=>eR 44 b 3 none d f λg i=>bn 0 e i λl=>bz 0 g λm=>FU u b m l e g i
def vD:=b0 j λc l=>b0 l λd l=>dF l (FV u b c d (bN b bj))
def SY:=bJ b c h
def X3:=bh h.am true 11 d λf=>bi h.am c λg i=>bi h.am f λk l=>dC u b 132 [g,k] (aZ i (aZ l [])) h λm n=>nd u b m [.undef] [false] n λ_ o=>(bh o.am false 1 e λp=>SY b p o)
def PT:=bz 3 c λf=>bh h.am true 7 f λg=>bE u b 129 g h λl m=>bl b none 1 d l m λ_ n=>M e c d n
def PU:=bz 1 d λg=>bh h.am true 2 g λi=>b4 u b 131 i f h λo p=>bl b none 1 e o p λ_ q=>M c d e q
def X4:ci u:=de h.am 1 f i λk=>bl b none 1 k z8 h λ_ l=>(dT i br λm=>j6 c d e f g m l)
def Cg:=fi i g λk=>bp k (X4 u b j6 c d e f g i h) (L c d e f h)
def PV:=lJ b none (rj (Nat.add b 2093) 78 1 8 (h.am (Nat.add b 2093)).cH [bt] c c) h λg i=>cv false g λk=>k1 0 3 5 8 47 48 1000000 (Cg u b (PU u b M)) d e f g k bt i
def FY:ci (i,k,l,m):=cS c n cQ λo=>bp o (PV u b M d e f g h) (M e f g h)
def J1:=bE u b 130 c h λk l=>cP k 0 λm=>cP k 1 λn=>cZ n true (bz 10 e λo=>bh l.am false 1 o λp=>cv false p λq=>cj m q λr=>FY u b M n m d e f m o p q r l) (FY u b M n m d e f aK aK aK aK aK l)
def zx:ci (g,i,k,l,m):=cS c n cQ λo=>bp o (bz 1 d λp=>bh h.am true 2 p λq=>J1 u b M q e d f h) (M e d f h)
def FX:=bh h.am true 11 c λd=>bz 10 c λe=>bh h.am false 1 e λf=>cv false f λg=>bi h.am d λi k=>bi h.am g λl m=>cm u b none 89 [i,(.s 2 0x6966),l] (aZ k (aZ m [])) h λn o=>gr n λp=>j6 d e f g n p o
def zw:=bn 0 c h λg=>cj g eB λi=>cZ i true (FX u b (zx u b M i c d e) c h) (zx u b M i c d e aK aK aK aK aK aK h)
def ajS:=eR 44 b 3 none c h λe f=>dw 78 b 5 none [bt] f λg i=>bl b none 1 g z8 i λ_ k=>bn 0 e k λm=>cj m dM λn=>bp n (PT u b (X3 u b) e g d k) (zw u b (X3 u b) e d g k)
def FW:=b0 j λc l=>b0 l λd l=>dF l (ajS u b d c (bN b bj))
def k5:=jh h.am c true 7 λe=>bi h.am e λf g=>bi h.am d λi k=>im b (.bD [f,i]) (aZ g (aZ k [])) h
def X5:=met b [2206] [c,d]<| bi h.am c λi k=>bi h.am d λl m=>cm u b (some []) 137 [i,l] (aZ k (aZ m [])) h λn o=>bi o.am n λp q=>vV u b [4097] [4096,4098] [e,f,n] 97 [e,f,p] (aZ q []) o λr s=>cP r 0 λt=>cP r 1 λv=>met b [6] [g]<| bl b (some [6]) 7 g t s λ_ w=>k5 b g v w
def PY:=bz 15 e λg=>aS b [14] true 11 g h λi=>bz 2 e λk=>aS b [14] false 1 k h λl=>X5 u b l f c i d h
def P1:=bz 1 c λf=>bh h.am true 2 f λg=>b4 u b 136 g d h λn o=>cP n 0 λp=>cP n 1 λq=>bl b none 7 e p o λ_ r=>k5 b e q r
def zz:=bp f (P1 u b d i e h) (PY u b c e g i h)
def X9:ci u:=bh h.am true 7 m λn=>eo h.am 7 0 n (eF 1 dD) λo p=>fB b 2205 none 42 7 1 false o (aZ p []) h λq r=>fW b 2206 none 42 7 112 k q false r λs t=>O c d e f g i s l t
def P2:=cP c 1 λo=>dw 42 b 20 none dD h λp q=>bl b none 7 p d q λ_ r=>gJ o bt λs=>bp s (fO dD λt=>bl b none 7 e t r λ_ v=>k5 b e o v) (X9 u b O f g i e k l m n p r)
def Ya:=bn 10 e h λn=>de h.am 11 n l λo=>bh h.am true 11 o λp=>bi h.am d λq r=>dC u b 97 [c,p,q] (aZ r []) h λs t=>cP s 0 λv=>P2 u b (λw x y z A B C D E=>dT D br λG=>O w x y z A B C G E) s v f c d e g i k l t
def Ch:=bn 10 e h λn=>cv false n λo=>fi l o λp=>bp p (Ya u b O c d e f g i k l h) (j6 c e f g i k h)
def P3:=uG 0 2 4 6 13 14 18 19 1000000 (Ch u b (zz u b)) c d e f g i .ba bt h
def X6:=bn 10 e h λi=>de h.am 11 i br λk=>bh h.am true 11 k λl=>bi h.am d λm n=>dC u b 97 [c,l,m] (aZ n []) h λo p=>cP o 0 λq=>cP o 1 λr=>bl b none 7 f q p λ_ s=>k5 b f r s
def X7:=bn 10 c h λi=>de h.am 11 i dM λk=>bh h.am true 11 k λl=>bi h.am d λm n=>dC u b 97 [e,l,m] (aZ n []) h λo p=>cP o 0 λq=>cP o 1 λr=>bl b none 7 f q p λ_ s=>k5 b f r s
def PW:=bh h.am true 7 g λi=>bE u b 135 i h λm n=>bp m (X7 u b e d c f n) (X6 u b c d e f n)
def J2:=cP c 1 λk=>dw 42 b 16 none dD h λl m=>bl b none 7 l d m λ_ n=>gJ k bt λo=>bp o (bh n.am true 7 l λp=>bl b none 7 e p n λ_ q=>k5 b e k q) (PW u b f g i e l n)
def PX:=bn 10 c h λi=>de h.am 11 i bt λk=>bh h.am true 11 k λl=>bi h.am d λm n=>dC u b 97 [e,l,m] (aZ n []) h λo p=>cP o 0 λq=>J2 u b o q f e d c p
def FZ:=bh h.am true 11 e λk=>bi h.am k λl m=>cm u b none 60 [l,(.s 2 0x6966),eB] (aZ m []) h λn o=>bp n (PX u b e d c f o) (P3 u b c d e f g i o)
def F0:ci (u,l,m):=cS c n cQ λo=>bp o (fO dD λp=>bl b none 7 d p h λ_ q=>k5 b d ye q) (j6 e f g d i k h)
def J3:=met b [14] [c]<| bl b (some [14]) 37 c d h λ_ l=>gr e λm=>cZ m true (bz 3 c λn=>bh l.am false 1 n λo=>gJ o br λp=>F0 u b (FZ u b) m f g i k e c n o p l) (F0 u b (FZ u b) m f g i k e c aK aK aK l)
def J4:=bz 1 c λk=>aS b [4] true 2 k h λl=>met b [4098,4096,4098] [d,l]<| bi h.am d λm n=>bi h.am l λo p=>cm u b (some []) 69 [m,o] (aZ n (aZ p [])) h λq r=>cP q 0 λs=>cP q 1 λ_=>dw 60 b 14 (some [14]) nZ r λt v=>J3 u b t s e f g i c v
def J5:=bz 1 e λg=>bh h.am true 2 g λi=>bE u b 96 i h λm n=>cP m 0 λ_=>cP m 1 λo=>lS c λp=>bz 0 p λq=>aS b [4096] false 1 q n λr=>J4 u b e r o f c d n
def J6:=bn 10 e h λk=>cv false k λl=>gJ g l λm=>bp m (fO dD λn=>bl b none 7 f n h λ_ o=>k5 b f uK o) (J5 u b c d e f h)
def F1:=met b [4098,4096,4098] [c,d]<| bi h.am c λk l=>bi h.am d λm n=>cm u b (some []) 37 [k,m] (aZ l (aZ n [])) h λo p=>cP o 0 λq=>cP o 1 λr=>gr r λs=>bp s (fO dD λt=>bl b none 7 e t p λ_ v=>k5 b e yd v) (J6 u b f g i e q p)
def F2:=lS c λi=>bz 1 i λk=>bl b none 1 k d h λ_ l=>lS c λm=>bz 0 m λn=>aS b [4096] false 1 n l λo=>bz 1 e λp=>aS b [4] true 2 p l λq=>F1 u b o q f c g e l
def F3:=lS c λg=>bn 1 g h λk=>gU k br λl=>F2 u b c l e f d h
def zy:=lS c λg=>bn 1 g h λk=>fi k br λl=>bp l (fO dD λm=>bl b none 7 f m h λ_ n=>k5 b f LM n) (F3 u b c d e f h)
def PZ:ci u:=bl b none 7 c d h λ_ g=>gr e λi=>bp i (fO dD λk=>bl b none 7 f k g λ_ l=>k5 b f uL l) ((bh g.am true 7 c λm=>bl b none 7 f m g λ_ n=>k5 b f bt n))
def P0:=bz 1 c λf=>bh h.am true 2 f λg=>b4 u b 134 d g h λn o=>cP n 0 λp=>cP n 1 λq=>dw 42 b 8 none dD o λr s=>PZ u b r p q e s
def X8:ci u:=bz 3 c λe=>bh h.am true 7 e λf=>bl b none 7 d f h λ_ g=>k5 b d bt g
def xn:=cj c dM λi=>bp i (X8 u b d e h) (L f g d e h)
def ua:=eR 44 b 4 none c h λf g=>dw 42 b 6 none dD g λi k=>bn 0 f k λm=>cj m br λn=>bp n (P0 u b f d i k) (xn u b (zy u b) m f i e d k)
def pT:=b0 j λc l=>b0 l λd l=>b0 l λe l=>dF l (ua u b d e c (bN b bj))
def uT:=bi h.am c λf g=>bi h.am d λi k=>bi h.am e λl m=>im b (.bD [f,i,l]) (aZ g (aZ k (aZ m []))) h
def NS:ci u:=dW b [] 37 f g h λi=>bz 0 i λk=>aS b [] true 2 k h λl=>aS b [3] true 2 d h λm=>iP false l m λn=>bp n (uT b e g dx h) ((dT g br λo=>F c d e f o h))
def tS:=cv false f λi=>fi g i λk=>bp k (NS u b F c d e f g h) (M c d e h)
def UM:=de h.am 32 c e λf=>bh h.am true 32 f λg=>bE u b 113 g h λl m=>fm 0 3 7 8 9 1000000 (tS u b (λn o p q=>dT p br λr=>M n o r q)) c d e l bt m
def vo:=cv false c λf=>fi e f λg=>bp g (UM u b M c d e h) (N h)
def UN:=eR 39 b 3 none c h λe f=>ji 0 3 7 1000000 (vo u b (λg=>uT b bt bt cQ g)) d e bt f
def wW:=b0 j λc l=>b0 l λd l=>dF l (UN u b d c (bN b bj))
def yp:=bJ b c h
def y6:ci u:=bp d (bn 20 c h λf=>yp b f h) (N h)
def I3:ci (u,b):=cj c uL λe=>bp e (a d e h) (cj c yd λf=>a d f h)
def Eu:=cj c uK λe=>bp e (a d e h) (I3 u b a c d h)
def Bm:=eR 73 b 1 none c h λd e=>bn 0 d e λg=>cj g eB λi=>bp i (y6 u b (λk=>yp b .ba k) d i e) (Eu u b (y6 u b (λk=>yp b .ba k)) g d e)
def vp:=b0 j λc l=>dF l (Bm u b c (bN b bj))
def SU:=bi h.am c λe f=>bi h.am d λg i=>im b (.bD [e,g]) (aZ f (aZ i [])) h
def UO:=b4 u b 152 c d h λn o=>cP n 0 λp=>cP n 1 λ_=>xY true e f λq=>b4 u b 153 q g o λw x=>bi x.am p λy z=>cm u b none 153 [cQ,y] (aZ z []) x λA B=>SU b w A B
def UP:=b4 u b 151 c d h λo p=>bE u b 150 o p λs t=>cP s 0 λ_=>cP s 1 λv=>b4 u b 152 e v t λA B=>cP A 0 λC=>cP A 1 λ_=>UO u b f v g i C B
def UQ:=bE u b 150 c h λk l=>cP k 0 λm=>cP k 1 λn=>UP u b c d n f m e l
def UR:=bE u b 150 c h λg i=>cP g 0 λk=>cP g 1 λl=>cv false l λm=>cj m bt λn=>bp n (SU b (.s 1 0x30) (.s 1 0x31) i) (UQ u b d c k l i)
def Ev:=b0 j λc l=>b0 l λd l=>dF l (UR u b d c (bN b bj))
def v9:=im b (.bD []) [] h
def US:=dC u b 157 [c,aeH] [] h λ_ e=>bz 1 d λf=>bh e.am true 2 f λg=>bi e.am g λi k=>dC u b 158 [c,i] (aZ k []) e λ_ l=>v9 b l
def UT:=dC u b 157 [c,aeL] [] h λ_ e=>bz 3 d λf=>bh e.am true 7 f λg=>bi e.am g λi k=>dC u b 159 [c,i] (aZ k []) e λ_ l=>v9 b l
def UU:=de h.am 11 d f λg=>bh h.am true 11 g λi=>dw 44 b 5 none cW h λk l=>bl b none 11 k i l λ_ m=>bh m.am true 11 k λn=>bi m.am n λo p=>dC u b 118 [c,o] (aZ p []) m λ_ q=>(dT f br λr=>L c d e r q)
def Bn:=fi f e λg=>bp g (UU u b L c d e f h) (J c h)
def UV:=bh h.am true 2 c λf=>bi h.am f λg i=>dC u b 158 [d,g] (aZ i []) h λ_ k=>bn 10 e k λm=>cv false m λn=>gd 0 15 16 17 1000000 (Bn u b (λo p=>dC u b 157 [o,HX] [] p λ_ q=>v9 b q)) d m n bt k
def NT:=cj c dM λf=>bp f (UT u b d e h) (dC u b 157 [d,aeI] [] h λ_ g=>bz 1 e λi=>UV u b i d e g)
def Ew:=eR 44 b 3 none c h λe f=>bn 0 e f λi=>cj i br λk=>bp k (US u b d e f) (NT u b i d e f)
def y7:=b0 j λc l=>b0 l λd l=>dF l (Ew u b d c (bN b bj))
def adm:=bJ b c h
def UZ:=eR 42 b 1 none c h λd e=>bh e.am true 7 d λf=>bi e.am f λg i=>cm u b none 164 [g,C6] (aZ i []) e λk l=>dj (rm true bt k) λm=>gU C6 m λn=>adm b n l
def I4:=b0 j λc l=>dF l (UZ u b c (bN b bj))
def Hq:=bJ b c h
def Ex:ci (u,f,g,i,k):=cS c l cQ λm=>cZ m true (bn 10 d h λo=>cv false o λp=>cj p e λq=>(cS m q cQ λr=>Hq b r h)) ((cS m aK cQ λr=>Hq b r h))
def NU:ci (u,b):=bz 1 c λe=>bh h.am true 2 e λf=>eu 0 1 (.s 4 0x6c697370) [.s 0 0,.s 0 0] λg=>eu 1 1 d g λi=>fO i λk=>iP false f k λl=>F e f d k l h
def I5:=eR 44 b 3 none c h λf g=>bn 0 f g λk=>cj k eB λl=>cZ l true (NU u b (Ex u b l f d) f e g) (Ex u b l f d aK aK aK aK aK g)
def y8:=b0 j λc l=>b0 l λd l=>b0 l λe l=>dF l (I5 u b c e d (bN b bj))
def sk:=bJ b c h
def U0:ci u:=aS b [3] false 1 c h λi=>gU d br λk=>dW b [] 7 i k h λl=>aS b [] true 7 l h λm=>met b [2] [e]<| bl b (some [2]) 7 e f h λ_ n=>met b [3] [g]<| bl b (some [3]) 7 g m n λ_ o=>a e g o
def Ey:=bz 6 c λf=>aS b [2] false 1 f h λg=>gU e br λi=>dW b [] 7 g i h λk=>aS b [] true 7 k h λl=>bz 6 d λm=>U0 u b a m e c l d h
def NV:=dW b [] 7 c d h λl=>aS b [] true 7 l h λm=>met b [] [e,m]<| bi h.am e λn o=>bi h.am m λp q=>cm u b (some []) 126 [n,p] (aZ o (aZ q [])) h λr s=>gr r λt=>bp t (sk b cQ s) (F f g i k d s)
def NW:=bz 6 c λi=>aS b [2] false 1 i h λk=>dW b [] 7 k g h λl=>aS b [] true 7 l h λm=>bz 6 d λn=>aS b [3] false 1 n h λo=>NV u b (λp q r s t v=>dT t br λw=>F p q r s w v) o g m c d e f h
def y9:=fi g f λi=>bp i (NW u b F c d e f g h) (M c d e h)
def U2:=gU e br λf=>fm 2 3 5 55 56 1000000 (y9 u b (Ey u b a)) c d e f bt h
def Ez:=bn 6 c h λf=>cv false f λg=>cj g bt λi=>bp i (sk b dx h) (U2 u b a c d g h)
def sP:ci (u,f,g,i,k,l,m):=cS c dx n λo=>bp o (sk b cQ h) (a d e h)
def EA:ci (u,b):=bz 6 c λe=>bh h.am false 1 e λf=>cv false f λg=>bz 6 d λi=>bh h.am false 1 i λk=>cv false k λl=>gJ g l λm=>P e f g i k l m h
def sL:ci (f,g,i,k):=cS c dx l λm=>cZ m false (EA u b (sP u b a m d e) d e h) (sP u b a m d e aK aK aK aK aK aK aK h)
def sM:ci (f,g,i,k):=cS c dx l λm=>cZ m false (bz 5 d λn=>bh h.am false 1 n λo=>bz 5 e λp=>bh h.am false 1 p λq=>gJ o q λr=>sL u b a m d e n o p q r h) (sL u b a m d e aK aK aK aK aK h)
def sN:ci (f,g,i,k):=cS c dx l λm=>cZ m false (bz 3 d λn=>bh h.am true 2 n λo=>bz 3 e λp=>bh h.am true 2 p λq=>iP true o q λr=>sM u b a m d e n o p q r h) (sM u b a m d e aK aK aK aK aK h)
def sO:ci (f,g,i,k):=cS c dx l λm=>cZ m false (bz 2 d λn=>bh h.am false 1 n λo=>bz 2 e λp=>bh h.am false 1 p λq=>gJ o q λr=>sN u b a m d e n o p q r h) (sN u b a m d e aK aK aK aK aK h)
def tT:=bh h.am false 1 c λg=>gJ d g λi=>cZ i false (bz 1 e λk=>bh h.am false 1 k λl=>bz 1 f λm=>bh h.am false 1 m λn=>gJ l n λo=>sO u b a i e f k l m n o h) (sO u b a i e f aK aK aK aK aK h)
def qH:=bn 0 c h λf=>bz 0 d λg=>tT u b (Ez u b a) g f c d h
def U1:=eR 42 b 2 none c h λe f=>eR 42 b 3 none d f λg i=>lK 2 3 1000000 (qH u b) e g i
def Bo:=b0 j λc l=>b0 l λd l=>dF l (U1 u b c d (bN b bj))
def ts:=bJ b c h
def NX:=de h.am 11 c d λk=>bh h.am true 11 k λl=>dw 44 b 9 none cW h λm n=>bl b none 11 m l n λ_ o=>bh o.am true 11 e λp=>bh o.am true 11 m λq=>nd u b f [p,q] [] o λr s=>gr r λt=>bp t (ts b cQ s) (F c f g i d s)
def NY:=de h.am 11 e g λi=>bh h.am true 11 i λk=>dw 44 b 8 none cW h λl m=>bl b none 11 l k m λ_ n=>NX u b (λo p q r s t=>dT s br λv=>F o p q r v t) c g l d e f n
def vq:=fi g f λi=>bp i (NY u b F c d e f g h) (N h)
def NZ:=cv false c λf=>fm 1 2 15 16 17 1000000 (vq u b (λg=>ts b dx g)) d e c f bt h
def I6:=cv false c λf=>cv false d λg=>gJ f g λi=>bp i (ts b cQ h) (NZ u b c d e h)
def za:=b0 j λc l=>b0 l λd l=>b0 l λe l=>dF l (I6 u b c d e (bN b bj))
def auG:=so b [c] [] h
def N0:ci u:=eR 30 b 2 none c h λe f=>eR 44 b 3 none d f λg i=>dj (AH 168 [e,g]) λk=>auG b k i
def U3:=b0 j λc l=>b0 l λd l=>dF l (N0 u b c d (bN b bj))
def Ao:=jh h.am c true 7 λe=>bi h.am e λf g=>bi h.am d λi k=>im b (.bD [f,i]) (aZ g (aZ k [])) h
def U4:ci u:=de h.am 9 c d λf=>bz 2 f λg=>bh h.am true 7 g λi=>bl b none 7 e i h λ_ k=>Ao b e dx k
def N1:=dW b [] 9 c f h λg=>bz 0 g λi=>aS b [] true 2 i h λk=>aS b [3] true 2 d h λl=>iP false k l λm=>bp m (U4 u b c f e h) ((dT f br λn=>L c d e n h))
def zb:=cv false c λg=>fi f g λi=>bp i (N1 u b L c d e f h) (J e h)
def U5:=eR 39 b 3 none c h λe f=>dw 42 b 4 none dD f λg i=>gd 0 3 4 6 1000000 (zb u b (λk l=>fO dD λm=>bl b none 7 k m l λ_ n=>Ao b k cQ n)) d e g bt i
def EB:=b0 j λc l=>b0 l λd l=>dF l (U5 u b d c (bN b bj))
def Ap:=bJ b c h
def zc:ci (u,e,f,g):=cS c i cQ λk=>cZ k true (bz 3 d λl=>bn 1 l h λn=>cj n (.s 3 0x6e696c) λo=>(cS k o cQ λp=>Ap b p h)) ((cS k aK cQ λp=>Ap b p h))
def Bp:=bn 0 c h λe=>cj e dM λf=>cZ f true (bz 3 c λg=>bz 0 g λi=>bh h.am false 1 i λk=>cj k (.s 4 0x6c697370) λl=>zc u b f c g i k l h) (zc u b f c aK aK aK aK h)
def Bq:=eR 42 b 1 none c h λd e=>Bp u b d e
def wX:=b0 j λc l=>dF l (Bq u b c (bN b bj))
def yq:=jh h.am c true 7 λe=>bi h.am e λf g=>bi h.am d λi k=>im b (.bD [f,i]) (aZ g (aZ k [])) h
def Br:=bh h.am true 7 d λe=>bE u b 172 e h λi k=>gr i λl=>bp l (fO dD λm=>bl b none 7 c m k λ_ n=>yq b c dM n) ((bh k.am true 7 d λo=>bl b none 7 c o k λ_ p=>yq b c bt p))
def N2:=met b [] [c]<| de h.am 7 c bt λg=>aS b [] true 7 g h λi=>met b [] [d,i]<| bi h.am d λk l=>bi h.am i λm n=>cm u b (some []) 170 [k,m] (aZ l (aZ n [])) h λo p=>met b [8] [e]<| bl b (some [8]) 7 e o p λ_ q=>a f e q
def N3:=bz 1 c λg=>aS b [2] false 1 g h λi=>N2 u b a d i e f h
def N4:=met b [] [c]<| de h.am 7 c br λi=>aS b [] true 7 i h λk=>met b [] [d,e,k]<| bi h.am d λl m=>bi h.am e λn o=>bi h.am k λp q=>cm u b (some []) 171 [l,n,p] (aZ m (aZ o (aZ q []))) h λr s=>met b [8] [f]<| bl b (some [8]) 7 f r s λ_ t=>a g f t
def N5:=bz 1 c λg=>aS b [2] false 1 g h λi=>met b [] [d]<| de h.am 7 d bt λk=>aS b [] true 7 k h λl=>N4 u b a d i l e f h
def agf:ci u:=de h.am 7 c dM λf=>bh h.am true 7 f λg=>bl b none 7 d g h λ_ i=>a e d i
def agh:=de h.am 7 c br λf=>bh h.am true 7 f λg=>bl b none 7 d g h λ_ i=>de i.am 7 c bt λk=>bh i.am true 7 k λl=>bE u b 143 l i λo p=>bp o (agf u b a c d e p) (a e d p)
def N6:=cj c dM λi=>bp i (N5 u b a d e f g h) (agh u b a e f g h)
def EF:=dw 42 b 8 none dD h λg i=>cj f br λk=>bp k (N3 u b (Br u b) d c g e i) (N6 u b (Br u b) f d c g e i)
def EC:=cv false c λg=>gJ g f λi=>bp i (fO dD λk=>bl b none 7 e k h λ_ l=>yq b e uK l) (EF u b c d e f h)
def ED:=bE u b 96 c h λk l=>cP k 0 λm=>cP k 1 λn=>gr n λo=>bp o (fO dD λp=>bl b none 7 d p l λ_ q=>yq b d yd q) (EC u b e f d m l)
def EE:=eR 39 b 2 none c h λe f=>dw 42 b 4 none dD f λg i=>bh i.am true 2 e λk=>ED u b k g d e i
def tU:=b0 j λc l=>b0 l λd l=>dF l (EE u b c d (bN b bj))
def Hr:=bJ b c h
def U6:ci u:=aS b [] true 7 c h λk=>eu 0 2 d [.s 0 0,.s 0 0,bt,.s 0 0,.s 0 0,.s 0 0,.s 0 0,.s 0 0,.ba] λl=>eu 2 7 k l λm=>fO m λn=>met b [] [n]<| eo h.am 9 0 n (eF 1 [.s 0 0,.s 0 0,bt,.s 0 0,.s 0 0,.s 0 0,.s 0 0,.s 0 0,.ba]) λo p=>fB b 2077 (some [2077]) 91 9 1 false o (aZ p []) h λq r=>met b [2078,2077] [e,q]<| fW b 2078 (some [2078,2078]) 91 9 144 e q false r λs t=>L f g s i t
def N7:=dW b [] 2 c f h λg=>aS b [] true 2 g h λi=>dW b [] 7 d f h λk=>U6 u b (λl m n o p=>dT o br λq=>L l m n q p) k i e c d f h
def I7(u:Fn)(b:Nat)(L:iF)(J:g9)(c d e f g i k l m:ao)(h:aO):ay:=cS c m cQ λn=>bp n (L d e f g h) (J f h)
def Bs:=cv false c λg=>fi f g λi=>cZ i true (cv false d λk=>fi f k λl=>I7 u b (N7 u b L) J i c d e f f d k l h) (I7 u b (N7 u b L) J i c d e f aK aK aK aK h)
def U7:=gd 0 1 5 6 1000000 (Bs u b (λe f=>Hr b e f)) c d .ba bt h
def EG:=b0 j λc l=>b0 l λd l=>dF l (U7 u b c d (bN b bj))
def ado:=bJ b c h
def U8:=eR 42 b 1 none c h λd e=>bh e.am true 7 d λf=>bi e.am f λg i=>cm u b none 177 [g,C6] (aZ i []) e λk l=>ado b k l
def Bt:=b0 j λc l=>dF l (U8 u b c (bN b bj))
def Mg:=bJ b c h
def N8:ci u:=bh h.am false 1 c λe=>cj e ku λf=>cZ f true (bn 6 d h λi=>cv false i λk=>cj k dM λl=>(cS f l cQ λm=>Mg b m h)) ((cS f aK cQ λm=>Mg b m h))
def N9:=eR 42 b 1 none c h λd e=>bz 0 d λf=>N8 u b f d e
def EH:=b0 j λc l=>dF l (N9 u b c (bN b bj))
def Aq:=bi h.am c λe f=>bi h.am d λg i=>im b (.bD [e,g]) (aZ f (aZ i [])) h
def U9:ci u:=ne c g λi=>gU i MU λk=>dj (qp .i64 k) λl=>eo h.am 1 0 l (eF 1 [bt]) λm n=>fB b 2081 none 3 1 1 false m (aZ n []) h λo p=>fW b 2082 none 3 1 8 f o false p λq r=>(gU g br λs=>F c d e q s r)
def Bu:=p0 g e λi=>bp i (U9 u b F c d e f g h) (a d f h)
def I8:=cv true c λf=>gU f br λg=>fm 0 4 5 6 7 1000000 (Bu u b (λi k l=>Aq b i k l)) c d e .ba g h
def I9:=ne c bt λd=>cj d MT λe=>bp e (I8 u b c e br h) (I8 u b c e bt h)
def EJ:ci (u,e):=cS c dx f λg=>bp g (Aq b cQ .ba h) (J d h)
def Ja:=bE u b 190 c h λf g=>gr f λi=>cZ i false (cj c (.s 1 0x30) λk=>EJ u b (I9 u b) i c c k g) (EJ u b (I9 u b) i c aK aK g)
def EI:=b0 j λc l=>dF l (Ja u b c (bN b bj))
def Mh:=bJ b c h
def Jb:=b4 u b 152 c d h λk l=>cP k 0 λ_=>cP k 1 λm=>a d m l
def zd:=cv false d λe=>mQ e bt λf=>bp f (Jb u b a c d h) (J c h)
def Va:=cP c 1 λe=>bE u b 150 d h λi k=>cP i 0 λ_=>cP i 1 λl=>lK 6 8 1000000 (zd u b (λm n=>bi n.am m λo p=>cm u b none 153 [cQ,o] (aZ p []) n λq r=>Mh b q r)) e l k
def Vb:=bE u b 150 c h λg i=>cP g 0 λ_=>Va u b g d i
def EK:=b0 j λc l=>b0 l λd l=>dF l (Vb u b c d (bN b bj))
def Hs:=bi h.am c λe f=>bi h.am d λg i=>im b (.bD [e,g]) (aZ f (aZ i [])) h
def Vc:=b4 u b 193 f d h λn o=>de o.am 1 e g λp=>bh o.am false 1 p λq=>dT q br λr=>de o.am 1 e g λs=>bl b none 1 s r o λ_ t=>F c d e n g t
def wY(u:Fn)(b:Nat)(al ar:lA)(c d e f g:ao)(h:aO):ay:=b4 u b 192 f d h λn o=>p0 n bt λp=>bp p (Vc u b ar c d e f g o) (al c d e f g o)
def Vd:=de h.am 1 c g λi=>bh h.am false 1 i λk=>eo h.am 1 0 k (eF 1 [bt]) λl m=>fB b 2071 none 3 1 1 false l (aZ m []) h λn o=>fW b 2073 none 3 1 8 n f false o λp q=>bE u b 191 p q λt v=>fm 0 1 6 7 8 1000000 (wY u b (λw x y z A B=>gU A br λC=>F w x y z C B)) c d e t g v
def Bv:=p0 g bt λi=>bp i (Vd u b F c d e f g h) (a e f h)
def Ve:=cv false c λe=>lJ b none (rj (Nat.add b 2059) 3 1 8 (h.am (Nat.add b 2059)).cH [bt] e e) h λf g=>cv false c λi=>gU i br λk=>fm 0 1 6 7 8 1000000 (Bv u b (λl m n=>bE u b 191 l n λq r=>Hs b q m r)) c d f .ba k g
def EL:=b0 j λc l=>b0 l λd l=>dF l (Ve u b c d (bN b bj))
def Ar:=bJ b c h
def Vf:ci u:=de h.am 1 c e λf=>bh h.am false 1 f λg=>dT acq g λi=>dj (qp .u8 i) λk=>eo h.am 1 0 k (eF 1 [tA]) λl m=>fB b 2078 none 5 1 1 false l (aZ m []) h λn o=>fW b 2079 none 5 1 1 d n false o λp q=>(gU e br λr=>M c p r q)
def Bw:=p0 e bt λf=>bp f (Vf u b M c d e h) (J d h)
def Jc:=cv false c λe=>gU e br λf=>ji 1 5 6 1000000 (Bw u b (λg i=>dj (tC i.am g) λk=>Ar b k i)) c d f h
def Vg:ci u:=eo h.am 1 0 MT (eF 1 [tA]) λd e=>fB b 2062 none 5 1 1 false d (aZ e []) h λf g=>fW b 2063 none 5 1 1 .ba f false g λi k=>a c i k
def Oa:=bp c (Vg u b (Jc u b) d h) (Jc u b d .ba h)
def Jd:=bE u b 191 c h λg i=>cv false g λk=>cj k bt λl=>bp l (Ar b (.s 1 0x30) i) (Oa u b d g i)
def EM:=b0 j λc l=>b0 l λd l=>dF l (Jd u b d c (bN b bj))
def adp:=bJ b c h
def Ob:=dC u b 205 [c] [] h λ_ e=>lS c λf=>bn 1 f e λi=>eo e.am 1 0 d (eF 1 [tA]) λk l=>fB b 2061 none 5 1 1 false k (aZ l []) e λm n=>fW b 2062 none 5 1 1 i m false n λo p=>lS c λq=>bz 1 q λr=>bl b none 1 r o p λ_ s=>adp b (.bo .nilIface) s
def EN:=b0 j λc l=>b0 l λd l=>dF l (Ob u b c d (bN b bj))
def adq:=im b (.bD []) [] h
def Vh:=bE u b 207 c h λi k=>bi k.am i λl m=>dC u b 206 [d,l] (aZ m []) k λ_ n=>bn 1 e n λp=>bE u b 207 p n λs t=>bi t.am s λv w=>dC u b 206 [d,v] (aZ w []) t λ_ x=>adq b x
def Oc:=eR 39 b 3 none c h λe f=>bn 0 e f λi=>Vh u b i d e f
def EO:=b0 j λc l=>b0 l λd l=>dF l (Oc u b d c (bN b bj))
def tt:=im b (.bD []) [] h
def Vi:=bn 1 c h λf=>dT (.s 1 0x6e) f λg=>dT g (.s 1 0x2f) λi=>bn 2 c h λl=>dT i l λm=>dT m (.s 1 0x20) λn=>bi h.am n λo p=>dC u b 206 [d,o] (aZ p []) h λ_ q=>tt b q
def Vj:=dC u b 157 [c,aeF] [] h λ_ e=>bz 3 d λf=>bh e.am true 2 f λg=>bi e.am g λi k=>dC u b 158 [c,i] (aZ k []) e λ_ l=>tt b l
def Vk:=dC u b 157 [c,aeG] [] h λ_ e=>bn 5 d e λg=>bE u b 207 g e λl m=>bi m.am l λn o=>dC u b 206 [c,n] (aZ o []) m λ_ p=>tt b p
def Vl:=de h.am 7 d f λg=>bh h.am true 7 g λi=>dw 42 b 5 none dD h λk l=>bl b none 7 k i l λ_ m=>bh m.am true 7 k λn=>bi m.am n λo p=>dC u b 159 [c,o] (aZ p []) m λ_ q=>(dT f br λr=>L c d e r q)
def Bx:=fi f e λg=>bp g (Vl u b L c d e f h) (J c h)
def Vm:=dC u b 157 [c,aeK] [] h λ_ e=>bn 6 d e λg=>cv false g λi=>gd 0 11 12 13 1000000 (Bx u b (λk l=>dC u b 157 [k,HZ] [] l λ_ m=>tt b m)) c g i bt e
def Od:=cj c eB λf=>bp f (Vk u b d e h) (Vm u b d e h)
def Je:=cj c dM λf=>bp f (Vj u b d e h) (Od u b c d e h)
def ze:=eR 42 b 3 none c h λe f=>bn 0 e f λi=>cj i br λk=>bp k (Vi u b e d f) (Je u b i d e f)
def wZ:=b0 j λc l=>b0 l λd l=>dF l (ze u b d c (bN b bj))
def Ht:=bJ b c h
def Vn:=bh h.am true 7 c λf=>gU d br λg=>b4 u b 164 f g h λn o=>bn 6 e o λq=>de o.am 7 q br λr=>bh o.am true 7 r λs=>bl b none 7 e s o λ_ t=>a n e t
def Oe:=bn 6 d h λf=>de h.am 7 f bt λg=>Vn u b a g c d h
def Jg(u:Fn)(b:Nat)(a:gZ)(J:g9)(c d e f g i k:ao)(h:aO):ay:=cS c k cQ λl=>bp l (a d e h) (J d h)
def By:=mQ c bt λe=>cZ e true (bz 6 d λf=>bh h.am false 1 f λg=>cv false g λi=>cj i dM λk=>Jg u b (Oe u b a) J e c d f g i k h) (Jg u b (Oe u b a) J e c d aK aK aK aK h)
def Vo:=eR 42 b 2 none c h λe f=>lK 1 2 1000000 (By u b (λg i=>gU g br λk=>Ht b k i)) d e f
def Jf:=b0 j λc l=>b0 l λd l=>dF l (Vo u b c d (bN b bj))
def As:=im b (.bD []) [] h
def Vq:ci (u,k,l,m,n,o,p,q):=cS c r cQ λs=>bp s (As b h) (F d e f g i h)
def agi:=aS b [5] true 11 c h λg=>met b [4096,4098] [g]<| bi h.am g λi k=>cm u b (some []) 91 [i] (aZ k []) h λl m=>eu 0 1 d [bt,bt,.s 0 0,.s 0 0,bt,.s 0 0,.s 0 0,.s 0 0,.s 0 0,.s 0 0,.ba,.ba,bt,.s 0 0,.s 0 0,bt,.s 0 0,.s 0 0,.s 0 0,.s 0 0,.s 0 0,.ba,.ba] λn=>eu 1 11 e n λo=>eu 12 11 l o λp=>fO p λq=>x0 u b [4097] [4096,4098] f [q] [] m λr s=>gr r λt=>O f d e g l q r t s
def agj:=cP c 0 λl=>cP c 1 λm=>cP c 2 λn=>dw 44 b 7 none cW h λo p=>bl b none 11 o m p λ_ q=>cZ n true (aS b [7] true 11 o q λr=>agi u b (Vq u b F n d e f g i) k l r d q) (Vq u b F n d e f g i aK aK aK aK aK aK aK aK q)
def agk:=de h.am 11 e g λi=>bh h.am true 11 i λk=>dw 44 b 5 none cW h λl m=>bl b none 11 l k m λ_ n=>bh n.am true 11 l λo=>bh n.am true 11 d λp=>b4 u b 169 o p n λv w=>agj u b (λx y z A B C=>dT B br λD=>F x y z A D C) v c d e f g l w
def agl:=fi g f λi=>bp i (agk u b F c d e f g h) (As b h)
def agm:=bh h.am false 1 c λf=>cv false f λg=>fm 0 2 9 10 11 1000000 (agl u b) d e f g bt h
def Vp:=b0 j λc l=>b0 l λd l=>b0 l λe l=>dF l (agm u b d c e (bN b bj))
def uU:=bi h.am c λf g=>jh h.am d true 11 λi=>bi h.am i λk l=>bi h.am e λm n=>im b (.bD [f,k,m]) (aZ g (aZ l (aZ n []))) h
def Vr:ci u:=cP c 1 λf=>cP c 2 λg=>dw 44 b 11 (some [11]) cW h λi k=>met b [11] [i]<| bl b (some [11]) 11 i f k λ_ l=>dj (lZ .andNot z8 d) λm=>aS b [11] true 11 i l λn=>met b [5] [e]<| bl b (some [5]) 11 e n l λ_ o=>uU b m e g o
def Vt:=met b [] [c]<| de h.am 11 c bt λf=>aS b [] true 11 f h λg=>aS b [3] true 11 d h λi=>met b [] [g,i]<| bi h.am g λk l=>bi h.am i λm n=>cm u b (some []) 211 [k,m] (aZ l (aZ n [])) h λo p=>cP o 0 λq=>Vr u b o q e p
def Vu:=bz 10 c λf=>aS b [2] false 1 f h λg=>Vt u b g d e h
def Vv:ci u:=aS b [3] true 11 c h λe=>met b [5] [d]<| bl b (some [5]) 11 d e h λ_ f=>uU b n32 d dx f
def Of:=aS b [] true 11 c h λg=>aS b [3] true 11 d h λi=>met b [] [g,i]<| bi h.am g λk l=>bi h.am i λm n=>cm u b (some []) 93 [k,m] (aZ l (aZ n [])) h λo p=>bp o (Vv u b d e p) (M f d e p)
def Og:=bz 10 c λf=>aS b [2] false 1 f h λg=>met b [] [g]<| de h.am 11 g bt λi=>Of u b (Vu u b) i d e c h
def Vw:ci u:=aS b [2] true 11 c h λe=>met b [5] [d]<| bl b (some [5]) 11 d e h λ_ f=>uU b bt d cQ f
def Jh:=bh h.am true 11 c λf=>bi h.am f λg i=>cm u b none 89 [g,(.s 3 0x6e6f74),br] (aZ i []) h λk l=>gr k λm=>bp m (Vw u b c e l) (Og u b c d e l)
def Vx:=bh h.am true 11 c λf=>bE u b 210 f h λk l=>bl b none 11 d k l λ_ m=>uU b e d dx m
def EP:=b4 u b 211 c d h λn o=>cP n 0 λp=>cP n 1 λq=>cP n 2 λr=>dw 44 b 8 none cW o λs t=>bl b none 11 s q t λ_ v=>bp r (Vx u b s e p v) (M f g e v)
def EQ:=bh h.am true 11 c λf=>bh h.am true 11 d λg=>EP u b (Jh u b) f g e c d h
def Vs:=bh h.am true 11 c λe=>bE u b 210 e h λi k=>bl b none 11 d i k λ_ l=>uU b LH d dx l
def Bz:=dw 44 b 5 none cW h λe f=>bh f.am true 11 c λg=>bh f.am true 11 d λi=>b4 u b 93 g i f λo p=>bp o (Vs u b d e p) (EQ u b c d e p)
def BA:=eR 44 b 2 none c h λe f=>eR 44 b 3 none d f λg i=>Bz u b e g i
def vr:=b0 j λc l=>b0 l λd l=>dF l (BA u b c d (bN b bj))
def jL:=jh h.am c true 7 λd=>bJ b d h
def Vy:ci u:=bn 6 c h λf=>de h.am 7 f br λg=>bh h.am true 7 g λi=>bl b none 7 d i h λ_ k=>jL b d k
def VA:ci u:=bn 6 c h λf=>de h.am 7 f bt λg=>bh h.am true 7 g λi=>bl b none 7 d i h λ_ k=>jL b d k
def Oi:=cj c (.s 3 0x636172) λf=>bp f (VA u b d e h) (Vy u b d e h)
def BB:=bh h.am true 7 c λf=>bE u b 142 f h λk l=>gr k λm=>bp m (cm u b none 41 [] [] l λn o=>bl b none 7 d n o λ_ p=>jL b d p) (Oi u b e c d l)
def VC:=bn 0 c h λf=>cj f ku λg=>bE u b 213 g h λl m=>bl b none 7 d l m λ_ n=>jL b d n
def VD:=bn 0 c h λf=>cj f dM λg=>bE u b 213 g h λl m=>bl b none 7 d l m λ_ n=>jL b d n
def agE:=bn 0 c h λf=>cj f eB λg=>bE u b 213 g h λl m=>bl b none 7 d l m λ_ n=>jL b d n
def VE:=bn 0 c h λf=>cj f br λg=>bE u b 213 g h λl m=>bl b none 7 d l m λ_ n=>jL b d n
def VF:=bh h.am true 7 c λe=>bE u b 214 e h λi k=>bE u b 213 i k λn o=>bl b none 7 d n o λ_ p=>jL b d p
def Vz:=bh h.am true 7 c λe=>bE u b 215 e h λi k=>bl b none 7 d i k λ_ l=>jL b d l
def agn:=bh h.am true 7 c λe=>bE u b 216 e h λi k=>bl b none 7 d i k λ_ l=>jL b d l
def ago:=bn 1 c h λf=>bi h.am f λg i=>cm u b none 73 [g,(.s 1 0x31)] (aZ i []) h λk l=>bl b none 7 d k l λ_ m=>jL b d m
def agp:=bn 2 c h λf=>bi h.am f λg i=>cm u b none 73 [g,(.s 1 0x31)] (aZ i []) h λk l=>bl b none 7 d k l λ_ m=>jL b d m
def agq:=bn 2 c h λg=>b4 u b 217 d g h λn o=>cP n 0 λp=>cP n 1 λ_=>bi o.am p λq r=>cm u b none 73 [q,(.s 1 0x31)] (aZ r []) o λs t=>bl b none 7 e s t λ_ v=>jL b e v
def agr:=bz 3 c λe=>bn 1 e h λg=>bE u b 75 g h λl m=>bl b none 7 d l m λ_ n=>jL b d n
def ags:=bz 3 c λe=>bn 0 e h λg=>bE u b 75 g h λl m=>bl b none 7 d l m λ_ n=>jL b d n
def agt:=bh h.am true 7 c λe=>bE u b 218 e h λi k=>cv true i λl=>bE u b 72 l k λo p=>bl b none 7 d o p λ_ q=>jL b d q
def agu:=eo h.am 1 0 d (eF 1 [tA]) λe f=>fB b 2166 none 5 1 1 false e (aZ f []) h λg i=>dj (tC i.am g) λk=>bE u b 75 k i λn o=>bl b none 7 c n o λ_ p=>jL b c p
def agv:=bE u b 219 c h λg i=>cP g 0 λk=>cP g 1 λl=>gr l λm=>bp m (cm u b none 75 [.s 0 0] [] i λn o=>bl b none 7 d n o λ_ p=>jL b d p) (agu u b d k i)
def agw:=cj c (.s 11 0x627974652d737472696e67) λf=>bp f (bh h.am true 7 d λg=>agv u b g e h) (J e h)
def agx:=cj c (.s 13 0x737472696e672d6c656e677468) λf=>bp f (agt u b d e h) (agw u b J c d e h)
def agy:=cj c (.s 19 0x73796d626f6c2d7061636b6167652d6e616d65) λf=>bp f (ags u b d e h) (agx u b J c d e h)
def agz:=cj c (.s 11 0x73796d626f6c2d6e616d65) λf=>bp f (agr u b d e h) (agy u b J c d e h)
def agA:=cj c (.s 5 0x666c6f6f72) λg=>bp g (bn 1 d h λk=>agq u b d k e h) (agz u b J c f e h)
def agB:=cj c (.s 11 0x64656e6f6d696e61746f72) λg=>bp g (agp u b d e h) (agA u b J c d e f h)
def agC:=cj c (.s 9 0x6e756d657261746f72) λg=>bp g (ago u b d e h) (agB u b J c d e f h)
def agD:=cj c (.s 7 0x756e6172792d2f) λg=>bp g (agn u b d e h) (agC u b J c f e d h)
def VB:=cj c (.s 7 0x756e6172792d2d) λg=>bp g (Vz u b d e h) (agD u b J c d e f h)
def Oh:=cj c (.s 8 0x696e746567657270) λg=>bp g (VF u b d e h) (VB u b J c d e f h)
def Ji:=cj c (.s 9 0x726174696f6e616c70) λg=>bp g (VE u b d e h) (Oh u b J c d e f h)
def Jj:=cj c (.s 7 0x737472696e6770) λg=>bp g (agE u b d e h) (Ji u b J c d e f h)
def ER:=cj c (.s 7 0x73796d626f6c70) λg=>bp g (VD u b d e h) (Jj u b J c d e f h)
def zf:=cj c (.s 5 0x636f6e7370) λg=>bp g (VC u b d e h) (ER u b J c d e f h)
def tV:=cj c (.s 3 0x636172) λg=>bp g ((bp g (BB u b d e c h) (zf u b (λi k=>fO dD λl=>bl b none 7 i l k λ_ m=>jL b i m) c d e f h))) (cj c (.s 3 0x636472) λn=>(bp n (BB u b d e c h) (zf u b (λi k=>fO dD λl=>bl b none 7 i l k λ_ m=>jL b i m) c d e f h)))
def tW:=eR 42 b 3 none c h λe f=>dw 42 b 4 none dD f λg i=>bh i.am true 7 e λk=>bE u b 212 k i λn o=>dw 42 b 5 none dD o λp q=>bl b none 7 p n q λ_ r=>tV u b d e g p r
def sQ:=b0 j λc l=>b0 l λd l=>dF l (tW u b d c (bN b bj))
def o2:=jh h.am c true 7 λd=>bJ b d h
def VG:=bh h.am true 7 c λf=>bh h.am true 7 d λg=>b4 u b 40 f g h λn o=>bE u b 213 n o λr s=>bl b none 7 e r s λ_ t=>o2 b e t
def VI:=bh h.am true 7 c λf=>bh h.am true 7 d λg=>b4 u b 77 f g h λn o=>bl b none 7 e n o λ_ p=>o2 b e p
def VJ:=bh h.am true 7 c λf=>bh h.am true 7 d λg=>b4 u b 220 f g h λn o=>bl b none 7 e n o λ_ p=>o2 b e p
def VK:=bh h.am true 7 c λf=>bh h.am true 7 d λg=>b4 u b 221 f g h λn o=>bl b none 7 e n o λ_ p=>o2 b e p
def VL:=bh h.am true 7 c λf=>bh h.am true 7 d λg=>b4 u b 222 f g h λn o=>bE u b 213 n o λr s=>bl b none 7 e r s λ_ t=>o2 b e t
def VM:=bh h.am true 2 d λe=>bE u b 74 e h λi k=>bl b none 7 c i k λ_ l=>o2 b c l
def VN:ci (f,g):=cS c dx i λk=>bp k (cm u b none 41 [] [] h λl m=>bl b none 7 d l m λ_ n=>o2 b d n) (a d e h)
def VO:ci (f,g):=cS c dx i λk=>cZ k false (bh h.am true 2 e λl=>bE u b 223 l h λo p=>gr o λq=>VN u b a k d e l o q p) (VN u b a k d e aK aK aK h)
def agO:=bn 0 c h λi=>gJ i eB λk=>cZ k false (bz 0 f λl=>bh h.am false 1 l λm=>gJ m eB λn=>VO u b (VM u b) k d e l m n h) (VO u b (VM u b) k d e aK aK aK h)
def agF:=aS b [4] true 7 c h λg=>met b [] [g]<| bi h.am g λi k=>cm u b (some []) 218 [i] (aZ k []) h λl m=>eu 0 1 d [.s 0 0,.s 0 0] λn=>eu 1 1 l n λo=>fO o λp=>dw 39 b 7 (some [7]) [.s 0 0,.s 0 0] m λq r=>met b [7] [q]<| bl b (some [7]) 2 q p r λ_ s=>agO u b c e q f s
def agG:=aS b [5] true 7 c h λf=>met b [] [f]<| bi h.am f λg i=>cm u b (some []) 218 [g] (aZ i []) h λk l=>agF u b d k e c l
def agH:=aS b [5] true 7 c h λf=>met b [] [f]<| bi h.am f λg i=>cm u b (some []) 218 [g] (aZ i []) h λk l=>dT d k λm=>met b [] [m]<| bi l.am m λn o=>cm u b (some []) 75 [n] (aZ o []) l λp q=>met b [6] [e]<| bl b (some [6]) 7 e p q λ_ r=>o2 b e r
def agI:=aS b [4] true 7 c h λf=>met b [] [f]<| bi h.am f λg i=>cm u b (some []) 218 [g] (aZ i []) h λk l=>agH u b d k e l
def agJ:=bn 5 c h λg=>ne g e λi=>dj (qp .i64 i) λk=>bE u b 72 k h λn o=>bl b none 7 d n o λ_ p=>o2 b d p
def agK:=b4 u b 224 c d h λm n=>cP m 0 λo=>cP m 1 λp=>gr p λq=>bp q (cm u b none 41 [] [] n λr s=>bl b none 7 e r s λ_ t=>o2 b e t) (agJ u b f e o n)
def agL:=cj c (.s 11 0x737472696e672d62797465) λg=>bp g (bh h.am true 7 d λi=>bh h.am true 7 e λk=>agK u b i k f d h) (J f h)
def agM:=cj c (.s 13 0x737472696e672d617070656e64) λg=>bp g (agI u b d e f h) (agL u b J c d e f h)
def agN:=cj c (.s 6 0x696e7465726e) λg=>bp g (agG u b d e f h) (agM u b J c e d f h)
def VH:=cj c (.s 1 0x3c) λg=>bp g (VL u b d e f h) (agN u b J c e d f h)
def Oj:=cj c (.s 8 0x62696e6172792d2a) λg=>bp g (VK u b d e f h) (VH u b J c d e f h)
def Jk:=cj c (.s 8 0x62696e6172792d2b) λg=>bp g (VJ u b d e f h) (Oj u b J c d e f h)
def ES:=cj c (.s 4 0x636f6e73) λg=>bp g (VI u b d e f h) (Jk u b J c d e f h)
def BC:=eR 42 b 4 none c h λf g=>eR 42 b 5 none d g λi k=>dw 42 b 6 none dD k λl m=>cj e (.s 5 0x657175616c) λn=>bp n (VG u b f i l m) (ES u b (λo p=>fO dD λq=>bl b none 7 o q p λ_ r=>o2 b o r) e f i l m)
def vt:=b0 j λc l=>b0 l λd l=>b0 l λe l=>dF l (BC u b d e c (bN b bj))
def Mi:=bJ b c h
def Ok:=bE u b 141 c h λg i=>tc g aco λk=>cZ k true (bh i.am true 7 d λl=>bE u b 225 l i λo p=>(cS k o cQ λq=>Mi b q p)) ((cS k aK cQ λq=>Mi b q i))
def Ol:=eR 42 b 1 none c h λd e=>bh e.am true 7 d λf=>Ok u b f d e
def BD:=b0 j λc l=>dF l (Ol u b c (bN b bj))
def yr:=bJ b c h
def VP:=bn 6 d h λg=>de h.am 7 g br λi=>bh h.am true 7 i λk=>gU c e λl=>b4 u b 177 k l h λq r=>dT e q λs=>yr b s r
def Om:=gU c br λf=>b4 u b 177 d f h λm n=>dT br m λo=>p0 o c λp=>bp p (yr b c n) (VP u b c e o n)
def Jl:=bn 6 d h λf=>de h.am 7 f bt λg=>bh h.am true 7 g λi=>Om u b c i d h
def zg:ci (u,f):=cS c dx g λi=>bp i (yr b br h) (a d e h)
def BE:=bn 6 c h λf=>cv false f λg=>gJ g dM λi=>cZ i false (tc d br λk=>zg u b (Jl u b) i d c d k h) (zg u b (Jl u b) i d c aK aK h)
def BF:=eR 42 b 2 none c h λe f=>BE u b e d f
def vu:=b0 j λc l=>b0 l λd l=>dF l (BF u b c d (bN b bj))
def wa:=bJ b c h
def On:ci (u,f,g,i):=cS c dx k λl=>bp l (wa b cQ h) (a d e h)
def VQ:=ne c d λe=>fi e MU λf=>cZ f false (ne c d λg=>mQ g aeJ λi=>On u b (λk l m=>dT l br λn=>a k n m) f c d c d g i h) (On u b (λk l m=>dT l br λn=>a k n m) f c d aK aK aK aK h)
def BG:=cv true c λe=>fi d e λf=>bp f (VQ u b a c d h) (N h)
def Jm:=lK 0 4 1000000 (BG u b (λe=>wa b dx e)) c d h
def Jn:ci (u,f,g,i):=cS c dx k λl=>bp l (wa b cQ h) (a d e h)
def Jo:=cv true c λe=>tc e d λf=>cZ f false (ne c d λg=>cj g MU λi=>Jn u b (Jm u b) f c d c d g i h) (Jn u b (Jm u b) f c d aK aK aK aK h)
def Jp:ci (u,b,e,f):=cS c g cQ λi=>bp i (a d br h) (a d bt h)
def Oo:=cv true c λd=>mQ d bt λe=>cZ e true (ne c bt λf=>cj f MT λg=>Jp u b (Jo u b) e c c f g h) (Jp u b (Jo u b) e c aK aK aK h)
def Jq:=cj c (.s 1 0x30) λd=>bp d (wa b dx h) (Oo u b c h)
def ET:=b0 j λc l=>dF l (Jq u b c (bN b bj))
def Dn:=bJ b c h
def EV(u:Fn)(b:Nat)(al ar:gZ)(c d e f g i k l m:ao)(h:aO):ay:=cS c m cQ λn=>bp n (al d e h) (ar d e h)
def zh(u:Fn)(b:Nat)(al ar:gZ)(c d:ao)(h:aO):ay:=mQ d bt λe=>cZ e true (gU d br λf=>de h.am 1 c f λg=>bh h.am false 1 g λi=>cj i bt λk=>EV u b (λl m n=>gU m br λo=>ar l o n) al e c d c d f g i k h) (EV u b (λl m n=>gU m br λo=>ar l o n) al e c d aK aK aK aK aK aK h)
def VR:=cv false c λd=>lK 0 3 1000000 (zh u b (λe f g=>td g.am 1 e none (some f) λi=>Dn b i g)) c d h
def EU:=b0 j λc l=>dF l (VR u b c (bN b bj))
def q9:=bJ b c h
def Oq:ci u:=dW b [] 1 c e h λf=>aS b [] false 1 f h λg=>dW b [] 1 d e h λi=>aS b [] false 1 i h λk=>mQ g k λl=>bp l (q9 b br h) (M c d e h)
def Jr:=dW b [] 1 c e h λf=>aS b [] false 1 f h λg=>dW b [] 1 d e h λi=>aS b [] false 1 i h λk=>fi g k λl=>bp l (q9 b ll h) (Oq u b (λm n o p=>gU o br λq=>M m n q p) c d e h)
def w1:=p0 e bt λf=>bp f (Jr u b M c d e h) (N h)
def VS:=cv false c λe=>gU e br λf=>ji 0 1 5 1000000 (w1 u b (λg=>q9 b bt g)) c d f h
def Ot:ci u:=cv false c λe=>cv false d λf=>fi e f λg=>bp g (q9 b ll h) ((q9 b br h))
def Js:=cv false c λe=>cv false d λf=>gJ e f λg=>bp g (Ot u b c d h) (VS u b c d h)
def EW:=b0 j λc l=>b0 l λd l=>dF l (Js u b c d (bN b bj))
def Hu:=bJ b c h
def BH:ci u:=eo h.am 1 0 i (eF 1 [bt]) λk l=>fB b 2085 none 3 1 1 false k (aZ l []) h λm n=>fW b 2086 none 3 1 8 e m false n λo p=>F c d o f g p
def BI:=fi g bt λi=>bp i (dT g tj λk=>BH u b F c d e br f k h) (BH u b F c d e bt f g h)
def Ou:ci (u,b):=de h.am 1 c d λi=>bh h.am false 1 i λk=>gU e k λl=>F f c g d l h
def EY:=de h.am 1 c g λi=>bh h.am false 1 i λk=>gU k f λl=>cv false d λm=>fi g m λn=>bp n (Ou u b (BI u b (λo p q r s t=>dT s br λv=>F o p q r v t)) d g l c e h) (BI u b (λo p q r s t=>dT s br λv=>F o p q r v t) c d e g l h)
def vv:=cv false c λi=>fi g i λk=>bp k (EY u b F c d e f g h) (J e h)
def VT:=fm 0 1 5 6 7 1000000 (vv u b (λe f=>bE u b 191 e f λk l=>Hu b k l)) c d .ba bt bt h
def EX:=b0 j λc l=>b0 l λd l=>dF l (VT u b c d (bN b bj))
def auH:=bi h.am c λe f=>bi h.am d λg i=>im b (.bD [e,g]) (aZ f (aZ i [])) h
def OA:=dC u b 205 [c] [] h λ_ e=>lS c λf=>bn 1 f e λi=>CP b 2062 none 5 1 i d false e λk l=>lS c λm=>bz 1 m λn=>bl b none 1 n k l λ_ o=>cv true d λp=>auH b p (.bo .nilIface) o
def E0:=b0 j λc l=>b0 l λd l=>dF l (OA u b c d (bN b bj))
def adr:=jh h.am c true 11 λd=>bJ b d h
def We:=eR 44 b 1 none c h λd e=>dw 44 b 2 none cW e λf g=>bh g.am true 11 d λi=>eo g.am 11 0 i (eF 1 cW) λk l=>fB b 2052 none 44 11 1 false k (aZ l []) g λm n=>bi n.am m λo p=>cm u b none 125 [(.s 3 0x6e6f74),o] (aZ p []) n λq r=>bl b none 11 f q r λ_ s=>adr b f s
def E1:=b0 j λc l=>dF l (We u b c (bN b bj))
def ky:=bi h.am c λf g=>jh h.am d true 11 λi=>bi h.am i λk l=>bi h.am e λm n=>im b (.bD [f,k,m]) (aZ g (aZ l (aZ n []))) h
def sR:ci u:=aS b [2] true 11 c h λe=>met b [5] [d]<| bl b (some [5]) 11 d e h λ_ f=>ky b bt d cQ f
def OC:ci u:=aS b [2] true 11 c h λe=>met b [5] [d]<| bl b (some [5]) 11 d e h λ_ f=>ky b tj d dx f
def w6:ci (f,g):=cS c i cQ λk=>bp k (OC u b d e h) (a d e h)
def zm:=b4 u b 93 c d h λo p=>cZ o true (bh p.am true 11 g λq=>bh p.am true 11 i λr=>b4 u b 93 q r p λx y=>w6 u b a o e f q r x y) (w6 u b a o e f aK aK aK p)
def Wi:ci u:=aS b [2] true 11 c h λe=>met b [5] [d]<| bl b (some [5]) 11 d e h λ_ f=>ky b n20 d dx f
def vy:ci (l,m):=cS c n cQ λo=>bp o (Wi u b d e h) (j6 d f e g i k h)
def w8:=b4 u b 93 c d h λq r=>cZ q true (bh r.am true 11 k λs=>bh r.am true 11 l λt=>b4 u b 93 s t r λz A=>vy u b j6 q e f g i k l s t z A) (vy u b j6 q e f g i k l aK aK aK r)
def w9:=bh h.am true 11 c λk=>bh h.am true 11 d λl=>w8 u b (λm n o p q r s=>bh s.am true 11 p λt=>bh s.am true 11 r λv=>zm u b a t v m o q n s) k l e f d c g i h
def OF:=aS b [10] true 11 c h λg=>aS b [9] true 11 d h λi=>met b [] [g,i]<| bi h.am g λk l=>bi h.am i λm n=>cm u b (some []) 92 [k,m] (aZ l (aZ n [])) h λo p=>met b [5] [e]<| bl b (some [5]) 11 e o p λ_ q=>ky b f e dx q
def OB:=bz 3 c λf=>aS b [9] true 7 f h λg=>met b [] [g]<| bi h.am g λi k=>cm u b (some []) 129 [i] (aZ k []) h λl m=>OF u b d c e l m
def w3:ci i:=cS c k cQ λl=>bp l (OB u b d e f h) (a g f h)
def zj:=bh h.am true 11 c λk=>b4 u b 93 d k h λp q=>cZ p true (bh q.am true 11 e λr=>bE u b 267 r q λv w=>w3 u b a p e f g i r v w) (w3 u b a p e f g i aK aK q)
def Wf:=bz 3 c λf=>aS b [10] true 7 f h λg=>met b [] [g]<| bi h.am g λi k=>cm u b (some []) 129 [i] (aZ k []) h λl m=>aS b [2] true 11 d m λn=>met b [5] [e]<| bl b (some [5]) 11 e n m λ_ o=>ky b l e dx o
def vw:ci k:=cS c l cQ λm=>bp m (Wf u b d e f h) (F e g f i d h)
def w4:=bh h.am true 11 c λk=>b4 u b 93 d k h λp q=>cZ p true (bh q.am true 11 e λr=>bE u b 267 r q λv w=>vw u b F p e f g c i r v w) (vw u b F p e f g c i aK aK q)
def w5:=bh h.am true 11 c λi=>w4 u b (λk l m n o p=>bh p.am true 11 o λq=>zj u b a l q n o m k p) d i e f g c h
def vx:=cj c (.s 5 0x657175616c) λk=>bp k (w5 u b a d e f g i h) (a g i h)
def oJ:=dw 44 b 11 none cW h λk l=>bl b none 11 k c l λ_ m=>bz 1 d λn=>bn 1 n m λp=>cj p (.s 1 0x3c) λq=>bp q (w9 u b (sR u b) e f d g i k m) (vx u b (sR u b) p e f i d g m)
def oK:=aS b [] true 11 c h λi=>dw 44 b 9 (some [9]) cW h λk l=>dw 44 b 10 (some [10]) cW l λm n=>met b [9] [k]<| bl b (some [9]) 11 k d n λ_ o=>met b [10] [m]<| bl b (some [10]) 11 m i o λ_ p=>cm u b none 266 [bt] [] p λq r=>bE u b 265 q r λv w=>oJ u b v e k f g m w
def lE:=aS b [2] false 1 c h λg=>met b [] [g]<| de h.am 11 g bt λi=>aS b [] true 11 i h λk=>bz 10 d λl=>aS b [2] false 1 l h λm=>met b [] [m]<| de h.am 11 m br λn=>oK u b n k d e f h
def Wg:ci u:=aS b [2] true 11 c h λe=>met b [5] [d]<| bl b (some [5]) 11 d e h λ_ f=>ky b bt d cQ f
def Jx:=bn 10 c h λg=>cv false g λi=>gJ i dM λk=>bp k (Wg u b c e h) ((bz 10 c λl=>lE u b l c d e h))
def Wh:ci u:=aS b [2] true 11 c h λf=>met b [5] [d]<| bl b (some [5]) 11 d f h λ_ g=>ky b e d dx g
def BK:ci (i,k,l,m,n):=cS c o cQ λp=>bp p (Wh u b d e f h) (M d g e h)
def OD:=met b [] [c]<| de h.am 11 c bt λf=>aS b [] true 11 f h λg=>aS b [3] true 11 d h λi=>met b [] [g,i]<| bi h.am g λk l=>bi h.am i λm n=>cm u b (some []) 93 [k,m] (aZ l (aZ n [])) h λo p=>j6 e c f g i o p
def BL:ci (i,k,l):=cS c m cQ λn=>cZ n true (bz 10 d λo=>aS b [2] false 1 o h λp=>OD u b (BK u b M n d e f g) p g o h) (BK u b M n d e f g aK aK aK aK aK aK h)
def E2:=cP c 0 λg=>cP c 1 λi=>cZ i true (bz 10 d λk=>aS b [2] false 1 k h λl=>cv false l λm=>cj m br λn=>BL u b M i d e g f k l m n h) (BL u b M i d e g f aK aK aK aK h)
def BM:=bz 1 c λf=>bh h.am true 2 f λg=>bE u b 94 g h λl m=>E2 u b (Jx u b) l c e d m
def OE:ci u:=aS b [2] true 11 c h λe=>met b [5] [d]<| bl b (some [5]) 11 d e h λ_ f=>ky b bt d cQ f
def w7:ci (g,i,k):=cS c dx l λm=>bp m (OE u b d e h) (M d f e h)
def zk:=bn 0 c h λg=>gJ g eB λi=>cZ i false (bz 1 c λk=>bz 0 k λl=>bh h.am false 1 l λm=>gJ m (.s 4 0x6c697370) λn=>w7 u b (BM u b) i c d e k l m n h) (w7 u b (BM u b) i c d e aK aK aK aK h)
def zl:=eR 44 b 2 none c h λe f=>eR 44 b 3 none d f λg i=>dw 44 b 5 none cW i λk l=>zk u b e k g l
def zi:=b0 j λc l=>b0 l λd l=>dF l (zl u b c d (bN b bj))
def Mk:=jh h.am c true 7 λd=>bJ b d h
def OG:=bn 0 c h λf=>cj f br λg=>bp g (bh h.am true 7 c λi=>bl b none 7 d i h λ_ k=>Mk b d k) ((cm u b none 72 [bt] [] h λl m=>bl b none 7 d l m λ_ n=>Mk b d n))
def OH:=eR 42 b 1 none c h λd e=>dw 42 b 2 none dD e λf g=>OG u b d f g
def zn:=b0 j λc l=>dF l (OH u b c (bN b bj))
def Ml:=bJ b c h
def OI:ci u:=bn 0 c h λe=>cj e br λf=>cZ f true (bn 2 c h λi=>cj i (.s 1 0x31) λk=>(cS f k cQ λl=>Ml b l h)) ((cS f aK cQ λl=>Ml b l h))
def OJ:=eR 42 b 1 none c h λd e=>OI u b d e
def E3:=b0 j λc l=>dF l (OJ u b c (bN b bj))
def ads:=jh h.am c true 7 λd=>bJ b d h
def Wj:=met b [] [c]<| bi h.am c λf g=>cm u b (some []) 268 [f] (aZ g []) h λi k=>bz 2 d λl=>aS b [3] false 1 l k λm=>met b [] [i,m]<| bi k.am i λn o=>bi k.am m λp q=>cm u b (some []) 73 [n,p] (aZ o (aZ q [])) k λr s=>met b [2] [e]<| bl b (some [2]) 7 e r s λ_ t=>ads b e t
def Wk:=eR 42 b 1 none c h λd e=>dw 42 b 2 none dD e λf g=>bh g.am true 7 d λi=>bE u b 212 i g λm n=>dw 42 b 3 none dD n λo p=>bl b none 7 o m p λ_ q=>bz 1 o λr=>aS b [3] false 1 r q λs=>Wj u b s o f q
def E4:=b0 j λc l=>dF l (Wk u b c (bN b bj))
def adu:=jh h.am c true 7 λd=>bJ b d h
def Wn:=met b [] [c,d]<| bi h.am c λg i=>bi h.am d λk l=>cm u b (some []) 272 [g,k] (aZ i (aZ l [])) h λm n=>met b [] [e,m]<| bi n.am e λo p=>bi n.am m λq r=>cm u b (some []) 73 [o,q] (aZ p (aZ r [])) n λs t=>met b [4] [f]<| bl b (some [4]) 7 f s t λ_ v=>adu b f v
def Wo:=met b [] [c,d]<| bi h.am c λi k=>bi h.am d λl m=>cm u b (some []) 271 [i,l] (aZ k (aZ m [])) h λn o=>bz 2 e λp=>aS b [5] false 1 p o λq=>bz 2 f λr=>aS b [6] false 1 r o λs=>Wn u b q s n g o
def Wp:=bz 1 c λg=>aS b [6] false 1 g h λi=>bz 2 d λk=>aS b [5] false 1 k h λl=>met b [] [i,l]<| bi h.am i λm n=>bi h.am l λo p=>cm u b (some []) 272 [m,o] (aZ n (aZ p [])) h λq r=>Wo u b e q d c f r
def Wq:=bz 1 c λf=>aS b [5] false 1 f h λg=>bz 2 d λi=>aS b [6] false 1 i h λk=>met b [] [g,k]<| bi h.am g λl m=>bi h.am k λn o=>cm u b (some []) 272 [l,n] (aZ m (aZ o [])) h λp q=>Wp u b d c p e q
def Wr:=aS b [3] true 7 c h λf=>met b [] [f]<| bi h.am f λg i=>cm u b (some []) 212 [g] (aZ i []) h λk l=>dw 42 b 5 (some [5]) dD l λm n=>dw 42 b 6 (some [6]) dD n λo p=>met b [5] [m]<| bl b (some [5]) 7 m d p λ_ q=>met b [6] [o]<| bl b (some [6]) 7 o k q λ_ r=>Wq u b m o e r
def Ws:=eR 42 b 2 none c h λe f=>eR 42 b 3 none d f λg i=>dw 42 b 4 none dD i λk l=>aS b [2] true 7 e l λm=>met b [] [m]<| bi l.am m λn o=>cm u b (some []) 212 [n] (aZ o []) l λp q=>Wr u b g p k q
def E6:=b0 j λc l=>b0 l λd l=>dF l (Ws u b c d (bN b bj))
def adv:=jh h.am c true 7 λd=>bJ b d h
def Wt:=met b [] [c,d]<| bi h.am c λg i=>bi h.am d λk l=>cm u b (some []) 272 [g,k] (aZ i (aZ l [])) h λm n=>met b [] [e,m]<| bi n.am e λo p=>bi n.am m λq r=>cm u b (some []) 73 [o,q] (aZ p (aZ r [])) n λs t=>met b [4] [f]<| bl b (some [4]) 7 f s t λ_ v=>adv b f v
def Wu:=met b [] [c,d]<| bi h.am c λi k=>bi h.am d λl m=>cm u b (some []) 272 [i,l] (aZ k (aZ m [])) h λn o=>bz 2 e λp=>aS b [5] false 1 p o λq=>bz 2 f λr=>aS b [6] false 1 r o λs=>Wt u b q s n g o
def Wv:=met b [5] [c]<| bl b (some [5]) 7 c d h λ_ i=>met b [6] [e]<| bl b (some [6]) 7 e f i λ_ k=>bz 1 c λl=>aS b [5] false 1 l k λm=>bz 1 e λn=>aS b [6] false 1 n k λo=>Wu u b m o c e g k
def Ww:=met b [] [c]<| bi h.am c λf g=>cm u b (some []) 212 [f] (aZ g []) h λi k=>aS b [3] true 7 d k λl=>met b [] [l]<| bi k.am l λm n=>cm u b (some []) 212 [m] (aZ n []) k λo p=>dw 42 b 5 (some [5]) dD p λq r=>dw 42 b 6 (some [6]) dD r λs t=>Wv u b q i s o e t
def Wx:=eR 42 b 2 none c h λe f=>eR 42 b 3 none d f λg i=>dw 42 b 4 none dD i λk l=>aS b [2] true 7 e l λm=>Ww u b m g k l
def E7:=b0 j λc l=>b0 l λd l=>dF l (Wx u b c d (bN b bj))
def adw:=bJ b c h
def Wy:=aS b [3] true 7 c h λe=>met b [] [e]<| bi h.am e λf g=>cm u b (some []) 212 [f] (aZ g []) h λi k=>met b [] [d,i]<| bi k.am d λl m=>bi k.am i λn o=>cm u b (some []) 273 [l,n] (aZ m (aZ o [])) k λp q=>fi p bt λr=>adw b r q
def Wz:=eR 42 b 2 none c h λe f=>eR 42 b 3 none d f λg i=>aS b [2] true 7 e i λk=>met b [] [k]<| bi i.am k λl m=>cm u b (some []) 212 [l] (aZ m []) i λn o=>Wy u b g n o
def E8:=b0 j λc l=>b0 l λd l=>dF l (Wz u b c d (bN b bj))
def ra:=bJ b c h
def E9:ci (e,f):=cS c g cQ λi=>cZ i true (bE u b 235 d h λm n=>tc m LF λo=>(cS i o cQ λp=>ra b p n)) ((cS i aK cQ λp=>ra b p h))
def Fa:ci (f,g,i):=cS c k cQ λl=>cZ l true (bE u b 235 e h λo p=>tc o LF λq=>E9 u b l d e o q p) (E9 u b l d aK aK aK h)
def Fe:ci (g,i,k):=cS c l cQ λm=>cZ m true (bz 2 f λn=>bh h.am false 1 n λo=>cj d o λp=>Fa u b m d e d n o p h) (Fa u b m d e aK aK aK aK h)
def Ff:ci (g,i,k):=cS c l cQ λm=>cZ m true (bz 1 f λn=>bh h.am false 1 n λo=>cj e o λp=>Fe u b m d e f e n o p h) (Fe u b m d e f aK aK aK aK h)
def Fg:ci (g,i):=cS c k cQ λl=>cZ l true (bz 6 f λm=>bh h.am false 1 m λn=>cv false n λo=>cj o bt λp=>Ff u b l d e f m n o p h) (Ff u b l d e f aK aK aK aK h)
def Jz:=b4 u b 116 c d h λm n=>cP m 0 λo=>cP m 1 λp=>cZ e true (bz 5 f λq=>bh n.am false 1 q λr=>cj r (.s 0 0) λs=>Fg u b e p o f q r s n) (Fg u b e p o f aK aK aK n)
def JA:=bn 1 c h λf=>bn 2 c h λi=>Jz u b f i d c h
def WK:ci (u,e,f):=cS c g cQ λi=>cZ i true (bn 6 d h λl=>cv false l λm=>cj m bt λn=>(cS i n cQ λo=>ra b o h)) ((cS i aK cQ λo=>ra b o h))
def WL:ci (e,f):=cS c g cQ λi=>cZ i true (bz 5 d λk=>bh h.am false 1 k λl=>cj l (.s 0 0) λm=>WK u b i d k l m h) (WK u b i d aK aK aK h)
def WA:ci (e,f):=cS c g cQ λi=>cZ i true (bz 2 d λk=>bh h.am false 1 k λl=>cj l (.s 0 0) λm=>WL u b i d k l m h) (WL u b i d aK aK aK h)
def aig:=bz 3 c λd=>bh h.am true 2 d λe=>bE u b 274 e h λi k=>cZ i true (bz 1 c λl=>bh k.am false 1 l λm=>cj m (.s 0 0) λn=>WA u b i c l m n k) (WA u b i c aK aK aK k)
def WB:ci (u,e,f,g):=cS c i cQ λk=>cZ k true (bn 6 d h λm=>cv false m λn=>cj n bt λo=>(cS k o cQ λp=>ra b p h)) ((cS k aK cQ λp=>ra b p h))
def WC:ci (e,f):=cS c g cQ λi=>cZ i true (bz 5 d λk=>bh h.am false 1 k λl=>cv true l λm=>tc m G1 λn=>WB u b i d k l m n h) (WB u b i d aK aK aK aK h)
def WD:ci (e,f):=cS c g cQ λi=>cZ i true (bz 2 d λk=>bh h.am false 1 k λl=>cj l (.s 0 0) λm=>WC u b i d k l m h) (WC u b i d aK aK aK h)
def aih:=cZ c true (bz 1 d λe=>bh h.am false 1 e λf=>cj f (.s 0 0) λg=>WD u b c d e f g h) (WD u b c d aK aK aK h)
def WE:=bz 6 c λd=>bh h.am false 1 d λe=>de h.am 7 e br λf=>bh h.am true 7 f λg=>bE u b 225 g h λl m=>F d e f g l m
def ON:ci (e,f,g,i):=cS c k cQ λl=>cZ l true (WE u b (λ_ _ _ _ m n=>cS l m cQ λo=>ra b o n) d h) ((cS l aK cQ λo=>ra b o h))
def WF:=bz 6 c λd=>bh h.am false 1 d λe=>de h.am 7 e bt λf=>bh h.am true 7 f λg=>bE u b 225 g h λl m=>F d e f g l m
def OO:ci (e,f,g):=cS c i cQ λk=>cZ k true (WF u b (ON u b k d) d h) (ON u b k d aK aK aK aK aK h)
def OP:ci (e,f):=cS c g cQ λi=>cZ i true (bz 6 d λk=>bh h.am false 1 k λl=>cv false l λm=>cj m dM λn=>OO u b i d k l m n h) (OO u b i d aK aK aK aK h)
def OQ:ci (e,f):=cS c g cQ λi=>cZ i true (bz 5 d λk=>bh h.am false 1 k λl=>cj l (.s 0 0) λm=>OP u b i d k l m h) (OP u b i d aK aK aK h)
def OR:ci (e,f):=cS c g cQ λi=>cZ i true (bz 2 d λk=>bh h.am false 1 k λl=>cj l (.s 0 0) λm=>OQ u b i d k l m h) (OQ u b i d aK aK aK h)
def WG:=cZ c true (bz 1 d λe=>bh h.am false 1 e λf=>cj f (.s 0 0) λg=>OR u b c d e f g h) (OR u b c d aK aK aK h)
def WH:=cj c ku λf=>bp f (WG u b d e h) (N h)
def WI:=cj c eB λf=>bp f (aih u b d e h) (WH u b N c d e h)
def WJ:=cj c dM λf=>bp f (aig u b d h) (WI u b N c e d h)
def Fb:=bh h.am true 2 c λe=>fO [.s 0 0,.s 0 0] λf=>iP false e f λg=>bn 0 d h λk=>cj k br λl=>bp l (JA u b d g h) (WJ u b (λm=>ra b cQ m) k d g h)
def Fc:=eR 42 b 1 none c h λd e=>bz 3 d λf=>Fb u b f d e
def xa:=b0 j λc l=>dF l (Fc u b c (bN b bj))
def adx:=bJ b c h
def WN:=bE u b 150 c h λf g=>cP f 0 λ_=>cP f 1 λi=>cv false i λk=>dj (rm true br k) λl=>adx b l g
def Fh:=b0 j λc l=>dF l (WN u b c (bN b bj))
def ady:=bJ b c h
def WU:=bE u b 150 c h λf g=>cP f 0 λi=>cP f 1 λk=>gr i λl=>b4 u b 153 l k g λq r=>ady b q r
def Fm:=b0 j λc l=>dF l (WU u b c (bN b bj))
def Dp:=bJ b c h
def BP:ci u:=dj (gR .rem g tj) λi=>eo h.am 1 0 i (eF 1 [bt]) λk l=>fB b 2097 none 3 1 1 false k (aZ l []) h λm n=>fW b 2098 none 3 1 8 e m false n λo p=>dj (gR .quo g tj) λq=>F c d o q f p
def OX:ci (u,b):=de h.am 1 c d λi=>bh h.am false 1 i λk=>dT e k λl=>F f c g d l h
def BQ:=cv false d λi=>fi f i λk=>bp k (OX u b (BP u b F) d f g c e h) (BP u b F c d e f g h)
def OY:ci (u,b):=de h.am 1 c d λi=>bh h.am false 1 i λk=>dT e k λl=>F c f g d l h
def BR:=cv false c λi=>fi g i λk=>bp k (OY u b (BQ u b (λl m n o p q=>dT p br λr=>F l m n o r q)) c g f d e h) (BQ u b (λl m n o p q=>dT p br λr=>F l m n o r q) c d e g f h)
def xb(u:Fn)(b:Nat)(F:lA)(J:g9)(c d e f g i k l:ao)(h:aO):ay:=cS c dx l λm=>bp m (F d e f g i h) (J f h)
def xc(u:Fn)(b:Nat)(F:lA)(J:g9)(c d e f g i k l m n:ao)(h:aO):ay:=cS c dx n λo=>cZ o false (mQ g bt λp=>xb u b F J o d e f g i g p h) (xb u b F J o d e f g i aK aK h)
def tX:=cv false c λi=>fi g i λk=>cZ k false (cv false d λl=>fi g l λm=>xc u b (BR u b F) J k c d e f g g d l m h) (xc u b (BR u b F) J k c d e f g aK aK aK aK h)
def WV:=fm 0 1 5 6 7 1000000 (tX u b (λe f=>Dp b e f)) c d .ba bt bt h
def Fo:=b0 j λc l=>b0 l λd l=>dF l (WV u b c d (bN b bj))
def Dq:=bJ b c h
def WY:=b4 u b 193 e c h λl m=>b4 u b 153 d l m λr s=>Dq b r s
def WZ:=b4 u b 193 c d h λl m=>b4 u b 153 e l m λr s=>Dq b r s
def O0:=b4 u b 192 d f h λm n=>p0 m bt λo=>bp o (WZ u b d f c n) (WY u b d e f n)
def W0:=b4 u b 269 c d h λl m=>b4 u b 153 e l m λr s=>Dq b r s
def JF:=cP c 1 λf=>bE u b 150 d h λk l=>cP k 0 λm=>cP k 1 λn=>xY false e m λo=>bp o (W0 u b f n e l) (O0 u b e f m n l)
def JG:=bE u b 150 c h λg i=>cP g 0 λk=>JF u b g d k i
def Fp:=b0 j λc l=>b0 l λd l=>dF l (JG u b c d (bN b bj))
def adz:=bJ b c h
def W1:=bE u b 150 c h λi k=>cP i 0 λl=>cP i 1 λm=>xY true d l λn=>b4 u b 318 e m k λs t=>b4 u b 153 n s t λz A=>adz b z A
def W2:=bE u b 150 c h λg i=>cP g 0 λk=>cP g 1 λl=>W1 u b d k l i
def Fq:=b0 j λc l=>b0 l λd l=>dF l (W2 u b c d (bN b bj))
def wb:=bJ b c h
def air:=aS b [3] false 1 c h λe=>met b [] [e]<| de h.am 7 e br λf=>aS b [] true 7 f h λg=>met b [] [d,g]<| bi h.am d λi k=>bi h.am g λl m=>cm u b (some []) 273 [i,l] (aZ k (aZ m [])) h λn o=>wb b n o
def aiy:=bz 6 c λe=>aS b [2] false 1 e h λf=>met b [] [f]<| de h.am 7 f br λg=>aS b [] true 7 g h λi=>bz 6 d λk=>air u b k i h
def aiz:=aS b [] true 7 c h λg=>met b [] [d,g]<| bi h.am d λi k=>bi h.am g λl m=>cm u b (some []) 273 [i,l] (aZ k (aZ m [])) h λn o=>gJ n bt λp=>bp p (wb b n o) (aiy u b e f o)
def aiA:=aS b [2] false 1 c h λf=>met b [] [f]<| de h.am 7 f bt λg=>aS b [] true 7 g h λi=>bz 6 d λk=>aS b [3] false 1 k h λl=>met b [] [l]<| de h.am 7 l bt λm=>aiz u b m i e d h
def W7:ci (u,f,g):=cS c dx i λk=>bp k (wb b bt h) (a d e h)
def aiB:=bE u b 142 c h λi k=>gr i λl=>cZ l false (bh k.am true 7 e λm=>bE u b 142 m k λp q=>gr p λr=>W7 u b a l d e m p r q) (W7 u b a l d e aK aK aK k)
def aiC:=bh h.am true 7 c λe=>aiB u b (λf g i=>bz 6 f λk=>aiA u b k g f i) e c d h
def W8:=aS b [2] false 1 c h λf=>met b [] [d,f]<| bi h.am d λg i=>bi h.am f λk l=>cm u b (some []) 272 [g,k] (aZ i (aZ l [])) h λm n=>met b [] [e,m]<| bi n.am e λo p=>bi n.am m λq r=>cm u b (some []) 320 [o,q] (aZ p (aZ r [])) n λs t=>wb b s t
def W9:=aS b [3] false 1 c h λg=>met b [] [d,g]<| bi h.am d λi k=>bi h.am g λl m=>cm u b (some []) 272 [i,l] (aZ k (aZ m [])) h λn o=>bz 1 e λp=>aS b [3] false 1 p o λq=>bz 2 f λr=>W8 u b r q n o
def W3:=bz 1 c λe=>aS b [2] false 1 e h λf=>bz 2 d λg=>W9 u b g f d c h
def ais:=bn 5 c h λf=>bn 5 d h λi=>b4 u b 321 f i h λo p=>wb b o p
def ait:=bz 3 c λe=>bh h.am true 2 e λf=>bz 3 d λg=>bh h.am true 2 g λi=>b4 u b 322 f i h λo p=>wb b o p
def aiu:=cj c eB λf=>bp f (ait u b d e h) (a d e h)
def aiv:=cj c dM λf=>bp f (ais u b d e h) (aiu u b a c d e h)
def W4:=bh h.am true 7 c λe=>bE u b 319 e h λi k=>cj i br λl=>bp l (W3 u b c d k) (aiv u b (aiC u b) i c d k)
def aiw:=met b [] [c]<| bi h.am c λe f=>cm u b (some []) 319 [e] (aZ f []) h λg i=>aS b [3] true 7 d i λk=>met b [] [k]<| bi i.am k λl m=>cm u b (some []) 319 [l] (aZ m []) i λn o=>fi g n λp=>bp p (wb b ll o) (N o)
def aix:=aS b [2] true 7 c h λe=>aiw u b (λf=>wb b br f) e d h
def W5:=met b [] [c]<| bi h.am c λf g=>cm u b (some []) 319 [f] (aZ g []) h λi k=>aS b [3] true 7 d k λl=>met b [] [l]<| bi k.am l λm n=>cm u b (some []) 319 [m] (aZ n []) k λo p=>gJ i o λq=>bp q (aix u b e d p) (a e d p)
def W6:=eR 42 b 2 none c h λe f=>eR 42 b 3 none d f λg i=>aS b [2] true 7 e i λk=>W5 u b (W4 u b) k g e i
def Fr:=b0 j λc l=>b0 l λd l=>dF l (W6 u b c d (bN b bj))
def Hw:=bJ b c h
def JJ:ci u:=dT f g λk=>dj (gR .rem i tj) λl=>de h.am 1 e k λm=>bl b none 1 m l h λ_ n=>dj (gR .quo i tj) λo=>j6 c d e f o g n
def Xa:ci u:=dW b [] 1 c d h λk=>aS b [] false 1 k h λl=>dW b [] 1 e f h λm=>aS b [] false 1 m h λn=>dj (gR .mul l n) λo=>dT g o λp=>j6 c e i d f p h
def JK:=dT f i λk=>de h.am 1 e k λl=>bh h.am false 1 l λm=>dT m g λn=>cv false d λo=>fi i o λp=>bp p (Xa u b (JJ u b (λq r s t v w x=>dT w br λy=>j6 q r s t v y x)) c f d i n e h) (JJ u b (λq r s t v w x=>dT w br λy=>j6 q r s t v y x) c d e f i n h)
def BT(u:Fn)(b:Nat)(j6:rB)(L:iF)(c d e f g i k l m:ao)(h:aO):ay:=cS c dx m λn=>bp n (j6 d e f g i k h) (L d e f g h)
def vz:=cv false d λk=>fi i k λl=>cZ l false (mQ g bt λm=>BT u b (JK u b j6) L l c d e f g i g m h) (BT u b (JK u b j6) L l c d e f g i aK aK h)
def Xb:=k1 0 1 5 6 7 8 1000000 (vz u b (λg i k l m=>dT l br λn=>L g i k n m)) c d e f bt bt h
def BU:=cv false c λg=>fi f g λi=>bp i (Xb u b L c d e f h) (J e h)
def Xc:=cv false c λe=>cv false d λf=>dT e f λg=>dT g br λi=>lJ b none (rj (Nat.add b 2064) 3 1 8 (h.am (Nat.add b 2064)).cH [bt] i i) h λk l=>gd 0 1 5 6 1000000 (BU u b (λm n=>bE u b 191 m n λq r=>Hw b q r)) c d k bt l
def Fs:=b0 j λc l=>b0 l λd l=>dF l (Xc u b c d (bN b bj))
def yt:=bJ b c h
def O4:=b4 u b 192 c d h λk l=>yt b k l
def Xe:=b4 u b 192 c d h λk l=>yt b k l
def Fu:=cS c g cQ λi=>bp i (yt b br h) (bp d (Xe u b e f h) (a f e h))
def JL:=gr c λg=>cZ g true (Fu u b a g c d e f h) (Fu u b a g c d e aK h)
def BV:ci g:=cS c i cQ λk=>bp k (yt b ll h) (JL u b a c d e f h)
def Fv:=bE u b 150 c h λi k=>cP i 0 λl=>cP i 1 λm=>cZ d true (gr l λn=>BV u b (O4 u b) d m e l l n k) (BV u b (O4 u b) d m e l aK aK k)
def Fw:=bE u b 150 c h λg i=>cP g 0 λk=>cP g 1 λl=>Fv u b d k l i
def Ft:=b0 j λc l=>b0 l λd l=>dF l (Fw u b c d (bN b bj))
end
noncomputable section
variable[Tok]
def Uq:az:=[bt,bt,.s 0 0,.s 0 0,bt,.s 0 0,.s 0 0,.s 0 0,.s 0 0,.s 0 0,.ba,.ba,bt,.s 0 0,.s 0 0,bt,.s 0 0,.s 0 0,.s 0 0,.s 0 0,.s 0 0,.ba,.ba]
def Na(b:Nat)(d:lA)(a e g i j k l:ao)(h:aO):ay:=cZ a true (gr l λn=>cS a n cQ λc=>bp c (As b h) (d e g i j k h)) (cS a aK cQ λc=>bp c (As b h) (d e g i j k h))
def Nb(l k0 s0 b:Nat)(c:lA)(a d e g i j k n:ao)(h:aO):ay:=cZ a true (yH (jF l) k0 s0 22 k n b h λh=>Na b c a d e g i j dx h) (Na b c a d e g i j aK h)
def TQ(u:Fn)(l k0 s0 b:Nat)(g:lA)(c d i j k n q:ao)(h:aO):ay:=cP c 0 λr=>cP c 1 λt=>cP c 2 λe=>dw 44 b 7 none cW h λo w=>bl b none 11 o t w λ_ a=>
 cZ e true (aS b [7] true 11 o a λx=>aS b [5] true 11 q a λp=>met b [4096,4098] [p]<| bi a.am p λy z=>cm u b (some []) 91 [y] (aZ z []) a λA B=>eu 0 1 r Uq λC=>eu 1 11 x C λD=>eu 12 11 A D λE=>fO E λF=>Nb l k0 s0 b g e d i j k n d F B)
  (Nb l k0 s0 b g e d i j k n aK aK a)
def TR(u:Fn)(l k0 s0 b:Nat)(i:lA)(j d e k g:ao)(h:aO):ay:=de h.am 11 e g λn=>bh h.am true 11 n λo=>dw 44 b 5 none cW h λa p=>bl b none 11 a o p λ_ c=>bh c.am true 11 a λq=>bh c.am true 11 d λr=>b4 u b 169 q r c λt w=>
 TQ u l k0 s0 b (λx y z A B C=>dT B br λD=>i x y z A D C) t j d e k g a w
def u2(u:Fn)(l k0 s0 b:Nat)(d:lA)(e g i a c:ao)(h:aO):ay:=fi c a λj=>bp j (TR u l k0 s0 b d e g i a c h) (As b h)
def M9(u:Fn)(l k0 s0 b:Nat)(c d e:ao)(h:aO):ay:=bh h.am false 1 c λa=>cv false a λg=>fm 0 2 9 10 11 1000000 (u2 u l k0 s0 b) d e a g bt h
def H8(u:Fn)(l k0 s0:Nat)(a:az)(b:Nat)(bj:cD):ay:=b0 a λc a=>b0 a λd a=>b0 a λe a=>dF a (M9 u l k0 s0 b d c e (bN b bj))
def yG(u:Fn)(b:Nat)(c d e:ao)(h:aO):ay:=bh h.am true 11 d λf=>bi h.am c λg i=>bi h.am f λk l=>dC u b 132 [g,k] (aZ i (aZ l [])) h λm n=>yu (H8 u) 168 34 (Nat.add b 5) e m b n λo=>(bh o.am false 1 e λp=>SY b p o)
def TS(u:Fn)(b:Nat)(c d:ao)(h:aO):ay:=eR 44 b 3 none c h λe f=>dw 78 b 5 none [bt] f λg i=>bl b none 1 g z8 i λ_ k=>bn 0 e k λm=>cj m dM λn=>bp n (PT u b (yG u b) e g d k) (zw u b (yG u b) e d g k)
def ws(u:Fn)(a:az)(b:Nat)(bj:cD):ay:=b0 a λc l=>b0 l λd l=>dF l (TS u b d c (bN b bj))
end
section
open Go.Proofs
variable{gl:eh}
def Qu(c:Nat):List Nat:=if Nat.beq c 9999 then[4096,4098] else[c]
def ac3:List Nat->List (Nat×List Nat)
 |[]=>[]
 |x::r=>match ac3 r with
  |[]=>[(x/10000,Qu (x%10000))]
  |(t,cs)::q=>if Nat.beq t (x/10000) then(t,Qu (x%10000)++cs)::q else(x/10000,Qu (x%10000))::(t,cs)::q
def R2:Nat->List Nat->List (Option (List Nat))
 |n+1,0::r=>none::R2 n r
 |n+1,(k+1)::r=>some (r.take k)::R2 n (r.drop k)
 |_,_=>[]
def MY(b:Nat):Nat->Nat->List Nat
 |0,_=>[]
 |k+1,n=>bif Nat.beq n 1 then[] else bif Nat.beq (n%b) (b-1) then(n/b% (b*b))::MY b k (n/(b*b*b)) else(n%b)::MY b k (n/b)
def ac4:Nat->List Nat->List Nat
 |s,d::c::r=>((s+d)*10000+bif Nat.beq c 0 then 9999 else c-1)::ac4 (s+d) r
 |_,_=>[]
noncomputable def arG(f:Nat)(fn:Func)(np:Nat)(fT:List jS)(p l:List Nat)(a:List Nat)(fj:List Bool)(b:List (Nat×List Nat)):bI:=⟨f,fn,⟨a,Rp,[],ac3 p,b⟩,np,fT,fj,R2 l.length l⟩
noncomputable def bm(f:Nat)(fn:Func)(np:Nat)(fT:List jS)(p l:Nat)(a:List Nat:=[])(fj:List Bool:=[])(b:List (Nat×List Nat):=[]):bI:=arG f fn np fT (ac4 0 (MY 128 999 p)) (MY 32 999 l) a fj b
theorem ya:Tryz.prog.follows .mixedOrders=true:=by kernel_rfl
abbrev ef [Tok] (gl:eh) (f:Nat) (g:jj):=iE gl Tryz.prog f g
theorem eg[Tok](d:bI){g:jj}(a:Tryz.prog.funcs[d.f]? =some d.fn)(b:g=d.den Tryz.prog:=by kernel_rfl)(c:d.fn.body.isSome=true:=by kernel_rfl)
 (e:(d.fn.name== "runtime.NumGoroutine")=false:=by kernel_rfl)(h:Nat.ble d.h6 d.fn.ntmps=true:=by kernel_rfl)(i:oq Tryz.prog d.fn.results.toList=some d.ff:=by kernel_rfl):iE gl Tryz.prog d.f g:=
 ajZ d ya a c e h i b
theorem bU[Tok](d:bI)(a:Tryz.prog.funcs[d.f]? =some d.fn)(b:ui Tryz.prog d.aE d.fn.ntmps (n9 d.fn)=true:=by kernel_rfl)(c:d.fn.body.isSome=true:=by kernel_rfl)
 (e:(d.fn.name== "runtime.NumGoroutine")=false:=by kernel_rfl)(g:Nat.ble d.h6 d.fn.ntmps=true:=by kernel_rfl)(h:oq Tryz.prog d.fn.results.toList=some d.ff:=by kernel_rfl):iE gl Tryz.prog d.f (d.xz Tryz.prog):=
 ajY d ya a c e g h b
end
end Go.Hf

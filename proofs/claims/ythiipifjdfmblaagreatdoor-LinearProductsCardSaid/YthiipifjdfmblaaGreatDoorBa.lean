import Derived.Test.YthiipifjdfmblaaGreatDoorAq
import Derived.Test.YthiipifjdfmblaaGreatDoorAo
import Derived.Test.YthiipifjdfmblaaGreatDoorAr
import Derived.Test.YthiipifjdfmblaaGreatDoorAs
import Derived.Test.YthiipifjdfmblaaGreatDoorAt
import Derived.Test.YthiipifjdfmblaaGreatDoorAu
import Derived.Test.YthiipifjdfmblaaGreatDoorAv
import Derived.Test.YthiipifjdfmblaaGreatDoorAw
import Derived.Test.YthiipifjdfmblaaGreatDoorAx
import Derived.Test.YthiipifjdfmblaaGreatDoorAl
import Derived.Test.YthiipifjdfmblaaGreatDoorAy
import Derived.Test.YthiipifjdfmblaaGreatDoorAz
import Derived.Test.YthiipifjdfmblaaGreatDoorAm
import Derived.Test.YthiipifjdfmblaaGreatDoorAn
set_option linter.all false
set_option maxRecDepth 100000
namespace Go.Hf
open Go.RowKit
section
variable[Tok]
def nt(a1 c1 a2 c2:Nat):aB:=[ao 2,.s 0 0,.s 0 0,.s a1 c1,.s a2 c2,.s 0 0,.aE]
def uV(a c:Nat):aB:=[ao 3,.s 0 0,.s 0 0,.s 0 0,.s 0 0,.s a c,.aE]
def jU(a d:aB):aB:=[ao 4,.s 0 0,.s 0 0,.s 0 0,.s 0 0,.s 0 0,.aQ 7 [a,d]]
def kY:aY:=[nt 4 0x6c697370 3 0x6e696c,nt 4 0x6c697370 1 0x74,nt 4 0x75736572 1 0x61,nt 4 0x75736572 1 0x62,nt 4 0x75736572 1 0x63,uV 0 0,uV 1 0x70,uV 2 0x7071]
def aEB:List (Int×Int):=[(-4,1),(4,1),(-3,1),(-2,1),(-1,1),(0,1),(1,1),(2,1),(3,1),(1,2),(-5,3)]
def to:aY:=kY++aEB.map λx=>b5 x.1 x.2
theorem anY(n:Nat):hF (bB bD (n+9) 66 [] 0 .nil)= .ok (.agg (nt 4 0x6c697370 3 0x6e696c)) 0 .nil []:=by kernel_rfl
theorem ann(n:Nat):hF (bB bD (n+9) 87 [] 0 .nil)= .ok (.agg (nt 4 0x6c697370 1 0x74)) 0 .nil []:=by kernel_rfl
theorem apQ(n a1 c1 a2 c2:Nat):hF (bB bD (n+9) 127 [.agg [.s a1 c1,.s a2 c2]] 0 .nil)= .ok (.agg (nt a1 c1 a2 c2)) 0 .nil []:=by kernel_rfl
theorem azA(n a c:Nat):hF (bB bD (n+9) 128 [.s a c] 0 .nil)= .ok (.agg (uV a c)) 0 .nil []:=by kernel_rfl
theorem Z4(n a c:Nat):hF (bB bD (n+9) 28 [.s a c] 0 .nil)= .ok (.agg [kl,.s a c]) 0 .nil []:=by kernel_rfl
theorem avI(n a c:Nat):hF (bB bD (n+9) 152 [.s a c] 0 .nil)= .ok (.agg [bP,.s a c]) 0 .nil []:=by kernel_rfl
theorem axI(n:Nat):hF (bB bD (n+20) 114 [.s 1 0x31,.s 1 0x32] 0 .nil)= .ok (.agg (b5 1 2)) 0 .nil []:=by kernel_rfl
theorem aso(n:Nat):hF (bB bD (n+20) 114 [.s 2 0x2d35,.s 1 0x33] 0 .nil)= .ok (.agg (b5 (-5) 3)) 0 .nil []:=by kernel_rfl
theorem ayf(n:Nat):dy (bB bD (n+9) 150 [] 0 .nil) (.aQ 1 [[.s 3 0x636172],[.s 3 0x636472],[.s 4 0x636f6e73],[.s 5 0x636f6e7370],[.s 3 0x6e6f74],[.s 5 0x657175616c],[.s 2 0x6966],[.s 8 0x62696e6172792d2b],[.s 1 0x3c],[.s 8 0x696e746567657270],[.s 3 0x6c656e],[.s 13 0x62696e6172792d617070656e64],[.s 3 0x726576],[.s 10 0x747275652d6c69737470],[.s 4 0x6e617470],[.s 4 0x706f7370],[.s 7 0x756e6172792d2d],[.s 8 0x62696e6172792d2a],[.s 7 0x696d706c696573],[.s 7 0x73796d626f6c70],[.s 9 0x726174696f6e616c70],[.s 3 0x666978],[.s 3 0x696666],[.s 4 0x6e666978],[.s 2 0x7a70]])=true:=by kernel_rfl
theorem ayJ(n:Nat):dy (bB bD (n+9) 151 [] 0 .nil) (.aQ 1 [[.s 3 0x647562],[.s 8 0x73616d652d6c656e],[.s 5 0x7061697273],[.s 4 0x64756273],[.s 4 0x74726565],[.s 5 0x6576656e73],[.s 4 0x6f646473],[.s 4 0x786f7232]])=true:=by kernel_rfl
theorem axv(n:Nat):(to.all λo=>dy (bB bD (n+40) 107 [.agg o] 0 .nil) (.F true))=true:=by kernel_rfl
theorem auw(n:Nat):(kY.all λo=>dy (bB bD (n+9) 154 [.agg (cW o)] 0 .nil) (.a0 [.aE,ao 0]))=true:=by kernel_rfl
theorem afq(n:Nat):(kY.all λo=>dy (bB bD (n+9) 173 [.agg (cW o)] 0 .nil) (.a0 [.aE,ao 0]))=true:=by kernel_rfl
theorem aA8(n:Nat)(a d:aB):hF (bB bD (n+9) 154 [.agg (cW (jU a d))] 0 .nil)= .ok (.a0 [.aE,ao 0]) 0 .nil []:=by kernel_rfl
theorem axL(n:Nat)(a d:aB):hF (bB bD (n+9) 173 [.agg (cW (jU a d))] 0 .nil)= .ok (.a0 [.aE,ao 0]) 0 .nil []:=by kernel_rfl
def iu:List (Nat×Nat×Nat×Nat×Nat):=[(4,0x6c697370,3,0x636172,1),(4,0x6c697370,3,0x636472,1),(4,0x6c697370,4,0x636f6e73,2),(4,0x6c697370,5,0x636f6e7370,1),(4,0x6c697370,2,0x6966,3),(4,0x6c697370,8,0x696e746567657270,1),(4,0x6c697370,3,0x6c656e,1),(4,0x6c697370,13,0x62696e6172792d617070656e64,2),(4,0x6c697370,3,0x726576,1),(4,0x6c697370,10,0x747275652d6c69737470,1),(4,0x6c697370,4,0x6e617470,1),(4,0x6c697370,4,0x706f7370,1),(4,0x6c697370,7,0x696d706c696573,2),(4,0x6c697370,7,0x73796d626f6c70,1),(4,0x6c697370,9,0x726174696f6e616c70,1),(4,0x6c697370,3,0x666978,1),(4,0x6c697370,3,0x696666,2),(4,0x6c697370,4,0x6e666978,1),(4,0x6c697370,2,0x7a70,1),(4,0x75736572,3,0x647562,1),(4,0x75736572,8,0x73616d652d6c656e,2),(4,0x75736572,5,0x7061697273,2),(4,0x75736572,4,0x64756273,1),(4,0x75736572,4,0x74726565,1),(4,0x75736572,5,0x6576656e73,1),(4,0x75736572,4,0x6f646473,1),(4,0x75736572,4,0x786f7232,2)]
def i1:List (Nat×Nat×Nat×Nat×Nat):=[(4,0x6c697370,3,0x6e6f74,1),(4,0x6c697370,5,0x657175616c,2),(4,0x6c697370,1,0x3c,2)]
def lS:List (Nat×Nat×Nat×Nat×Nat):=[(4,0x6c697370,8,0x62696e6172792d2b,2),(4,0x6c697370,8,0x62696e6172792d2a,2),(4,0x6c697370,7,0x756e6172792d2d,1)]
def cO(h:Nat×Nat×Nat×Nat×Nat)(l:aY):aB:=bU (.s h.1 h.2.1) (.s h.2.2.1 h.2.2.2.1) l
theorem ajJ(n:Nat)(l:aY):((iu++i1).all λh=>dy (bB bD (n+9) 98 [.agg (cO h l),fv,ao 2] 0 .nil) (.F false)&&(dy (bB bD (n+9) 98 [.agg (cO h l),eM,ao 2] 0 .nil) (.F false)&&(dy (bB bD (n+9) 98 [.agg (cO h l),jy,ao 1] 0 .nil) (.F false)&&dy (bB bD (n+9) 98 [.agg (cO h l),y3,ao 1] 0 .nil) (.F false))))=true:=by kernel_rfl
theorem ayl(n:Nat)(l:aY):((iu++i1).all λh=>dy (bB bD (n+9) 85 [.agg (cO h l),fv,ao 2] 0 .nil) (.F false)&&(dy (bB bD (n+9) 85 [.agg (cO h l),eM,ao 2] 0 .nil) (.F false)&&(dy (bB bD (n+9) 85 [.agg (cO h l),jy,ao 1] 0 .nil) (.F false)&&dy (bB bD (n+9) 85 [.agg (cO h l),y3,ao 1] 0 .nil) (.F false))))=true:=by kernel_rfl
theorem aDA(n:Nat):((iu++i1++lS).all λh=>dy (bB bD (n+30) 292 [.agg [.s h.1 h.2.1,.s h.2.2.1 h.2.2.2.1]] 0 .nil) (.F true))=true:=by kernel_rfl
theorem aiO(n:Nat):((List.range 3).all λi=>dy (bB bD (n+40) 261 [.agg (dW i)] 0 .nil) (.F true))=true:=by kernel_rfl
theorem ayw(n:Nat):dy (bB bD (n+9) 65 [.agg dx,.agg dx] 0 .nil) (.F true)=true:=by kernel_rfl
theorem VT(n:Nat)(l:aY):((iu++lS++[(4,0x6c697370,5,0x657175616c,2)]).all λh=>dy (bB bD (n+9) 116 [.agg (cO h l)] 0 .nil) (.a0 [.aE,ao 0,.F false])&&(dy (bB bD (n+9) 40 [.agg (cO h l)] 0 .nil) (.a0 [.aE,ao 0,ao 0])))=true:=by kernel_rfl
theorem amp(n:Nat)(l:aY):((iu++lS++[(4,0x6c697370,3,0x6e6f74,1)]).all λh=>dy (bB bD (n+9) 116 [.agg (bU bP fe [cO h l])] 0 .nil) (.a0 [.aE,ao 0,.F false])&&(dy (bB bD (n+9) 40 [.agg (bU bP fe [cO h l])] 0 .nil) (.a0 [.aE,ao 0,ao 0])))=true:=by kernel_rfl
end
section
variable{c:Int}
theorem cB{α:Type}{l:List α}{p:α->Bool}(h:l.all p=true){x:α}(a:x∈l):p x=true:=jl.1 h x a
theorem mem_range{a n:Nat}(h:a<n):a∈List.range n:=List.mem_range.2 h
section
variable[Tok]
theorem ajF(n:Nat)(h: -1000000<=c/\c<=1000000):aK (bB bD (n+1)) 267 [ao c,mQ] (bA c):=by
 have hi:qX .i64 (c+18446744073709551616).toNat=true:=Bn (by omega) (by omega);have a:intOf (c+18446744073709551616).toNat=c:=by unfold intOf;omega
 refine⟨.nil,[],?_⟩;rw[cX,show bB bD (n+1) 267=FZ (bB bD n) by kernel_rfl];show bf (qX .i64 (c+18446744073709551616).toNat) (yz (Lib.itoa (intOf (c+18446744073709551616).toNat)) λr=> .ok r 0 .nil []) .ax=_;rw[hi,cM,H9,a];rfl
theorem avP(n:Nat)(h: -1000000<=c/\c<=1000000):aK (bB bD (n+1)) 157 [ao c] (bA c):=by
 have hi:qX .i64 (c+18446744073709551616).toNat=true:=Bn (by omega) (by omega);have a:intOf (c+18446744073709551616).toNat=c:=by unfold intOf;omega
 refine⟨.nil,[],?_⟩;rw[cX,show bB bD (n+1) 157=Iu (bB bD n) by kernel_rfl];show bf (qX .i64 (c+18446744073709551616).toNat) (yz (Lib.itoa (intOf (c+18446744073709551616).toNat)) λr=> .ok r 0 .nil []) .ax=_;rw[hi,cM,H9,a];rfl
theorem OI:bl Ms:=bl.kQ 20 λn=>⟨λx a=>eN (cB (akD n) (y8 a)),λx a=>eN (cB (alt n) (y8 a)),λx a=>ajF (n+19) a⟩
def x9(a c:Nat):Prop:=(a<=80/\c<=18)\/(a<=700/\c=1)
def u4(a c:Nat):Prop:=a∈gC/\c∈gC
theorem awC(a c:Nat)(h:u4 a c):u4 c a:=And.intro h.2 h.1
theorem LR{a:Nat}(h:a∈gC):a∈(gC.drop 0).take 26\/a∈(gC.drop 26).take 26\/a∈(gC.drop 52).take 26\/a∈(gC.drop 78).take 26\/a∈(gC.drop 104).take 26:=by have e:gC=(gC.drop 0).take 26++((gC.drop 26).take 26++((gC.drop 52).take 26++((gC.drop 78).take 26++(gC.drop 104).take 26))):=rfl;rw[e] at h;simpa only[fr] using h
theorem aqU(n:Nat):IE (bB bD (n+20)) x9 u4 where
 CA:=λx e=>eN (cB (azo n) (y8 e))
 DI:=λd m j=>by
  have h:=cB (aym n) (mem_range (show m<701 by omega));rw[cg] at h;cases d with
  |false=>exact eN h.1
  |true=>exact eN h.2
 Nf:=λd=>by
  cases d with
  |false=>exact eN (UM n).1
  |true=>exact eN (UM n).2
 Xs:=λa c h=>by
  rcases h with⟨g,l⟩|⟨g,rfl⟩
  ·exact eN (cB (cB (aru n) (mem_range (show a<81 by omega))) (mem_range (show c<19 by omega)))
  ·exact eN (cB (aum n) (mem_range (show a<701 by omega)))
 Ru:=λa c h=>by
  rcases LR h.1 with k|k|k|k|k
  ·exact eN (cB (cB (az1 n) k) h.2)
  ·exact eN (cB (cB (ass n) k) h.2)
  ·exact eN (cB (cB (ava n) k) h.2)
  ·exact eN (cB (cB (apV n) k) h.2)
  ·exact eN (cB (cB (aj4 n) k) h.2)
 Wl:=λa c h=>by
  rcases LR h.1 with k|k|k|k|k
  ·exact eN (cB (cB (apF n) k) h.2)
  ·exact eN (cB (cB (ayd n) k) h.2)
  ·exact eN (cB (cB (at4 n) k) h.2)
  ·exact eN (cB (cB (agq n) k) h.2)
  ·exact eN (cB (cB (asx n) k) h.2)
 Q5:=λa c h i=>by
  have b:Nat.ble c a=true:=qQ i;rcases LR h.1 with k|k|k|k|k
  ·have:=cB (cB (axt n) k) h.2;rw[b,dN] at this;exact eN this
  ·have:=cB (cB (af5 n) k) h.2;rw[b,dN] at this;exact eN this
  ·have:=cB (cB (aDG n) k) h.2;rw[b,dN] at this;exact eN this
  ·have:=cB (cB (aBw n) k) h.2;rw[b,dN] at this;exact eN this
  ·have:=cB (cB (at6 n) k) h.2;rw[b,dN] at this;exact eN this
theorem Vt:bl λu=>IE u x9 u4:=bl.kQ 20 aqU
structure QQ (p q:Int):Prop where
 mem:(p,q)∈Jo
def tX(p q:Int):Prop:=(q=1/\ -520<=p/\p<=520)\/QQ p q
theorem vU(p:Int):l0 p 1=p/\lM p 1=1:=by
 have e:Int.gcd p 1=1:=by simp
 unfold l0 lM;rw[e];simp
theorem ayg{n:Int}(h: -520<=n/\n<=520):n∈Wn:=by refine gp.2 ⟨(n+520).toNat,by simp;omega,by omega⟩
structure Rp (u:Fn):Prop where
 mul:∀x y:Int,dZ x->dZ y-> -1000000<=x*y->x*y<=1000000->aK u 211 [bA x,bA y] (bA (x*y))
 add:∀x y:Int,dZ x->dZ y->aK u 274 [bA x,bA y] (bA (x+y))
 DF:∀x y:Int,dZ x->dZ y->x9 x.natAbs y.natAbs->x.natAbs*y.natAbs<=700->aK u 174 [bA x,bA y] (bA (x*y))
 aCh:∀x y:Int,dZ x->dZ y->u4 x.natAbs y.natAbs->x.natAbs+y.natAbs<=700->aK u 224 [bA x,bA y] (bA (x+y))
 Hc:∀p q:Int,tX p q->dZ p->Oq u p q (l0 p q) (lM p q)
 BN:∀p q:Int,tX p q->ME u p q (l0 p q) (lM p q)
 itoa:∀c:Int,-1000000<=c/\c<=1000000->aK u 157 [ao c] (bA c)
theorem Ww:bl λu=>Ms u/\∀x y:Int,dZ x->dZ y->∀m:Int,(m=9\/m=18)->aK u 266 [bA x,bA y,ao m] (.a0 [ao x,ao y,.F true]):=
 (OI.and (OI.up (C:=λu=>∀x y:Int,dZ x->dZ y->∀m:Int,(m=9\/m=18)->aK u 266 [bA x,bA y,ao m] (.a0 [ao x,ao y,.F true])) λn h x y a d m e=>cI (aM 266 Dx n) (azV h a d e)))
theorem asW:bl λu=>∀x:Int,dZ x->aK u 275 [bA x] (bA x):=
 OI.up λn h x a=>cI (aM 275 C9 n) (aqh (h.Pd x a))
theorem aEl:bl λu=>(∀x y:Int,dZ x->dZ y-> -1000000<=x*y->x*y<=1000000->aK u 211 [bA x,bA y] (bA (x*y))):=by refine Ww.up λn h=>?_;intro x y a b d e;have f:=h.1.aep (x*y) (And.intro d e);have k:=h.2 x y a b 9 (Or.inl rfl);exact cI (aM 211 Bh n) (aye a b k f)
theorem ap3:bl λu=>(∀x y:Int,dZ x->dZ y->aK u 274 [bA x,bA y] (bA (x+y))):=by refine Ww.up λn h=>?_;intro x y a b;have f:=h.1.aep (x+y) (by unfold dZ at a b;omega);have k:=h.2 x y a b 18 (Or.inr rfl);exact cI (aM 274 B2 n) (afI a b k f)
theorem auM:bl λu=>(∀x y:Int,dZ x->dZ y->x9 x.natAbs y.natAbs->x.natAbs*y.natAbs<=700->aK u 174 [bA x,bA y] (bA (x*y))):=by refine Vt.up λn h=>?_;intro x y a b d e;exact cI (aM 174 DC n) (ayz (PT:=x9) (PP:=u4) h a b d e)
theorem aks:bl λu=>(∀x y:Int,dZ x->dZ y->u4 x.natAbs y.natAbs->x.natAbs+y.natAbs<=700->aK u 224 [bA x,bA y] (bA (x+y))):=by refine Vt.up λn h=>?_;intro x y a b d e;exact cI (aM 224 wP n) (aic (PT:=x9) (PP:=u4) h awC a b d e)
theorem arl:bl λu=>∀p:Int,dZ p->aK u 265 [bA p,bA 1] (.a0 [bA p,bA 1]):=asW.up λn h p a=>cI (aM 265 Cf n) (aiK (h p a) (h 1 (by unfold dZ;omega)))
theorem av5:bl λu=>∀p q:Int,QQ p q->aK u 265 [bA p,bA q] (.a0 [bA (l0 p q),bA (lM p q)]):=by refine bl.kQ 20 λn=>?_;intro p q a;have h:=cB (ahf n) a.mem;exact eN h
theorem amz:bl λu=>∀p q:Int,QQ p q->aK u 170 [bA p,bA q] (.a0 [bA (l0 p q),bA (lM p q)]):=by refine bl.kQ 20 λn=>?_;intro p q a;have h:=cB (af1 n) a.mem;exact eN h
theorem aAn:bl λu=>∀p:Int,-520<=p/\p<=520->aK u 170 [bA p,bA 1] (.a0 [bA p,bA 1]):=by refine bl.kQ 20 λn=>?_;intro p a;have h:=cB (aho n) (ayg a);exact eN h
theorem aix:bl λu=>∀p q:Int,tX p q->dZ p->Oq u p q (l0 p q) (lM p q):=(arl.and av5).imp λn h p q a b=>by
 rcases a with⟨rfl,_⟩|a
 ·rw[(vU p).1,(vU p).2];exact h.1 p b
 ·exact h.2 p q a
theorem ay4:bl λu=>∀p q:Int,tX p q->ME u p q (l0 p q) (lM p q):=(amz.and aAn).imp λn h p q a=>by
 rcases a with⟨rfl,b⟩|a
 ·rw[(vU p).1,(vU p).2];exact h.2 p b
 ·exact h.1 p q a
theorem apE:bl λu=>∀c:Int,-1000000<=c/\c<=1000000->aK u 157 [ao c] (bA c):=bl.kQ 1 λn c a=>avP n a
theorem HQ:bl Rp:=(((aEl.and ap3).and (auM.and aks)).and ((aix.and ay4).and apE)).imp λn h=>⟨h.1.1.1,h.1.1.2,h.1.2.1,h.1.2.2,h.2.1.1,h.2.1.2,h.2.2⟩
end
end
section
variable{a:Nat} {p:Int}
def m8(x:Int):Bool:=Nat.ble x.natAbs 700
def rD(a c:Nat):Bool:=(Nat.ble a 80&&Nat.ble c 18)||(Nat.ble a 700&&Nat.beq c 1)
def apJ(p q:Int):Bool:=Jo.any λr=>decide (r.1=p)&&decide (r.2=q)
def Aj(p q:Int):Bool:=(decide (q=1)&&Nat.ble p.natAbs 520)||apJ p q
def tQ(a:Nat):Bool:=gC.any λr=>Nat.beq r a
theorem ib{x:Int}(h:m8 x=true):dZ x:=by have:=dp h;unfold dZ;omega
theorem Fw{c:Nat}(h:rD a c=true):x9 a c:=by
 unfold rD at h;rw[ny,cg,cg] at h;rcases h with h|h
 ·exact .inl ⟨dp h.1,dp h.2⟩
 ·exact .inr ⟨dp h.1,gz h.2⟩
theorem I2{q:Int}(h:Aj p q=true):tX p q:=by
 unfold Aj at h;rw[ny,cg] at h;rcases h with h|h
 ·have b:=nM h.1;have c:=dp h.2;exact .inl ⟨b,by omega,by omega⟩
 ·obtain⟨r,d,h⟩:=vc.1 h;rw[cg] at h;have b:=nM h.1;have c:=nM h.2;exact .inr ⟨by rw[<-b,<-c];exact d⟩
theorem ZV(h:tQ a=true):a∈gC:=by obtain⟨r,b,h⟩:=vc.1 h;rw[<-gz h];exact b
def l9(c d:Rat):Bool:=m8 c.num&&(m8 d.num&&(m8 c.den&&(m8 d.den&&(m8 (c.num*d.num)&&(m8 ((c.den:Int)*d.den)&&(rD c.num.natAbs d.num.natAbs&&(rD c.den d.den&&Aj (c.num*d.num) ((c.den:Int)*d.den))))))))
def kj(c d:Rat):Bool:=m8 c.num&&(m8 d.num&&(m8 c.den&&(m8 d.den&&(m8 (c.num*d.den)&&(m8 (d.num*c.den)&&(m8 ((c.den:Int)*d.den)&&(m8 (c.num*d.den+d.num*c.den)&&(rD c.num.natAbs d.den&&(rD d.num.natAbs c.den&&(rD c.den d.den&&(tQ (c.num*d.den).natAbs&&(tQ (d.num*c.den).natAbs&&(Nat.ble ((c.num*d.den).natAbs+(d.num*c.den).natAbs) 700&&Aj (c.num*d.den+d.num*c.den) ((c.den:Int)*d.den))))))))))))))
section
variable[Tok]
theorem Wt{q:Nat}(h:q≠0):ef (Rat.normalize p q h)=b5 (l0 p q) (lM p q):=by have e:Int.gcd p (q:Int)=p.natAbs.gcd q:=rfl;unfold ef l0 lM;rw[Rat.normalize_eq,e];simp
theorem aeT(c d:Rat):ef (c*d)=b5 (l0 (c.num*d.num) ((c.den:Int)*d.den)) (lM (c.num*d.num) ((c.den:Int)*d.den)):=by rw[Rat.mul_def,Wt];simp
theorem P4(c d:Rat):ef (c+d)=b5 (l0 (c.num*d.den+d.num*c.den) ((c.den:Int)*d.den)) (lM (c.num*d.den+d.num*c.den) ((c.den:Int)*d.den)):=by rw[Rat.add_def,Wt];simp
structure CD (u:Fn):Prop where
 aw5:∀c d:Rat,l9 c d=true->aK u 160 [.agg (ef c),.agg (ef d)] (.agg (ef (c*d)))
 sum:∀c d:Rat,kj c d=true->aK u 215 [.agg (ef c),.agg (ef d)] (.agg (ef (c+d)))
 atp:∀c d:Rat,l9 c d=true->aK u 109 [.agg (ef c),.agg (ef d)] (.agg (ef (c*d)))
 awv:∀c d:Rat,kj c d=true->aK u 177 [.agg (ef c),.agg (ef d)] (.agg (ef (c+d)))
structure aBH (u:Fn):Prop where
 V:Rp u
 Hc:∀p q:Int,tX p q->dZ p->aK u 210 [bA p,bA q] (.agg (b5 (l0 p q) (lM p q)))
 BN:∀p q:Int,tX p q->aK u 114 [bA p,bA q] (.agg (b5 (l0 p q) (lM p q)))
 int:∀n:Int,aK u 100 [bA n] (.agg (b5 n 1))
 kH:∀p q:Int,aK u 209 [.agg (b5 p q)] (.agg (b5 p q))
 G3:∀p q:Int,aK u 113 [.agg (b5 p q)] (.agg (b5 p q))
theorem NI:bl aBH:=by
 have a:bl λu=>(∀p q:Int,tX p q->dZ p->aK u 210 [bA p,bA q] (.agg (b5 (l0 p q) (lM p q))))/\(∀p q:Int,tX p q->aK u 114 [bA p,bA q] (.agg (b5 (l0 p q) (lM p q)))):=
  HQ.up λn h=>⟨λp q c d=>cI (aM 210 BR n) (WI (h.Hc p q c d)),λp q c=>cI (aM 114 CF n) (aAc (h.BN p q c))⟩
 have b:bl λu=>(∀n:Int,aK u 100 [bA n] (.agg (b5 n 1)))/\(∀p q:Int,aK u 209 [.agg (b5 p q)] (.agg (b5 p q)))/\(∀p q:Int,aK u 113 [.agg (b5 p q)] (.agg (b5 p q))):=
  bl.kQ 1 λn=>⟨λx=>cI (aM 100 E4 n) afK,λp q=>cI (aM 209 C6 n) anA,λp q=>cI (aM 113 C5 n) Nx⟩
 exact(HQ.and (a.and b)).imp λn h=>⟨h.1,h.2.1.1,h.2.1.2,h.2.2.1,h.2.2.2.1,h.2.2.2.2⟩
theorem ajh:bl CD:=NI.up λn h=>by
 refine⟨λc d b=>?_,λc d b=>?_,λc d b=>?_,λc d b=>?_⟩
 ·unfold l9 at b;simp only[cg] at b;obtain⟨eR,l,j,k,q,t,w,y,x⟩:=b;have g:=ib q;have i:=ib t;rw[aeT];exact cI (aM 160 Fe n) (axK (h.kH _ _) (h.kH _ _) (h.V.mul _ _ (ib eR) (ib l) (by unfold dZ at g;omega) (by unfold dZ at g;omega)) (h.V.mul _ _ (ib j) (ib k) (by unfold dZ at i;omega) (by unfold dZ at i;omega)) (h.Hc _ _ (I2 x) g))
 ·unfold kj at b;simp only[cg] at b;obtain⟨eR,l,j,k,q,t,w,y,x,A,B,C,D,E,z⟩:=b;have g:=ib q;have i:=ib t;have dx:=ib w;by_cases o:(c.den:Int)=1/\(d.den:Int)=1
  ·have r:=axc (u:=bB bD n) (a:=c.num) (c:=d.num) o.1 o.2 (h.kH _ _) (h.kH _ _) (h.V.add _ _ (ib eR) (ib l)) (h.int _);rw[P4,o.1,o.2];rw[o.1,o.2] at r;have e:b5 (l0 (c.num*1+d.num*1) (1*1)) (lM (c.num*1+d.num*1) (1*1))=b5 (c.num+d.num) 1:=by rw[show(1:Int)*1=1 from rfl,(vU _).1,(vU _).2,Int.mul_one,Int.mul_one]
   rw[e];have G:ef c=b5 c.num 1:=by unfold ef;rw[o.1]
   have H:ef d=b5 d.num 1:=by unfold ef;rw[o.2]
   rw[G,H];exact cI (aM 215 sq n) r
  ·rw[P4];exact cI (aM 215 sq n) (aDS (ib j) (ib k) (by omega) (h.kH _ _) (h.kH _ _) (h.V.mul _ _ (ib eR) (ib k) (by unfold dZ at g;omega) (by unfold dZ at g;omega))
    (h.V.mul _ _ (ib l) (ib j) (by unfold dZ at i;omega) (by unfold dZ at i;omega)) (h.V.add _ _ g i) (h.V.mul _ _ (ib j) (ib k) (by unfold dZ at dx;omega) (by unfold dZ at dx;omega)) (h.Hc _ _ (I2 z) (ib y)))
 ·unfold l9 at b;simp only[cg] at b;obtain⟨eR,l,j,k,q,t,w,y,x⟩:=b;have g:=ib q;have i:=ib t;rw[aeT];refine cI (aM 109 Di n) (azm (h.G3 _ _) (h.G3 _ _) (h.V.DF _ _ (ib eR) (ib l) (Fw w) ?_) (h.V.DF _ _ (ib j) (ib k) (Fw y) ?_) (h.BN _ _ (I2 x)))
  ·rw[<-pV];unfold dZ at g;omega
  ·rw[<-pV];unfold dZ at i;omega
 ·unfold kj at b;simp only[cg] at b;obtain⟨eR,l,j,k,q,t,w,y,x,A,B,C,D,E,z⟩:=b;have g:=ib q;have i:=ib t;have dx:=ib w;rw[P4];refine cI (aM 177 Bv n) (auB (h.G3 _ _) (h.G3 _ _) (h.V.DF _ _ (ib eR) (ib k) (Fw x) ?_) (h.V.DF _ _ (ib l) (ib j) (Fw A) ?_)
   (h.V.aCh _ _ g i ⟨ZV C,ZV D⟩ (dp E)) (h.V.DF _ _ (ib j) (ib k) (Fw B) ?_) (h.BN _ _ (I2 z)))
  ·rw[<-pV];unfold dZ at g;omega
  ·rw[<-pV];unfold dZ at i;omega
  ·rw[<-pV];unfold dZ at dx;omega
end
end
section
variable{A C:Fn->Prop} {E:cr} {D:Rat->Prop} {K:Nat->Prop}
section
variable[Tok]
def nd(L:Nat)(u:Fn):Prop:=∃n,L<=n/\u=bB bD n
theorem bl.kv(L:Nat)(h:bl A)(s:∀n,L<=n->A (bB bD n)->C (bB bD (n+1))):bl C:=by
 obtain⟨a,h⟩:=h;refine⟨L+a+1,λn b=>?_⟩;cases n with
 |zero=>omega
 |succ n=>exact s n (by omega) (h n (by omega))
theorem bl.ge(L:Nat)(h:bl A)(s:∀n,L<=n->A (bB bD n)->C (bB bD n)):bl C:=by obtain⟨a,h⟩:=h;exact⟨L+a,λn b=>s n (by omega) (h n (by omega))⟩
section
variable{f L:Nat} {ρ:jS} (hρ:ρ.Y=nd L)
include hρ
theorem xn{n:Nat}{es:aY}(a:L<=n)(h:iq (bB bD (n+1)) f ρ es):iq (bB bD n) f ρ es:=⟨by rw[hρ];exact⟨n,a,rfl⟩,h.2⟩
theorem ajz:bl λu=>OL u f ρ:=bl.kv L bl.jr λn c _=>by intro b aET q s e a B es d g h i j k l o;rw[aM 335 vV];exact ayc d g h i j (xn hρ c k) l o
omit hρ in
theorem aDx:bl λu=>PF u f:=bl.jr.up λn _=>by intro b aET q s e A B m es a c d g h i j;rw[aM 372 CQ];exact ajC a c d g h i j
omit hρ in
theorem aCi:bl λu=>Qt u f:=aDx.up λn h=>by intro b aET q s e A m B es a c d g i j k l;rw[aM 358 C4];exact arD h a c d g i j k l
theorem Ym:∀D,bl λu=>zS u f ρ D
 |0=>bl.jr.imp λn _=>by intro b aET q s e a m B es _ _ _ _ _ _ c d g;omega
 |D+1=>bl.kv L ((aCi (f:=f)).and (Ym D)) λn i h=>by intro b aET q s e a m B es c d g j k l o p r t w x;rw[aM 336 Fv];exact auI h.1 h.2 c d g j k (xn hρ i l) o p r t w x
theorem asU:bl λu=>XF u f ρ:=bl.kv L ((ajz (f:=f) hρ).and (Ym (f:=f) hρ 39)) λn a h=>by intro b aET q s e es c d g i j k;rw[aM 284 xM];exact aAw h.1 h.2 (cY _) c d g i j (xn hρ a k)
theorem aw3:bl λu=>Ny u f ρ:=bl.kv L (asU (f:=f) hρ) λn a h=>by intro b aET q s e es c d g i j k;rw[aM 236 v9];exact aBA h c d g i j (xn hρ a k)
theorem azd:bl λu=>UJ u f ρ:=bl.kv L bl.jr λn c _=>by intro b aET q s e a B es d g h i j k l o;rw[aM 279 uj];exact amo d g h i j (xn hρ c k) l o
theorem ak2:bl λu=>xD u 182 f ρ:=by
 have a:bl λu=>xD u 232 f ρ:=bl.kv L (azd (f:=f) hρ) λn c h=>by intro b aET q s e es a d g i j k;rw[cv rfl,aM 232 wS];exact WA h a d g i j (xn hρ c k)
 exact bl.kv L a λn c h=>by intro b aET q s e es a d g i j k;rw[cz,aM 182 uO];exact ag6 h a d g i j (xn hρ c k)
end
theorem avW{f:Nat}:bl λu=>∀{b:Nat} {aET:b1},gD (u 182 [.aE,dI f] b aET) b aET (.a0 []):=by
 have a:bl λu=>∀{b:Nat} {aET:b1},gD (u 279 [.aE,ao 0,ao 0,dI f] b aET) b aET (.a0 []):=bl.jr.up λn _=>by intro b aET;rw[aM 279 uj];exact am2
 have c:bl λu=>∀{b:Nat} {aET:b1},gD (u 232 [.aE,ao 0,dI f] b aET) b aET (.a0 []):=a.up λn h=>by intro b aET;rw[aM 232 wS];exact aDD h
 exact c.up λn h=>by intro b aET;rw[aM 182 uO];exact agc h
theorem am4:bl λu=>XP u:=bl.jr.up λn _=>by intro b aET m a c;rw[aM 262 zK];exact af3 a c
theorem aEw:bl λu=>Rl u:=am4.up λn h=>by intro b aET p q es g a c d e;rw[aM 205 xJ];exact aw7 h a c d e
theorem aeZ:bl λu=>abi u:=bl.jr.up λn _=>by intro b aET m a c;rw[aM 231 zP];exact ake a c
theorem ams:bl λu=>Ft u:=aeZ.up λn h=>by intro b aET p q es g a c d e;rw[aM 181 xQ];exact ayq h a c d e
theorem aqw{f:Nat}(a:bl λu=>uR u E f D):bl λu=>LM u E f D:=a.up λn h=>by
 refine⟨?_,?_⟩
 ·intro b aET q s aEQ ms c d e g;rw[aM 286 wW];exact aq1 h c d e g
 ·intro b aET;rw[aM 286 wW];exact aq4
theorem aps{f:Nat}(a:bl λu=>uR u E f D):bl λu=>NS u E f D:=(a.and (aqw a)).up λn h=>by
 refine⟨?_,?_⟩
 ·intro b aET q s ms c d e g;rw[aM 238 vH];exact alS h.1 h.2 c d e g
 ·intro b aET;rw[aM 238 vH];exact arj h.2
noncomputable def J5(E:cr)(K:Nat->Prop)(x:aB):Nat:=open Classical in if h:∃m:cw,K m.k/\x=E.bd m then h.choose.k else 0
theorem aiU(h:∀j k,K j->K k->E.di j=E.di k->j=k){m:cw}(c:K m.k):J5 E K (E.bd m)=m.k:=by
 unfold J5;have b:∃a:cw,K a.k/\E.bd m=E.bd a:=⟨m,c,rfl⟩;rw[dif_pos b];obtain⟨d,e⟩:=b.choose_spec;generalize b.choose=a at d e;have g:(E.bd m)[7]? =(E.bd a)[7]? :=by rw[e]
 rw[E.kk,E.kk] at g;exact(h _ _ c d (pl g)).symm
theorem azD{L:Nat}(q:E.Y=nd L)(hi:∀j k,K j->K k->E.di j=E.di k->j=k)(r:∀n,L<=n->n9 (bB bD n) E K)(c:bl λu=>Ci u E D)(d:bl λu=>uR u E 239 D)(t:z7 E K):bl λu=>w5 u E K D:=by
 have e:=aw3 (f:=237) (ρ:=⟨J5 E K,nd L⟩) rfl;have a:=aps d;have g:bl λu=>(∀{b:Nat} {aET:b1},gD (u 236 [.aE,dI 237] b aET) b aET (.a0 [])):=by
  have i:bl λu=>∀{b:Nat} {aET:b1},gD (u 335 [.aE,ao 0,ao 0,dI 237] b aET) b aET (.a0 []):=bl.jr.up λn _=>by intro b aET;rw[aM 335 vV];exact aC7
  have o:bl λu=>∀{b:Nat} {aET:b1},gD (u 284 [.aE,ao 0,dI 237] b aET) b aET (.a0 []):=i.up λn h=>by intro b aET;rw[aM 284 xM];exact aAF h
  exact o.up λn h=>by intro b aET;rw[aM 236 v9];exact alF h
 refine bl.kv L (((e.and a).and (c.and d)).and g) λn p h=>?_;obtain⟨⟨⟨e,a⟩,c,d⟩,g⟩:=h;refine⟨?_,?_⟩
 ·intro b aET ql sl ms i o w x y z B G;rw[aM 184 v4];refine agE (ρ:=⟨J5 E K,nd L⟩) (λm H=>aiU hi H) e ⟨n,p,rfl⟩ ?_ a c t i o w x y z (λl m I dB cT n2=>?_) G
  ·rintro u ⟨k,J,rfl⟩;exact r k J
  ·have:=B l m I dB cT n2;exact⟨⟨by rw[q];exact⟨n,p,rfl⟩,this.1.2⟩,this.2⟩
 ·intro b aET;rw[aM 184 v4];exact aqY g a.2
end
end
section
variable{c:Rat} {a ps:aB} {g:jq} {u:Fn} {r:an} {E:cr}
structure aeL (p q:Int):Prop where
 mem:(p,q)∈u0
def fV(c:Rat):Prop:=((c.den:Int)=1/\ -520<=c.num/\c.num<=520)\/aeL c.num c.den
theorem Pe{n:Int}(h: -520<=n/\n<=520):n∈zH:=by refine gp.2 ⟨(n+520).toNat,by simp;omega,by omega⟩
theorem auE:(u0.all λx=> !decide (x.2=1)&&(Nat.ble x.1.natAbs 700&& !decide (x.1=0)))=true:=by kernel_rfl
theorem LD{p q:Int}(h:aeL p q):q≠1/\dZ p/\p≠0:=by have b:=cB auE h.mem;simp only[cg,LH,decide_eq_false_iff_not] at b;exact⟨b.1,by have:=dp b.2.1;unfold dZ;omega,b.2.2⟩
theorem abE(h:fV c):dZ c.num:=by
 rcases h with h|h
 ·unfold dZ;omega
 ·exact(LD h).2.1
section
variable[Tok]
structure FX (u:Fn):Prop where
 yS:∀c,fV c->aK u 212 [.agg (ef c)] (.F true)
 awB:∀c,fV c->aK u 39 [.agg (ef c)] (.F true)
 one:∀c,fV c->aK u 207 [.agg (ef c),.agg (ef 1)] (.F (decide (c=1)))
 K2:∀c,fV c->aK u 65 [.agg (ef c),.agg (ef 1)] (.F (decide (c=1)))
 none:∀c,fV c->aK u 41 [.agg (ef c)] (.F (decide (c=0)))
 zero:∀c,fV c->aK u 213 [.agg (ef c)] (.F (decide (c=0)))
 int:∀n:Int,-520<=n/\n<=520->aK u 37 [ao n] (.agg (ef n))
 zh:∀n:Int,-520<=n/\n<=520->aK u 60 [ao n] (.agg (ef n))
theorem Sx(h:(c.den:Int)=1):ef c=b5 c.num 1:=by unfold ef;rw[h]
theorem KK(n:Int):ef n=b5 n 1:=rfl
theorem JF:ef 1=b5 1 1:=rfl
theorem T8:(c=1)↔(c.num=1/\(c.den:Int)=1):=by
 constructor
 ·rintro rfl;exact⟨rfl,rfl⟩
 ·intro h;apply Rat.ext
  ·exact h.1
  ·have:=h.2;show c.den=1;omega
theorem Zg(h:(c.den:Int)=1):decide (c=1)=decide (c.num=1):=r6.2 (by rw[T8];exact⟨λh=>h.1,λh'=>⟨h',h⟩⟩)
theorem ad5(h:(c.den:Int)≠1):decide (c=1)=false:=gK (by rw[T8];exactλh'=>h h'.2)
theorem S8(c:Rat):decide (c=0)=decide (c.num=0):=r6.2 Rat.num_eq_zero.symm
theorem U7(f:Nat)(L:Nat)(ps:Int->Int->aB)(r:Int->Int->an)(w:∀n,(zH.all λx=>dy (bB bD (n+L) f (ps x 1) 0 .nil) (r x 1))=true)(g:∀n,(u0.all λx=>dy (bB bD (n+L) f (ps x.1 x.2) 0 .nil) (r x.1 x.2))=true):
 bl λu=>∀c:Rat,fV c->aK u f (ps c.num c.den) (r c.num c.den):=by
 refine bl.kQ L λn=>?_;intro c b;rcases b with⟨d,e⟩|h
 ·rw[d];have:=cB (w n) (Pe e);exact eN this
 ·have:=cB (g n) h.mem;exact eN this
theorem ae5:bl λu=>∀c:Rat,fV c->aK u 212 [.agg (ef c)] (.F true):=U7 212 20 (λp q=>[.agg (b5 p q)]) (λ_ _=> .F true) aoX avQ
theorem ae2:bl λu=>∀c:Rat,fV c->aK u 39 [.agg (ef c)] (.F true):=U7 39 20 (λp q=>[.agg (b5 p q)]) (λ_ _=> .F true) avd aB8
theorem anK:bl λu=>∀c:Rat,fV c->aK u 207 [.agg (ef c),.agg (ef 1)] (.F (decide (c=1))):=by
 refine bl.kQ 20 λn=>?_;intro c e;rcases e with⟨d,i⟩|h
 ·rw[Zg d,Sx d,JF];have:=cB (at3 n) (Pe i);exact eN this
 ·rw[ad5 (LD h).1,JF];have:=cB (afc n) h.mem;exact eN this
theorem afm:bl λu=>∀c:Rat,fV c->aK u 65 [.agg (ef c),.agg (ef 1)] (.F (decide (c=1))):=by
 refine bl.kQ 20 λn=>?_;intro c e;rcases e with⟨d,i⟩|h
 ·rw[Zg d,Sx d,JF];have:=cB (aBZ n) (Pe i);exact eN this
 ·rw[ad5 (LD h).1,JF];have:=cB (anN n) h.mem;exact eN this
theorem ah6:bl λu=>∀c:Rat,fV c->aK u 41 [.agg (ef c)] (.F (decide (c=0))):=bl.jr.up λn _ c d=>by rw[S8];exact cI (aM 41 Dj n) (aEa (abE d))
theorem Tx:bl λu=>∀c:Rat,fV c->aK u 213 [.agg (ef c)] (.F (decide (c=0))):=bl.jr.up λn _ c d=>by rw[S8];exact cI (aM 213 C3 n) (Sp (abE d))
theorem avZ:bl λu=>∀n:Int,-520<=n/\n<=520->aK u 37 [ao n] (.agg (ef n)):=by have d:bl λu=>∀n:Int,-520<=n/\n<=520->aK u 101 [ao n] (bA n):=HQ.up λn h c b=>cI (aM 101 BH n) (aCn (h.itoa c (by omega)));exact(d.and NI).up λn h c b=>by rw[KK];exact cI (aM 37 FA n) (RF (h.1 c b) (h.2.int c))
theorem akK:bl λu=>∀n:Int,-520<=n/\n<=520->aK u 60 [ao n] (.agg (ef n)):=by have e:bl λu=>∀n:Int,-520<=n/\n<=520->aK u 125 [ao n] (bA n):=HQ.up λn h c b=>cI (aM 125 CT n) (amK (h.itoa c (by omega)));exact(e.and NI).up λn h c b=>by have d:=h.2.BN c 1 (.inl ⟨rfl,b⟩);rw[(vU c).1,(vU c).2,YF] at d;rw[KK];exact cI (aM 60 Fj n) (agv (h.1 c b) d)
theorem qx:bl FX:=((((ae5.and ae2).and (anK.and afm)).and (ah6.and Tx)).and (avZ.and akK)).imp λn h=>
 ⟨h.1.1.1.1,h.1.1.1.2,h.1.1.2.1,h.1.1.2.2,h.1.2.1,h.1.2.2,h.2.1,h.2.2⟩
theorem Zl(h:b8 a=true):rm [.agg a]=true:=by show @Bool.rec (λ_=>Bool) false true (b8 a)=true;rw[h]
theorem Ja{c:aB}(h:b8 a=true)(g:b8 c=true):rm [.agg a,.agg c]=true:=by show @Bool.rec (λ_=>Bool) false (rm [.agg c]) (b8 a)=true;rw[h];exact Zl g
theorem yU(i:rm ps=true)(h:∃s d,g u ps 0 .nil= .ok r 0 s d)(b:Nat)(aET:b1):me g u ps b aET= .ok r b aET []:=by obtain⟨s,d,e⟩:=h;have j:me g u ps b aET=bf (rm ps) (@aw.rec (λ_=>aw) .ax (λr ub _ _=>bf (Nat.beq ub 0) (.ok r b aET []) .ax) (g u ps 0 .nil)) .ax:=rfl;rw[j,e,i];rfl
theorem Xi{b ub:Nat}{aET i:b1}{j:List Nat}(h:me g u ps b aET= .ok r ub i j):rm ps=true/\ub=b/\i=aET/\j=[]/\∃s d,g u ps 0 .nil= .ok r 0 s d:=by
 have l:me g u ps b aET=bf (rm ps) (@aw.rec (λ_=>aw) .ax (λr ub _ _=>bf (Nat.beq ub 0) (.ok r b aET []) .ax) (g u ps 0 .nil)) .ax:=rfl;rw[l] at h;obtain⟨n,e⟩:=jt h;cases k:g u ps 0 .nil with
 |ax=>rw[k] at e;cases e
 |ok o p q d'=>rw[k] at e;obtain⟨t,w⟩:=jt (show bf (Nat.beq p 0) (aw.ok o b aET []) .ax= .ok r ub i j from e);cases w;exact⟨n,rfl,rfl,rfl,q,d',by rw[gz t]⟩
theorem aiT(h:∃s d,me g u ps 0 .nil= .ok r 0 s d)(b:Nat)(aET:b1):me g u ps b aET= .ok r b aET []:=by obtain⟨s,d,e⟩:=h;obtain⟨i,_,_,_,j⟩:=Xi e;exact yU i j b aET
theorem axd(d:∀c,E.num c=ef c):bl λu=>uR u E 239 fV:=Tx.up λn h m e ub aET=>by have b:=h m.U e;rw[<-d] at b;rw[aM 239 (me Fb)];exact yU (Zl (E.gw m)) (apC b) ub aET
theorem aB9(b:∀c,E.num c=ef c):bl λu=>Ci u E fV:=qx.imp λn h c d _=>by rw[b];exact h.yS c d
theorem arq(b:∀c,E.num c=ef c):bl λu=>Pk u E fV:=qx.imp λn h c d=>by rw[b];exact h.awB c d
theorem Gd(b:∀c,E.num c=ef c):bl λu=>yX u E fV:=qx.imp λn h c d=>by rw[b];exact h.none c d
end
end
section
variable{i j k L n:Nat}
section
variable[Tok]
def oN:aB->Nat
 |[_,_,.s 1 m,_,_,_,_,_,_,_,.aE]=>m-0x78
 |[_,_,.s 3 _,_,_,_,_,_,_,_,.aQ _ [[_,_,.s _ m,_,_,_,_,_,_,_,_]]]=>m-0x78+3
 |[_,_,.s 4 _,_,_,_,_,_,_,_,.aQ _ [[_,_,.s _ m,_,_,_,_,_,_,_,_]]]=>m-0x78+6
 |_=>0
theorem xr(h:i<9:=by omega):oN (ec i)=i:=by
 have:i=0\/i=1\/i=2\/i=3\/i=4\/i=5\/i=6\/i=7\/i=8:=by omega
 rcases this with rfl|rfl|rfl|rfl|rfl|rfl|rfl|rfl|rfl<;>rfl
def qe(x y:aB):Int:=e4 (oN x) (oN y)
theorem Dl(x y:aB): -100<qe x y/\qe x y<100:=by have:=xo (oN x) (oN y);unfold qe;omega
theorem Bj(hi:i<9:=by omega)(a:j<9:=by omega):qe (ec i) (ec j)=e4 i j:=by unfold qe;rw[xr hi,xr a]
theorem D8:fb 0=[]:=rfl
theorem n4(h:0<k/\k<10):fb k=[ec (k-1)]:=by unfold fb;rw[cz,fS]
theorem vp(h:10<=k):fb k=[ec ((k-10)/9),ec ((k-10) %9)]:=by unfold fb;rw[cz,cz]
theorem wh(c:fT k){t:aB}(b:t∈fb k):∃a,a<9/\t=ec a:=by
 rcases ku k with rfl|h
 ·rw[D8] at b;cases b
 ·by_cases d:k<10
  ·rw[n4 ⟨h,d⟩] at b;simp at b;exact⟨k-1,by omega,b⟩
  ·rw[vp (by omega)] at b;simp at b;unfold fT at c;rcases b with b|b
   ·exact⟨_,by omega,b⟩
   ·exact⟨_,by omega,b⟩
theorem IF(hi:fT i)(c:fT j):(jd qe (fb i) (fb j)<0↔i<j)/\(jd qe (fb i) (fb j)=0↔i=j):=by
 have b:∀{k},k=0->fb k=[]:=by rintro k rfl;rfl
 have c1:∀{k},k=0\/(0<k/\k<10)\/10<=k:=by omega
 unfold fT at hi c;rcases c1 (k:=i) with a|a|a<;>rcases c1 (k:=j) with d|d|d
 ·rw[b a,b d];simp[jd,ja];omega
 ·rw[b a,n4 d];simp[jd];omega
 ·rw[b a,vp d];simp[jd];omega
 ·rw[n4 a,b d];simp[jd];omega
 ·rw[n4 a,n4 d];simp only[jd,h9,kT,As,g8,ja];rw[Bj];unfold e4;split
  ·simp;omega
  ·split
   ·simp;omega
   ·simp;omega
 ·rw[n4 a,vp d];simp[jd];omega
 ·rw[vp a,b d];simp[jd];omega
 ·rw[vp a,n4 d];simp[jd];omega
 ·rw[vp a,vp d];simp only[jd,h9,kT,As,g8,ja];rw[Bj,Bj];unfold e4;split
  ·split at* <;>(try split at*)<;>simp<;>omega
  ·split at* <;>(try split at*)<;>(try split at*)<;>(try simp at*)<;>(try simp)<;>omega
structure vm (u:Fn):Prop where
 mP:∀i j,i<9->j<9->∀b aET,u 183 [.agg (ec i),.agg (ec j)] b aET= .ok (ao (e4 i j)) b aET []
 Bt:∀i j,i<9->j<9->aK u 188 [.agg (ec i),.agg (ec j)] (ao (e4 i j))
 yS:∀i,i<9->aK u 199 [.agg (ec i)] (.F true)
 fN:∀i j,i<10->j<10->aK u 124 [atR i,atR j] (atR (fW i j))
theorem zB:bl vm:=bl.kQ 40 λn=>by
 refine⟨λi j hi a b aET=>?_,λi j hi a=>?_,λi hi=>?_,λi j hi a=>?_⟩
 ·have h:=eN (cB (cB (aCy n) (mem_range hi)) (mem_range a));rw[aM 183 (me xx)] at h ⊢;exact aiT h b aET
 ·have h:=cB (cB (asp n) (mem_range hi)) (mem_range a);exact eN h
 ·have h:=cB (aBV n) (mem_range hi);exact eN h
 ·have h:=cB (cB (aAS n) (mem_range hi)) (mem_range a);exact eN h
theorem vu(a:Fn->Prop)(k:Nat):dw 11 ((mi a).di k) (fb k):=by
 rcases ru k with⟨e,h⟩|⟨e,h⟩
 ·exact .inl ⟨e,h⟩
 ·exact .inr e
theorem ays:∃L,∀e n,L<=n->n9 (bB bD n) (mi e) fT/\py (bB bD n) (mi e) fT:=by
 have B:bl λu=>∀e (x y:cw),fT x.k->fT y.k->(fb x.k).length=(fb y.k).length->aK u 285 [(mi e).di x.k,(mi e).di y.k,dI 183] (ao (ja qe (fb x.k) (fb y.k))):=zB.up λn h e x y g l w=>
  cI (aM 285 uZ n) (Up (vu e x.k) (vu e y.k) w (by have:=oD x.k;omega) λi p q z A=>by obtain⟨a,o,rfl⟩:=wh g (dr z);obtain⟨d,r,rfl⟩:=wh l (dr A);refine⟨rM _,rM _,Dl _ _,λb aET=>?_⟩;rw[Bj o r];exact h.mP a d o r b aET)
 have C:bl λu=>∀e,n9 u (mi e) fT/\py u (mi e) fT:=(B.and zB).up λn h e=>by
  refine⟨λx y g l _=>?_,λx y g l _=>?_⟩
  ·have D:=Bl (c:=qe) Dl (fb x.k) (fb y.k);have t:=IF g l;refine⟨jd qe (fb x.k) (fb y.k),by unfold jd;split<;>(try split)<;>omega,t.1,t.2,λub aET=>?_⟩;rw[aM 237 (me vO)];exact yU (Ja (cr.gw _ _) (cr.gw _ _)) (TS (vu e x.k) (vu e y.k) (by have:=oD x.k;omega) (by have:=oD y.k;omega) Dl λw=>h.1 e x y g l w) ub aET
  ·have D:=Bl (c:=qe) Dl (fb x.k) (fb y.k);have t:=IF g l;refine⟨jd qe (fb x.k) (fb y.k),by unfold jd;split<;>(try split)<;>omega,t.1,t.2,?_⟩;exact cI (aM 176 tW n) (SU (E:=mi e) (ru x.k) (ru y.k) (by have:=oD x.k;omega) (by have:=oD y.k;omega) λi p q z A=>by obtain⟨a,o,rfl⟩:=wh g (dr z);obtain⟨d,r,rfl⟩:=wh l (dr A);refine⟨rM _,rM _,Dl _ _,?_⟩;rw[Bj o r];exact h.2.Bt a d o r)
 obtain⟨L,h⟩:=C;exact⟨L,λe n G=>h n G e⟩
theorem axo(a:Fn->Prop):z7 (mi a) fT:=λk _=>⟨(fb k).length,by have:=oD k;omega,(vu a k).len⟩
theorem aoF(a:Fn->Prop):(mi a).AF 0:=⟨λc=>rfl,rfl⟩
theorem asa(e:Fn->Prop){u:Fn}(h:vm u):∀k,fT k->IX u (mi e) k:=by
 intro k c;refine⟨fb k,vu e k,by have:=oD k;omega,λt b=>?_,λt b=>?_,λi s t d b=>?_⟩
 ·exact A1 k t b
 ·obtain⟨a,g,rfl⟩:=wh c b;exact h.yS a g
 ·have hi:i+1<(fb k).length:=(e6.1 b).1;have q:=oD k;have l:10<=k:=by
   rcases kW k 10 with c|c
   ·rcases ku k with rfl|o
    ·rw[D8] at hi;simp at hi
    ·rw[n4 ⟨o,c⟩] at hi;simp at hi
   ·exact c
  have p:i=0:=by omega
  subst p;rw[vp l] at d b;simp at d b;subst d;subst b;unfold fT at c;have c:k<91/\(k-10)/9<=(k-10) %9:=by omega
  refine⟨e4 (((k-10)/9:Nat):Int) (((k-10) %9:Nat):Int),?_,?_,h.Bt _ _ (by omega) (by omega)⟩
  ·have:=xo (((k-10)/9:Nat):Int) (((k-10) %9:Nat):Int);omega
  ·unfold e4;split<;>(try split)<;>omega
def w8(a:Fn->Prop):jS:=⟨oN,a⟩
theorem aCU(h:∀n,L<=n->vm (bB bD n))(l:L<=n){es:aY}(e:∀t∈es,∃a,a<9/\t=ec a):iq (bB bD n) 183 (w8 (nd L)) es:=by
 refine⟨⟨n,l,rfl⟩,?_⟩;rintro u ⟨m,o,rfl⟩;have g:∀a d,a<9->d<9->yP (bB bD m) 183 (w8 (nd L)) (ec a) (ec d):=λa d b c=>by
  have p:(w8 (nd L)).ai (ec a)=a:=xr b;have q:(w8 (nd L)).ai (ec d)=d:=xr c;unfold yP;rw[p,q];refine⟨e4 a d,by have:=xo a d;omega,?_,?_,(h m o).mP a d b c⟩
  ·unfold e4;split<;>(try split)<;>omega
  ·unfold e4;split<;>(try split)<;>omega
 rw[zJ];intro i j hi w _;obtain⟨a,b,x⟩:=e _ (CY hi);obtain⟨d,c,y⟩:=e _ (CY w);rw[x,y];exact⟨g a d b c,g d a c b⟩
theorem ax4:∀j k,fT j->fT k->atR j=atR k->j=k:=by
 intro j k l c h;have o:∀{j k:Nat},atR j=atR k->fb j=fb k:=λ{j k} h=>by
  rcases ru j with⟨a,d⟩|⟨a,d⟩<;>rcases ru k with⟨b,e⟩|⟨b,e⟩
  ·rw[d,e]
  ·rw[a,b] at h;cases h
  ·rw[a,b] at h;cases h
  ·rw[a,b] at h;simpa using h
 have g:=IF l c;rw[o h] at g;have p:=(IF c c).2.2 rfl;exact g.2.1 p
theorem TX(h:∀n,L<=n->vm (bB bD n))(p:L<=n)(d:Fn->Prop){l:Nat}(b:k<10)(c:l<10):EH (bB bD n) (mi d) (w8 (nd L)) fW k l/\F4 (bB bD n) (mi d) fW k l/\fT (fW k l):=by
 have q:fT k:= .inl b;have r:fT l:= .inl c;refine⟨⟨fb k,fb l,vu d k,vu d l,?_,?_,?_,?_,?_⟩,(h n p).fN k l b c,?_⟩
 ·have:=oD k;have:=oD l;omega
 ·intro t a;rcases fr.1 a with a|a
  ·exact A1 k t a
  ·exact A1 l t a
 ·exact aCU h p λt a=>by
   rcases fr.1 a with a|a
   ·exact wh q a
   ·exact wh r a
 ·intro e;rw[List.append_eq_nil_iff] at e;have u:k=0:=by
   rcases ku k with h|h
   ·exact h
   ·rw[n4 ⟨h,b⟩] at e;simp at e
  have w:l=0:=by
   rcases ku l with h|h
   ·exact h
   ·rw[n4 ⟨h,c⟩] at e;simp at e
  subst u;subst w;rfl
 ·intro e;have one:∀x:aB,jx oN 0 ([x].length-1) 1 [x]=[x]:=λx=>rfl;show atR (fW k l)=_;rcases ku k with rfl|o
  ·rcases ku l with rfl|g
   ·simp[D8] at e
   ·rw[D8,n4 ⟨g,c⟩,kP];show _=an.aQ 11 (jx oN 0 ([ec (l-1)].length-1) 1 [ec (l-1)]);rw[one,show fW 0 l=l from rfl];unfold atR;rw[cz,fS]
  ·rcases ku l with rfl|g
   ·rw[D8,n4 ⟨o,b⟩,nj];show _=an.aQ 11 (jx oN 0 ([ec (k-1)].length-1) 1 [ec (k-1)]);rw[one,show fW k 0=k by unfold fW;rw[if_neg (by omega),if_pos rfl]];unfold atR;rw[cz,fS]
   ·rw[n4 ⟨o,b⟩,n4 ⟨g,c⟩];have y:jx oN 0 (([ec (k-1)]++[ec (l-1)]).length-1) 1 ([ec (k-1)]++[ec (l-1)])=if l-1<k-1 then[ec (l-1),ec (k-1)] else[ec (k-1),ec (l-1)]:=by show(if oN (ec (l-1))<oN (ec (k-1)) then[ec (l-1),ec (k-1)] else[ec (k-1),ec (l-1)])=_;rw[xr,xr]
    show _=an.aQ 11 (jx oN 0 (([ec (k-1)]++[ec (l-1)]).length-1) 1 ([ec (k-1)]++[ec (l-1)]));rw[y];have z:fW k l=10+9*(min k l-1)+(max k l-1):=by unfold fW;rw[cz,cz]
    rw[z];unfold atR;rw[cz,cz];split
    ·rename_i A;rw[show min k l=l by omega,show max k l=k by omega];congr 3
     ·congr 1;omega
     ·congr 2;omega
    ·rename_i A;rw[show min k l=k by omega,show max k l=l by omega];congr 3
     ·congr 1;omega
     ·congr 2;omega
 ·unfold fW fT;rcases ku k with rfl|o
  ·rw[cv rfl];omega
  ·rcases ku l with rfl|g
   ·rw[cz,cv rfl];omega
   ·rw[cz,cz];omega
end
end
section
variable{m:cw} {s:Nat->Prop} {c d:Rat} {n:Nat}
def fa(L:bE)(k:Nat):bE:=L.filter λm=>decide (m.k=k)
theorem E3(a c:bE)(k:Nat):fa (a++c) k=fa a k++fa c k:=List.filter_append ..
theorem AT:∀(L:bE) (k:Nat),cx (fa L k) k=cx L k
 |[],_=>rfl
 |m::r,k=>by
  by_cases h:m.k=k
  ·have e:fa (m::r) k=m::fa r k:=by unfold fa;rw[List.filter_cons_of_pos (by simpa using h)]
   rw[e];simp only[cx,AT r]
  ·have e:fa (m::r) k=fa r k:=by unfold fa;rw[List.filter_cons_of_neg (by simpa using h)]
   rw[e];simp only[cx,AT r,cU h,nV]
theorem Fx{r:bE}:fa (m::r) m.k=m::fa r m.k:=by unfold fa;rw[List.filter_cons_of_pos (by simp)]
theorem awZ{l:bE}{k:Nat}(h:∀x∈l,x.k=k):fa l k=l:=by unfold fa;rw[List.filter_eq_self];intro x a;simpa using h x a
def Dq(s:Nat->Prop)(L:bE):Prop:=∀k,fa L k=[]\/(∃x,fa L k=[x])\/∃x y,fa L k=[x,y]/\kj x.U y.U=true/\kj y.U x.U=true/\s k
theorem Mr{L:bE}(j:Dq s L):∀l m b,(l++m::b).Perm L->l≠[]->(∀x∈l,x.k=m.k)->kj (lN l) m.U=true/\s m.k:=by
 intro l m b k g o;have a:(fa (l++m::b) m.k).Perm (fa L m.k):=k.filter _;rw[E3,awZ o,Fx] at a;rcases j m.k with e|⟨x,e⟩|⟨x,y,e,s1,s2,s3⟩
 ·rw[e] at a;have:=a.length_eq;simp at this
 ·rw[e] at a;have:=a.length_eq;simp at this;exact absurd (n7.1 (by omega)) g
 ·rw[e] at a;have p:=a.length_eq;have u:0<l.length:=rH.2 g;simp at p;have q:fa b m.k=[]:=n7.1 (by omega);obtain⟨z,rfl⟩:∃z,l=[z]:=List.length_eq_one_iff.1 (by omega);rw[q] at a;have r:lN [z]=z.U:=by simp[lN,jb]
  rw[r];have h:z∈[x,y]:=a.mem_iff.1 (by simp);have i:([z,m]:bE).Perm [x,y]:=a;simp at h;rcases h with rfl|rfl
  ·have:=(List.perm_cons z).1 i;have:=List.perm_singleton.1 this;simp at this;rw[this];exact⟨s1,this▸s3⟩
  ·have t:([z,m]:bE).Perm [z,x]:=i.trans (List.Perm.swap _ _ _);have:=(List.perm_cons z).1 t;have:=List.perm_singleton.1 this;simp at this;rw[this];exact⟨s2,this▸s3⟩
theorem Z3{L:bE}(j:Dq s L)(l:∀k,fV (cx L k)){P post:bE}(o:L=P++m::post)(p:cx P m.k≠0):kj (cx P m.k) m.U=true/\fV (cx P m.k+m.U)/\s m.k:=by
 have a:fa L m.k=fa P m.k++m::fa post m.k:=by rw[o,E3,Fx]
 have b:=AT P m.k;cases g:fa P m.k with
 |nil=>rw[g] at b;exact absurd b.symm p
 |cons x r=>
  rw[g] at a;rcases j m.k with e|⟨y,e⟩|⟨y,z,e,s1,s2,s3⟩
  ·rw[e] at a;simp at a
  ·rw[e] at a;have:=dt List.length a;simp at this
  ·rw[e] at a;have q:=dt List.length a;simp at q;have t:r=[]:=n7.1 (by omega);have u:fa post m.k=[]:=n7.1 (by omega);subst t;rw[u] at a;simp at a;obtain⟨rfl,rfl⟩:=a;have i:y.k=z.k:=by
    have:y∈fa P z.k:=by rw[g];simp
    unfold fa at this;simpa using(ux.1 this).2
   rw[g] at b;simp only[cx,cv i,jb] at b;have h:=l z.k;rw[<-AT,e] at h;simp only[cx,cv i,fP,jb] at h;rw[<-b];exact⟨s1,h,s3⟩
section
variable[Tok]
structure kI (E:cr) (K:Nat->Prop) (L:Nat):Prop where
 num:∀c,E.num c=ef c
 Y:E.Y=nd L
 len:z7 E K
 mP:∀n,L<=n->n9 (bB bD n) E K/\py (bB bD n) E K
 Oy:bl λY=>∀k,K k->IX Y E k
 Au:∀n,L<=n->CD (bB bD n)
 has:E.AF 0
 inj:∀j k,K j->K k->E.di j=E.di k->j=k
 er:K 0
section
variable{E:cr} {K:Nat->Prop} {L:Nat} (H:kI E K L)
include H
theorem kI.Gp(h:kj c d=true)(b:L<=n):rd (bB bD n) E c d/\D7 (bB bD n) E c d:=by
 refine⟨⟨by rw[H.Y];exact⟨n,b,rfl⟩,?_⟩,by rw[H.Y];exact⟨n,b,rfl⟩,?_⟩
 ·rw[H.Y];rintro u ⟨m,a,rfl⟩;rw[H.num,H.num,H.num];exact(H.Au m a).sum c d h
 ·rw[H.Y];rintro u ⟨m,a,rfl⟩;rw[H.num,H.num,H.num];exact(H.Au m a).awv c d h
theorem kI.H6(h:l9 c d=true)(a:L<=n):uA (bB bD n) E c d/\xY (bB bD n) E c d:=by unfold uA xY;rw[H.num,H.num,H.num];exact⟨(H.Au n a).aw5 c d h,(H.Au n a).atp c d h⟩
theorem kI.Jw:bl λu=>w5 u E K fV:=azD H.Y H.inj (λn a=>(H.mP n a).1) (aB9 H.num) (axd H.num) H.len
theorem kI.ZD:bl λu=>z3 u E K fV:=bl.kv L (Gd H.num) λn b h=>by
 intro p ps m e g i j k l;obtain⟨v,o,q⟩:=amR (H.mP n b).2 h e g i j k λr t w x=>by obtain⟨⟨_,a⟩,c,d⟩:=l r t w x;exact⟨⟨by rw[H.Y];exact⟨n,b,rfl⟩,a⟩,c,d⟩
 exact⟨v,o,cI (aM 111 En n) q⟩
theorem kI.Cg:bl λu=>GS u E K fV:=by
 have a:bl λu=>∀(v:an) (r:bE),cA E v r->g7 r->(∀m∈r,K m.k/\fV m.U)->r.length<=60->aK u 175 [v] (.F true):=
  bl.kv L (((Gd H.num).and (arq H.num)).and H.Oy) λn e h v r g i j k=>cI (aM 175 Ej n) (abd (H.mP n e).2 h.1.1 h.1.2 h.2 g i j k)
 exact a.up λn h=>by intro v r a l o p;exact cI (aM 110 Cr n) (auA a (h v r a l o p))
structure nv (E:cr) (K:Nat->Prop) (ps qs:bE):Prop where
 g9:g7 ps
 len:ps.length+qs.length<=39
 iy:∀m∈ps,K m.k
 lF:∀m∈qs,K m.k
 ahT:∀m∈qs,fV m.U
 zx:Dq E.s (ps++qs)
 ad:∀k,fV (cx (ps++qs) k)
theorem kI.add:bl λu=>∀(p q:an) (ps b:bE),cA E p ps->cA E q b->nv E K ps b->fy u 156 E [p,q] (ei (ps++b))/\fy u 44 E [p,q] (ei (ps++b)):=
 bl.kv L ((H.Jw.and aEw).and (H.ZD.and H.Cg)) λn j h p q ps b o t a=>by
  obtain⟨⟨y,z⟩,A,B⟩:=h;refine⟨?_,?_⟩
  ·obtain⟨v,r,g,i,C,J,M,D⟩:=awP z y o t a.len a.iy a.lF (λl m w dB cT n2=>⟨(H.Gp (Mr a.zx l m w dB cT n2).1 j).1,(Mr a.zx l m w dB cT n2).2⟩) a.ad;rw[AD i C] at g;exact⟨v,g,cI (aM 156 CV n) D⟩
  ·have G:wr (bB bD n) E fV ps b:=by
    intro pre m post e;refine⟨a.ahT m (by rw[e];simp),λx _=>?_⟩;have I:ps++b=(ps++pre)++m::post:=by rw[e];simp
    rw[<-qp] at x ⊢;obtain⟨dB,cT,n2⟩:=Z3 a.zx a.ad I x;exact⟨(H.Gp dB j).2,cT,n2⟩
   obtain⟨v,g,i⟩:=awm A B o t (by have:=a.len;omega) a.iy a.lF a.g9 G a.ad;rw[AD (wE b a.g9) (l:=ps++b) λk=>by rw[yp,qp]] at g;exact⟨v,g,cI (aM 44 Em n) i⟩
def hB(ps:bE):bE:=ps.map λm=>⟨m.k,m.U*(-1)⟩
structure nB (K:Nat->Prop) (ps:bE):Prop where
 g9:g7 ps
 len:ps.length<=39
 iy:∀m∈ps,K m.k
 mp:∀m∈ps,l9 m.U (-1)=true
 ad:∀m∈ps,fV (m.U*(-1))
omit H in
theorem aey:fV 0:= .inl ⟨rfl,by decide,by decide⟩
omit H in
theorem aCx:fV (-1):= .inl ⟨rfl,by decide,by decide⟩
omit H in
theorem ajH{ps:bE}(h:g7 ps)(g:∀m∈ps,fV (m.U*c))(k:Nat):fV (cx ps k*c):=by
 by_cases b:∃m∈ps,m.k=k
 ·obtain⟨m,a,rfl⟩:=b;rw[m7 h.g0 a];exact g m a
 ·rw[Dm λm a e=>b ⟨m,a,e⟩,xW];exact aey
theorem kI.neg:bl λu=>∀(p:an) (ps:bE),cA E p ps->nB K ps->fy u 155 E [p,.agg (E.num (-1))] (hB ps)/\fy u 43 E [p,.agg (E.num (-1))] (hB ps):=
 bl.kv L (H.Jw.and ((Gd H.num).and H.Cg)) λn g h p ps i a=>by
  obtain⟨l,o,q⟩:=h;obtain⟨w,t,x,ew⟩:=arW o q i (by have:=a.len;omega) a.g9 a.iy (λm b=>(H.H6 (a.mp m b) g).2) (by decide) aCx a.ad;refine⟨?_,w,t,cI (aM 43 Do n) ew⟩;obtain⟨v,r,j,y,z,B,C,A⟩:=anG l i a.len a.iy (λm b=>(H.H6 (a.mp m b) g).1) a.g9.g0 (ajH a.g9 a.ad);have e:r=hB ps:=M7 y x λk=>by rw[z];exact(VL _ _ _).symm
  rw[e] at j;exact⟨v,j,cI (aM 155 C0 n) A⟩
theorem kI.const:bl λu=>∀c:Rat,fV c->fy u 204 E [.agg (E.num c)] (ei [⟨0,c⟩])/\fy u 222 E [.agg (E.num c)] (ei [⟨0,c⟩]):=
 (H.Jw.and ((Gd H.num).and H.Cg)).up λn h c g=>by
  obtain⟨p,j,q⟩:=h;refine⟨?_,?_⟩
  ·obtain⟨v,r,t⟩:=ate H.has p (c:=c) H.er λk=>by
    simp only[cx,jb];split
    ·exact g
    ·exact aey
   exact⟨v,r,cI (aM 204 BA n) t⟩
  ·by_cases i:c=0
   ·subst i;have a:=j 0 g;rw[dm rfl] at a;have e:ei [⟨0,0⟩]=[]:=by simp[ei,hU,mZ]
    rw[e];exact⟨.aE,.inl ⟨rfl,rfl⟩,cI (aM 222 vP n) (aiH (E.len 0) (E.eU 0) a)⟩
   ·have a:=j c g;rw[gK i] at a;have l:g7 [⟨0,c⟩]:=⟨vC _ _,λm b=>by simp at b;rw[b];exact i⟩;have o:cA E (.aQ 8 [E.bd ⟨0,c⟩]) [⟨0,c⟩]:= .inr rfl;have w:=q o l (λm b=>by simp at b;rw[b];exact⟨H.er,g⟩) (by simp);rw[Yv l];exact⟨_,o,cI (aM 222 vP n) (atd H.has a w)⟩
end
end
end
section
variable[Tok]
theorem adM:∃L,∀n,L<=n->CD (bB bD n)/\FX (bB bD n)/\vm (bB bD n)/\∀a,n9 (bB bD n) (mi a) fT/\py (bB bD n) (mi a) fT:=by obtain⟨m3,b⟩:=(ajh.and qx).and zB;obtain⟨c,d⟩:=ays;exact⟨m3+c,λn e=>⟨(b n (by omega)).1.1,(b n (by omega)).1.2,(b n (by omega)).2,λa=>d a n (by omega)⟩⟩
noncomputable def nk:Nat:=adM.choose
theorem kK{n:Nat}(h:nk<=n):CD (bB bD n)/\FX (bB bD n)/\vm (bB bD n)/\∀a,n9 (bB bD n) (mi a) fT/\py (bB bD n) (mi a) fT:=adM.choose_spec n h
theorem awg:bl λu=>CD u/\FX u/\vm u:=⟨nk,λn a=>⟨(kK a).1,(kK a).2.1,(kK a).2.2.1⟩⟩
noncomputable def dk:cr:=mi (nd nk)
theorem k8:kI dk fT nk where
 num:=λc=>rfl
 Y:=rfl
 len:=axo _
 mP:=λn a=>(kK a).2.2.2 _
 Oy:=awg.imp λn h=>asa _ h.2.2
 Au:=λn a=>(kK a).1
 has:=aoF _
 inj:=ax4
 er:= .inl (by omega)
structure Mo (ps qs:bE):Prop where
 ft:ps.length<=6
 FM:qs.length<=6
 iy:∀m∈ps,m.k<10
 lF:∀m∈qs,m.k<10
 mul:∀x∈ps,∀y∈qs,l9 x.U y.U=true/\fV (x.U*y.U)
 zx:Dq (λ_=>True) (eK fW ps qs)
 ad:∀k,fV (cx (eK fW ps qs) k)
theorem Qh(f:Nat->Nat->Nat):∀(ps a:bE),(eK f ps a).length=ps.length*a.length
 |[],a=>by simp[eK]
 |x::r,a=>by
  have b:=Qh f r a;have e:eK f (x::r) a=(a.map λy=>⟨f x.k y.k,x.U*y.U⟩)++eK f r a:=by simp[eK]
  rw[e,lh,b,dS,h9,Nat.succ_mul,IY]
theorem KD{f:Nat->Nat->Nat}{ps a:bE}{m:cw}(h:m∈eK f ps a):∃x∈ps,∃y∈a,m=⟨f x.k y.k,x.U*y.U⟩:=by unfold eK at h;obtain⟨x,b,h⟩:=nG.1 h;obtain⟨y,c,h⟩:=gp.1 h;exact⟨x,b,y,c,h.symm⟩
theorem Kg:bl λu=>∀(p q:an) (ps d:bE),cA dk p ps->cA dk q d->Mo ps d->fy u 118 dk [p,q] (ei (eK fW ps d))/\fy u 58 dk [p,q] (ei (eK fW ps d)):=by
 have k:=ak2 (f:=183) (ρ:=w8 (nd nk)) (L:=nk) rfl;refine bl.kv nk (((k8.Jw.and ams).and (k.and (avW (f:=183)))).and (k8.ZD.and k8.Cg)) λn g h p q ps d w z a=>?_;obtain⟨⟨⟨B,C⟩,k,D⟩,E,G⟩:=h;have i:=λ(x:cw) (b:x∈ps) (y:cw) (c:y∈d)=>TX (L:=nk) (λn g=>(kK g).2.2.1) g (nd nk) (a.iy x b) (a.lF y c);have N:ps.length*d.length<=36:=s5 a.ft a.FM;have H:∀m∈eK fW ps d,fT m.k:=λm o=>by obtain⟨x,b,y,c,rfl⟩:=KD o;exact(i x b y c).2.2
 refine⟨?_,?_⟩
 ·obtain⟨v,r,j,t,I,O,P,J⟩:=aiQ (ρ:=w8 (nd nk)) B C k D w z (by omega) (by have:=a.ft;omega) (by have:=a.FM;omega)
   (λx b y c=>⟨(i x b y c).1,(k8.H6 (a.mul x b y c).1 g).1,(i x b y c).2.2⟩)
   (λl m K dB cT n2=>⟨(k8.Gp (Mr a.zx l m K dB cT n2).1 g).1,trivial⟩) a.ad
  rw[AD t I] at j;exact⟨v,j,cI (aM 118 w1 n) J⟩
 ·have M:wr (bB bD n) dk fV [] (eK fW ps d):=by
   intro pre m post e;have o:m∈eK fW ps d:=by rw[e];simp
   refine⟨?_,λA _=>?_⟩
   ·obtain⟨x,b,y,c,rfl⟩:=KD o;exact(a.mul x b y c).2
   ·rw[<-qp,kP] at A ⊢;obtain⟨dB,cT,_⟩:=Z3 a.zx a.ad e A;exact⟨(k8.Gp dB g).2,cT,trivial⟩
  obtain⟨v,j,t⟩:=aju E G w z (by have:=a.ft;omega) (by have:=a.FM;omega) (by rw[Qh];omega) H M
   (λx b y c=>⟨(i x b y c).2.1,(k8.H6 (a.mul x b y c).1 g).2⟩) a.ad
  exact⟨v,j,cI (aM 58 CH n) t⟩
end
end Go.Hf

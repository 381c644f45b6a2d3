import Derived.Test.YthiipifjdfmblaaGreatDoorAo
import Derived.Test.YthiipifjdfmblaaGreatDoorAg
import Derived.Test.YthiipifjdfmblaaGreatDoorAp
import Derived.KernelRfl
import Derived.Test.YthiipifjdfmblaaGreatDoorAa
import Derived.Shelf.Strings.Builder1
import Derived.Shelf.Small.Strs
import Derived.Shelf.Strconv.Itoa0
import Derived.Shelf.Strconv.Itoa1
import Derived.Shelf.LaysM
import Derived.Shelf.Strconv.Itoa2
import Derived.Shelf.Strconv.Itoa3
import Derived.Shelf.Strconv.Itoa4
import Derived.Shelf.Strconv.ParseIntEmpty
import Derived.Shelf.Strconv.Clone
import Derived.Shelf.Strconv.SyntaxError
import Derived.Shelf.LaysC
import Derived.Shelf.Strconv.ToError
import Derived.Shelf.Strconv.Lower
import Derived.Shelf.Strconv.ParseUint10
import Derived.Shelf.Strconv.ParseUint10Empty
import Derived.Shelf.Strconv.ParseUint10Any
import Derived.Shelf.Strconv.ParseInt10
import Derived.Shelf.Strconv.RangeError
import Derived.Shelf.Strconv.ToErrorRange
import Derived.Shelf.Strconv.ParseUintEmpty
import Derived.Shelf.Strconv.ParseUint10b64
import Derived.Shelf.Strconv.ParseUint10b32
import Derived.Shelf.Strconv.ParseUint10b16
import Derived.Shelf.Strconv.ParseUint10b8
import Derived.Shelf.Strconv.ParseUint10At
import Derived.Shelf.Strconv.ParseInt10At64
import Derived.Shelf.Strconv.ParseInt10At32
import Derived.Shelf.Strconv.ParseInt10At16
import Derived.Shelf.Strconv.ParseInt10At8
import Derived.Shelf.Strconv.ParseInt10All
import Derived.Shelf.Strconv.ParseIntPublic10
import Derived.Ground.MpProg
import Derived.Shelf.Pu.ParseUintPublic10
import Derived.Shelf.Strings.Prefix
import Derived.Ground.Names2Prog
import Derived.Shelf.Slices.SearchI
import Derived.Test.YthiipifjdfmblaaGreatDoorProg
import Derived.Test.YthiipifjdfmblaaGreatDoorRows
import Derived.Test.YthiipifjdfmblaaGreatDoorAm
set_option linter.all false
set_option maxRecDepth 100000
namespace Go.Hf
open Go.RowKit
section
variable{PT PP:Nat->Nat->Prop} {x y p q n:Int}
section
variable[Tok] {u:Fn} {b:Nat}
def Ub:Nat->Nat->aY
 |0,_=>[]
 |f+1,n=>if n=0 then[] else[ao (n%10:Nat)]::Ub f (n/10)
def qi(n:Nat):an:= .aQ 1 (Ub 8 n)
def fU(n:Nat):an:=match n with
 |0=> .aE
 |n=>qi n
theorem pm(n:Nat)(ob:ej)(f:jm):aD ob (fU n) f=f (fU n) []:=by cases n<;>rfl
theorem aBh(n:Nat)(ob:ej)(f:jm):aD ob (qi n) f=f (qi n) []:=rfl
theorem VF(n:Nat):qi n≠ .undef:=by simp[qi]
def a8(d:Bool)(m:Nat):Int:=if d then-(m:Int) else m
def rc(a c:Nat):an:=match a with
 |0=> .aE
 |_=>qi (a-c)
theorem aai(a c:Nat)(ob:ej)(f:jm):aD ob (rc a c) f=f (rc a c) []:=by cases a<;>rfl
structure IE (u:Fn) (PT PP:Nat->Nat->Prop):Prop where
 CA:∀n,dZ n->aK u 179 [bA n] (.a0 [.F (decide (n<0)),fU n.natAbs])
 DI:∀neg m,m<=700->aK u 180 [.F neg,qi m] (bA (a8 neg m))
 Nf:∀neg,aK u 180 [.F neg,.aE] (bA 0)
 Xs:∀a c,PT a c->aK u 223 [fU a,fU c] (qi (a*c))
 Ru:∀a c,PP a c->aK u 278 [fU a,fU c] (fU (a+c))
 Wl:∀a c,PP a c->aK u 276 [fU a,fU c] (ao (e4 a c))
 Q5:∀a c,PP a c->c<=a->aK u 277 [fU a,fU c] (rc a c)
theorem JT(n x y:Bool)(k:an->aw):sy n (.F x) (.F y) k=k (.F (xor n (x==y))):=by cases n<;>cases x<;>cases y<;>rfl
theorem Sl(z:Bool):an.F z≠an.undef:=by simp
theorem ayz(H:IE u PT PP)(i:dZ x)(j:dZ y)(k:PT x.natAbs y.natAbs)(l:x.natAbs*y.natAbs<=700):∃s d,DC u [bA x,bA y] 0 .nil= .ok (bA (x*y)) 0 s d:=by
 have d1:=H.CA x i;have d2:=H.CA y j;have r:=H.Xs _ _ k;have o:=H.DI (xor true (decide (x<0)==decide (y<0))) _ l;have e:a8 (xor true (decide (x<0)==decide (y<0))) (x.natAbs*y.natAbs)=x*y:=by
  unfold a8;rw[FE];by_cases g:x<0<;>by_cases h:y<0
  ·rw[dm g,dm h,show(xor true (true==true))=false from rfl,cU (by simp),show((x.natAbs:Int))= -x by omega,show((y.natAbs:Int))= -y by omega,Int.neg_mul_neg]
  ·rw[dm g,gK h,show(xor true (true==false))=true from rfl,cv rfl,show((x.natAbs:Int))= -x by omega,show((y.natAbs:Int))=y by omega,Int.neg_mul,Int.neg_neg]
  ·rw[gK g,dm h,show(xor true (false==true))=true from rfl,cv rfl,show((x.natAbs:Int))=x by omega,show((y.natAbs:Int))= -y by omega,Int.mul_neg,Int.neg_neg]
  ·rw[gK g,gK h,show(xor true (false==false))=false from rfl,cU (by simp),show((x.natAbs:Int))=x by omega,show((y.natAbs:Int))=y by omega]
 rw[e] at o;rw[DC,dE,RD,bg,dP,av,aT,e2 _ _,e3 _ _,Wi,bg,dP,av,aT,e2 _ _,e3 _ _,JT,ce,pm,pm,av,av,aT,ce,fO,aBh,av,av,aT,SP,bj,dP,av];exact b9
theorem aic(H:IE u PT PP)(w:∀a c,PP a c->PP c a)(z:dZ x)(A:dZ y)(i:PP x.natAbs y.natAbs)(I:x.natAbs+y.natAbs<=700):∃s d,wP u [bA x,bA y] 0 .nil= .ok (bA (x+y)) 0 s d:=by
 have d1:=H.CA x z;have d2:=H.CA y A;have J:=H.Ru _ _ i;have B:=H.Wl _ _ i;by_cases j:decide (x<0)=decide (y<0)
 ·have k:(xor false (decide (x<0)==decide (y<0)))=true:=by rw[j];simp
  have e:bA (a8 (decide (x<0)) (x.natAbs+y.natAbs))=bA (x+y):=by
   congr 1;unfold a8;have C:(x<0↔y<0):=by simpa using j
   by_cases g:x<0
   ·rw[dm g,cv rfl];omega
   ·rw[gK g,cU (by simp)];omega
  have o:aK u 180 [.F (decide (x<0)),fU (x.natAbs+y.natAbs)] (bA (x+y)):=by
   cases h:x.natAbs+y.natAbs with
   |zero=>
    have:bA (x+y)=bA 0:=by congr 1;omega
    rw[this];exact H.Nf _
   |succ m=>rw[<-e,h];exact H.DI _ _ (by omega)
  rw[wP,dE,HL,bg,dP,av,aT,e2 _ _,Iw,e3 _ _,bg,dP,av,aT,e2 _ _,e3 _ _,JT,k,bL,We,ce,pm,pm,av,av,aT,ce,fO,pm,av,av,aT,yC,bj,dP,av];exact b9
 ·have k:(xor false (decide (x<0)==decide (y<0)))=false:=by cases D:decide (x<0)<;>cases E:decide (y<0)<;>first|rfl|exact absurd (D.trans E.symm) j
  have C:¬(x<0↔y<0):=by simpa using j
  by_cases G:y.natAbs<=x.natAbs
  ·have h:=H.Q5 _ _ i G;have r:0<=e4 (x.natAbs:Int) (y.natAbs:Int):=by unfold e4;split<;>(try split)<;>omega
   have o:aK u 180 [.F (decide (x<0)),rc x.natAbs y.natAbs] (bA (x+y)):=by
    cases h:x.natAbs with
    |zero=>
     have:bA (x+y)=bA 0:=by congr 1;omega
     rw[this];exact H.Nf _
    |succ m=>
     have l:bA (a8 (decide (x<0)) (m+1-y.natAbs))=bA (x+y):=by
      congr 1;unfold a8;by_cases g:x<0
      ·rw[dm g,cv rfl];omega
      ·rw[gK g,cU (by simp)];omega
     rw[<-l];exact H.DI _ _ (by omega)
   rw[wP,dE,HL,bg,dP,av,aT,e2 _ _,Iw,e3 _ _,bg,dP,av,aT,e2 _ _,e3 _ _,JT,k,a6,PJ,ce,pm,pm,av,av,aT,bF,ix,bN,bL,ac2,ce,pm,pm,av,av,aT,ce,fO,aai,av,av,aT,yC,bj,dP,av];exact b9
  ·have h:=H.Q5 _ _ (w _ _ i) (by omega);have r:e4 (x.natAbs:Int) (y.natAbs:Int)= -1:=Nc (by omega);rw[r] at B;have o:aK u 180 [.F (decide (y<0)),rc y.natAbs x.natAbs] (bA (x+y)):=by
    cases h:y.natAbs with
    |zero=>omega
    |succ m=>
     have l:bA (a8 (decide (y<0)) (m+1-x.natAbs))=bA (x+y):=by
      congr 1;unfold a8;by_cases t:y<0
      ·rw[dm t,cv rfl];omega
      ·rw[gK t,cU (by simp)];omega
     rw[<-l];exact H.DI _ _ (by omega)
   rw[wP,dE,HL,bg,dP,av,aT,e2 _ _,Iw,e3 _ _,bg,dP,av,aT,e2 _ _,e3 _ _,JT,k,a6,PJ,ce,pm,pm,av,av,aT,bF,ix,bk,a6,acz,ce,pm,pm,av,av,aT,ce,fO,aai,av,av,aT,yC,bj,dP,av];exact b9
def ME(u:Fn)(p q p' q':Int):Prop:=aK u 170 [bA p,bA q] (.a0 [bA p',bA q'])
theorem aAc{p' q':Int}(H:ME u p q p' q'):∃s d,CF u [bA p,bA q] 0 .nil= .ok (.agg (b5 p' q')) 0 s d:=by
 have j:aK u 170 [bA p,bA q] (.a0 [bA p',bA q']):=H;have g:∀f:aB->aw,cC 0 1 aS dx f=f [aS,(.s 0 0),(.s 0 0),(.s 0 0),(.s 0 0),(.s 0 0),.aE]:=λf=>rfl;have h:∀f:aB->aw,cC 1 1 (bA p') [aS,(.s 0 0),(.s 0 0),(.s 0 0),(.s 0 0),(.s 0 0),.aE] f=f [aS,bA p',(.s 0 0),(.s 0 0),(.s 0 0),(.s 0 0),.aE]:=λf=>rfl;have i:∀f:aB->aw,cC 2 1 (bA q') [aS,bA p',(.s 0 0),(.s 0 0),(.s 0 0),(.s 0 0),.aE] f=f (b5 p' q'):=λf=>by
  have:b5 p' q'=[aS,bA p',bA q',(.s 0 0),(.s 0 0),(.s 0 0),.aE]:=by unfold b5;rw[bK]
  rw[this];rfl
 have k:=iY p' q';have l:=jk p' q';have e:∀z:Int,bA z≠an.undef:=λz=>by unfold bA;simp
 rw[CF,dE,Vc,de,aax,ce,dP,dP,av,av,aT,e2 _ _ (e _),e3 _ _ (e _),g,h,i,hL,dc,Za,gh,be,bj,bm,av];exact b9
theorem Nx:∃s d,C5 u [.agg (b5 p q)] 0 .nil= .ok (.agg (b5 p q)) 0 s d:=by have e:=iY p q;have g:=jk p q;have eO:(b5 p q)[0+0]? =some (ao 1):=rfl;rw[C5,dK,aaj,cy,de,aaI,bp,bb,aH,bc,bK,dj,bN,bL,aH,be,dc,MB,gh,be,bj,bm,av];exact b9
section
variable{a c b' d' p' q':Int}
theorem auB(e:aK u 113 [.agg (b5 a b')] (.agg (b5 a b')))(g:aK u 113 [.agg (b5 c d')] (.agg (b5 c d')))(l:aK u 174 [bA a,bA d'] (bA (a*d')))(o:aK u 174 [bA c,bA b'] (bA (c*b')))(r:aK u 224 [bA (a*d'),bA (c*b')] (bA (a*d'+c*b')))(t:aK u 174 [bA b',bA d'] (bA (b'*d')))(w:aK u 114 [bA (a*d'+c*b'),bA (b'*d')] (.agg (b5 p' q'))):
 ∃s d,Bv u [.agg (b5 a b'),.agg (b5 c d')] 0 .nil= .ok (.agg (b5 p' q')) 0 s d:=by
 have h:=jk a b';have i:=jk c d';have eV:=jk p' q';have j:=iY a b';have k:=iY c d';have z:=iY p' q';have a1:(b5 a b')[0+1]? =some (bA a):=rfl;have a2:(b5 a b')[0+2]? =some (bA b'):=rfl;have c1:(b5 c d')[0+1]? =some (bA c):=rfl;have c2:(b5 c d')[0+2]? =some (bA d'):=rfl;generalize b5 a b'=x at e h j a1 a2;generalize b5 c d'=y at g i k c1 c2;rw[Bv,dE,aan,cy,cy,de,aJ,cH,aN,aH,be,aV,aN,bm,av,aT,Su,aJ,cH,aN,aH,be,aV,aN,bm,av,aT,tw,tw,cH,aN,hD,cH,aN,hD,abx,bb,aJ,cH,aN,aH,bc,bb,aJ,cH,aN,aH,bc,aV,aV,aN,dP,dP,av,av,aT,abg,bb,aJ,cH,aN,aH,bc,bb,aJ,cH,aN,aH,bc,aV,aV,aN,dP,dP,av,av,aT,VP,aV,aV,aN,dP,dP,av,av,aT,bb,aJ,cH,aN,aH,bc,bb,aJ,cH,aN,aH,bc,abj,aV,aV,aN,dP,dP,av,av,aT,aV,aV,aN,dP,dP,av,av,aT,cH,aN,hD,Tu,gh,be,bj,bm,av];exact b9
theorem azm(e:aK u 113 [.agg (b5 a b')] (.agg (b5 a b')))(g:aK u 113 [.agg (b5 c d')] (.agg (b5 c d')))(l:aK u 174 [bA a,bA c] (bA (a*c)))(o:aK u 174 [bA b',bA d'] (bA (b'*d')))(r:aK u 114 [bA (a*c),bA (b'*d')] (.agg (b5 p' q'))):
 ∃s d,Di u [.agg (b5 a b'),.agg (b5 c d')] 0 .nil= .ok (.agg (b5 p' q')) 0 s d:=by
 have h:=jk a b';have i:=jk c d';have eV:=jk p' q';have j:=iY a b';have k:=iY c d';have t:=iY p' q';have a1:(b5 a b')[0+1]? =some (bA a):=rfl;have a2:(b5 a b')[0+2]? =some (bA b'):=rfl;have c1:(b5 c d')[0+1]? =some (bA c):=rfl;have c2:(b5 c d')[0+2]? =some (bA d'):=rfl;generalize b5 a b'=x at e h j a1 a2;generalize b5 c d'=y at g i k c1 c2;rw[Di,dE,adA,cy,cy,de,aJ,cH,aN,aH,be,RI,aV,aN,bm,av,aT,aJ,cH,aN,aH,be,aV,aN,bm,av,aT,tw,tw,aaz,cH,aN,hD,cH,aN,hD,bb,aJ,cH,aN,aH,bc,bb,aJ,cH,aN,aH,bc,Z1,aV,aV,aN,dP,dP,av,av,aT,bb,aJ,cH,aN,aH,bc,bb,aJ,cH,aN,aH,bc,acY,aV,aV,aN,dP,dP,av,av,aT,aV,aV,aN,dP,dP,av,av,aT,cH,aN,hD,Y6,gh,be,bj,bm,av];exact b9
end
theorem amK(H:aK u 157 [ao n] (bA n)):∃s d,CT u [ao n] 0 .nil= .ok (bA n) 0 s d:=by rw[CT,dK,ZB,bg,b7,av,aT,RP,bj,dP,av];exact b9
theorem aCn(H:aK u 157 [ao n] (bA n)):∃s d,BH u [ao n] 0 .nil= .ok (bA n) 0 s d:=by rw[BH,dK,RW,bg,b7,av,aT,aat,bj,dP,av];exact b9
theorem agv(e:aK u 125 [ao n] (bA n))(g:aK u 114 [bA n,.s 1 0x31] (.agg (b5 n 1))):∃s d,Fj u [ao n] 0 .nil= .ok (.agg (b5 n 1)) 0 s d:=by have h:=iY n 1;have i:=jk n 1;rw[Fj,dK,Tz,de,bg,b7,av,aT,dP,av,aT,dc,abL,gh,be,bj,bm,av];exact b9
theorem RF(e:aK u 101 [ao n] (bA n))(g:aK u 100 [bA n] (.agg (b5 n 1))):∃s d,FA u [ao n] 0 .nil= .ok (.agg (b5 n 1)) 0 s d:=by have h:=iY n 1;have i:=jk n 1;rw[FA,dK,Zf,de,bg,b7,av,aT,bg,dP,av,aT,dc,Rs,gh,be,bj,bm,av];exact b9
theorem aEa(e:dZ p):∃s d,Dj u [.agg (b5 p q)] 0 .nil= .ok (.F (decide (p=0))) 0 s d:=by have eO:(b5 p q)[0+0]? =some (ao 1):=rfl;have dB:(b5 p q)[0+1]? =some (bA p):=rfl;rw[Dj,dK,Zb,cy,T3,bp,bb,aH,bc,bK,dF,bk,gE,fZ,bp,bb,aH,bc,Nj e,dO,Qr,bj,fO,av];exact b9
theorem Sp(e:dZ p):∃s d,C3 u [.agg (b5 p q)] 0 .nil= .ok (.F (decide (p=0))) 0 s d:=by have dB:(b5 p q)[0+1]? =some (bA p):=rfl;rw[C3,dK,VN,cy,bp,bb,aH,bc,Nj e,adh,bj,fO,av];exact b9
end
end
section
variable[Tok]
def kl:an:= .s 4 0x75736572
def Ii:an:= .s 3 0x6c656e
def Hp:an:= .s 4 0x74726565
def uF(i:Nat):an:= .s 1 (0x78+i)
def dW(i:Nat):aB:=yb kl (uF i)
def ec(i:Nat):aB:=if i<3 then dW i else if i<6 then bU bP Ii [dW (i-3)] else bU kl Hp [dW (i-6)]
def atR(k:Nat):an:=if k=0 then .aE else if k<10 then .aQ 11 [ec (k-1)] else .aQ 11 [ec ((k-10)/9),ec ((k-10) %9)]
def fb(k:Nat):aY:=if k=0 then[] else if k<10 then[ec (k-1)] else[ec ((k-10)/9),ec ((k-10) %9)]
def fT(k:Nat):Prop:=k<10\/(k<91/\(k-10)/9<=(k-10) %9)
def fW(k l:Nat):Nat:=if k=0 then l else if l=0 then k else 10+9*(min k l-1)+(max k l-1)
theorem rM(i:Nat):cq (ec i):=by
 unfold ec;split
 ·exact⟨rfl,rfl⟩
 ·split<;>exact⟨rfl,rfl⟩
theorem ru(k:Nat):nT (atR k) (fb k):=by
 unfold atR fb;split
 ·exact .inl ⟨rfl,rfl⟩
 ·split
  ·exact .inr ⟨rfl,by simp⟩
  ·exact .inr ⟨rfl,by simp⟩
theorem A1(k:Nat):∀t∈fb k,cq t:=by
 intro t a;unfold fb at a;split at a
 ·cases a
 ·split at a
  ·simp at a;subst a;exact rM _
  ·simp at a;rcases a with rfl|rfl<;>exact rM _
theorem oD(k:Nat):(fb k).length<=2:=by
 unfold fb;split
 ·simp
 ·split<;>simp
def ef(c:Rat):aB:=b5 c.num c.den
theorem aBM{o:aB}(a:b8 o=true){v:an}{l:aY}(b:nT v l):b8 (o++[v])=true:=by rw[oA a];rcases b with⟨rfl,_⟩|⟨rfl,_⟩<;>rfl
def acT(a:Fn->Prop)(S:Nat->Prop)(A:Nat->an)(L:Nat->aY)(h:∀k,nT (A k) (L k)):cr where
 num:=ef
 di:=A
 Y:=a
 s:=S
 len:=λc=>rfl
 pure:=λc k=>aBM (iY _ _) (h k)
 eU:=λc=>iY _ _
 IM:=λk=>by
  rcases h k with⟨e,_⟩|⟨e,_⟩
  ·exact .inl e
  ·exact .inr ⟨_,e⟩
def mi(a:Fn->Prop):cr:=acT a (λ_=>True) atR fb ru
end
section
variable{b q f ub:Nat} {aET s:b1} {o:e9} {res:an} {d:List Nat} {gl:eI} {P:Program}
section
variable[Tok]
noncomputable def GR(l:List UInt8)(k:an->aw):aw:=eF l.length λa=>eF (oI l) λv=>k (.s a v)
theorem al0(l:List UInt8)(k:an->aw):GR l k=k (Cw l):=by unfold GR;rw[fd,fd];rfl
def Qu(T q s:Nat):aB->Option (Option aB)
 |[.bu (.pointer none),c1]=>bif Nat.beq (Nat.mod s 65536) T then some (some [.bn q s 0,c1]) else none
 |[.bn a c 0,_]=>bif Nat.beq a q&&Nat.beq c s then some none else none
 |_=>none
noncomputable def Rz(q s:Nat)(b:Nat)(aET:b1)(x:Option (Option aB)):aw:=
 @Option.rec (Option aB) (λ_=>aw) .ax (λy=> @Option.rec aB (λ_=>aw) (.ok (.a0 []) b aET []) (λcs=> .ok (.a0 []) b (aET.set q (.ae (.box s cs))) [q]) y) x
noncomputable def L7(T:Nat):jq:=λ_ l b aET=>aZ l λx l=>bV l (nE x (λ_ _=> .ax) (λq s o=>bf (Nat.beq o 0) (bf (Nat.ble (Nat.succ q) b)
 (nA (aET.get q).ag λa cs=>bf (Nat.beq s a) (Rz q s b aET (Qu T q s cs)) .ax) .ax) .ax) (λ_ _ _ _=> .ax))
theorem Ds(h:q<b):hq b aET q=eJ (aET.get q).ag:=by show eJ (cE b aET q)=_;rw[ic h]
theorem RX(h:q<b):hq b (aET.set q o)=dl (hq b aET) q (eJ o.ag):=by
 funext k;by_cases a:k<b
 ·rw[Ds a,b1.zN];by_cases e:k=q
  ·subst e;rw[cv rfl,iM]
  ·rw[cU e,ir _ _ e,Ds a]
 ·have e:k≠q:=by omega
  rw[ir _ _ e];show eJ (cE b _ k)=eJ (cE b _ k);rw[jz,jz]
theorem Vv{k:Nat}(h:k<b)(e:k≠q):cE b (aET.set q o) k=cE b aET k:=by rw[ic h,ic h,b1.zN,cU e]
theorem aeF{x:an}{e:aB->Nat->aw}{f:Nat->Nat->Nat->aw}{g:Nat->Nat->Nat->Nat->aw}(h:nE x e f g= .ok res ub s d)(c:∀cs o,e cs o= .ax)(j:∀k s i o,g k s i o= .ax):
 ∃k s o,x= .bn k s o/\f k s o= .ok res ub ‹b1› d:=by
 rcases yI (by rw[h];simp:nE x e f g≠ .ax) with⟨cs,o,rfl,a⟩|⟨k,s,o,rfl,a⟩|⟨k,s,i,o,rfl,a⟩
 ·rw[a,c] at h;cases h
 ·exact⟨k,s,o,rfl,by rw[<-a];exact h⟩
 ·rw[a,j] at h;cases h
theorem TB{o:dM}{f:Nat->aB->aw}(h:nA o f= .ok res ub s d):∃a cs,o= .box a cs/\f a cs= .ok res ub s d:=by obtain⟨a,cs,e,c⟩:=JA (by rw[h];simp:nA o f≠ .ax);exact⟨a,cs,e,by rw[<-c];exact h⟩
theorem avw{T:Nat}(i:Enters P f)
 (p:∀b w,w.cell? ⟨b,0,none⟩=some (.pointer (some ⟨b,0,none⟩))->Calls P f #[.pointer (some ⟨b,0,none⟩)] w λe w'=>e= .returned (.tuple #[])/\w'=w)
 (r:∀b w,w.cell? ⟨b,0,none⟩=some (.pointer none)->w.shape? b=some (T,2)->w.frozen? ⟨b,0,none⟩=false->
  Calls P f #[.pointer (some ⟨b,0,none⟩)] w λe w'=>e= .returned (.tuple #[])/\w'=w.setCell ⟨b,0,none⟩ (.pointer (some ⟨b,0,none⟩))):i5 gl P f (L7 T):=by
 intro u _ args ub aET res R S W t;obtain⟨x,l,rfl,z⟩:=oZ t;obtain⟨rfl,A⟩:=wV z;obtain⟨q,s,o,rfl,B⟩:=aeF A (λ_ _=>rfl) (λ_ _ _ _=>rfl);obtain⟨C,D⟩:=jt B;obtain⟨E,G⟩:=jt D;obtain⟨H,cs,I,J⟩:=TB G;obtain⟨K,c⟩:=jt J;have L:o=0:=gz C;have M:s=H:=gz K;have j:q<ub:=dp E;subst L M;have n:hq ub aET q= .box s (gG cs):=by rw[Ds j,I];rfl
 unfold Rz at c;cases a:Qu T q s cs with
 |none=>rw[a] at c;cases c
 |some y=>
  rw[a] at c;unfold Qu at a;split at a
  ·rename_i c1;cases g:Nat.beq (Nat.mod s 65536) T with
   |false=>rw[g] at a;cases a
   |true=>rw[g] at a;simp only[dN,dD] at a;subst a;change (.ok (.a0 []) ub (aET.set q (.ae (.box s [.bn q s 0,c1]))) [q]:aw)=_ at c;simp only[aw.ok.injEq] at c;obtain⟨rfl,rfl,rfl,rfl⟩:=c;refine⟨?_,λk h N=>Vv h (λe=>N (by rw[e];exact List.mem_singleton.2 rfl)),λk h=>by simp[an.cR] at h⟩;rw[RX j];exact aoL i r (c1:=bi c1) (by exact gz g) n
  ·rename_i O Q c1;cases g:Nat.beq O q&&Nat.beq Q s with
   |false=>rw[g] at a;cases a
   |true=>rw[g] at a;simp only[dN,dD] at a;subst a;simp only[cg,lR] at g;obtain⟨rfl,rfl⟩:=g;change (.ok (.a0 []) ub aET []:aw)=_ at c;simp only[aw.ok.injEq] at c;obtain⟨rfl,rfl,rfl,rfl⟩:=c;exact⟨aA5 i p (c1:=bi c1) n,λ_ _ _=>rfl,λk h=>by simp[an.cR] at h⟩
  ·cases a
def Ce:aY->Option (List UInt8)
 |[]=>some []
 |[.V .u8 n]::r=>bif Nat.ble 18446744073709551616 n&&Nat.ble n 18446744073709551871 then(match Ce r with|some l=>some (UInt8.ofNat (Nat.sub n 18446744073709551616)::l)|none=>none) else none
 |_=>none
theorem Wv:∀{es:aY} {l:List UInt8},Ce es=some l->km es=l.map λc=>[aG.bu (.int .u8 c.toNat)]
 |[],l,h=>by simp only[Ce,dD] at h;subst h;rfl
 |e::r,l,h=>by
  unfold Ce at h;split at h
  ·rename_i g;cases g
  ·rename_i n k g;cases g;cases a:Nat.ble 18446744073709551616 n&&Nat.ble n 18446744073709551871 with
   |false=>rw[a] at h;cases h
   |true=>
    rw[a] at h;simp only[dN] at h;split at h
    ·rename_i p i;cases h;have j:=Wv i;simp only[cg] at a;have t:=dp a.1;have u:=dp a.2;rw[mB,gm,<-mB,j];simp only[gm,gG,bi,intOf];congr 4;have e:(UInt8.ofNat (Nat.sub n 18446744073709551616)).toNat=n-18446744073709551616:=by have:Nat.sub n 18446744073709551616=n-18446744073709551616:=rfl;rw[this];simp;omega
     rw[e];omega
    ·cases h
  ·cases h
noncomputable def ZS(e b:Nat)(aET:b1)(cs:aB):aw:=
 @Option.rec (Nat×List UInt8×Nat) (λ_=>aw) .ax (λp=>GR p.2.1 λr=> .ok r b (aET.set p.1 (.ae (.ax p.2.2))) [p.1])
  (match cs with
   |[_,.az a aM 0 len]=>(match(aET.get a).ag with
    | .az g h 1 es _=>(match Ce es with
      |some (c::l)=>bif Nat.beq aM g&&Nat.beq h e&&Nat.beq len (List.length (c::l))&&Nat.ble (Nat.succ a) b then some (a,c::l,aM) else none
      |_=>none)
    |_=>none)
   |_=>none)
noncomputable def Qx(e:Nat):jq:=λ_ l b aET=>aZ l λx l=>bV l (nE x (λ_ _=> .ax) (λq s o=>bf (Nat.beq o 0) (bf (Nat.ble (Nat.succ q) b)
 (nA (aET.get q).ag λa cs=>bf (Nat.beq s a) (ZS e b aET cs) .ax) .ax) .ax) (λ_ _ _ _=> .ax))
theorem awh{e:Nat}(z:Enters P f)(A:∀(b r g:Nat) (p:Value) (n:Array Value) (T:TypeId) (l:List UInt8) (w:World),l≠[]->w.heap[b]? =some (.cells #[p,.slice (some ⟨r,0,none⟩) l.length g] T (0,0))->
 w.heap[r]? =some (.cells n e (0,0))->l.length<=g->g<=maxLen->n.size=g->(∀(j:Nat) (x:UInt8),l[j]? =some x->n[j]? =some (.int .u8 x.toNat))->
 Calls P f #[.pointer (some ⟨b,0,none⟩)] w λe w'=>e= .returned (.string ⟨l.toArray⟩)/\w'=w.drew.freeze ⟨r,0,none⟩ l.length):i5 gl P f (Qx e):=by
 intro u _ args ub aET res a4 a5 bs B;obtain⟨x,l,rfl,C⟩:=oZ B;obtain⟨rfl,D⟩:=wV C;obtain⟨q,s,o,rfl,E⟩:=aeF D (λ_ _=>rfl) (λ_ _ _ _=>rfl);obtain⟨G,H⟩:=jt E;obtain⟨I,J⟩:=jt H;obtain⟨K,cs,L,M⟩:=TB J;obtain⟨N,a⟩:=jt M;have O:o=0:=gz G;have Q:s=K:=gz N;have R:q<ub:=dp I;subst O Q;have S:hq ub aET q= .box s (gG cs):=by rw[Ds R,L];rfl
 unfold ZS at a;split at a
 ·rename_i c0 h aM len;split at a
  ·rename_i W X es aEQ Z;split at a
   ·rename_i c l a1;cases i:Nat.beq aM W&&Nat.beq X e&&Nat.beq len (List.length (c::l))&&Nat.ble (Nat.succ h) ub with
    |false=>rw[i] at a;cases a
    |true=>
     rw[i] at a;simp only[cg,lR] at i;obtain⟨⟨⟨rfl,rfl⟩,a2⟩,a3⟩:=i;have y:h<ub:=dp a3;change GR (c::l) (λr=> .ok r ub (aET.set h (.ae (.ax aM))) [h])=_ at a;rw[al0] at a;simp only[aw.ok.injEq] at a;obtain⟨rfl,rfl,rfl,rfl⟩:=a;refine⟨?_,λk t hn=>Vv t (λe=>hn (by rw[e];exact List.mem_singleton.2 rfl)),λk t=>by simp[Cw,an.cR,an.eg,an.key,an.cf] at t⟩;rw[RX y,Q1];refine afd z A (c0:=bi c0) (l:=c::l) (aEQ:=aEQ) (by simp) ?_ ?_
     ·rw[S,a2];rfl
     ·rw[Ds y,Z,<-Wv a1];rfl
   ·cases a
  ·cases a
 ·cases a
end
end
section
open Go.Proofs
noncomputable def DT(x:an):Bool:= @an.rec (λ_=>Bool) (λ_=>PUnit) (λ_=>PUnit) false (λ_=>false) (λ_ _=>false) (λ_ _=>false) true (λ_=>false) (λc _=>b8 c) (λ_ _=>false) (λ_ _ _=>true) (λ_ _ _=>false) (λ_ _ _=>false) (λ_ _ _ _=>false) (λ_ _ _ _=>false) (λ_ _=>false) (λ_ _ _=>false) (λ_=>false) PUnit.unit (λ_ _ _ _=>PUnit.unit) PUnit.unit (λ_ _ _ _=>PUnit.unit) x
noncomputable def rm(l:aB):Bool:= @List.rec an (λ_=>Bool) true (λx _ a=> @Bool.rec (λ_=>Bool) false a (DT x)) l
noncomputable def me(g:jq):jq:=λu args b a=>bf (rm args) (@aw.rec (λ_=>aw) .ax (λr ub _ _=>bf (Nat.beq ub 0) (.ok r b a []) .ax) (g u args 0 .nil)) .ax
section
variable[Tok]
def Gf:lZ->List lZ->List lZ
 | .bh f g,a=> .bh f g::a
 | .node _ l r,a=>Gf l (Gf r a)
def JJ(gl:eI)(P:Program):List lZ->Prop
 |[]=>True
 |x::r=>qf gl P x/\JJ gl P r
theorem MX{gl:eI}{P:Program}:∀{T:lZ} {a:List lZ},JJ gl P (Gf T a)->qf gl P T/\JJ gl P a
 | .bh _ _,_,h=>h
 | .node _ l r,_,h=>by obtain⟨b,c⟩:=MX (T:=l) h;obtain⟨d,e⟩:=MX (T:=r) c;exact⟨⟨b,d⟩,e⟩
noncomputable def Co(g dB:jq):lZ:= .node 244 (.node 158 (.node 100 (.node 70 (.node 63 (.node 36 (.node 23 (.node 17 (.node 9 (.node 7 (.node 5 (.bh 5 D9) (.bh 7 AM)) (.node 8 (.bh 8 Xf) (.bh 9 At))) (.node 11 (.node 10 (.bh 10 Yr) (.bh 11 (d11.den Tryz.prog))) (.node 15 (.bh 15 tP) (.node 16 (.bh 16 xu) (.bh 17 xR))))) (.node 21 (.bh 21 (d21.den Tryz.prog)) (.node 22 (.bh 22 TA) (.bh 23 Tf)))) (.node 30 (.node 27 (.node 25 (.node 24 (.bh 24 wa) (.bh 25 (d25.den Tryz.prog))) (.node 26 (.bh 26 (d26.den Tryz.prog)) (.bh 27 (d27.den Tryz.prog)))) (.node 28 (.bh 28 (d28.den Tryz.prog)) (.bh 30 za))) (.node 34 (.node 32 (.node 31 (.bh 31 DP) (.bh 32 yE)) (.node 33 (.bh 33 DE) (.bh 34 E7))) (.node 35 (.bh 35 qU) (.bh 36 Da))))) (.node 45 (.node 39 (.node 37 (.bh 37 FA) (.node 38 (.bh 38 (d38.den Tryz.prog)) (.bh 39 BI))) (.node 41 (.node 40 (.bh 40 q3) (.bh 41 Dj)) (.node 43 (.node 42 (.bh 42 (d42.den Tryz.prog)) (.bh 43 Do)) (.node 44 (.bh 44 Em) (.bh 45 ud))))) (.node 59 (.node 58 (.node 46 (.bh 46 wq) (.node 57 (.bh 57 z5) (.bh 58 CH))) (.bh 59 Eh)) (.node 61 (.node 60 (.bh 60 Fj) (.bh 61 yN)) (.node 62 (.bh 62 Xo) (.bh 63 uq)))))) (.node 65 (.bh 65 n3) (.node 66 (.bh 66 ZC) (.node 67 (.bh 67 (d67.den Tryz.prog)) (.node 69 (.node 68 (.bh 68 r9) (.bh 69 g)) (.bh 70 dB)))))) (.node 71 (.bh 71 Se) (.node 81 (.node 80 (.node 75 (.node 73 (.node 72 (.bh 72 (d72.den Tryz.prog)) (.bh 73 (d73.den Tryz.prog))) (.node 74 (.bh 74 (d74.den Tryz.prog)) (.bh 75 aaU))) (.node 77 (.node 76 (.bh 76 (d76.den Tryz.prog)) (.bh 77 (d77.den Tryz.prog))) (.node 78 (.bh 78 (d78.den Tryz.prog)) (.node 79 (.bh 79 (d79.den Tryz.prog)) (.bh 80 (d80.den Tryz.prog)))))) (.bh 81 AX)) (.node 97 (.node 87 (.node 86 (.node 85 (.bh 85 aau) (.bh 86 (d86.den Tryz.prog))) (.bh 87 (d87.den Tryz.prog))) (.node 94 (.bh 94 (d94.den Tryz.prog)) (.node 96 (.bh 96 uz) (.bh 97 yA)))) (.node 99 (.node 98 (.bh 98 SX) (.bh 99 DG)) (.bh 100 E4)))))) (.node 129 (.node 126 (.node 108 (.node 105 (.node 101 (.bh 101 BH) (.bh 105 (d105.den Tryz.prog))) (.node 106 (.bh 106 ES) (.node 107 (.bh 107 Dz) (.bh 108 Ed)))) (.node 117 (.node 113 (.node 110 (.node 109 (.bh 109 Di) (.bh 110 Cr)) (.node 111 (.bh 111 En) (.bh 113 C5))) (.node 114 (.bh 114 CF) (.node 116 (.bh 116 yo) (.bh 117 uL)))) (.node 122 (.node 120 (.node 118 (.bh 118 w1) (.node 119 (.bh 119 yK) (.bh 120 y9))) (.node 121 (.bh 121 BY) (.bh 122 acB))) (.node 124 (.node 123 (.bh 123 Cd) (.bh 124 abD)) (.node 125 (.bh 125 CT) (.bh 126 xt)))))) (.node 127 (.bh 127 adm) (.node 128 (.bh 128 (d128.den Tryz.prog)) (.bh 129 zA)))) (.node 139 (.node 130 (.bh 130 zD) (.node 135 (.node 134 (.node 132 (.bh 132 (d132.den Tryz.prog)) (.node 133 (.bh 133 (d133.den Tryz.prog)) (.bh 134 (d134.den Tryz.prog)))) (.bh 135 aa4)) (.node 136 (.bh 136 (d136.den Tryz.prog)) (.node 137 (.bh 137 (d137.den Tryz.prog)) (.node 138 (.bh 138 (d138.den Tryz.prog)) (.bh 139 (d139.den Tryz.prog))))))) (.node 147 (.node 141 (.bh 141 tY) (.node 145 (.bh 145 (d145.den Tryz.prog)) (.bh 147 (d147.den Tryz.prog)))) (.node 148 (.bh 148 (d148.den Tryz.prog)) (.node 153 (.node 152 (.node 150 (.bh 150 (d150.den Tryz.prog)) (.node 151 (.bh 151 (d151.den Tryz.prog)) (.bh 152 (d152.den Tryz.prog)))) (.bh 153 (d153.den Tryz.prog))) (.node 155 (.node 154 (.bh 154 lV) (.bh 155 C0)) (.node 156 (.bh 156 CV) (.node 157 (.bh 157 Iu) (.bh 158 (d158.den Tryz.prog))))))))))) (.node 195 (.node 171 (.node 168 (.node 161 (.node 159 (.bh 159 (d159.den Tryz.prog)) (.node 160 (.bh 160 Fe) (.bh 161 (d161.den Tryz.prog)))) (.node 164 (.node 162 (.bh 162 (d162.den Tryz.prog)) (.node 163 (.bh 163 (d163.den Tryz.prog)) (.bh 164 (d164.den Tryz.prog)))) (.node 166 (.node 165 (.bh 165 (d165.den Tryz.prog)) (.bh 166 (d166.den Tryz.prog))) (.node 167 (.bh 167 (d167.den Tryz.prog)) (.bh 168 (d168.den Tryz.prog)))))) (.node 169 (.bh 169 A6) (.node 170 (.bh 170 abV) (.bh 171 abJ)))) (.node 180 (.node 177 (.node 172 (.bh 172 R2) (.node 174 (.node 173 (.bh 173 lT) (.bh 174 DC)) (.node 175 (.bh 175 Ej) (.node 176 (.bh 176 tW) (.bh 177 Bv))))) (.node 179 (.bh 179 Vf) (.bh 180 aea))) (.node 193 (.node 184 (.node 183 (.node 182 (.node 181 (.bh 181 xQ) (.bh 182 uO)) (.bh 183 (me xx))) (.bh 184 v4)) (.node 187 (.node 186 (.node 185 (.bh 185 Fk) (.bh 186 AL)) (.bh 187 adr)) (.node 188 (.bh 188 uu) (.bh 193 (d193.den Tryz.prog))))) (.bh 195 Ul)))) (.node 219 (.node 197 (.node 196 (.bh 196 RS) (.bh 197 (d197.den Tryz.prog))) (.node 205 (.node 198 (.bh 198 (d198.den Tryz.prog)) (.node 200 (.node 199 (.bh 199 Fg) (.bh 200 (d200.den Tryz.prog))) (.node 202 (.bh 202 (d202.den Tryz.prog)) (.node 204 (.bh 204 BA) (.bh 205 xJ))))) (.node 211 (.node 209 (.node 208 (.node 207 (.bh 207 (d207.den Tryz.prog)) (.bh 208 (d208.den Tryz.prog))) (.bh 209 C6)) (.node 210 (.bh 210 BR) (.bh 211 Bh))) (.node 214 (.node 212 (.bh 212 XZ) (.node 213 (.bh 213 C3) (.bh 214 (d214.den Tryz.prog)))) (.node 218 (.node 216 (.node 215 (.bh 215 sq) (.bh 216 aaE)) (.node 217 (.bh 217 (d217.den Tryz.prog)) (.bh 218 (d218.den Tryz.prog)))) (.bh 219 ZJ)))))) (.node 229 (.node 222 (.node 220 (.bh 220 RY) (.node 221 (.bh 221 abO) (.bh 222 vP))) (.node 228 (.node 224 (.node 223 (.bh 223 abB) (.bh 224 wP)) (.node 227 (.bh 227 (d227.den Tryz.prog)) (.bh 228 (d228.den Tryz.prog)))) (.bh 229 Re))) (.node 230 (.bh 230 abK) (.node 236 (.node 233 (.node 232 (.node 231 (.bh 231 zP) (.bh 232 wS)) (.bh 233 qK)) (.node 234 (.bh 234 xC) (.node 235 (.bh 235 (d235.den Tryz.prog)) (.bh 236 v9)))) (.node 239 (.node 237 (.bh 237 (me vO)) (.node 238 (.bh 238 vH) (.bh 239 (me Fb)))) (.node 242 (.node 241 (.node 240 (.bh 240 vv) (.bh 241 CI)) (.bh 242 qI)) (.node 243 (.bh 243 xp) (.bh 244 (d244.den Tryz.prog))))))))))) (.node 295 (.node 274 (.node 248 (.node 247 (.bh 247 aaM) (.bh 248 Xw)) (.node 255 (.node 249 (.bh 249 XX) (.node 250 (.bh 250 Ve) (.node 251 (.bh 251 Wc) (.node 254 (.bh 254 (d254.den Tryz.prog)) (.bh 255 VI))))) (.node 261 (.node 258 (.node 256 (.bh 256 (d256.den Tryz.prog)) (.node 257 (.bh 257 (d257.den Tryz.prog)) (.bh 258 (d258.den Tryz.prog)))) (.node 260 (.node 259 (.bh 259 Ez) (.bh 260 Fp)) (.bh 261 vr))) (.node 267 (.node 265 (.node 264 (.node 262 (.bh 262 zK) (.bh 264 Sw)) (.bh 265 Cf)) (.node 266 (.bh 266 Dx) (.bh 267 FZ))) (.node 271 (.node 269 (.node 268 (.bh 268 XR) (.bh 269 XU)) (.node 270 (.bh 270 Xp) (.bh 271 Ec))) (.node 272 (.bh 272 SD) (.node 273 (.bh 273 (d273.den Tryz.prog)) (.bh 274 B2)))))))) (.node 294 (.node 292 (.node 277 (.node 275 (.bh 275 C9) (.node 276 (.bh 276 R8) (.bh 277 VJ))) (.node 286 (.node 281 (.node 279 (.node 278 (.bh 278 abt) (.bh 279 uj)) (.bh 281 wO)) (.node 284 (.node 283 (.bh 283 (d283.den Tryz.prog)) (.bh 284 xM)) (.node 285 (.bh 285 uZ) (.bh 286 wW)))) (.bh 292 (d292.den Tryz.prog)))) (.bh 294 RN)) (.bh 295 VM))) (.node 301 (.node 298 (.node 297 (.bh 297 Zc) (.bh 298 VE)) (.node 299 (.bh 299 aad) (.bh 301 aeQ))) (.node 318 (.node 308 (.node 303 (.node 302 (.bh 302 (d302.den Tryz.prog)) (.bh 303 abk)) (.node 307 (.node 306 (.node 305 (.bh 305 (d305.den Tryz.prog)) (.bh 306 (d306.den Tryz.prog))) (.bh 307 qV)) (.bh 308 uh))) (.node 317 (.node 315 (.node 313 (.bh 313 Yw) (.node 314 (.bh 314 aaw) (.bh 315 ac5))) (.node 316 (.bh 316 aaV) (.bh 317 NH))) (.bh 318 U4))) (.node 352 (.node 339 (.node 328 (.node 324 (.node 321 (.node 319 (.bh 319 Mz) (.node 320 (.bh 320 aeA) (.bh 321 Xb))) (.node 323 (.node 322 (.bh 322 St) (.bh 323 (Qx 5))) (.bh 324 D5))) (.node 325 (.bh 325 acX) (.node 326 (.bh 326 V7) (.bh 328 (d328.den Tryz.prog))))) (.node 331 (.bh 331 Dd) (.node 335 (.node 334 (.bh 334 Pz) (.bh 335 vV)) (.node 336 (.bh 336 Fv) (.bh 339 (d339.den Tryz.prog)))))) (.node 349 (.node 340 (.bh 340 (d340.den Tryz.prog)) (.node 341 (.bh 341 (d341.den Tryz.prog)) (.node 347 (.bh 347 aez) (.bh 349 U1)))) (.bh 352 U0))) (.node 362 (.node 355 (.node 354 (.bh 354 (L7 357)) (.bh 355 Z9)) (.node 358 (.bh 358 C4) (.node 361 (.bh 361 SR) (.bh 362 aeH)))) (.node 367 (.bh 367 V8) (.bh 372 CQ)))))))
noncomputable def bD:lZ:=Co (d69.den Tryz.prog) (d70.den Tryz.prog)
end
end
section
variable{a b:Bool}
noncomputable def r7(x:an)(d:Bool->Bool)(g:IntKind->Nat->Bool)(h:Nat->Nat->Bool)(fn:Bool)(i:Value->Bool)(j k:aB->Bool)(l:Nat->aY->Bool)(n:Nat->Bool):Bool:=
 @an.rec (λ_=>Bool) (λ_=>PUnit) (λ_=>PUnit) false d g h fn i (λc _=>j c) (λc _=>k c) (λs e _=>l s e) (λ_ _ _=>false) (λ_ _ _=>false) (λ_ _ _ _=>false) (λ_ _ _ _=>false) (λ_ _=>false) (λ_ _ _=>false) n PUnit.unit (λ_ _ _ _=>PUnit.unit) PUnit.unit (λ_ _ _ _=>PUnit.unit) x
def gq{α:Type}(_:α):Bool:=false
def js{α c:Type}(_:α)(_:c):Bool:=false
def Eg:Value->Bool
 | .nilIface=>true
 |_=>false
theorem aeS{v:Value}(h:Eg v=true):v= .nilIface:=by cases v<;>first|rfl|cases h
noncomputable def abG(a b:Bool):Bool:= @Bool.rec (λ_=>Bool) (hM b) b a
theorem anb(h:abG a b=true):a=b:=by cases a<;>cases b<;>first|rfl|cases h
noncomputable def Jp(a:Bool)(y:an):Bool:=r7 y (abG a) js js false gq gq gq js gq
noncomputable def JX(k:IntKind)(n:Nat)(y:an):Bool:=r7 y gq (λc d=>cS (lQ k c) (Nat.beq n d)) js false gq gq gq js gq
noncomputable def Ke(l n:Nat)(y:an):Bool:=r7 y gq js (λc d=>cS (Nat.beq l c) (Nat.beq n d)) false gq gq gq js gq
noncomputable def J7(y:an):Bool:=r7 y gq js js true gq gq gq js gq
noncomputable def Ki(v:Value)(y:an):Bool:=r7 y gq js js false (λc=>cS (Eg v) (Eg c)) gq gq js gq
noncomputable def Iz(_:aB)(c:aB->Bool)(y:an):Bool:=r7 y gq js js false gq c gq js gq
noncomputable def If(_:aB)(c:aB->Bool)(y:an):Bool:=r7 y gq js js false gq gq c js gq
noncomputable def Ju(sz:Nat)(_:aY)(c:aY->Bool)(y:an):Bool:=r7 y gq js js false gq gq gq (λs e=>cS (Nat.beq sz s) (c e)) gq
noncomputable def J2(i:Nat)(y:an):Bool:=r7 y gq js js false gq gq gq js (Nat.beq i)
noncomputable def Af{α:Type}(l:List α):Bool:= @List.rec α (λ_=>Bool) true (λ_ _ _=>false) l
noncomputable def AC{α:Type}(_:α)(_:List α)(c:α->Bool)(sT:List α->Bool)(l:List α):Bool:= @List.rec α (λ_=>Bool) false (λh t _=>cS (c h) (sT t)) l
abbrev sY:an->Type:=λ_=>an->Bool
abbrev wy:aB->Type:=λ_=>aB->Bool
abbrev LF:aY->Type:=λ_=>aY->Bool
noncomputable def vS(x:an):an->Bool:=
 @an.rec sY wy LF gq Jp JX Ke J7 Ki Iz If Ju (λ_ _ _ _=>false) (λ_ _ _ _=>false) (λ_ _ _ _ _=>false) (λ_ _ _ _ _=>false) (λ_ _ _=>false) (λ_ _ _ _=>false) J2 Af AC Af AC x
noncomputable def Dt(x:aB):aB->Bool:=
 @an.rec_1 sY wy LF gq Jp JX Ke J7 Ki Iz If Ju (λ_ _ _ _=>false) (λ_ _ _ _=>false) (λ_ _ _ _ _=>false) (λ_ _ _ _ _=>false) (λ_ _ _=>false) (λ_ _ _ _=>false) J2 Af AC Af AC x
noncomputable def Gn(x:aY):aY->Bool:=
 @an.rec_2 sY wy LF gq Jp JX Ke J7 Ki Iz If Ju (λ_ _ _ _=>false) (λ_ _ _ _=>false) (λ_ _ _ _ _=>false) (λ_ _ _ _ _=>false) (λ_ _ _=>false) (λ_ _ _ _=>false) J2 Af AC Af AC x
theorem sW(h:cS a b=true):a=true/\b=true:=by cases a<;>cases b<;>first|exact⟨rfl,rfl⟩|cases h
theorem alm{k c:IntKind}(h:lQ k c=true):k=c:=by cases k<;>cases c<;>first|rfl|exact absurd h (by simp[lQ,Gr])
theorem RA(x:an):∀y,vS x y=true->x=y:=by
 refine @an.rec (λx=>∀y,vS x y=true->x=y) (λl=>∀d,Dt l d=true->l=d) (λl=>∀d,Gn l d=true->l=d)
  (λy h=>by cases h) (λa y h=>?_) (λk n y h=>?_) (λl n y h=>?_) (λy h=>?_) (λv y h=>?_) (λcs e y h=>?_) (λcs e y h=>?_) (λsz es e y h=>?_)
  (λ_ _ _ y h=>by cases h) (λ_ _ _ y h=>by cases h) (λ_ _ _ _ y h=>by cases h) (λ_ _ _ _ y h=>by cases h) (λ_ _ y h=>by cases h) (λ_ _ _ y h=>by cases h) (λi y h=>?_)
  (λl h=>?_) (λa l e p d h=>?_) (λl h=>?_) (λa l e p d h=>?_) x
 ·change Jp a y=true at h;cases y with
  |F c=>rw[anb (a:=a) (b:=c) h]
  |_=>cases h
 ·change JX k n y=true at h;cases y with
  |V t q=>obtain⟨g,o⟩:=sW (a:=lQ k t) (b:=Nat.beq n q) h;rw[alm g,gz o]
  |_=>cases h
 ·change Ke l n y=true at h;cases y with
  |s d q=>obtain⟨g,o⟩:=sW (a:=Nat.beq l d) (b:=Nat.beq n q) h;rw[gz g,gz o]
  |_=>cases h
 ·change J7 y=true at h;cases y<;>first|(cases h;done)|rfl
 ·change Ki v y=true at h;cases y with
  |bu u=>obtain⟨g,o⟩:=sW (a:=Eg v) (b:=Eg u) h;rw[aeS g,aeS o]
  |_=>cases h
 ·change Iz cs (Dt cs) y=true at h;cases y with
  |agg c=>rw[e c h]
  |_=>cases h
 ·change If cs (Dt cs) y=true at h;cases y with
  |a0 c=>rw[e c h]
  |_=>cases h
 ·change Ju sz es (Gn es) y=true at h;cases y with
  |aQ w aEK=>obtain⟨g,o⟩:=sW (a:=Nat.beq sz w) (b:=Gn es aEK) h;rw[gz g,e aEK o]
  |_=>cases h
 ·change J2 i y=true at h;cases y with
  |tok j=>rw[gz (n:=i) (m:=j) h]
  |_=>cases h
 ·cases l with
  |nil=>rfl
  |cons _ _=>cases h
 ·cases d with
  |nil=>cases h
  |cons b r=>change cS (vS a b) (Dt l r)=true at h;rw[e _ (sW h).1,p _ (sW h).2]
 ·cases l with
  |nil=>rfl
  |cons _ _=>cases h
 ·cases d with
  |nil=>cases h
  |cons b r=>change cS (Dt a b) (Gn l r)=true at h;rw[e _ (sW h).1,p _ (sW h).2]
noncomputable def dy(a:aw)(r:an):Bool:= @aw.rec (λ_=>Bool) false (λc ub _ _=>cS (Nat.beq ub 0) (vS r c)) a
theorem eN{a:aw}{r:an}(h:dy a r=true):∃s d,a= .ok r 0 s d:=by
 cases a with
 |ax=>cases h
 |ok c ub s d=>obtain⟨e,g⟩:=sW (a:=Nat.beq ub 0) (b:=vS r c) h;have i:=gz e;have j:=RA _ _ g;subst i;subst j;exact⟨s,d,rfl⟩
end
def Jo:List (Int×Int):=[(-31,2),
 (-29,2),
 (-27,2),
 (-25,2),
 (-23,2),
 (-21,2),
 (-19,2),
 (-17,2),
 (-16,2),
 (-15,2),
 (-14,2),
 (-13,2),
 (-12,2),
 (-11,2),
 (-10,2),
 (-9,2),
 (-8,2),
 (-7,2),
 (-6,2),
 (-5,2),
 (-4,2),
 (-3,2),
 (-2,2),
 (-1,2),
 (0,2),
 (1,2),
 (2,2),
 (3,2),
 (4,2),
 (5,2),
 (6,2),
 (7,2),
 (8,2),
 (9,2),
 (10,2),
 (11,2),
 (12,2),
 (13,2),
 (14,2),
 (15,2),
 (16,2),
 (17,2),
 (19,2),
 (21,2),
 (23,2),
 (25,2),
 (27,2),
 (29,2),
 (31,2),
 (-104,3),
 (-101,3),
 (-98,3),
 (-95,3),
 (-94,3),
 (-92,3),
 (-91,3),
 (-89,3),
 (-88,3),
 (-86,3),
 (-85,3),
 (-83,3),
 (-82,3),
 (-80,3),
 (-79,3),
 (-77,3),
 (-76,3),
 (-75,3),
 (-74,3),
 (-73,3),
 (-71,3),
 (-70,3),
 (-68,3),
 (-67,3),
 (-65,3),
 (-64,3),
 (-62,3),
 (-61,3),
 (-60,3),
 (-59,3),
 (-58,3),
 (-56,3),
 (-55,3),
 (-53,3),
 (-52,3),
 (-50,3),
 (-49,3),
 (-47,3),
 (-46,3),
 (-45,3),
 (-44,3),
 (-43,3),
 (-41,3),
 (-40,3),
 (-38,3),
 (-37,3),
 (-35,3),
 (-34,3),
 (-32,3),
 (-31,3),
 (-30,3),
 (-29,3),
 (-28,3),
 (-26,3),
 (-25,3),
 (-23,3),
 (-22,3),
 (-20,3),
 (-19,3),
 (-17,3),
 (-16,3),
 (-15,3),
 (-14,3),
 (-13,3),
 (-11,3),
 (-10,3),
 (-8,3),
 (-7,3),
 (-5,3),
 (-4,3),
 (-2,3),
 (-1,3),
 (0,3),
 (1,3),
 (2,3),
 (4,3),
 (5,3),
 (7,3),
 (8,3),
 (10,3),
 (11,3),
 (13,3),
 (14,3),
 (15,3),
 (16,3),
 (17,3),
 (19,3),
 (20,3),
 (22,3),
 (23,3),
 (25,3),
 (26,3),
 (28,3),
 (29,3),
 (30,3),
 (31,3),
 (32,3),
 (34,3),
 (35,3),
 (37,3),
 (38,3),
 (40,3),
 (41,3),
 (43,3),
 (44,3),
 (45,3),
 (46,3),
 (47,3),
 (49,3),
 (50,3),
 (52,3),
 (53,3),
 (55,3),
 (56,3),
 (58,3),
 (59,3),
 (60,3),
 (61,3),
 (62,3),
 (64,3),
 (65,3),
 (67,3),
 (68,3),
 (70,3),
 (71,3),
 (73,3),
 (74,3),
 (75,3),
 (76,3),
 (77,3),
 (79,3),
 (80,3),
 (82,3),
 (83,3),
 (85,3),
 (86,3),
 (88,3),
 (89,3),
 (91,3),
 (92,3),
 (94,3),
 (95,3),
 (98,3),
 (101,3),
 (104,3),
 (-12,4),
 (-11,4),
 (-8,4),
 (-7,4),
 (-4,4),
 (-3,4),
 (-1,4),
 (0,4),
 (1,4),
 (4,4),
 (5,4),
 (8,4),
 (9,4),
 (12,4),
 (13,4),
 (-31,6),
 (-25,6),
 (-23,6),
 (-19,6),
 (-17,6),
 (-13,6),
 (-11,6),
 (-7,6),
 (-5,6),
 (-1,6),
 (1,6),
 (5,6),
 (7,6),
 (11,6),
 (13,6),
 (17,6),
 (19,6),
 (25,6),
 (31,6),
 (-2,8),
 (-30,9),
 (-27,9),
 (-25,9),
 (-18,9),
 (-15,9),
 (-9,9),
 (-2,9),
 (0,9),
 (7,9),
 (9,9),
 (16,9),
 (18,9),
 (25,9),
 (27,9),
 (30,9),
 (34,9),
 (40,9),
 (43,9),
 (45,9),
 (52,9),
 (-20,12),
 (-16,12),
 (23,12),
 (9,18),
 (15,18),
 (41,18),
 (120,27)]
def gC:List Nat:=[0,1,2,3,4,5,6,7,8,9,10,11,12,13,14,15,16,17,18,19,20,21,22,23,24,25,26,27,28,29,30,31,32,33,34,35,36,37,38,39,40,41,42,43,44,45,46,47,48,49,50,51,52,53,54,55,56,57,58,59,60,61,62,63,64,65,66,67,68,69,70,71,72,73,74,75,76,77,78,79,80,81,84,88,90,91,96,98,99,100,104,105,108,110,112,117,120,121,126,128,130,132,135,140,143,144,150,154,156,160,165,168,169,176,180,182,192,195,196,208,210,224,225,240,256]
def u0:List (Int×Int):=[(-31,2),
 (-29,2),
 (-27,2),
 (-25,2),
 (-23,2),
 (-21,2),
 (-19,2),
 (-17,2),
 (-15,2),
 (-13,2),
 (-11,2),
 (-9,2),
 (-7,2),
 (-5,2),
 (-3,2),
 (-1,2),
 (1,2),
 (3,2),
 (5,2),
 (7,2),
 (9,2),
 (11,2),
 (13,2),
 (15,2),
 (17,2),
 (19,2),
 (21,2),
 (23,2),
 (25,2),
 (27,2),
 (29,2),
 (31,2),
 (-104,3),
 (-101,3),
 (-98,3),
 (-95,3),
 (-94,3),
 (-92,3),
 (-91,3),
 (-89,3),
 (-88,3),
 (-86,3),
 (-85,3),
 (-83,3),
 (-82,3),
 (-80,3),
 (-79,3),
 (-77,3),
 (-76,3),
 (-74,3),
 (-73,3),
 (-71,3),
 (-70,3),
 (-68,3),
 (-67,3),
 (-65,3),
 (-64,3),
 (-62,3),
 (-61,3),
 (-59,3),
 (-58,3),
 (-56,3),
 (-55,3),
 (-53,3),
 (-52,3),
 (-50,3),
 (-49,3),
 (-47,3),
 (-46,3),
 (-44,3),
 (-43,3),
 (-41,3),
 (-40,3),
 (-38,3),
 (-37,3),
 (-35,3),
 (-34,3),
 (-32,3),
 (-31,3),
 (-29,3),
 (-28,3),
 (-26,3),
 (-25,3),
 (-23,3),
 (-22,3),
 (-20,3),
 (-19,3),
 (-17,3),
 (-16,3),
 (-14,3),
 (-13,3),
 (-11,3),
 (-10,3),
 (-8,3),
 (-7,3),
 (-5,3),
 (-4,3),
 (-2,3),
 (-1,3),
 (1,3),
 (2,3),
 (4,3),
 (5,3),
 (7,3),
 (8,3),
 (10,3),
 (11,3),
 (13,3),
 (14,3),
 (16,3),
 (17,3),
 (19,3),
 (20,3),
 (22,3),
 (23,3),
 (25,3),
 (26,3),
 (28,3),
 (29,3),
 (31,3),
 (32,3),
 (34,3),
 (35,3),
 (37,3),
 (38,3),
 (40,3),
 (41,3),
 (43,3),
 (44,3),
 (46,3),
 (47,3),
 (49,3),
 (50,3),
 (52,3),
 (53,3),
 (55,3),
 (56,3),
 (58,3),
 (59,3),
 (61,3),
 (62,3),
 (64,3),
 (65,3),
 (67,3),
 (68,3),
 (70,3),
 (71,3),
 (73,3),
 (74,3),
 (76,3),
 (77,3),
 (79,3),
 (80,3),
 (82,3),
 (83,3),
 (85,3),
 (86,3),
 (88,3),
 (89,3),
 (91,3),
 (92,3),
 (94,3),
 (95,3),
 (98,3),
 (101,3),
 (104,3),
 (-11,4),
 (-7,4),
 (-3,4),
 (-1,4),
 (1,4),
 (5,4),
 (9,4),
 (13,4),
 (-31,6),
 (-25,6),
 (-23,6),
 (-19,6),
 (-17,6),
 (-13,6),
 (-11,6),
 (-7,6),
 (-5,6),
 (-1,6),
 (1,6),
 (5,6),
 (7,6),
 (11,6),
 (13,6),
 (17,6),
 (19,6),
 (25,6),
 (31,6),
 (-25,9),
 (-2,9),
 (7,9),
 (16,9),
 (25,9),
 (34,9),
 (40,9),
 (43,9),
 (52,9),
 (23,12),
 (41,18)]
def l0(p q:Int):Int:=p/(Int.gcd p q:Int)
def lM(p q:Int):Int:=q/(Int.gcd p q:Int)
end Go.Hf
namespace Go.Proofs
open Go.Shelf Go.Hf
def ya:String:=(YthiipifjdfmblaaGreatDoor.Rows.linearProductsRow.laid.map (λp=>p.1)).getD 2 ""
def Tryz.azc:Go.Shelf.Ren:=⟨λ |106=>334|213=>357|265=>371|n=>n,λ |9=>9|3=>3|n=>n,λ |n=>n⟩
theorem Tryz.aoG:Go.Proofs.Lays.n106 Tryz.prog Tryz.azc:={
 mixed:=by kernel_rfl
 f106:=Tryz.func334.trans (dt some (by kernel_rfl))
 f213:=Tryz.func357.trans (dt some (by kernel_rfl))
 f265:=Tryz.func371.trans (dt some (by kernel_rfl))
 t3:=Tryz.underlying3
 a3:=Tryz.isAgg3
 z3:=Tryz.sizeOf3
 v3:=Tryz.zeroValue3
 t9:=Tryz.underlying9
 a9:=Tryz.isAgg9
 z9:=Tryz.sizeOf9
 v9:=Tryz.zeroValue9}
open Go.RowKit in
theorem Tryz.strings_Compare(a b:ByteArray)(w:World):
 Calls Tryz.prog 334 #[.string a,.string b] w λe w'=>e= .returned (.int .i64 (Lib.compareBytes a.data.toList b.data.toList))/\w'=w:=Any.strings_Compare Tryz.aoG a b w
def Tryz.aCP:Go.Shelf.Ren:=⟨λ |171=>157|243=>206|246=>263|283=>309|284=>310|285=>311|286=>312|129=>343|317=>342|318=>344|319=>345|320=>346|337=>359|338=>360|n=>n,λ |3=>3|9=>9|2=>2|4=>4|171=>342|0=>0|53=>78|37=>22|5=>5|173=>345|212=>372|51=>26|20=>20|213=>373|46=>175|232=>388|233=>389|n=>n,λ |17=>0|18=>2|19=>3|n=>n⟩
theorem Tryz.akk:Go.Proofs.LaysM.n171 Tryz.prog Tryz.aCP:={
 mixed:=by kernel_rfl
 f129:=Tryz.func343.trans (dt some (by kernel_rfl))
 f171:=Tryz.func157.trans (dt some (by kernel_rfl))
 f243:=Tryz.func206.trans (dt some (by kernel_rfl))
 f246:=Tryz.func263.trans (dt some (by kernel_rfl))
 f283:=Tryz.func309.trans (dt some (by kernel_rfl))
 f284:=Tryz.func310.trans (dt some (by kernel_rfl))
 f285:=Tryz.func311.trans (dt some (by kernel_rfl))
 f286:=Tryz.func312.trans (dt some (by kernel_rfl))
 f317:=Tryz.func342.trans (dt some (by kernel_rfl))
 f318:=Tryz.func344.trans (dt some (by kernel_rfl))
 f319:=Tryz.func345.trans (dt some (by kernel_rfl))
 f320:=Tryz.func346.trans (dt some (by kernel_rfl))
 f337:=Tryz.func359.trans (dt some (by kernel_rfl))
 f338:=Tryz.func360.trans (dt some (by kernel_rfl))
 t0:=Tryz.underlying0
 a0:=Tryz.isAgg0
 z0:=Tryz.sizeOf0
 v0:=Tryz.zeroValue0
 t2:=Tryz.underlying2
 a2:=Tryz.isAgg2
 z2:=Tryz.sizeOf2
 v2:=Tryz.zeroValue2
 t3:=Tryz.underlying3
 a3:=Tryz.isAgg3
 z3:=Tryz.sizeOf3
 v3:=Tryz.zeroValue3
 t4:=Tryz.underlying4
 a4:=Tryz.isAgg4
 z4:=Tryz.sizeOf4
 v4:=Tryz.zeroValue4
 t5:=Tryz.underlying5
 a5:=Tryz.isAgg5
 z5:=Tryz.sizeOf5
 v5:=Tryz.zeroValue5
 t9:=Tryz.underlying9
 a9:=Tryz.isAgg9
 z9:=Tryz.sizeOf9
 v9:=Tryz.zeroValue9
 t20:=Tryz.underlying20
 a20:=Tryz.isAgg20
 z20:=Tryz.sizeOf20
 v20:=Tryz.zeroValue20
 t37:=Tryz.underlying22
 a37:=Tryz.isAgg22
 z37:=Tryz.sizeOf22
 v37:=Tryz.zeroValue22
 t46:=Tryz.underlying175
 a46:=Tryz.isAgg175
 z46:=Tryz.sizeOf175
 v46:=Tryz.zeroValue175
 t51:=Tryz.underlying26
 a51:=Tryz.isAgg26
 z51:=Tryz.sizeOf26
 v51:=Tryz.zeroValue26
 t53:=Tryz.underlying78
 a53:=Tryz.isAgg78
 z53:=Tryz.sizeOf78
 v53:=Tryz.zeroValue78
 t171:=Tryz.underlying342
 a171:=Tryz.isAgg342
 z171:=Tryz.sizeOf342
 v171:=Tryz.zeroValue342
 t173:=Tryz.underlying345
 a173:=Tryz.isAgg345
 z173:=Tryz.sizeOf345
 v173:=Tryz.zeroValue345
 t212:=Tryz.underlying372
 a212:=Tryz.isAgg372
 z212:=Tryz.sizeOf372
 v212:=Tryz.zeroValue372
 t213:=Tryz.underlying373
 a213:=Tryz.isAgg373
 z213:=Tryz.sizeOf373
 t232:=Tryz.underlying388
 a232:=Tryz.isAgg388
 z232:=Tryz.sizeOf388
 v232:=Tryz.zeroValue388
 t233:=Tryz.underlying389
 a233:=Tryz.isAgg389
 z233:=Tryz.sizeOf389
 v233:=Tryz.zeroValue389
 g17:=by kernel_rfl
 g18:=by kernel_rfl
 g19:=by kernel_rfl
 i0:=by kernel_rfl
 i2:=by kernel_rfl
 i3:=by kernel_rfl
 i4:=by kernel_rfl
 i5:=by kernel_rfl
 i9:=by kernel_rfl
 i20:=by kernel_rfl
 i37:=by kernel_rfl
 i46:=by kernel_rfl
 i51:=by kernel_rfl
 i53:=by kernel_rfl
 i171:=by kernel_rfl
 i173:=by kernel_rfl
 i212:=by kernel_rfl
 i232:=by kernel_rfl
 i233:=by kernel_rfl
 m17:=by kernel_rfl
 m18:=by kernel_rfl
 m19:=by kernel_rfl}
open Go.RowKit Go.Sort Go.Lib in
theorem Tryz.strconv_Itoa(n:Int)(a: -9223372036854775808<=n)(b:n<=9223372036854775807)(w:World)(c:Lib.TabIs Tryz.prog w ya .u64 Lib.pow10Tab):
 Calls Tryz.prog 157 #[.int .i64 n] w λe w'=>e= .returned (.string ⟨(Lib.itoa n).toArray⟩)/\∃k os,w'=grow (w.drewN k) os:=Any.strconv_Itoa Tryz.akk n a b w c
def Tryz.az8:Go.Shelf.Ren:=⟨λ |173=>267|246=>263|283=>309|284=>310|285=>311|286=>312|129=>343|317=>342|318=>344|319=>345|320=>346|337=>359|338=>360|n=>n,λ |2=>2|3=>3|9=>9|4=>4|171=>342|0=>0|53=>78|37=>22|5=>5|173=>345|212=>372|51=>26|20=>20|213=>373|46=>175|232=>388|233=>389|n=>n,λ |17=>0|18=>2|19=>3|n=>n⟩
theorem Tryz.aoC:Go.Proofs.LaysM.n173 Tryz.prog Tryz.az8:={
 mixed:=by kernel_rfl
 f129:=Tryz.func343.trans (dt some (by kernel_rfl))
 f173:=Tryz.func267.trans (dt some (by kernel_rfl))
 f246:=Tryz.func263.trans (dt some (by kernel_rfl))
 f283:=Tryz.func309.trans (dt some (by kernel_rfl))
 f284:=Tryz.func310.trans (dt some (by kernel_rfl))
 f285:=Tryz.func311.trans (dt some (by kernel_rfl))
 f286:=Tryz.func312.trans (dt some (by kernel_rfl))
 f317:=Tryz.func342.trans (dt some (by kernel_rfl))
 f318:=Tryz.func344.trans (dt some (by kernel_rfl))
 f319:=Tryz.func345.trans (dt some (by kernel_rfl))
 f320:=Tryz.func346.trans (dt some (by kernel_rfl))
 f337:=Tryz.func359.trans (dt some (by kernel_rfl))
 f338:=Tryz.func360.trans (dt some (by kernel_rfl))
 t0:=Tryz.underlying0
 a0:=Tryz.isAgg0
 z0:=Tryz.sizeOf0
 v0:=Tryz.zeroValue0
 t2:=Tryz.underlying2
 a2:=Tryz.isAgg2
 z2:=Tryz.sizeOf2
 v2:=Tryz.zeroValue2
 t3:=Tryz.underlying3
 a3:=Tryz.isAgg3
 z3:=Tryz.sizeOf3
 v3:=Tryz.zeroValue3
 t4:=Tryz.underlying4
 a4:=Tryz.isAgg4
 z4:=Tryz.sizeOf4
 v4:=Tryz.zeroValue4
 t5:=Tryz.underlying5
 a5:=Tryz.isAgg5
 z5:=Tryz.sizeOf5
 v5:=Tryz.zeroValue5
 t9:=Tryz.underlying9
 a9:=Tryz.isAgg9
 z9:=Tryz.sizeOf9
 v9:=Tryz.zeroValue9
 t20:=Tryz.underlying20
 a20:=Tryz.isAgg20
 z20:=Tryz.sizeOf20
 v20:=Tryz.zeroValue20
 t37:=Tryz.underlying22
 a37:=Tryz.isAgg22
 z37:=Tryz.sizeOf22
 v37:=Tryz.zeroValue22
 t46:=Tryz.underlying175
 a46:=Tryz.isAgg175
 z46:=Tryz.sizeOf175
 v46:=Tryz.zeroValue175
 t51:=Tryz.underlying26
 a51:=Tryz.isAgg26
 z51:=Tryz.sizeOf26
 v51:=Tryz.zeroValue26
 t53:=Tryz.underlying78
 a53:=Tryz.isAgg78
 z53:=Tryz.sizeOf78
 v53:=Tryz.zeroValue78
 t171:=Tryz.underlying342
 a171:=Tryz.isAgg342
 z171:=Tryz.sizeOf342
 v171:=Tryz.zeroValue342
 t173:=Tryz.underlying345
 a173:=Tryz.isAgg345
 z173:=Tryz.sizeOf345
 v173:=Tryz.zeroValue345
 t212:=Tryz.underlying372
 a212:=Tryz.isAgg372
 z212:=Tryz.sizeOf372
 v212:=Tryz.zeroValue372
 t213:=Tryz.underlying373
 a213:=Tryz.isAgg373
 z213:=Tryz.sizeOf373
 t232:=Tryz.underlying388
 a232:=Tryz.isAgg388
 z232:=Tryz.sizeOf388
 v232:=Tryz.zeroValue388
 t233:=Tryz.underlying389
 a233:=Tryz.isAgg389
 z233:=Tryz.sizeOf389
 v233:=Tryz.zeroValue389
 g17:=by kernel_rfl
 g18:=by kernel_rfl
 g19:=by kernel_rfl
 i0:=by kernel_rfl
 i2:=by kernel_rfl
 i3:=by kernel_rfl
 i4:=by kernel_rfl
 i5:=by kernel_rfl
 i9:=by kernel_rfl
 i20:=by kernel_rfl
 i37:=by kernel_rfl
 i46:=by kernel_rfl
 i51:=by kernel_rfl
 i53:=by kernel_rfl
 i171:=by kernel_rfl
 i173:=by kernel_rfl
 i212:=by kernel_rfl
 i232:=by kernel_rfl
 i233:=by kernel_rfl
 m17:=by kernel_rfl
 m18:=by kernel_rfl
 m19:=by kernel_rfl}
open Go.RowKit Go.Sort Go.Lib in
theorem Tryz.strconv_FormatInt_10(n:Int)(a: -9223372036854775808<=n)(b:n<=9223372036854775807)(w:World)(c:Lib.TabIs Tryz.prog w ya .u64 Lib.pow10Tab):
 Calls Tryz.prog 267 #[.int .i64 n,.int .i64 10] w λe w'=>e= .returned (.string ⟨(Lib.itoa n).toArray⟩)/\∃k os,w'=grow (w.drewN k) os:=Any.strconv_FormatInt_10 Tryz.aoC n a b w c
def Tryz.apm:Go.Shelf.Ren:=⟨λ |174=>317|247=>350|245=>351|287=>353|279=>363|280=>364|281=>365|282=>366|321=>368|322=>369|316=>373|171=>157|205=>374|243=>206|246=>263|283=>309|284=>310|285=>311|286=>312|129=>343|317=>342|318=>344|319=>345|320=>346|337=>359|338=>360|n=>n,λ |9=>9|3=>3|2=>2|75=>349|85=>350|4=>4|167=>381|5=>5|53=>78|175=>352|46=>175|168=>382|37=>22|0=>0|210=>391|21=>21|127=>378|145=>395|143=>393|171=>342|173=>345|212=>372|51=>26|20=>20|213=>373|232=>388|233=>389|80=>200|n=>n,λ |15=>4|16=>5|17=>0|18=>2|19=>3|n=>n⟩
theorem Tryz.ai0:Go.Proofs.LaysC.n174 Tryz.prog Tryz.apm:={
 mixed:=by kernel_rfl
 f129:=Tryz.func343.trans (dt some (by kernel_rfl))
 f171:=Tryz.func157.trans (dt some (by kernel_rfl))
 f174:=Tryz.func317.trans (dt some (by kernel_rfl))
 f205:=Tryz.func374.trans (dt some (by kernel_rfl))
 f243:=Tryz.func206.trans (dt some (by kernel_rfl))
 f245:=Tryz.func351.trans (dt some (by kernel_rfl))
 f246:=Tryz.func263.trans (dt some (by kernel_rfl))
 f247:=Tryz.func350.trans (dt some (by kernel_rfl))
 f279:=Tryz.func363.trans (dt some (by kernel_rfl))
 f280:=Tryz.func364.trans (dt some (by kernel_rfl))
 f281:=Tryz.func365.trans (dt some (by kernel_rfl))
 f282:=Tryz.func366.trans (dt some (by kernel_rfl))
 f283:=Tryz.func309.trans (dt some (by kernel_rfl))
 f284:=Tryz.func310.trans (dt some (by kernel_rfl))
 f285:=Tryz.func311.trans (dt some (by kernel_rfl))
 f286:=Tryz.func312.trans (dt some (by kernel_rfl))
 f287:=Tryz.func353.trans (dt some (by kernel_rfl))
 f316:=Tryz.func373.trans (dt some (by kernel_rfl))
 f317:=Tryz.func342.trans (dt some (by kernel_rfl))
 f318:=Tryz.func344.trans (dt some (by kernel_rfl))
 f319:=Tryz.func345.trans (dt some (by kernel_rfl))
 f320:=Tryz.func346.trans (dt some (by kernel_rfl))
 f321:=Tryz.func368.trans (dt some (by kernel_rfl))
 f322:=Tryz.func369.trans (dt some (by kernel_rfl))
 f337:=Tryz.func359.trans (dt some (by kernel_rfl))
 f338:=Tryz.func360.trans (dt some (by kernel_rfl))
 t0:=Tryz.underlying0
 a0:=Tryz.isAgg0
 z0:=Tryz.sizeOf0
 v0:=Tryz.zeroValue0
 t2:=Tryz.underlying2
 a2:=Tryz.isAgg2
 z2:=Tryz.sizeOf2
 v2:=Tryz.zeroValue2
 t3:=Tryz.underlying3
 a3:=Tryz.isAgg3
 z3:=Tryz.sizeOf3
 v3:=Tryz.zeroValue3
 t4:=Tryz.underlying4
 a4:=Tryz.isAgg4
 z4:=Tryz.sizeOf4
 v4:=Tryz.zeroValue4
 t5:=Tryz.underlying5
 a5:=Tryz.isAgg5
 z5:=Tryz.sizeOf5
 v5:=Tryz.zeroValue5
 t9:=Tryz.underlying9
 a9:=Tryz.isAgg9
 z9:=Tryz.sizeOf9
 v9:=Tryz.zeroValue9
 t20:=Tryz.underlying20
 a20:=Tryz.isAgg20
 z20:=Tryz.sizeOf20
 v20:=Tryz.zeroValue20
 t21:=Tryz.underlying21
 a21:=Tryz.isAgg21
 z21:=Tryz.sizeOf21
 v21:=Tryz.zeroValue21
 t37:=Tryz.underlying22
 a37:=Tryz.isAgg22
 z37:=Tryz.sizeOf22
 v37:=Tryz.zeroValue22
 t46:=Tryz.underlying175
 a46:=Tryz.isAgg175
 z46:=Tryz.sizeOf175
 v46:=Tryz.zeroValue175
 t51:=Tryz.underlying26
 a51:=Tryz.isAgg26
 z51:=Tryz.sizeOf26
 v51:=Tryz.zeroValue26
 t53:=Tryz.underlying78
 a53:=Tryz.isAgg78
 z53:=Tryz.sizeOf78
 v53:=Tryz.zeroValue78
 t75:=Tryz.underlying349
 a75:=Tryz.isAgg349
 z75:=Tryz.sizeOf349
 v75:=Tryz.zeroValue349
 t85:=Tryz.underlying350
 a85:=Tryz.isAgg350
 z85:=Tryz.sizeOf350
 v85:=Tryz.zeroValue350
 t127:=Tryz.underlying378
 a127:=Tryz.isAgg378
 z127:=Tryz.sizeOf378
 v127:=Tryz.zeroValue378
 t143:=Tryz.underlying393
 a143:=Tryz.isAgg393
 z143:=Tryz.sizeOf393
 v143:=Tryz.zeroValue393
 t145:=Tryz.underlying395
 a145:=Tryz.isAgg395
 z145:=Tryz.sizeOf395
 v145:=Tryz.zeroValue395
 t167:=Tryz.underlying381
 a167:=Tryz.isAgg381
 z167:=Tryz.sizeOf381
 v167:=Tryz.zeroValue381
 t168:=Tryz.underlying382
 a168:=Tryz.isAgg382
 z168:=Tryz.sizeOf382
 v168:=Tryz.zeroValue382
 t171:=Tryz.underlying342
 a171:=Tryz.isAgg342
 z171:=Tryz.sizeOf342
 v171:=Tryz.zeroValue342
 t173:=Tryz.underlying345
 a173:=Tryz.isAgg345
 z173:=Tryz.sizeOf345
 v173:=Tryz.zeroValue345
 t175:=Tryz.underlying352
 a175:=Tryz.isAgg352
 z175:=Tryz.sizeOf352
 v175:=Tryz.zeroValue352
 t210:=Tryz.underlying391
 a210:=Tryz.isAgg391
 z210:=Tryz.sizeOf391
 v210:=Tryz.zeroValue391
 t212:=Tryz.underlying372
 a212:=Tryz.isAgg372
 z212:=Tryz.sizeOf372
 v212:=Tryz.zeroValue372
 t213:=Tryz.underlying373
 a213:=Tryz.isAgg373
 z213:=Tryz.sizeOf373
 t232:=Tryz.underlying388
 a232:=Tryz.isAgg388
 z232:=Tryz.sizeOf388
 v232:=Tryz.zeroValue388
 t233:=Tryz.underlying389
 a233:=Tryz.isAgg389
 z233:=Tryz.sizeOf389
 v233:=Tryz.zeroValue389
 g15:=by kernel_rfl
 g16:=by kernel_rfl
 g17:=by kernel_rfl
 g18:=by kernel_rfl
 g19:=by kernel_rfl
 t80:=Tryz.underlying200
 a80:=Tryz.isAgg200
 z80:=Tryz.sizeOf200
 v80:=Tryz.zeroValue200
 i0:=by kernel_rfl
 i2:=by kernel_rfl
 i3:=by kernel_rfl
 i4:=by kernel_rfl
 i5:=by kernel_rfl
 i9:=by kernel_rfl
 i20:=by kernel_rfl
 i21:=by kernel_rfl
 i37:=by kernel_rfl
 i46:=by kernel_rfl
 i51:=by kernel_rfl
 i53:=by kernel_rfl
 i75:=by kernel_rfl
 i80:=by kernel_rfl
 i85:=by kernel_rfl
 i127:=by kernel_rfl
 i143:=by kernel_rfl
 i145:=by kernel_rfl
 i167:=by kernel_rfl
 i168:=by kernel_rfl
 i171:=by kernel_rfl
 i173:=by kernel_rfl
 i175:=by kernel_rfl
 i210:=by kernel_rfl
 i212:=by kernel_rfl
 i232:=by kernel_rfl
 i233:=by kernel_rfl
 m15:=by kernel_rfl
 m16:=by kernel_rfl
 m17:=by kernel_rfl
 m18:=by kernel_rfl
 m19:=by kernel_rfl
 c0:=by kernel_rfl
 c2:=by kernel_rfl
 c3:=by kernel_rfl
 c4:=by kernel_rfl
 c5:=by kernel_rfl
 c9:=by kernel_rfl
 c20:=by kernel_rfl
 c21:=by kernel_rfl
 c37:=by kernel_rfl
 c46:=by kernel_rfl
 c51:=by kernel_rfl
 c53:=by kernel_rfl
 c75:=by kernel_rfl
 c80:=by kernel_rfl
 c85:=by kernel_rfl
 c127:=by kernel_rfl
 c143:=by kernel_rfl
 c145:=by kernel_rfl
 c167:=by kernel_rfl
 c168:=by kernel_rfl
 c171:=by kernel_rfl
 c173:=by kernel_rfl
 c175:=by kernel_rfl
 c210:=by kernel_rfl
 c212:=by kernel_rfl
 c213:=by kernel_rfl
 c232:=by kernel_rfl
 c233:=by kernel_rfl}
open Go.RowKit in
theorem Tryz.strconv_ParseInt_10_at64_ok(s:ByteArray)(a:s.size<=9223372036854775806)(v:Int)(h:Lib.parseIntB 64 s.data.toList= .ok v)(w:World):
 Calls Tryz.prog 317 #[.string s,.int .i64 10,.int .i64 64] w λe w'=>e= .returned (.tuple #[.int .i64 v,.nilIface])/\(w'=w\/∃t,w'=Lib.bytesWorld w 5 t):=Any.strconv_ParseInt_10_at64_ok Tryz.ai0 s a v h w
def Tryz.atX:Go.Shelf.Ren:=⟨λ |14=>319|16=>353|17=>351|19=>368|20=>369|21=>363|22=>364|23=>365|24=>366|25=>373|27=>157|26=>374|28=>206|29=>263|30=>309|31=>310|32=>311|33=>312|35=>343|34=>342|36=>344|37=>345|38=>346|39=>359|40=>360|n=>n,λ |9=>9|3=>3|22=>78|24=>349|25=>352|4=>4|34=>381|5=>5|36=>175|37=>22|0=>0|39=>382|21=>21|44=>391|47=>378|50=>395|48=>393|2=>2|52=>342|55=>345|59=>372|60=>26|20=>20|61=>373|65=>388|66=>389|67=>200|n=>n,λ |0=>4|1=>5|2=>0|3=>2|4=>3|n=>n⟩
theorem Tryz.aCF:Go.Proofs.LaysPu.n14 Tryz.prog Tryz.atX:={
 mixed:=by kernel_rfl
 f14:=Tryz.func319.trans (dt some (by kernel_rfl))
 f16:=Tryz.func353.trans (dt some (by kernel_rfl))
 f17:=Tryz.func351.trans (dt some (by kernel_rfl))
 f19:=Tryz.func368.trans (dt some (by kernel_rfl))
 f20:=Tryz.func369.trans (dt some (by kernel_rfl))
 f21:=Tryz.func363.trans (dt some (by kernel_rfl))
 f22:=Tryz.func364.trans (dt some (by kernel_rfl))
 f23:=Tryz.func365.trans (dt some (by kernel_rfl))
 f24:=Tryz.func366.trans (dt some (by kernel_rfl))
 f25:=Tryz.func373.trans (dt some (by kernel_rfl))
 f26:=Tryz.func374.trans (dt some (by kernel_rfl))
 f27:=Tryz.func157.trans (dt some (by kernel_rfl))
 f28:=Tryz.func206.trans (dt some (by kernel_rfl))
 f29:=Tryz.func263.trans (dt some (by kernel_rfl))
 f30:=Tryz.func309.trans (dt some (by kernel_rfl))
 f31:=Tryz.func310.trans (dt some (by kernel_rfl))
 f32:=Tryz.func311.trans (dt some (by kernel_rfl))
 f33:=Tryz.func312.trans (dt some (by kernel_rfl))
 f34:=Tryz.func342.trans (dt some (by kernel_rfl))
 f35:=Tryz.func343.trans (dt some (by kernel_rfl))
 f36:=Tryz.func344.trans (dt some (by kernel_rfl))
 f37:=Tryz.func345.trans (dt some (by kernel_rfl))
 f38:=Tryz.func346.trans (dt some (by kernel_rfl))
 f39:=Tryz.func359.trans (dt some (by kernel_rfl))
 f40:=Tryz.func360.trans (dt some (by kernel_rfl))
 t0:=Tryz.underlying0
 a0:=Tryz.isAgg0
 z0:=Tryz.sizeOf0
 v0:=Tryz.zeroValue0
 i0:=by kernel_rfl
 t2:=Tryz.underlying2
 a2:=Tryz.isAgg2
 z2:=Tryz.sizeOf2
 v2:=Tryz.zeroValue2
 i2:=by kernel_rfl
 t3:=Tryz.underlying3
 a3:=Tryz.isAgg3
 z3:=Tryz.sizeOf3
 v3:=Tryz.zeroValue3
 i3:=by kernel_rfl
 t4:=Tryz.underlying4
 a4:=Tryz.isAgg4
 z4:=Tryz.sizeOf4
 v4:=Tryz.zeroValue4
 i4:=by kernel_rfl
 t5:=Tryz.underlying5
 a5:=Tryz.isAgg5
 z5:=Tryz.sizeOf5
 v5:=Tryz.zeroValue5
 i5:=by kernel_rfl
 t9:=Tryz.underlying9
 a9:=Tryz.isAgg9
 z9:=Tryz.sizeOf9
 v9:=Tryz.zeroValue9
 i9:=by kernel_rfl
 t20:=Tryz.underlying20
 a20:=Tryz.isAgg20
 z20:=Tryz.sizeOf20
 v20:=Tryz.zeroValue20
 i20:=by kernel_rfl
 t21:=Tryz.underlying21
 a21:=Tryz.isAgg21
 z21:=Tryz.sizeOf21
 v21:=Tryz.zeroValue21
 i21:=by kernel_rfl
 t22:=Tryz.underlying78
 a22:=Tryz.isAgg78
 z22:=Tryz.sizeOf78
 v22:=Tryz.zeroValue78
 i22:=by kernel_rfl
 t24:=Tryz.underlying349
 a24:=Tryz.isAgg349
 z24:=Tryz.sizeOf349
 v24:=Tryz.zeroValue349
 i24:=by kernel_rfl
 t25:=Tryz.underlying352
 a25:=Tryz.isAgg352
 z25:=Tryz.sizeOf352
 v25:=Tryz.zeroValue352
 i25:=by kernel_rfl
 t34:=Tryz.underlying381
 a34:=Tryz.isAgg381
 z34:=Tryz.sizeOf381
 v34:=Tryz.zeroValue381
 i34:=by kernel_rfl
 c34:=by kernel_rfl
 t36:=Tryz.underlying175
 a36:=Tryz.isAgg175
 z36:=Tryz.sizeOf175
 v36:=Tryz.zeroValue175
 i36:=by kernel_rfl
 t37:=Tryz.underlying22
 a37:=Tryz.isAgg22
 z37:=Tryz.sizeOf22
 v37:=Tryz.zeroValue22
 i37:=by kernel_rfl
 t39:=Tryz.underlying382
 a39:=Tryz.isAgg382
 z39:=Tryz.sizeOf382
 v39:=Tryz.zeroValue382
 i39:=by kernel_rfl
 t44:=Tryz.underlying391
 a44:=Tryz.isAgg391
 z44:=Tryz.sizeOf391
 v44:=Tryz.zeroValue391
 i44:=by kernel_rfl
 t47:=Tryz.underlying378
 a47:=Tryz.isAgg378
 z47:=Tryz.sizeOf378
 v47:=Tryz.zeroValue378
 i47:=by kernel_rfl
 t48:=Tryz.underlying393
 a48:=Tryz.isAgg393
 z48:=Tryz.sizeOf393
 v48:=Tryz.zeroValue393
 i48:=by kernel_rfl
 t50:=Tryz.underlying395
 a50:=Tryz.isAgg395
 z50:=Tryz.sizeOf395
 v50:=Tryz.zeroValue395
 i50:=by kernel_rfl
 t52:=Tryz.underlying342
 a52:=Tryz.isAgg342
 z52:=Tryz.sizeOf342
 v52:=Tryz.zeroValue342
 i52:=by kernel_rfl
 t55:=Tryz.underlying345
 a55:=Tryz.isAgg345
 z55:=Tryz.sizeOf345
 v55:=Tryz.zeroValue345
 i55:=by kernel_rfl
 t59:=Tryz.underlying372
 a59:=Tryz.isAgg372
 z59:=Tryz.sizeOf372
 v59:=Tryz.zeroValue372
 i59:=by kernel_rfl
 t60:=Tryz.underlying26
 a60:=Tryz.isAgg26
 z60:=Tryz.sizeOf26
 v60:=Tryz.zeroValue26
 i60:=by kernel_rfl
 t61:=Tryz.underlying373
 a61:=Tryz.isAgg373
 z61:=Tryz.sizeOf373
 t65:=Tryz.underlying388
 a65:=Tryz.isAgg388
 z65:=Tryz.sizeOf388
 v65:=Tryz.zeroValue388
 i65:=by kernel_rfl
 t66:=Tryz.underlying389
 a66:=Tryz.isAgg389
 z66:=Tryz.sizeOf389
 v66:=Tryz.zeroValue389
 i66:=by kernel_rfl
 t67:=Tryz.underlying200
 a67:=Tryz.isAgg200
 z67:=Tryz.sizeOf200
 v67:=Tryz.zeroValue200
 i67:=by kernel_rfl
 g0:=by kernel_rfl
 m0:=by kernel_rfl
 g1:=by kernel_rfl
 m1:=by kernel_rfl
 g2:=by kernel_rfl
 m2:=by kernel_rfl
 g3:=by kernel_rfl
 m3:=by kernel_rfl
 g4:=by kernel_rfl
 m4:=by kernel_rfl}
open Go.RowKit in
theorem Tryz.strconv_ParseUint_10_at32_ok(s:ByteArray)(a:s.size<=9223372036854775806)(u:Nat)(h:Lib.parseUintB 32 s.data.toList= .ok u)(w:World):
 Calls Tryz.prog 319 #[.string s,.int .i64 10,.int .i64 32] w λe w'=>e= .returned (.tuple #[.int .u64 u,.nilIface])/\(w'=w\/w'=Lib.bytesWorld w 5 s):=Any.strconv_ParseUint_10_at32_ok Tryz.aCF s a u h w
end Go.Proofs
namespace Go.Hf
open Go.RowKit
section
variable{A C:Fn->Prop}
section
variable[Tok]
def bl(C:Fn->Prop):Prop:=∃L,∀n,L<=n->C (bB bD n)
theorem bl.up(h:bl A)(s:∀n,A (bB bD n)->C (bB bD (n+1))):bl C:=by
 obtain⟨L,h⟩:=h;refine⟨L+1,λn a=>?_⟩;cases n with
 |zero=>omega
 |succ n=>exact s n (h n (by omega))
theorem bl.imp(h:bl A)(s:∀n,A (bB bD n)->C (bB bD n)):bl C:=by obtain⟨L,h⟩:=h;exact⟨L,λn a=>s n (h n a)⟩
theorem bl.and(h:bl A)(g:bl C):bl λu=>A u/\C u:=by obtain⟨L,h⟩:=h;obtain⟨a,g⟩:=g;exact⟨L+a,λn b=>⟨h n (by omega),g n (by omega)⟩⟩
theorem bl.kQ(L:Nat)(h:∀n,C (bB bD (n+L))):bl C:=⟨L,λn a=>by have:=h (n-L);rwa [Nat.sub_add_cancel a] at this⟩
theorem bl.jr:bl λ_=>True:=⟨0,λ_ _=>trivial⟩
theorem cI{f n:Nat}{g:jq}{ps:aB}{r:an}(e:bB bD (n+1) f=g (bB bD n))(h:∃s d,g (bB bD n) ps 0 .nil= .ok r 0 s d):aK (bB bD (n+1)) f ps r:=by unfold aK;rw[e];exact h
theorem aM(f:Nat)(g:jq)(n:Nat)(h:look bD f= .mk g:=by kernel_rfl):bB bD (n+1) f=g (bB bD n):=by show(λargs b aET=> @aR.rec (λ_=>aw) .ax (λg=>g (bB bD n) args b aET) (look bD f))=_;rw[h]
end
end
section
variable{E:cr} {x y:cw} {h:aI} {c:aB->aB->Int} {I J:aY}
section
variable[Tok] {u:Fn} {b:Nat}
theorem apC{m:cw}{z:Bool}(H:aK u 213 [.agg (E.num m.U)] (.F z)):∃s d,Fb u [.agg (E.bd m)] 0 .nil= .ok (.F z) 0 s d:=by
 have a:0+0+7<=(E.bd m).length:=by rw[E.eG];omega
 have e:=E.eU m.U;rw[Fb,dK,Vq,cy,bb,aH,e8 a,show(0:Nat)+0=0 from rfl,E.jV,bg,bm,av,aT,Td,bj,fO,av];exact b9
def ja(c:aB->aB->Int):aY->aY->Int
 |x::r,y::s=>if c x y≠0 then c x y else ja c r s
 |_,_=>0
def jd(c:aB->aB->Int)(l k:aY):Int:=if l.length<k.length then-1 else if k.length<l.length then 1 else ja c l k
theorem Bl{c:aB->aB->Int}(h:∀x y,-100<c x y/\c x y<100):∀l k,-100<ja c l k/\ja c l k<100
 |[],_=>by simp[ja]
 |_::_,[]=>by simp[ja]
 |x::r,y::s=>by
  unfold ja;split
  ·exact h x y
  ·exact Bl h r s
theorem aBE{f:Nat}{x y:aB}{r:an}(a:b8 x=true)(e:b8 y=true)(g:∀ub aET,u f [.agg x,.agg y] ub aET= .ok r ub aET [])(k:dg):nN u b (dI f) [.agg x,.agg y] [] h k=k r h:=by have i:nN u b (dI f) [.agg x,.agg y] [] h k=aD h.aj (.agg x) λq e0=>aD h.aj (.agg y) λj l=>dd u b f (aA [q,j] []) (aA e0 (aA l [])) h k:=rfl;rw[i,bm a,bm e];obtain⟨ub,s,d⟩:=h;have fD:dd u b f (aA [.agg x,.agg y] []) (aA [] (aA [] [])) (.mk ub s d) k=jT b ub d k (u f [.agg x,.agg y] ub s):=rfl;rw[fD,g];have n:jT b ub d k (.ok r ub s [])=bf (Nat.ble ub ub) (k r (.mk ub s (aA (gZ b []) d))) .ax:=rfl;rw[n,ek,dm (cY ub),cM];rfl
theorem aii(Q:I.length=J.length)(R:I.length<1000)(H:∀(i:Nat) (p q:aB),I[i]? =some p->J[i]? =some q->cq p/\cq q/\(-100<c p q/\c p q<100)/\∀ub aET,u 183 [.agg p,.agg q] ub aET= .ok (ao (c p q)) ub aET []):∀(n k N:Nat) (h:aI),n+k=I.length->n<N->b4 h 0->da h->
 ∃s d,ih 0 1 2 11 12 13 N (qH u 0 (ts u 0)) (.aQ 11 I) (.aQ 11 J) (dI 183) (.aQ 11 I) (ao I.length) (ao k) h= .ok (ao (ja c (I.drop k) (J.drop k))) 0 s d:=by
 intro n;induction n with
 |zero=>
  intro k N h B C ub D;obtain⟨N,rfl⟩:=cN N;have e:ja c (I.drop k) (J.drop k)=0:=by rw[lO];rfl
  have G:∀k:an->aw,bq false (.aQ 11 I) k=k (ao I.length):=λk=>eA _ _ k;have a:∀k:an->aw,bq false (.aQ 11 J) k=k (ao J.length):=λk=>eA _ _ k;rw[mb,e];generalize ih 0 1 2 11 12 13 N (qH u 0 (ts u 0))=j6;rw[qH,bO,bk,a6,ts,G,a,bF,bO,bk,a6,vb,bj,b7,av];exact b9
 |succ n K=>
  intro k N h B C ub D;obtain⟨N,rfl⟩:=cN N;have l:I[k]? =some (I[k]'(by omega)):=dC _;have o:J[k]? =some (J[k]'(by omega)):=dC _;obtain⟨⟨L,r⟩,⟨M,t⟩,⟨c1,c2⟩,g⟩:=H _ _ _ l o;have w:I.drop k=(I[k]'(by omega))::I.drop (k+1):=iK (by omega);have z:J.drop k=(J[k]'(by omega))::J.drop (k+1):=iK (by omega);generalize (I[k]'(by omega))=p at l L r c1 c2 g w;generalize (J[k]'(by omega))=q at o M t c1 c2 g z;have j:=K (k+1) N;have O:((k+1:Nat):Int)=(k:Int)+1:=by omega
  rw[O] at j;have a:∀k:an->aw,bq false (.aQ 11 J) k=k (ao J.length):=λk=>eA _ _ k;have e:ja c (I.drop k) (J.drop k)=if c p q≠0 then c p q else ja c (I.drop (k+1)) (J.drop (k+1)):=by rw[w,z];rfl
  have A:∀(h:aI) (k:dg),nN u 0 (dI 183) [.agg p,.agg q] [] h k=k (ao (c p q)) h:=λh k=>aBE r t g k;rw[mb,e];generalize ih 0 1 2 11 12 13 N (qH u 0 (ts u 0))=j6 at j;by_cases P:c p q=0
  ·rw[cz];rw[qH,bO,bN,bL,MS,bK,eE,ch,be,de,dc,a,ix,bk,a6,Ky,bF,eE,ch,be,de,dc,aH,be,aH,be,A,dF,bk,a6,cK];exact j _ (by omega) (by omega) inferInstance inferInstance
  ·rw[cv P];rw[qH,bO,bN,bL,MS,bK,eE,ch,be,de,dc,a,ix,bk,a6,Ky,bF,eE,ch,be,de,dc,aH,be,aH,be,A,dF,bN,bL,vb,bj,b7,av];exact b9
theorem Up{x y:an}(k:dw 11 x I)(l:dw 11 y J)(e:I.length=J.length)(o:I.length<1000)(H:∀(i:Nat) (p q:aB),I[i]? =some p->J[i]? =some q->cq p/\cq q/\(-100<c p q/\c p q<100)/\∀ub aET,u 183 [.agg p,.agg q] ub aET= .ok (ao (c p q)) ub aET []):
 ∃s d,uZ u [x,y,dI 183] 0 .nil= .ok (ao (ja c I J)) 0 s d:=by
 have a:=k.len;have n:=l.len;rcases k with⟨rfl,rfl⟩|rfl
 ·have g:ja c [] J=0:=rfl;obtain⟨N,j⟩:∃m,1000000=m+1:=⟨999999,rfl⟩;have z:(J.length:Int)=0:=by simp at e;omega
  rw[g];rw[uZ,vE,Gg,a];rw[j,mb];generalize ih 0 1 2 11 12 13 N (qH u 0 (ts u 0))=j6;rw[bF,show((([]:aY).length:Nat):Int)=0 from rfl];rw[qH,bO,bk,a6,ts,a,n,show((([]:aY).length:Nat):Int)=0 from rfl,bF,bO,bk,a6,vb,bj,b7,av];exact b9
 ·rcases l with⟨rfl,rfl⟩|rfl
  ·have r:I=[]:=n7.1 e;subst r;have g:ja c [] []=0:=rfl;obtain⟨N,j⟩:∃m,1000000=m+1:=⟨999999,rfl⟩;rw[g];rw[uZ,vE,Gg,a];rw[j,mb];generalize ih 0 1 2 11 12 13 N (qH u 0 (ts u 0))=j6;rw[bF,show((([]:aY).length:Nat):Int)=0 from rfl];rw[qH,bO,bk,a6,ts,a,n,show((([]:aY).length:Nat):Int)=0 from rfl,bF,bO,bk,a6,vb,bj,b7,av];exact b9
  ·have t:=λ(h:aI) (ub:b4 h 0) (w:da h)=>aii (u:=u) e o H I.length 0 1000000 h (by omega) (by omega) ub w;rw[uZ,vE,Gg,a];rw[bF];exact t _ inferInstance inferInstance
theorem TS(j:dw 11 (E.di x.k) I)(k:dw 11 (E.di y.k) J)(p:I.length<1000)(q:J.length<1000)(r:∀x y,-100<c x y/\c x y<100)
 (H:I.length=J.length->aK u 285 [E.di x.k,E.di y.k,dI 183] (ao (ja c I J))):∃s d,vO u [.agg (E.bd x),.agg (E.bd y)] 0 .nil= .ok (ao (jd c I J)) 0 s d:=by
 have t:=E.eG x;have w:=E.gw x;have z:=E.eG y;have A:=E.gw y;have gH:(E.bd x)[0+7]? =some (E.di x.k):=by simpa using E.kk x
 have a:(E.bd y)[0+7]? =some (E.di y.k):=by simpa using E.kk y
 have e:=j.len;have g:=k.len;have n:=j.dU;have o:=k.dU;unfold jd;by_cases i:I.length<J.length
 ·rw[cv i];rw[vO,dE,IL,cy,cy,Hj,bp,bb,aH,bc gH,e,bp,bb,aH,bc a,g,dF,bN,bL,K0,bp,bb,aH,bc gH,e,bp,bb,aH,bc a,g,bK,bO,bN,bL,Ad,pE,bj,b7,av];exact b9
 ·by_cases l:J.length<I.length
  ·rw[cU i,cv l];rw[vO,dE,IL,cy,cy,Hj,bp,bb,aH,bc gH,e,bp,bb,aH,bc a,g,dF,bN,bL,K0,bp,bb,aH,bc gH,e,bp,bb,aH,bc a,g,bK,bO,bk,a6,Ad,bj,b7,av];exact b9
  ·rw[cU i,cU l];have B:=H (by omega);rw[vO,dE,IL,cy,cy,Hj,bp,bb,aH,bc gH,e,bp,bb,aH,bc a,g,dF,bk,a6,XB,bp,bb,aH,bc gH,bp,bb,aH,bc a,n,o,av,av,aT,Ad,bj,b7,av];exact b9
theorem avm(A:E.di x.k= .aQ 11 I)(B:E.di y.k= .aQ 11 J)(R:I.length=J.length)(S:I.length<1000)(H:∀(i:Nat) (p q:aB),I[i]? =some p->J[i]? =some q->cq p/\cq q/\(-100<c p q/\c p q<100)/\aK u 188 [.agg p,.agg q] (ao (c p q))){s2 s3:Nat}(ub:b4 h 0)(T:da h)(W:h.aj (0+2)= .box s2 (E.bd x))(X:h.aj (0+3)= .box s3 (E.bd y)):∀(n k N:Nat),n+k=I.length->n<N->
 ∃s d,fM 2 3 5 N (tE u 0 (λa=>pf 0 (ao 0) a)) (.bn (0+2) s2 0) (.bn (0+3) s3 0) (ao k) h= .ok (ao (ja c (I.drop k) (J.drop k))) 0 s d:=by
 have gH:(E.bd x)[0+7]? =some (.aQ 11 I):=by rw[<-A];simpa using E.kk x
 have l:(E.bd y)[0+7]? =some (.aQ 11 J):=by rw[<-B];simpa using E.kk y
 have e:∀k:an->aw,bq false (.aQ 11 I) k=k (ao I.length):=λk=>eA _ _ k;intro n;induction n with
 |zero=>
  intro k N C D;obtain⟨N,rfl⟩:=cN N;have g:ja c (I.drop k) (J.drop k)=0:=by rw[lO];rfl
  rw[hI,g];generalize fM 2 3 5 N (tE u 0 (λa=>pf 0 (ao 0) a))=j3;rw[tE,bp,bb,aH,bc gH,e,bO,bk,a6,pf,bj,b7,av];exact b9
 |succ n G=>
  intro k N C D;obtain⟨N,rfl⟩:=cN N;have o:I[k]? =some (I[k]'(by omega)):=dC _;have r:J[k]? =some (J[k]'(by omega)):=dC _;obtain⟨⟨K,L⟩,⟨M,O⟩,⟨c1,c2⟩,t⟩:=H _ _ _ o r;have w:I.drop k=(I[k]'(by omega))::I.drop (k+1):=iK (by omega);have z:J.drop k=(J[k]'(by omega))::J.drop (k+1):=iK (by omega);generalize (I[k]'(by omega))=p at o K L c1 c2 t w;generalize (J[k]'(by omega))=q at r M O c1 c2 t z;have j:=G (k+1) N (by omega) (by omega);have P:((k+1:Nat):Int)=(k:Int)+1:=by omega
  rw[P] at j;have g:ja c (I.drop k) (J.drop k)=if c p q≠0 then c p q else ja c (I.drop (k+1)) (J.drop (k+1)):=by rw[w,z];rfl
  rw[hI,g];generalize fM 2 3 5 N (tE u 0 (λa=>pf 0 (ao 0) a))=j3 at j;by_cases Q:c p q=0
  ·rw[cz];rw[tE,bp,bb,aH,bc gH,e,bO,bN,bL,NA,bb,aJ,cH,aN,aH,bc gH,bZ,aV,aV,aN,bK,eE,aJ,aV,aN,ch,be,bb,aJ,cH,aN,aH,bc l,N3,bZ,aV,aV,aN,bF,eE,aJ,aV,aN,ch,be,aV,aV,aN,bm,bm,av,av,aT,dF,bk,a6,cK];exact j
  ·rw[cv Q];rw[tE,bp,bb,aH,bc gH,e,bO,bN,bL,NA,bb,aJ,cH,aN,aH,bc gH,bZ,aV,aV,aN,bK,eE,aJ,aV,aN,ch,be,bb,aJ,cH,aN,aH,bc l,N3,bZ,aV,aV,aN,bF,eE,aJ,aV,aN,ch,be,aV,aV,aN,bm,bm,av,av,aT,dF,bN,bL,pf,bj,b7,av];exact b9
theorem SU(o:nT (E.di x.k) I)(r:nT (E.di y.k) J)(A:I.length<1000)(M:J.length<1000)(H:∀(i:Nat) (p q:aB),I[i]? =some p->J[i]? =some q->cq p/\cq q/\(-100<c p q/\c p q<100)/\aK u 188 [.agg p,.agg q] (ao (c p q))):∃s d,tW u [.agg (E.bd x),.agg (E.bd y)] 0 .nil= .ok (ao (jd c I J)) 0 s d:=by
 have O:=E.eG x;have P:=E.gw x;have Q:=E.eG y;have R:=E.gw y;have gH:(E.bd x)[0+7]? =some (E.di x.k):=by simpa using E.kk x
 have g:(E.bd y)[0+7]? =some (E.di y.k):=by simpa using E.kk y
 have a:∀k:an->aw,bq false (E.di x.k) k=k (ao I.length):=λk=>by
  rcases o with⟨e,rfl⟩|⟨e,_⟩
  ·rw[e];exact hy k
  ·rw[e];exact eA _ _ k
 have j:∀k:an->aw,bq false (E.di y.k) k=k (ao J.length):=λk=>by
  rcases r with⟨e,rfl⟩|⟨e,_⟩
  ·rw[e];exact hy k
  ·rw[e];exact eA _ _ k
 unfold jd;by_cases n:I.length<J.length
 ·rw[cv n];rw[tW,dE,Du,cy,cy,Ff,bp,bb,aH,bc gH,a,bp,bb,aH,bc g,j,dF,bN,bL,Na,bp,bb,aH,bc gH,a,bp,bb,aH,bc g,j,bK,bO,bN,bL,pf,pE,bj,b7,av];exact b9
 ·by_cases l:J.length<I.length
  ·rw[cU n,cv l];rw[tW,dE,Du,cy,cy,Ff,bp,bb,aH,bc gH,a,bp,bb,aH,bc g,j,dF,bN,bL,Na,bp,bb,aH,bc gH,a,bp,bb,aH,bc g,j,bK,bO,bk,a6,pf,bj,b7,av];exact b9
  ·rw[cU n,cU l];have t:I.length=J.length:=by omega
   rcases o with⟨w,rfl⟩|⟨w,B⟩
   ·obtain⟨N,S⟩:∃m,1000000=m+1:=⟨999999,rfl⟩;have C:ja c [] J=0:=rfl;rw[C];rw[tW,dE,Du,cy,cy,Ff,bp,bb,aH,bc gH,a,bp,bb,aH,bc g,j,dF,bk,a6,MZ];rw[bF,hQ,hI];generalize fM 2 3 5 999999 (tE u 0 (λD=>pf 0 (ao 0) D))=j3;rw[tE,bp,bb,aH,bc gH,a,show((([]:aY).length:Nat):Int)=0 from rfl,bO,bk,a6,pf,bj,b7,av];exact b9
   ·rcases r with⟨z,rfl⟩|⟨z,T⟩
    ·exact absurd (n7.1 t) B
    ·have G:=λ(h:aI) (s2 s3:Nat) (ub:b4 h 0) (K:da h) (l:h.aj (0+2)= .box s2 (E.bd x)) (L:h.aj (0+3)= .box s3 (E.bd y))=>avm (u:=u) w z t A H ub K l L I.length 0 1000000 (by omega) (by omega);rw[tW,dE,Du,cy,cy,Ff,bp,bb,aH,bc gH,a,bp,bb,aH,bc g,j,dF,bk,a6,MZ];rw[bF];exact G (((ba 0 .nil).fz 0 2 120 (E.bd x)).fz 0 3 120 (E.bd y)) _ _ inferInstance inferInstance (gF fE) fE
end
end
section
variable[Tok]
noncomputable def hF(a:aw):aw:= @aw.rec (λ_=>aw) .ax (λr ub _ _=> .ok r ub .nil []) a
theorem hE{u:Fn}{f:Nat}{ps:aB}{r:an}(h:hF (u f ps 0 .nil)= .ok r 0 .nil []):aK u f ps r:=by
 unfold aK;cases a:u f ps 0 .nil with
 |ax=>rw[a] at h;cases h
 |ok b ub s d=>rw[a] at h;have h':aw.ok b ub .nil []= .ok r 0 .nil []:=h;simp only[aw.ok.injEq] at h';exact⟨s,d,by rw[h'.1,h'.2.1]⟩
theorem akr(n:Nat)(x y:aB):hF (bB bD (n+9) 98 [.agg (bU bP fv [x,y]),fv,ao 2] 0 .nil)= .ok (.F true) 0 .nil []:=by kernel_rfl
theorem akB(n:Nat)(x y:aB):hF (bB bD (n+9) 85 [.agg (bU bP fv [x,y]),fv,ao 2] 0 .nil)= .ok (.F true) 0 .nil []:=by kernel_rfl
theorem aoB(n:Nat)(x y:aB):hF (bB bD (n+9) 98 [.agg (bU bP eM [x,y]),fv,ao 2] 0 .nil)= .ok (.F false) 0 .nil []:=by kernel_rfl
theorem ayB(n:Nat)(x y:aB):hF (bB bD (n+9) 85 [.agg (bU bP eM [x,y]),fv,ao 2] 0 .nil)= .ok (.F false) 0 .nil []:=by kernel_rfl
theorem ani(n:Nat)(x y:aB):hF (bB bD (n+9) 98 [.agg (bU bP eM [x,y]),eM,ao 2] 0 .nil)= .ok (.F true) 0 .nil []:=by kernel_rfl
theorem auD(n:Nat)(x y:aB):hF (bB bD (n+9) 85 [.agg (bU bP eM [x,y]),eM,ao 2] 0 .nil)= .ok (.F true) 0 .nil []:=by kernel_rfl
theorem au2(n:Nat)(x:aB):hF (bB bD (n+9) 98 [.agg (bU bP jy [x]),fv,ao 2] 0 .nil)= .ok (.F false) 0 .nil []:=by kernel_rfl
theorem ahQ(n:Nat)(x:aB):hF (bB bD (n+9) 85 [.agg (bU bP jy [x]),fv,ao 2] 0 .nil)= .ok (.F false) 0 .nil []:=by kernel_rfl
theorem aC5(n:Nat)(x:aB):hF (bB bD (n+9) 98 [.agg (bU bP jy [x]),eM,ao 2] 0 .nil)= .ok (.F false) 0 .nil []:=by kernel_rfl
theorem aAe(n:Nat)(x:aB):hF (bB bD (n+9) 85 [.agg (bU bP jy [x]),eM,ao 2] 0 .nil)= .ok (.F false) 0 .nil []:=by kernel_rfl
theorem ahX(n:Nat)(x:aB):hF (bB bD (n+9) 98 [.agg (bU bP jy [x]),jy,ao 1] 0 .nil)= .ok (.F true) 0 .nil []:=by kernel_rfl
theorem ahL(n:Nat)(x:aB):hF (bB bD (n+9) 85 [.agg (bU bP jy [x]),jy,ao 1] 0 .nil)= .ok (.F true) 0 .nil []:=by kernel_rfl
theorem aw9(n:Nat)(x y:aB):hF (bB bD (n+9) 98 [.agg (bU bP eu [x,y]),eu,ao 2] 0 .nil)= .ok (.F true) 0 .nil []:=by kernel_rfl
theorem avH(n:Nat)(x y:aB):hF (bB bD (n+9) 85 [.agg (bU bP eu [x,y]),eu,ao 2] 0 .nil)= .ok (.F true) 0 .nil []:=by kernel_rfl
theorem aiu(n:Nat)(x:aB):hF (bB bD (n+9) 98 [.agg (bU bP fe [x]),eu,ao 2] 0 .nil)= .ok (.F false) 0 .nil []:=by kernel_rfl
theorem azW(n:Nat)(x:aB):hF (bB bD (n+9) 85 [.agg (bU bP fe [x]),eu,ao 2] 0 .nil)= .ok (.F false) 0 .nil []:=by kernel_rfl
theorem aqN(n:Nat)(x:aB):hF (bB bD (n+9) 98 [.agg (bU bP fe [x]),fe,ao 1] 0 .nil)= .ok (.F true) 0 .nil []:=by kernel_rfl
theorem apB(n:Nat)(x:aB):hF (bB bD (n+9) 85 [.agg (bU bP fe [x]),fe,ao 1] 0 .nil)= .ok (.F true) 0 .nil []:=by kernel_rfl
theorem aqc(n:Nat)(x y:aB):hF (bB bD (n+9) 98 [.agg (bU bP iB [x,y]),eu,ao 2] 0 .nil)= .ok (.F false) 0 .nil []:=by kernel_rfl
theorem ahS(n:Nat)(x y:aB):hF (bB bD (n+9) 85 [.agg (bU bP iB [x,y]),eu,ao 2] 0 .nil)= .ok (.F false) 0 .nil []:=by kernel_rfl
theorem asz(n:Nat)(x y:aB):hF (bB bD (n+9) 98 [.agg (bU bP iB [x,y]),iB,ao 2] 0 .nil)= .ok (.F true) 0 .nil []:=by kernel_rfl
theorem alQ(n:Nat)(x y:aB):hF (bB bD (n+9) 85 [.agg (bU bP iB [x,y]),iB,ao 2] 0 .nil)= .ok (.F true) 0 .nil []:=by kernel_rfl
theorem aiq(n a c:Nat)(l:aY):hF (bB bD (n+9) 62 [.s a c,.aQ 11 l] 0 .nil)= .ok (.agg (bU bP (.s a c) l)) 0 .nil []:=by kernel_rfl
theorem atY(n a c:Nat)(l:aY):hF (bB bD (n+9) 122 [.s a c,.aQ 11 l] 0 .nil)= .ok (.agg (bU bP (.s a c) l)) 0 .nil []:=by kernel_rfl
theorem aga(n a c:Nat)(l:aY):hF (bB bD (n+9) 22 [.s a c,.aQ 11 l] 0 .nil)= .ok (.agg (bU bP (.s a c) l)) 0 .nil []:=by kernel_rfl
theorem aBO(n a c:Nat)(l:aY):hF (bB bD (n+9) 75 [.s a c,.aQ 11 l] 0 .nil)= .ok (.agg (bU kl (.s a c) l)) 0 .nil []:=by kernel_rfl
theorem amf(n a c:Nat):hF (bB bD (n+9) 21 [.s a c] 0 .nil)= .ok (.agg (yb kl (.s a c))) 0 .nil []:=by kernel_rfl
theorem T6(n:Nat):((List.range 9).all λi=>dy (bB bD (n+40) 154 [.agg (ec i)] 0 .nil) (.a0 [.aQ 8 [b5 1 1++[atR (i+1)]],ao 0]))=true:=by kernel_rfl
theorem Y9(n:Nat):((List.range 9).all λi=>dy (bB bD (n+40) 173 [.agg (ec i)] 0 .nil) (.a0 [.aQ 8 [b5 1 1++[atR (i+1)]],ao 0]))=true:=by kernel_rfl
end
end Go.Hf

import Derived.Test.YthiipifjdfmblaaGreatDoorAy
import Derived.Test.YthiipifjdfmblaaGreatDoorAz
import Derived.Test.YthiipifjdfmblaaGreatDoorBa
import Derived.Test.YthiipifjdfmblaaGreatDoorBb
import Derived.Test.YthiipifjdfmblaaGreatDoorBc
import Derived.Test.YthiipifjdfmblaaGreatDoorBd
import Derived.Test.YthiipifjdfmblaaGreatDoorBe
set_option linter.all false
set_option maxRecDepth 1000000
namespace Go.Hf
open Go.RowKit
section
variable[Tok] {u:Fn} {b:Nat}
def Lq(r:an):Prop:=∃t,r= .agg t/\Lit t
theorem VU(u:Fn)(a c d:an)(b:Nat)(atf:b1):yE u [a,c,d] b atf=Nu u b c d a (ba b atf):=rfl
section
variable{w:an} {BX:an} {N:Nat} {atf:b1} {q s:Nat}
theorem t32(k:Nat)(y:k<8)(d a g h e:an)(c:aI):(bY (ao k) aL λr=>aP r ((aP r (Ay u b d a c) (Hu u b (λj p l=>aW l.aj true 11 p λn=>aX b none 11 j n l λ_ o=>nL b j o) (ao k) d g h e a c))) (bY (ao k) aS λt=>(aP t (Ay u b d a c) (Hu u b (λj p l=>aW l.aj true 11 p λn=>aX b none 11 j n l λ_ o=>nL b j o) (ao k) d g h e a c))))=
 if k<=1 then Ay u b d a c
 else if k=2 then LI u b d g h e a c
 else if k=3 then KX u b e a c
 else if k=4 then Ml u b d g h e a c
 else if k=5 then OQ u b e g h a c
 else aW c.aj true 11 d λn=>aX b none 11 a n c λ_ o=>nL b a o:=by
 have x:∀k:Nat,ao (k:Int)= .V .i64 (18446744073709551616+k):=λk=>by rw[cX];congr 1;omega
 rw[x];have:k=0\/k=1\/k=2\/k=3\/k=4\/k=5\/k=6\/k=7:=by omega
 rcases this with rfl|rfl|rfl|rfl|rfl|rfl|rfl|rfl<;>rfl
theorem Oz{h:aI}{s6 p n:Nat}{Z:aB}{l:aY}{R:an->Prop}(S:fu b atf q s BX N h)(c:h.aj (b+6)= .box s6 Z)(d:Z.length=11)(a:R (.agg (bU bP (.s p n) l))):ii (aX b none 11 (.bn (b+6) s6 0) (.agg (bU bP (.s p n) l)) h λ_ h'=>nL b (.bn (b+6) s6 0) h') b atf q s BX N R:=by
 haveI:=S.ay
 have e:(bU bP (.s p n) l).length=11:=rfl;have g:b8 (bU bP (.s p n) l)=true:=rfl;rw[dc,nL,gh,be,bj,bm];rw[av];exact qO S.eP a
theorem afD(g:∀a c l,aK u 22 [.s a c,.aQ 11 l] (.agg (bU bP (.s a c) l)))(P:∃n l,w= .aQ n l)(Q:∀n:Int,1<=n/\n<=100->gN u 30 [ao n] BX N (pe n))(G:gN u 33 [] BX N tT)(D:gN u 96 [w,ao 0] BX N v6)(R:gN u 96 [w,ao 1] BX N yV)(T:tM BX){z:Nat}(W:q<b)(X:q%4096<2048)(x:z<=N)(H:cE b atf q= .box s [BX,ao z]):ii (yE u [.bn q s 0,w,ao 1] b atf) b atf q s BX N Lq:=by
 have S:=fu.start W X x H T
 haveI:=S.ay
 obtain⟨a5,bd,Z⟩:=P;subst Z;rw[yE,vE,Nu,de,mg,b7];refine iv S.fz R λr h' d I ar=>?_;obtain⟨t,rfl,h⟩:=d
 haveI:=I.ay
 obtain⟨t1,t2⟩:=(h.ge 0).t11;have a1:=(ar 6).trans fE;rw[de,dc,abZ];rw[AK];refine iv (I.fz.eP) (Q 8 (by omega)) λr bs d o J=>?_;obtain⟨k,k0,bx,rfl⟩:=d
 haveI:=o.ay
 have A:=(J 6).trans (gi (gF a1));have cc:=(J 7).trans (gS fE);obtain⟨k,rfl⟩:∃n:Nat,k=n:=⟨k.toNat,by omega⟩;rw[t32 k (by omega)];split
 ·have C:=g 3 0x6e6f74 [t];rw[Ay,aH,be,hX,av,gW,gX,av,aT];exact Oz o.fm (ga A) rfl ⟨_,rfl,.iR t h⟩
 split
 ·rw[LI,aJ,cH,aN,aH,be,bK,e1,mg,b7];refine He o D λr x d e p=>?_;obtain⟨y,rfl,j⟩:=d
  haveI:=e.ay
  obtain⟨K,L⟩:=j.ak;have C:=g 5 0x657175616c [t,y];have M:=g 3 0x6e6f74 [bU bP iB [t,y]];have E:(bU bP iB [t,y]).length=11:=rfl;have F:b8 (bU bP iB [t,y])=true:=rfl;have cl:(bU bP fe [bU bP iB [t,y]]).length=11:=rfl;have cn:b8 (bU bP fe [bU bP iB [t,y]])=true:=rfl;have B:=(p 6).trans A;rw[aV,aV,aN,lb,lw,av,av,n5,afV,hO,aN,gX,av,aT,aV,aN,hX,av,n5,hO,aN,gX,av,aT,cH,aN,pf,nL,gh,be,bj,bm];rw[av];exact qO (e.fm.fm.eP) ⟨_,rfl,.nH t y h j⟩
 split
 ·rw[KX];refine iv o G λr x d e p=>?_;obtain⟨i,hi,rfl⟩:=d
  haveI:=e.ay
  have C:=g 5 0x636f6e7370 [dW i];have M:=g 3 0x6e6f74 [bU bP (.s 5 0x636f6e7370) [dW i]];have a2:(dW i).length=11:=rfl;have a3:b8 (dW i)=true:=rfl;have E:(bU bP (.s 5 0x636f6e7370) [dW i]).length=11:=rfl;have F:b8 (bU bP (.s 5 0x636f6e7370) [dW i])=true:=rfl;have B:=(p 6).trans A;rw[hX,av,gW,gX,av,aT,hX,av,gW,gX,av,aT];exact Oz e.fm.fm (ga (ga B)) rfl ⟨_,rfl,.iR _ (.kS (4,0x6c697370,5,0x636f6e7370,1) [dW i] (by simp[iu]) ⟨rfl,λt h=>by simp at h;rw[h];exact .var i hi⟩)⟩
 split
 ·rw[Ml,aJ,cH,aN,aH,be,bK,e1,UQ,mg,b7];refine He o D λr x d e p=>?_;obtain⟨y,rfl,j⟩:=d
  haveI:=e.ay
  obtain⟨K,L⟩:=j.ak;have C:=g 5 0x657175616c [t,y];have E:(bU bP iB [t,y]).length=11:=rfl;have F:b8 (bU bP iB [t,y])=true:=rfl;have B:=(p 6).trans A;rw[aV,aV,aN,lb,lw,av,av,n5,hO,aN,gX,av,aT,cH,aN,pf,nL,gh,be,bj,bm];rw[av];exact qO (e.fm.eP) ⟨_,rfl,.eq t y h j⟩
 split
 ·rw[OQ];refine iv o G λr x d e p=>?_;obtain⟨i,hi,rfl⟩:=d
  haveI:=e.ay
  rw[bK,e1,mg,b7];refine iv e D λr H d O a4=>?_;obtain⟨y,rfl,j⟩:=d
  haveI:=O.ay
  obtain⟨K,L⟩:=j.ak;have C:=g 1 0x3c [dW i,y];have M:=g 3 0x6e6f74 [bU bP eu [dW i,y]];have a2:(dW i).length=11:=rfl;have a3:b8 (dW i)=true:=rfl;have E:(bU bP eu [dW i,y]).length=11:=rfl;have F:b8 (bU bP eu [dW i,y])=true:=rfl;have B:=(a4 6).trans ((p 6).trans A);rw[Rk,lb,lw,av,av,gW,gX,av,aT,hX,av,gW,gX,av,aT];exact Oz O.fm.fm (ga (ga B)) rfl ⟨_,rfl,.aE _ y (.var i hi) j⟩
 ·rw[aH,be,dc,nL,gh,be,bj,bm];rw[av];exact qO (o.eP) ⟨_,rfl,.Me t h⟩
end
end
section
variable{cc:Nat}
section
variable[Tok] {u:Fn} {b:Nat}
def Dh(r:an):Prop:=∃cl,r= .aQ 11 cl/\cl.length<=5/\∀t∈cl,Lit t
theorem zI(u:Fn)(a c d:an)(b:Nat)(atf:b1):At u [a,c,d] b atf=Rc u b d a c (ba b atf):=rfl
section
variable{w:an} {BX:an} {N:Nat} {atf:b1} {q s:Nat}
theorem t9(k:Nat)(O:k<8)(c:kb)(d e g h j n o l:an)(a:aI):(bY (ao k) aL λp=>aP p ((aP p (zT u b (nO u b c) l d e g h j a) (Gj u b (nO u b c) (ao k) n o l d e g h j a))) (Rj u b (λr t x y z C D A E F B=>aP F (zT u b (nO u b c) A r t x y z B) (Gj u b (nO u b c) E C D A r t x y z B)) (ao k) d e g h j n o l a))=
 if k<=2 then zT u b (nO u b c) l d e g h j a
 else if k=3 then aW a.aj true 11 n λG=>aW a.aj true 11 o λH=>Od u b (nO u b c) G H l d e g h j a
 else if k=4 then PO u b (nO u b c) e d l g h j a
 else if k=5 then bH u b none 23 [aL] [] a λI J=>fD u b 33 [d] [] J λK L=>LK u b (nO u b c) I K l d e g h j L
 else nO u b c d e g h j l a:=by
 have M:∀k:Nat,ao (k:Int)= .V .i64 (18446744073709551616+k):=λk=>by rw[cX];congr 1;omega
 rw[M];have:k=0\/k=1\/k=2\/k=3\/k=4\/k=5\/k=6\/k=7:=by omega
 rcases this with rfl|rfl|rfl|rfl|rfl|rfl|rfl|rfl<;>rfl
def P7(u:Fn):Prop:=∀x I t,dw 11 x I->I.length<=5->(∀t∈I,Lit t)->Lit t->∃a,aK u 34 [x,.aQ 11 [t]] (.aQ 11 a)/\(a=I\/a=I++[t])
structure F8 (i:Nat) (x:an) (I:aY):Prop where
 v:dw 11 x I
 aa:I.length<=i
 ab:0<i->x= .aQ 11 I
 t:∀t∈I,Lit t
theorem apT(n:P7 u){h:aI}{g i:Nat}{t:aB}{x:an}{I:aY}(S:fu b atf q s BX N h)(y:h.aj (b+12)= .box g t)(d:Lit t)(c:F8 i x I)(hi:i<5){j:kb}{R:an->Prop}
 (o:∀h' k e,fu b atf q s BX N h'->F8 (i+1) k e->ii (j (.bn q s 0) w k (ao cc) (ao i) h') b atf q s BX N R):ii (nO u b j (.bn q s 0) w x (ao cc) (ao i) (.bn (b+12) g 0) h) b atf q s BX N R:=by
 haveI:=S.ay
 obtain⟨t1,t2⟩:=d.ge.t11;obtain⟨e,z,l⟩:=n x I t c.v (by have:=c.aa;omega) c.t d;have p:∀ob (f:jm),aD ob x f=f x []:=λob f=>by rcases c.v with⟨rfl,_⟩|rfl<;>rfl
 have A:=c.aa;rw[nO,aH,be,hX,av,gW,ce,p,gX,av,av,aT];refine o _ _ e S.fm ⟨.inr rfl,?_,λ_=>rfl,?_⟩
 ·rcases l with rfl|rfl
  ·omega
  ·rw[OD];simp;omega
 ·rcases l with rfl|rfl
  ·exact c.t
  ·exactλa r=>(Ic.1 r).elim (c.t a) λh=>by simp at h;rw[h];exact d
structure ad6 (u:Fn) (w:an) (BX:an) (N:Nat):Prop where
 iI:∀a c l,aK u 22 [.s a c,.aQ 11 l] (.agg (bU bP (.s a c) l))
 mc:∀z:Int,z.natAbs<=4->aK u 23 [ao z] (.agg (cW (ef z)))
 aU:P7 u
 bJ:∃n l,w= .aQ n l
 hC:∀n:Int,1<=n/\n<=100->gN u 30 [ao n] BX N (pe n)
 m0:gN u 33 [] BX N tT
 HS:gN u 31 [] BX N E9
 Hd:gN u 32 [w,ao 1] BX N Lq
theorem apN(D:ad6 u w BX N)(go:cc<=5)(gt:1<=cc):∀(m i d:Nat) (h:aI) (x:an) (I:aY),m+i=cc->m<d->fu b atf q s BX N h->F8 i x I->
 ii (fs 0 1 7 8 9 d (AI u b (λp y=>EK b p y)) (.bn q s 0) w x (ao cc) (ao i) h) b atf q s BX N Dh:=by
 obtain⟨c4,c5,bs⟩:=D.bJ;have dd:=D.hC;have bx:=D.HS;have cl:=D.Hd;have dq:=D.m0;have j:=D.iI;intro m;induction m with
 |zero=>intro i d h x I hm dt S z;obtain⟨d,rfl⟩:=cN d;obtain rfl:=z.ab (by omega);have hl:=z.aa;rw[gI,bs];generalize fs 0 1 7 8 9 d (AI u b (λp y=>EK b p y))=K;rw[AI,bO,bk,a6,EK,bj,mg];rw[av];exact qO S ⟨I,rfl,by omega,z.t⟩
 |succ m dz=>
  intro i d h x I hm dt S z;obtain⟨d,rfl⟩:=cN d
  haveI:=S.ay
  have ee:((i+1:Nat):Int)=(i:Int)+1:=by omega
  have F:=λh' l A=>dz (i+1) d h' l A (by omega) (by omega);rw[ee] at F;rw[gI];generalize fs 0 1 7 8 9 d (AI u b (λp y=>EK b p y))=K at F;have L:∀h' l A,fu b atf q s BX N h'->F8 (i+1) l A->ii ((λM O T W X Z=>bR X aS λar=>K M O T W ar Z) (.bn q s 0) w l (ao cc) (ao i) h') b atf q s BX N Dh:=λh' l A a1 a2=>by dsimp only;rw[bK,cK];exact F h' l A a1 a2
  rw[bs] at F L cl ⊢;rw[AI,bO,bN,bL,aej];generalize (λM O T W X Z=>bR X aS λar=>K M O T W ar Z:kb)=hd at L ⊢;refine iv S bx λr h1 g ka he=>?_;obtain⟨a,P,G,rfl⟩:=g;obtain⟨a1,a2⟩:=G.ge.t11;refine iv ka bx λr h2 g cn hf=>?_;obtain⟨c,Q,H,rfl⟩:=g;obtain⟨c1,c2⟩:=H.ge.t11
  haveI:=cn.ay
  have hh:=j 1 0x3c [a,c];have hi:(bU bP eu [a,c]).length=11:=rfl;have hk:b8 (bU bP eu [a,c])=true:=rfl;rw[de,de,dc,U9,dc,aH,be,aH,be,lb,lw,av,av,gW,gX,av,aT,de,dc,UW];rw[AK];refine iv (cn.fz.fz.eP.eP.fm.fz.eP) (dd 8 (by omega)) λr h3 g o a3=>?_;obtain⟨k,k0,hn,rfl⟩:=g
  haveI:=o.ay
  obtain⟨k,rfl⟩:∃n:Nat,k=n:=⟨k.toNat,by omega⟩;have ho:=(a3 10).trans (gi (gF (ga (gi (gS (gF fE))))));have hp:=(a3 11).trans (gi (gF (ga (gS (gi fE)))));have B:=(a3 12).trans (gS fE);rw[t9 k (by omega)];have C:=λ{h':aI} {t:aB} {em:Nat} (S':fu b atf q s BX N h') (o':h'.aj (b+12)= .box em t) J=>apT (R:=Dh) (cc:=cc) (t:=t) (h:=h') (w:= .aQ c4 c5) D.aU S' o' J z (by omega) L;have hw:(vh a c).length=11:=rfl;have hx:b8 (vh a c)=true:=rfl;split
  ·have a4:=j 3 0x6e6f74 [bU bP eu [a,c]];have cs:(bU bP fe [bU bP eu [a,c]]).length=11:=rfl;rw[zT,aH,be,hX,av,gW,gX,av,aT,dc];exact C (by exact o.fm.eP) (by exact(gS (ga B))) (.Qw a c P Q G H)
  split
  ·have a4:=j 5 0x657175616c [a,c];have en:=j 3 0x6e6f74 [bU bP iB [a,c]];have cs:(bU bP iB [a,c]).length=11:=rfl;have eq:b8 (bU bP iB [a,c])=true:=rfl;have es:(bU bP fe [bU bP iB [a,c]]).length=11:=rfl;rw[aH,be,aH,be,Od,lb,lw,av,av,gW,gX,av,aT,hX,av,gW,gX,av,aT,dc];exact C (by exact(o.fm.fm.eP)) (by exact(gS (ga (ga B)))) (.Lh a c P Q G H)
  split
  ·rw[PO,mg];rw[bK];refine iv o cl λr h4 g E a5=>?_;obtain⟨t,rfl,J⟩:=g
   haveI:=E.ay
   obtain⟨t1,t2⟩:=J.ge.t11;have bd:=(a5 12).trans B;rw[dc];exact C (by exact E.eP) (by exact(gS bd)) J
  split
  ·obtain⟨c0,ev,ex,cp,fn⟩:∃c0,je c0/\c0.length=11/\b8 c0=true/\aK u 23 [ao 0] (.agg c0):=by have e:ef ((0:Int):Rat)=b5 0 1:=rfl;have h:=D.mc 0 (by omega);rw[e] at h;have c3:=iA (jk 0 1) (iY 0 1);exact⟨_,.iW _ (.DW (0,1) (by decide)),c3.aa,c3.e5,h⟩
   rw[<-bF] at fn;rw[aT];refine iv o dq λr h4 g E a5=>?_;obtain⟨v,hv,rfl⟩:=g
   haveI:=E.ay
   have bd:=(a5 12).trans B;have ge:(dW v).length=11:=rfl;have gl:b8 (dW v)=true:=rfl;have a4:=j 1 0x3c [c0,dW v];have en:=j 3 0x6e6f74 [bU bP eu [c0,dW v]];have cs:(bU bP eu [c0,dW v]).length=11:=rfl;have eq:b8 (bU bP eu [c0,dW v])=true:=rfl;have es:(bU bP fe [bU bP eu [c0,dW v]]).length=11:=rfl;rw[LK,lb cp ex,lw gl ge,av,av,gW,gX,av,aT a4,hX,av,gW,gX,av,aT,dc];exact C (by exact(E.fm.fm.eP)) (by exact(gS (ga (ga bd)))) (.aE _ _ ev (.var v hv))
  ·exact C (by exact o) (by exact B) (.Lb a c P Q G H)
theorem IR(D:ad6 u w BX N){a:Nat}(p:1<=a/\a<=5)(c:tM BX){z:Nat}(d:q<b)(e:q%4096<2048)(g:z<=N)(i:cE b atf q= .box s [BX,ao z]):ii (At u [.bn q s 0,w,ao a] b atf) b atf q s BX N Dh:=by
 have S:=fu.start d e g i c
 haveI:=S.ay
 rw[At,vE,Rc,b7,av];refine iv S (D.hC a (by omega)) λr h' j l x=>?_;obtain⟨k,y,A,rfl⟩:=j;obtain⟨k,rfl⟩:∃n:Nat,k=n:=⟨k.toNat,by omega⟩;rw[bK,cK,bF,show(1:Int)+k=((k+1:Nat):Int) by omega,show(0:Int)=((0:Nat):Int) from rfl];exact apN D (by omega) (by omega) (k+1) 0 1000000 h' .aE [] (by omega) (by omega) l ⟨.inl ⟨rfl,rfl⟩,sm _,λh=>absurd h (by omega),λt o=>by simp at o⟩
end
end
end
section
variable{u:Fn} {cl:aY} {ro:List (Option fH)}
section
variable[Tok]
noncomputable def jM(m:cw):aB:=qF (ef m.U) (decide (m.U=1)) (fb m.k)
def jK(p q:bE):bE:=ei (eK fW p q)
theorem Ig(m:cw):cq (jM m):=MG z1 TZ (aqB (jk _ _) (iY _ _) (A1 m.k))
structure aBi (p q:bE):Prop where
 k:∀m∈jK p q,fT m.k
 ad:∀m∈jK p q,fV m.U
 aa:(jK p q).length<=36
theorem Hm{p q:bE}(c:jp p)(d:jp q):aBi p q:=by
 have a:=zn c d;have g:=rf (eK fW p q);refine⟨pD (K:=fT) _ (by simp) λm b=>?_,λm b=>?_,?_⟩
 ·obtain⟨x,h,y,i,rfl⟩:=KD b;exact(TX (L:=nk) (λn j=>(kK j).2.2.1) (sm nk) (nd nk) (c.k x h) (d.k y i)).2
 ·have e:=m7 g.g0 b;rw[tv] at e;rw[<-e];exact a.ad _
 ·have:=pP (eK fW p q) [];rw[Qh] at this;have k:p.length*q.length<=36:=FE a.ft a.FM;simp only[Md] at this;show(hU [] _).length<=36;omega
theorem A2:bl λu=>o3 u 122:=bl.run λn m a l=>by rcases a with rfl|rfl|rfl|rfl<;>exact hE (atY n _ _ l)
theorem BZ:bl λu=>q0 u 185:=bl.jr.up λn _ o a b=>cI (aM 185 Fk n) (ah0 a b)
theorem aF1:bl λu=>q0 u 59:=bl.jr.up λn _ o a b=>cI (aM 59 Eh n) (Ks a b)
theorem au1:bl λu=>q0 u 121:=BZ.up λn h o a b=>cI (aM 121 BY n) (avr a b (h o a b))
theorem Y5:bl λu=>∀p q,jp p->jp q->∀v,cA dk v (jK p q)->aK u 120 [v] (.agg (jC dk jM (jK p q))):=by
 have k:bl λu=>Jr u 241:=A2.up λn h l c d o=>cI (aM 241 CI n) (asZ h c d o);have r:bl λu=>aeO u 240:=bl.jr.up λn _=>by
  refine⟨λb atf=>?_,λb atf l c d=>?_⟩
  ·rw[aM 240 vv];exact aCO
  ·rw[aM 240 vv];exact apq c d
 have e:bl λu=>∀m:cw,fT m.k->fV m.U->aK u 186 [.agg (dk.fp m)] (.agg (jM m)):=((k.and r).and ((A2.and BZ).and qx)).up λn h m C hd=>by obtain⟨⟨t,w⟩,⟨i,g⟩,a⟩:=h;have eR:aK (bB bD n) 37 [ao 1] (.agg (dk.num 1)):=a.int 1 (by decide);have x:aK (bB bD n) 207 [.agg (dk.num m.U),.agg (dk.num 1)] (.a9 (decide (m.U=1))):=a.o1 m.U hd;have D:=oD m.k;exact cI (aM 186 AL n) (axi (E:=dk) t g w (ru m.k) (by omega) (A1 m.k) eR x)
 refine(e.and ((A2.and BZ).and qx)).up λn h p q y a v z=>?_;obtain⟨e,⟨i,g⟩,A⟩:=h;have P:=Hm y a;have B:aK (bB bD n) 37 [ao 0] (.agg (dk.num 0)):=A.int 0 (by decide);have F:=P.aa;exact cI (aM 120 y9 n) (avv z (by omega) i (λm j=>⟨e m (P.k m j) (P.ad m j),Ig m⟩) B g)
theorem TW(k:Nat):nT (dk.di k) (fb k)/\(fb k).length<1000:=⟨ru k,by have:=oD k;omega⟩
theorem aoM:bl λu=>∀R:List fH,(∀r∈R,r.oP dk/\jp r.aq)->xT u dk fb jM jK R:=by
 have k:bl λu=>∀p q,jp p->jp q->∀v,cA dk v (jK p q)->aK u 119 [v] (.a9 (nI fb (jK p q))):=bl.jr.up λn _ p q o w v e=>by have i:=(Hm o w).aa;exact cI (aM 119 yK n) (akt (λm j=>TW m.k) e (by omega))
 have x:bl λu=>aK u 36 [] (.agg (dk.num 0)):=qx.up λn h=>by have y:aK (bB bD n) 37 [ao 0] (.agg (dk.num 0)):=h.int 0 (by decide);exact cI (aM 36 Da n) (ajv (dk.len 0) (dk.eU 0) y)
 have z:bl λu=>∀t,cq t->aK u 123 [.agg t] (.agg (bU bP fe [t])):=A2.up λn h t g=>cI (aM 123 Cd n) (amu g (h fe (by simp) [t]));refine(((Kg.and k).and (Y5.and x)).and ((au1.and A2).and z)).imp λn h R a=>?_;obtain⟨⟨⟨j,i⟩,g,A⟩,⟨B,C⟩,D⟩:=h;exact⟨λr c=>(a r c).1,λr c s d=>j _ _ _ _ (a r c).1.2.1 (a s d).1.2.1 (zn (a r c).2 (a s d).2),λr c s d v e=>i _ _ (a r c).2 (a s d).2 v e,
  λr c s d v e=>g _ _ (a r c).2 (a s d).2 v e,λr c s d=>XQ λm _=>Ig m,A,B,C,D⟩
inductive q9 (u:Fn):aY->List (Option fH)->Prop
 |nil:q9 u [] []
 |cons (t:aB) (o:Option fH) (cl:aY) (ro:List (Option fH)) (t11:cq t) (a:xq u dk t o) (h:∀x,o=some x->x.oP dk/\jp x.aq/\Ji t (if x.aM then 1 else 2) x.aq) (hr:q9 u cl ro):q9 u (t::cl) (o::ro)
theorem Yi{u:Fn}:∀{cl:aY},(∀t∈cl,i6 u t)->∃ro,q9 u cl ro
 |[],_=>⟨[],.nil⟩
 |t::cl,h=>by
  obtain⟨ro,e⟩:=Yi (cl:=cl) λx q=>h x (OJ _ q);have r:=h t HO;cases r with
  |ax t11 a=>exact⟨none::ro,.cons t none cl ro t11 (.ax .aE [] 0 (.inl ⟨rfl,rfl⟩) (.inl rfl) a) (λx h=>by cases h) e⟩
  |zero t11 v es d a=>exact⟨none::ro,.cons t none cl ro t11 (.ax v es 3 d (.inr rfl) a) (λx h=>by cases h) e⟩
  |row t11 k g p v j d a l c w pr=>
   have n:(aK u 116 [.agg t] (.a0 [v,ao k,.a9 (decide (k≠0))])):=by have:decide (k≠0)=true:=pl (by omega);rw[this];exact a
   cases i:h6 0 p with
   |true=>rw[i] at c;exact⟨none::ro,.cons t none cl ro t11 (.iW v p k j d g n l c) (λx h=>by cases h) e⟩
   |false=>
    rw[i] at c;have o:jp p:=w.elim (λh=>by rw[i] at h;cases h) id;refine⟨some ⟨t,v,p,decide (k=1)⟩::ro,.cons t _ cl ro t11 (.row v p k j d g n l c) (λx h=>?_) e⟩;cases h;refine⟨⟨t11,d,by have:=o.aa;simp only;omega⟩,o,?_⟩;rcases g with rfl|rfl
    ·exact pr
    ·exact pr
theorem q9.len(h:q9 u cl ro):ro.length=cl.length:=by
 induction h with
 |nil=>rfl
 |cons _ _ _ _ _ _ _ _ a=>simp[a]
theorem q9.di(h:q9 u cl ro):∀(i:Nat) (t:aB) (o:Option fH),cl[i]? =some t->ro[i]? =some o->cq t/\xq u dk t o:=by
 induction h with
 |nil=>exactλi t o h=>by simp at h
 |cons t o cl ro t11 a e g d=>
  intro i s p b c;cases i with
  |zero=>simp at b c;subst b;subst c;exact⟨t11,a⟩
  |succ i=>simp at b c;exact d i s p b c
theorem q9.aAd(h:q9 u cl ro):∀r∈ro.filterMap id,(r.oP dk/\jp r.aq)/\∃t∈cl,Ji t (if r.aM then 1 else 2) r.aq:=by
 induction h with
 |nil=>simp
 |cons t o cl ro t11 a g b i=>
  intro r h;obtain⟨x,c,b⟩:=List.mem_filterMap.1 h;rcases pG.1 c with rfl|c
  ·obtain⟨d,e,j⟩:=g r b;exact⟨⟨d,e⟩,t,HO,j⟩
  ·obtain⟨d,s,k,e⟩:=i r (List.mem_filterMap.2 ⟨x,c,b⟩);exact⟨d,s,OJ _ k,e⟩
theorem aoH(j:∀t∈cl,Lit t)(l:cl.length<=5):bl λu=>∃w,∃R:List fH,dw 11 w ((m6 dk fb jM jK R).take 12)/\(∀r∈R,(r.oP dk/\jp r.aq)/\∃t∈cl,Ji t (if r.aM then 1 else 2) r.aq)/\aK u 16 [.aQ 11 cl] w:=by
 have o:bl λu=>∀t∈cl,i6 u t:=by
  clear l;induction cl with
  |nil=>exact bl.jr.imp λn _ t q=>by cases q
  |cons t r y=>
   have z:=y λx a=>j x (OJ _ a);have A:=(j t HO).ak;refine(z.and A).imp λn h x a=>?_;rcases pG.1 a with rfl|a
   ·exact h.2
   ·exact h.1 x a
 have B:bl λu=>∃v rs,∃R:List fH,dw 37 v rs/\(∀t∈rs,BK t)/\rs.map rU=(m6 dk fb jM jK R).take 12/\(∀r∈R,(r.oP dk/\jp r.aq)/\∃t∈cl,Ji t (if r.aM then 1 else 2) r.aq)/\aK u 57 [.aQ 11 cl] v:=(o.and aoM).up λn h=>by obtain⟨ro,b⟩:=Yi h.1;have c:=b.aAd;obtain⟨v,rs,g,i,d,C⟩:=aBz (by omega) b.len b.di (h.2 _ λr b=>(c r b).1);exact⟨v,rs,_,g,i,d,c,cI (aM 57 z5 n) C⟩
 exact B.up λn h=>by
  obtain⟨v,rs,R,g,i,d,c,e⟩:=h;have rl:rs.length<1000:=by have:=oT List.length d;rw[ER,jl] at this;omega
  obtain⟨w,D,E⟩:=arV (u:=bB bD n) (x:= .aQ 11 cl) (λob f=>mg ob 11 cl f) e g i rl;have k:dw 11 w (rs.map rU):=D;rw[d] at k;exact⟨w,R,k,c,cI (aM 16 xu n) E⟩
end
end
section
variable{w:an}
section
variable[Tok]
theorem tJ{f n N:Nat}{g:jq}{args:aB}{a:an}{R:an->Prop}(e:bB bD (n+1) f=g (bB bD n))
 (h:tM a->∀{b:Nat} {atf:b1} {q s z:Nat},q<b->q%4096<2048->z<=N->cE b atf q= .box s [a,ao z]->ii (g (bB bD n) (.bn q s 0::args) b atf) b atf q s a N R):gN (bB bD (n+1)) f args a N R:=by
 intro c b atf q s z d i j k;rw[e];exact h c d i j k
def afG(u:Fn):Prop:=∀a N,oi a N->∀(n:Int),1<=n/\n<=100->gN u 30 [ao n] a N (pe n)
theorem vf:bl afG:=bl.jr.up λn _ h N a k b=>tJ (aM 30 za n) λ_ _ _ _ _ _ c d e g=>aoP b a c d e g
theorem Ia:bl λu=>(∀a c l,aK u 22 [.s a c,.aQ 11 l] (.agg (bU bP (.s a c) l)))/\(∀a c l,aK u 75 [.s a c,.aQ 11 l] (.agg (bU kl (.s a c) l)))/\∀i,i<3->aK u 21 [.s 1 (0x78+i)] (.agg (dW i)):=
 bl.run λn=>⟨λa c l=>hE (aga n a c l),λa c l=>hE (aBO n a c l),λi _=>hE (amf n 1 (0x78+i))⟩
theorem aCB(n:Nat):([-4,-3,-2,-1,0,1,2,3,4].all λz:Int=>dy (bB bD (n+30) 23 [ao z] 0 .nil) (.agg (cW (b5 z 1)))&&dy (bB bD (n+30) 60 [ao z] 0 .nil) (.agg (b5 z 1)))=true:=by kernel_rfl
theorem ajx{z:Int}(h:z.natAbs<=4):z∈([-4,-3,-2,-1,0,1,2,3,4]:List Int):=by
 have:z= -4\/z= -3\/z= -2\/z= -1\/z=0\/z=1\/z=2\/z=3\/z=4:=by omega
 simpa using this
theorem M4:bl λu=>(∀z:Int,z.natAbs<=4->aK u 23 [ao z] (.agg (cW (ef z))))/\∀z:Int,z.natAbs<=4->aK u 60 [ao z] (.agg (b5 z 1)):=bl.kQ 30 λn=>by have a:=λ(z:Int) (h:z.natAbs<=4)=>cB (aCB n) (ajx h);simp only[Hi] at a;exact⟨λz h=>by rw[KK];exact eN (a z h).1,λz h=>eN (a z h).2⟩
def arh(u:Fn):Prop:=∀a N,oi a N->gN u 33 [] a N tT
theorem Ep:bl arh:=(vf.and Ia).up λn h a N b=>tJ (aM 33 DE n) λc _ _ _ _ _ d e g i=>aAy (h.1 a N b) h.2.2.2 c d e g i
theorem aDF:bl λu=>∀a N,oi a N->gN u 31 [] a N E9:=((vf.and Ep).and (Ia.and M4)).up λn h a N b=>tJ (aM 31 DP n) λc _ _ _ _ _ d e g i=>apM (h.1.1 a N b) (h.1.2 a N b) h.2.1.1 h.2.1.2.1 h.2.2.1 c d e g i
theorem adE:bl BU:=by
 have k:bl λu=>aK u 66 [] (.agg tu):=bl.run λn=>hE (anY n);have Py:bl λu=>∀a d,(a.length=7/\b8 a=true)->(d.length=7/\b8 d=true)->aK u 130 [.agg a,.agg d] (.agg (jU a d)):=bl.jr.up λn _ a d b hd=>cI (aM 130 zD n) (an0 b.1 b.2 hd.1 hd.2);have SW:bl λu=>∀v l,dw 7 v l->l.length<=3->(∀a∈l,a.length=7/\b8 a=true)->aK u 129 [v] (.agg (k5 l)):=(k.and Py).up λn h v l p G o=>cI (aM 129 zA n) (amG p (by omega) o h.1 λa b i=>h.2 a _ (o a b) (Ar _));have q:bl λu=>(aK u 114 [.s 1 0x31,.s 1 0x32] (.agg (b5 1 2))/\aK u 114 [.s 2 0x2d35,.s 1 0x33] (.agg (b5 (-5) 3))):=bl.kQ 20 λn=>⟨hE (axI n),hE (aso n)⟩;have r:bl λu=>(aK u 87 [] (.agg (nt 4 0x6c697370 1 0x74))/\∀a c,aK u 28 [.s a c] (.agg [kl,.s a c]))/\(∀e c1 g j,aK u 127 [.agg [.s e c1,.s g j]] (.agg (nt e c1 g j)))/\∀a c,aK u 128 [.s a c] (.agg (uV a c)):=
  bl.run λn=>⟨⟨hE (ann n),λa c=>hE (Z4 n a c)⟩,λe c1 g j=>hE (apQ n e c1 g j),λa c=>hE (azA n a c)⟩
 refine(((k.and Py).and (SW.and M4)).and (q.and r)).imp λn h=>?_;obtain⟨⟨⟨t,x⟩,y,z⟩,⟨A,B⟩,⟨C,D⟩,E,F⟩:=h;exact⟨t,C,z.2,A,B,D,E,F,y,x⟩
def atc(u:Fn):Prop:=∀a N,oi a N->gN u 63 [ao 1] a N xa
theorem UE:bl atc:=by have z:bl λu=>∀a N,oi a N->gN u 63 [ao 0] a N Aw:=(adE.and vf).up λn h a N b=>tJ (aM 63 uq n) λc _ _ _ _ _ d e g i=>awi h.1 (h.2 a N b) c d e g i;exact((adE.and vf).and z).up λn h a N b=>tJ (aM 63 uq n) λc _ _ _ _ _ d e g i=>aoS h.1.1 (h.1.2 a N b) (h.2 a N b) c d e g i
structure Lv (u:Fn) (w:an):Prop where
 CC:∀h∈iu++i1++lS,aK u 153 [w,.agg [.s h.1 h.2.1,.s h.2.2.1 h.2.2.2.1]] (.a0 [ao h.2.2.2.2,.a9 true])
 bJ:∃n l,w= .aQ n l
theorem ahx(aR:bl λu=>Lv u w):bl λu=>A4 u w:=by
 have g:bl λu=>(aK u 150 [] (.aQ 1 (Lp.map E2))/\aK u 151 [] (.aQ 1 (Lx.map E2)))/\(∀a c,aK u 152 [.s a c] (.agg [bP,.s a c]))/\∀a c,aK u 28 [.s a c] (.agg [kl,.s a c]):=
  bl.run λn=>⟨⟨eN (ayf n),eN (ayJ n)⟩,λa c=>hE (avI n a c),λa c=>hE (Z4 n a c)⟩
 have i:bl λu=>∀b c1 d e l,aK u 81 [.agg [.s b c1,.s d e],.aQ 11 l] (.agg (bU (.s b c1) (.s d e) l)):=bl.jr.up λn _ b c1 d e l=>cI (aM 81 AX n) (auY (v:= .aE) rfl);exact((aR.and aF1).and (g.and i)).imp λn h=>⟨h.1.2,h.2.1.1.1,h.2.1.1.2,h.2.1.2.1,h.2.1.2.2,h.1.1.CC,h.2.2,h.1.1.bJ⟩
theorem aDY:bl P7:=by
 have W1:bl λu=>∀I t,I.length<=5->(∀t∈I,Lit t)->Lit t->∃e,aK u 97 [.aQ 11 I,.agg t] (.a9 e):=(Wa 8).up λn h I t g c a=>by
  obtain⟨e,d⟩:=auS (u:=bB bD n) (I:=I) (t:=t) (by omega) a.ge.t11 λp i=>by obtain⟨e,j,_⟩:=h 8 8 p t (sm _) (c p i).ge a.ge;exact⟨(c p i).ge.t11,e,j⟩
  exact⟨e,cI (aM 97 yA n) d⟩
 exact W1.up λn h x I t k g c a=>by
  obtain⟨e,d⟩:=h I t g c a;refine⟨_,cI (aM 34 E7 n) (X7 k (by omega) a.ge.t11 d),?_⟩;cases e
  ·right;rw[Ca (by simp)]
  ·left;rw[y1 rfl]
theorem ahv(aR:bl λu=>Lv u w):bl λu=>∀(j:Nat),1<=j/\j<=5->∀a N,oi a N->gN u 9 [w,ao j] a N Dh:=by have k:=ahx aR;have l:bl λu=>∀a N,oi a N->gN u 96 [w,ao 0] a N v6:=((k.and vf).and (Ep.and UE)).up λn h a N b=>tJ (aM 96 uz n) λc _ _ _ _ _ d e g i=>aje h.1.1 (h.1.2 a N b) (h.2.1 a N b) (h.2.2 a N b) c d e g i;have o:bl λu=>∀a N,oi a N->gN u 96 [w,ao 1] a N yV:=(((k.and vf).and (Ep.and UE)).and l).up λn h a N b=>tJ (aM 96 uz n) λc _ _ _ _ _ d e g i=>al5 h.1.1.1 (h.1.1.2 a N b) (h.1.2.1 a N b) (h.1.2.2 a N b) (h.2 a N b) c d e g i;have VU:bl λu=>∀a N,oi a N->gN u 32 [w,ao 1] a N Lq:=(((Ia.and k).and (vf.and Ep)).and (l.and o)).up λn h a N b=>tJ (aM 32 yE n) λc _ _ _ _ _ d e g i=>afD h.1.1.1.1 h.1.1.2.bJ (h.1.2.1 a N b) (h.1.2.2 a N b) (h.2.1 a N b) (h.2.2 a N b) c d e g i;refine((((Ia.and M4).and (aDY.and k)).and (vf.and Ep)).and (aDF.and VU)).up λn h j p a N b=>tJ (aM 9 At n) λc _ _ _ _ _ d e g i=>IR ⟨h.1.1.1.1.1,h.1.1.1.2.1,h.1.1.2.1,h.1.1.2.2.bJ,h.1.2.1 a N b,h.1.2.2 a N b,h.2.1 a N b,h.2.2 a N b⟩ p c d e g i
end
end
section
open Go.Proofs
section
variable[Tok]
def yY(n k:Nat):aB:=[cZ,.s 0 0,.s 0 0,.s 4 0x6c697370,.s n k,.s 0 0,.aE]
def anJ(l:aY):aB:=l.foldr (λx r=>[jf,.s 0 0,.s 0 0,.s 0 0,.s 0 0,.s 0 0,.aQ 7 [x,r]]) (yY 3 0x6e696c)
def e0(n k:Nat)(s:List aY):List aY:=match n,s with
 |_+1,l::r=>((match k%256 with|48=>[aS,.s n k,.s 1 49,.s 0 0,.s 0 0,.s 0 0,.aE]|49=>[aS,.s n k,.s 1 49,.s 0 0,.s 0 0,.s 0 0,.aE]|_=>yY n k)::l)::r
 |_,_=>s
def uJ{α a:Type}(f:α->a)(x:α):a:=f x
def nS(t:Nat):Nat->Nat->Nat->Nat->List aY->List aY
 |0,_,_,_,s=>s
 |m+1,i,n,k,s=>match t/256^i%256 with
  |40=>match e0 n k s with
   |l::x::r=>uJ (nS t m (i+1) 0 0) ((anJ l::x)::r)
   |_=>[]
  |41=>uJ (nS t m (i+1) 0 0) ([]::e0 n k s)
  |32=>uJ (nS t m (i+1) 0 0) (e0 n k s)
  |10=>uJ (nS t m (i+1) 0 0) (e0 n k s)
  |c=>uJ (nS t m (i+1) (n+1) (k+c*256^n)) s
noncomputable def LQ:an:=match bB bD 9 134 [] 0 .nil with
 | .ok (.s n t) _ _ _=> .aQ 7 ((nS t n 0 0 0 [[]]).headD [])
 |_=> .aE
def vL(k:Nat)(o:aB):an:=(o.drop k).headD .aE
def bu(x:an):Nat:=match x with| .s _ c=>c|_=>0
def rZ(x:an):aY:=match x with| .aQ _ l=>l|_=>[]
def sT:Nat->aB->aY
 |0,_=>[]
 |n+1,o=>match rZ (vL 6 o) with|[h,t]=>h::sT n t|_=>[]
def g5:Nat->aB->aB
 |0,_=>[]
 |n+1,o=>
  let c:=λx l=>bU bP x l
  match sT 9 o with
  |[]=>match bu (vL 4 o) with|0=>cW o|0x74=>cW o|0x6e696c=>cW o|_=>yb bP (vL 4 o)
  |h::t=>
   let l:=t.map (g5 n);let p:=λf=>l.dropLast.foldr f (l.getLastD []);let i:=λx y z=>c (.s 2 0x6966) [x,y,z]
   match bu (vL 4 h) with
   |0x636f6e64=>t.foldr (λx r=>c (.s 2 0x6966) ((sT 3 x).map (g5 n)++[r])) (cW (yY 3 0x6e696c))
   |0x616e64=>p λx r=>i x r (cW (yY 3 0x6e696c))
   |0x6f72=>p λx r=>i x x r
   |0x2b=>p λx r=>c (.s 8 0x62696e6172792d2b) [x,r]
   |0x617070656e64=>c (.s 13 0x62696e6172792d617070656e64) l
   |0x6c697374=>l.foldr (λx r=>c (.s 4 0x636f6e73) [x,r]) (cW (yY 3 0x6e696c))
   |_=>c (vL 4 h) l
def t0:aB:=[aL,.s 0 0,.s 0 0,aL,.s 0 0,.s 0 0,.s 0 0,.s 0 0,.s 0 0,.aE,.aE]
def r2(o:aB):aB:=
 let l:=sT 9 o;let g:=λc d=>((l.filter λx=>bu (vL 4 ((sT 2 x).headD []))==c).map λx=>g5 30 ((sT 2 x).getLastD [])).headD d;let n:=vL 4 (l.getD 1 [])
 [gg,bP,n,.s 0 0,.aE,.s 0 0,.s 0 0,.aE,bG]++t0++[.aQ 37 [[bP,n,.aQ 2 ((sT 9 (l.getD 2 [])).map λp=>[bP,vL 4 p]),aS]++g 0x6775617264 (cW (yY 1 0x74))++g5 30 (l.getLastD [])++g 0x6d656173757265 t0],.aE,.aE,.aE,.s 0 0,.s 0 0,.aE,.aE,.aE,.aE,.s 0 0,.V .u64 18446744073709551616]
def Zt(w:aY):aY->List (aB×an)
 |[]=>[]
 |f::r=>([match w with|[]=> .aE|_=> .aQ 32 w,.agg f],.agg (r2 f))::Zt (w++[r2 f]) r
noncomputable def QW:List (aB×an):=[([],LQ)]
noncomputable def Dw:List (aB×an):=Zt [] (rZ LQ)
noncomputable def fJ(K:List (aB×an))(l:aB):aw:= @List.rec _ (λ_=>aw) .ax (λp _ a=> @Bool.rec (λ_=>aw) a (.ok p.2 0 .nil []) (vS (.a0 p.1.reverse) (.a0 l.reverse))) K
noncomputable def mY(K:List (aB×an)):jq:=me λ_ l _ _=>fJ K l
noncomputable def Mn:lZ:=Co (mY QW) (d70.den Tryz.prog)
noncomputable def wA(l:List (aB×an)):Bool:=l.all λp=>dy (bB Mn 300 70 p.1 0 .nil) p.2
noncomputable def EQ:lZ:=Co (mY QW) (mY Dw)
end
end
section
variable{gl:eI} {P:Program} {f:Nat} {g:jq}
section
variable[Tok]
theorem ae8{args:dA}{a:aG}(h:uP gl P f args a)(ob:cD)
 (d:∀(g:ck) (w:World) (p:aG) (v:Value),p∈args->dT g w ob p v->dT g w qY p v):lx gl P f args ob a ob:=by
 obtain⟨⟨j,k⟩,l⟩:=h;refine⟨j,λg w vs n o b=>?_⟩;refine(k g w vs n oC.none ⟨b.1,λi p v c q=>d g w p v (On c) (b.2 i p v c q)⟩).mono ?_;rintro e w' ⟨v,g',rfl,r,t⟩;exact⟨v,⟨g'.U,g.b3,g.cap⟩,rfl,ml.frame o r,t.adW l rfl⟩
theorem Tq:∀{l:aB},rm l=true->∀x∈l,DT x=true
 |[],_,x,h=>by cases h
 |y::l,h,x,a=>by
  have e: @Bool.rec (λ_=>Bool) false (rm l) (DT y)=true:=h;cases b:DT y with
  |false=>rw[b] at e;cases e
  |true=>
   rw[b] at e;rcases pG.1 a with rfl|a
   ·exact b
   ·exact Tq e x a
theorem ach:∀{cs:aB},b8 cs=true->cs.flatMap an.key=[]
 |[],_=>rfl
 |c::r,h=>by
  have a:b8 r=true/\an.key c=[]:=by cases c<;>first|exact⟨h,rfl⟩|exact absurd h (by intro h;cases h)
  rw[Ph,a.2,ach a.1];rfl
theorem aqA{x:an}(h:DT x=true):x.cR=[]:=by cases x<;>first|exact ach h|rfl|cases h
theorem acA(h:∀u,mD gl P u->∀args b s d,g u args 0 .nil= .ok b 0 s d->uP gl P f (args.map bi) (bi b)):i5 gl P f (me g):=by intro u c args ub atf b q r t i;obtain⟨j,rfl,rfl,rfl,s,d,e⟩:=Xi i;have c1:=h u c args b s d e;refine⟨ae8 c1 _ λg w p v l n=>n.fg λk a=>?_,λ_ _ _=>rfl,λk a=>by rw[<-pb,c1.2] at a;cases a⟩;obtain⟨x,o,rfl⟩:=yd.1 l;rw[pb,aqA (Tq j x o)] at a;cases a
theorem MQ(h:i5 gl P f g):i5 gl P f (me g):=acA λu a args b s d e=>by obtain⟨c1,_,c⟩:=h u a args 0 .nil b 0 s d e;rw[vD,vD] at c1;refine⟨c1,?_⟩;rw[pb];exact AY.2 λk i=>absurd (c k i) (Nat.not_lt_zero _)
end
end
end Go.Hf
namespace Go.Proofs
open Go Go.Hf Go.RowKit Go.Shelf
def Tryz.TV:Go.Shelf.Ren:=⟨λ |169=>323|n=>n,λ |70=>355|9=>9|0=>0|72=>357|37=>22|127=>378|3=>3|5=>5|n=>n,λ |n=>n⟩
theorem Tryz.apk:Go.Proofs.Lays.n169 Tryz.prog Tryz.TV:={
 mixed:=by kernel_rfl
 f169:=Tryz.func323.trans (oT some (by kernel_rfl))
 t0:=Tryz.underlying0
 a0:=Tryz.isAgg0
 z0:=Tryz.sizeOf0
 v0:=Tryz.zeroValue0
 t3:=Tryz.underlying3
 a3:=Tryz.isAgg3
 z3:=Tryz.sizeOf3
 v3:=Tryz.zeroValue3
 t9:=Tryz.underlying9
 a9:=Tryz.isAgg9
 z9:=Tryz.sizeOf9
 v9:=Tryz.zeroValue9
 t37:=Tryz.underlying22
 a37:=Tryz.isAgg22
 z37:=Tryz.sizeOf22
 v37:=Tryz.zeroValue22
 t70:=Tryz.underlying355
 a70:=Tryz.isAgg355
 z70:=Tryz.sizeOf355
 v70:=Tryz.zeroValue355
 t72:=Tryz.underlying357
 a72:=Tryz.isAgg357
 z72:=Tryz.sizeOf357
 v72:=Tryz.zeroValue357
 t127:=Tryz.underlying378
 a127:=Tryz.isAgg378
 z127:=Tryz.sizeOf378
 v127:=Tryz.zeroValue378}
theorem Tryz.alv:Builder.Extra Tryz.prog Tryz.TV:={
 sizeBuilder:=by kernel_rfl
 liesBuilder:=by kernel_rfl
 t5:=Tryz.underlying5
 a5:=Tryz.isAgg5
 z5:=Tryz.sizeOf5
 v5:=Tryz.zeroValue5
 infoByte:=by kernel_rfl
 cellsByte:=by kernel_rfl
 sizeByte:=by kernel_rfl
 neB5:=by decide}
set_option maxHeartbeats 1000000 in
set_option maxRecDepth 100000 in
theorem ayC(b:Nat)(w:World)(c:w.cell? ⟨b,0,none⟩=some (.pointer (some ⟨b,0,none⟩))):
 Calls Tryz.prog 354 #[.pointer (some ⟨b,0,none⟩)] w λe w'=>e= .returned (.tuple #[])/\w'=w:=by
 obtain⟨j,a,_⟩:∃j,Tryz.prog.info? 357=some j/\j.size=2:=Pq.1 (by kernel_rfl:(Tryz.prog.info? 357).map (·.size)=some 2)
 go_enter Tryz.func354,Tryz.ntmps354
 go_wp2
 rw[Lib.run_neq_ptr_same w _ Tryz.underlying355 a]
 go_wp2
 go_end0
 exact⟨rfl,rfl⟩
set_option maxHeartbeats 1000000 in
set_option maxRecDepth 100000 in
theorem amt(b:Nat)(w:World)(h:w.cell? ⟨b,0,none⟩=some (.pointer none))(a:w.shape? b=some (357,2))(i:w.frozen? ⟨b,0,none⟩=false):
 Calls Tryz.prog 354 #[.pointer (some ⟨b,0,none⟩)] w λe w'=>e= .returned (.tuple #[])/\w'=w.setCell ⟨b,0,none⟩ (.pointer (some ⟨b,0,none⟩)):=by
 obtain⟨j,c,d⟩:∃j,Tryz.prog.info? 357=some j/\j.size=2:=Pq.1 (by kernel_rfl:(Tryz.prog.info? 357).map (·.size)=some 2);have g:liesAt Tryz.prog Tryz.prog.depth 357 (2/Tryz.prog.cellsOf 357) 0 357 1=true:=by kernel_rfl
 go_enter Tryz.func354,Tryz.ntmps354
 go_wp2
 rw[Lib.run_to_unsafe w ⟨b,0,none⟩ Tryz.underlying355 Tryz.underlying386 c (by rw[d];decide) a (Nat.zero_lt_succ 1)];simp only[Result.andThen];rw[Oper.upon_value]
 go_wp2
 rw[run_callFunc_extern Tryz.func370 (by kernel_rfl) (by kernel_rfl) (by kernel_rfl) (e:=Extern.AbiNoEscape.same) (by kernel_rfl)];rw[Lib.run_noEscape];simp only[Result.andThen];rw[Oper.upon_value]
 go_wp2
 rw[Lib.run_from_unsafe w ⟨b,0,none⟩ Tryz.underlying386 Tryz.underlying355 c a g];simp only[Result.andThen];rw[Oper.upon_value]
 go_wp2
 go_end0
 exact⟨rfl,rfl⟩
set_option maxHeartbeats 1000000 in
set_option maxRecDepth 100000 in
theorem apW(b r a:Nat)(p:Value)(c:Array Value)(T:TypeId)(l:List UInt8)(w:World)(h:l≠[])(i:w.heap[b]? =some (.cells #[p,.slice (some ⟨r,0,none⟩) l.length a] T (0,0)))
 (d:w.heap[r]? =some (.cells c 5 (0,0)))(q:l.length<=a)(n:a<=maxLen)(t:c.size=a)(k:∀(j:Nat) (x:UInt8),l[j]? =some x->c[j]? =some (.int .u8 x.toNat)):
 Calls Tryz.prog 323 #[.pointer (some ⟨b,0,none⟩)] w λe w'=>e= .returned (.string ⟨l.toArray⟩)/\w'=w.drew.freeze ⟨r,0,none⟩ l.length:=by
 have L:=Tryz.apk;have X:=Tryz.alv;have u:l.length≠0:=by simpa using h
 have c1:w.drew.cell? ⟨b,1,none⟩=some (.slice (some ⟨r,0,none⟩) l.length a):=by have:w.drew.heap[b]? =some (.cells #[p,.slice (some ⟨r,0,none⟩) l.length a] T (0,0)):=i;rw[Lib.cell_of_heap this];rfl
 have y:(Builtin.unsafeSliceData_ #[22] 378 #[.slice (some ⟨r,0,none⟩) l.length a]).run Tryz.prog w.drew= .ok (.pointer (some ⟨r,0,none⟩)) w.drew:=
  Lib.run_unsafeSliceData_row _ _ _ _ _ _ (by omega)
 have z:(Builtin.unsafeString_ #[378,3] 9 #[.pointer (some ⟨r,0,none⟩),.int .i64 l.length]).run Tryz.prog w.drew= .ok (.string ⟨l.toArray⟩) (w.drew.freeze ⟨r,0,none⟩ l.length):=by
  refine Lib.run_unsafeString_row w.drew 378 3 9 5 L.t127 X.cellsByte r c.size (by have g:w.drew.heap[r]? =some (.cells c 5 (0,0)):=d;simp[World.shape?,g]) l h (by omega) (by unfold maxLen at n;omega) ?_;intro j x o;have g:w.drew.heap[r]? =some (.cells c 5 (0,0)):=d;have:=k j x o;have e:(⟨r,0,none⟩:Addr).add j=⟨r,j,none⟩:=by unfold Addr.add;split<;>simp_all
  rw[e];simp only[World.cell?,g];simpa using this
 have A:Tryz.prog.follows .mixedOrders=true:=by kernel_rfl
 clear L X k i d
 go_enter Tryz.func323,Tryz.ntmps323
 go_wp2
 go_region
 all_goals(go_wp2;go_ret;exact⟨rfl,rfl⟩)
end Go.Proofs
namespace Go.Hf
open Go.RowKit
section
open Go Go.Proofs
def H0(w:World):Prop:=Lib.TabIs Tryz.prog w ya .u64 Lib.pow10Tab
def kC:eI:=awT H0
section
variable[Tok]
theorem VC{c:Nat->Nat}{w:World}(h:kC.ak c w):H0 w:=by obtain⟨w0,c0,a,b⟩:=h;exact azw b a
theorem aEA{f:Nat}{fn:Func}(h:Tryz.prog.funcs[f]? =some fn)(a:(fn.name== "runtime.NumGoroutine")=false)(b:fn.body.isNone=false):Hf.Enters Tryz.prog f:=⟨fn,h,a,b⟩
theorem ad1(w:World)(k:Nat)(os:Array Go.Obj):Below w.heap.size w (Sort.grow (w.drewN k) os):=by
 have hd:Below w.heap.size w (w.drewN k):=by unfold World.drewN;exact⟨rfl,rfl,rfl,sm _,λ_ _=>rfl⟩
 refine hd.trans ⟨rfl,rfl,rfl,by simp[Sort.grow],λb a=>?_⟩;simp only[Sort.grow];rw[Array.getElem?_append_left (by simpa using a)]
theorem aBr:i5 kC Tryz.prog 157 Iu:=aqe (aEA Tryz.func157 (by kernel_rfl) (by kernel_rfl)) λn c w a b d=>by refine(Tryz.strconv_Itoa n b d w (VC a)).mono ?_;rintro e w' ⟨rfl,k,os,rfl⟩;exact⟨rfl,ad1 w k os⟩
theorem aA7:i5 kC Tryz.prog 267 FZ:=ap4 (aEA Tryz.func267 (by kernel_rfl) (by kernel_rfl)) λn c w a b d=>by refine(Tryz.strconv_FormatInt_10 n b d w (VC a)).mono ?_;rintro e w' ⟨rfl,k,os,rfl⟩;exact⟨rfl,ad1 w k os⟩
theorem anw:i5 kC Tryz.prog 317 NH:=axr (aEA Tryz.func317 (by kernel_rfl) (by kernel_rfl)) Tryz.strconv_ParseInt_10_at64_ok
theorem auK:i5 kC Tryz.prog 319 Mz:=amQ (aEA Tryz.func319 (by kernel_rfl) (by kernel_rfl)) Tryz.strconv_ParseUint_10_at32_ok
theorem avj:i5 kC Tryz.prog 334 Pz:=atP (aEA Tryz.func334 (by kernel_rfl) (by kernel_rfl)) Tryz.strings_Compare
theorem agY:i5 kC Tryz.prog 354 (L7 357):=avw (aEA Tryz.func354 (by kernel_rfl) (by kernel_rfl)) ayC amt
theorem azZ:i5 kC Tryz.prog 323 (Qx 5):=awh (aEA Tryz.func323 (by kernel_rfl) (by kernel_rfl)) apW
theorem L4{g dB:jq}(h:i5 kC Tryz.prog 69 g)(b:i5 kC Tryz.prog 70 dB):qf kC Tryz.prog (Co g dB):=(MX (a:=[]) (by simp only[Co,Gf,JJ];exact⟨akK,bw d7 Tryz.func7 rfl,bw d8 Tryz.func8 rfl,aC9,ara,bw d11 Tryz.func11 rfl,aw1,at4,aFI,aFs,bw d21 Tryz.func21 rfl,akS,aDn,alE,bw d25 Tryz.func25 rfl,bw d26 Tryz.func26 rfl,bw d27 Tryz.func27 rfl,bw d28 Tryz.func28 rfl,aB3,auL,ajZ,aCp,aDd,aq2,akE,akb,bw d38 Tryz.func38 rfl,apI,bw d40 Tryz.func40 rfl,bw d41 Tryz.func41 rfl,bw d42 Tryz.func42 rfl,bw d43 Tryz.func43 rfl,bw d44 Tryz.func44 rfl,bw d45 Tryz.func45 rfl,aCM,axV,aqD,anh,bw d62 Tryz.func62 rfl,at8,azo,apc,au8,bw d67 Tryz.func67 rfl,agU,h,b,aAt,bw d72 Tryz.func72 rfl,bw d73 Tryz.func73 rfl,bw d74 Tryz.func74 rfl,agj,bw d76 Tryz.func76 rfl,bw d77 Tryz.func77 rfl,bw d78 Tryz.func78 rfl,bw d79 Tryz.func79 rfl,bw d80 Tryz.func80 rfl,akg,ahs,bw d86 Tryz.func86 rfl,bw d87 Tryz.func87 rfl,bw d94 Tryz.func94 rfl,ajd,aAu,akn,akY,aAW,awY,bw d105 Tryz.func105 rfl,af7,ayD,bw d108 Tryz.func108 rfl,afO,bw d110 Tryz.func110 rfl,bw d111 Tryz.func111 rfl,avd,asc,azl,atL,avY,aid,ary,av2,auH,aoZ,arB,akO,bw d125 Tryz.func125 rfl,ax1,bw d128 Tryz.func128 rfl,aqo,ami,axJ,bw d132 Tryz.func132 rfl,bw d133 Tryz.func133 rfl,bw d134 Tryz.func134 rfl,bw d135 Tryz.func135 rfl,bw d136 Tryz.func136 rfl,bw d137 Tryz.func137 rfl,bw d138 Tryz.func138 rfl,bw d139 Tryz.func139 rfl,bw d141 Tryz.func141 rfl,bw d145 Tryz.func145 rfl,bw d147 Tryz.func147 rfl,bw d148 Tryz.func148 rfl,bw d150 Tryz.func150 rfl,bw d151 Tryz.func151 rfl,bw d152 Tryz.func152 rfl,bw d153 Tryz.func153 rfl,aCc,aDu,akx,aBr,bw d158 Tryz.func158 rfl,bw d159 Tryz.func159 rfl,afn,bw d161 Tryz.func161 rfl,bw d162 Tryz.func162 rfl,bw d163 Tryz.func163 rfl,bw d164 Tryz.func164 rfl,bw d165 Tryz.func165 rfl,bw d166 Tryz.func166 rfl,bw d167 Tryz.func167 rfl,bw d168 Tryz.func168 rfl,axj,ahe,ahK,bw d172 Tryz.func172 rfl,bw d173 Tryz.func173 rfl,ayn,bw d175 Tryz.func175 rfl,bw d176 Tryz.func176 rfl,asG,awD,aDs,ayU,aBo,awV,(MQ aCT),ajX,aoi,agf,apa,bw d188 Tryz.func188 rfl,aFp,aF7,aFE,aE8,bw d193 Tryz.func193 rfl,azX,ang,bw d197 Tryz.func197 rfl,bw d198 Tryz.func198 rfl,bw d199 Tryz.func199 rfl,bw d200 Tryz.func200 rfl,bw d202 Tryz.func202 rfl,art,ak3,bw d207 Tryz.func207 rfl,bw d208 Tryz.func208 rfl,atF,aCE,anz,arv,anR,bw d214 Tryz.func214 rfl,aAa,awy,bw d217 Tryz.func217 rfl,bw d218 Tryz.func218 rfl,asP,amP,bw d221 Tryz.func221 rfl,axg,atK,aEL,au0,bw d227 Tryz.func227 rfl,bw d228 Tryz.func228 rfl,aBP,anF,avL,aBB,ag5,ae6,bw d235 Tryz.func235 rfl,axp,(MQ atk),ah1,(MQ aup),ahq,aiw,bw d242 Tryz.func242 rfl,akX,bw d244 Tryz.func244 rfl,aCY,aFW,anD,ao3,amA,ahN,bw d251 Tryz.func251 rfl,bw d254 Tryz.func254 rfl,bw d255 Tryz.func255 rfl,bw d256 Tryz.func256 rfl,bw d257 Tryz.func257 rfl,bw d258 Tryz.func258 rfl,bw d259 Tryz.func259 rfl,bw d260 Tryz.func260 rfl,bw d261 Tryz.func261 rfl,ank,bw d264 Tryz.func264 rfl,agR,axM,aA7,aqW,aqi,bw d270 Tryz.func270 rfl,azI,abk,bw d273 Tryz.func273 rfl,azk,auv,ahn,arf,alb,amk,aiR,bw d283 Tryz.func283 rfl,aky,arS,axk,aEp,azg,bw d292 Tryz.func292 rfl,alC,akU,amY,aqg,alD,aoW,bw d302 Tryz.func302 rfl,ak4,bw d305 Tryz.func305 rfl,bw d306 Tryz.func306 rfl,bw d307 Tryz.func307 rfl,bw d308 Tryz.func308 rfl,apx,aoD,bw d315 Tryz.func315 rfl,asA,anw,atj,auK,alk,akG,aj8,azZ,aml,aaV,afJ,bw d328 Tryz.func328 rfl,aEd,avj,aBb,aDw,bw d339 Tryz.func339 rfl,bw d340 Tryz.func340 rfl,bw d341 Tryz.func341 rfl,aqS,aor,apP,agY,aur,ayX,arQ,arM,aB6,atM,trivial⟩)).1
theorem Ho:qf kC Tryz.prog bD:=L4 aC2 Zr
end
end
section
variable{v:an} {l:List Nat} {n:Int} {d i:Nat}
def qV[Tok](d:Nat):aB:=[ao d]
section
variable[Tok] {u:Fn} {b:Nat}
def g8(v:an)(l:List Nat):Prop:=dw 1 v (l.map qV)
theorem g8.len{v:an}{l:List Nat}(h:g8 v l)(k:an->aw):bq false v k=k (ao l.length):=by rw[dw.len h,ER]
theorem g8.at{v:an}{l:List Nat}(h:g8 v l){i d:Nat}(hi:l[i]? =some d)(ob:ej)(k:an->aw):cb ob 1 v (ao i) k=k (.ep (qV d) 0):=by
 rcases h with⟨rfl,h⟩|rfl
 ·rw[Nr] at h;subst h;simp at hi
 ·exact eE (by simp[hi]) k
theorem g8.eh{v:an}{l:List Nat}(h:g8 v l):v≠ .undef:=dw.eh h
theorem g8.met{v:an}{l:List Nat}(h:g8 v l){rk:List Nat}(xs:aB)(z:aw):Go.Hf.met b rk (v::xs) z=Go.Hf.met b rk xs z:=aV (dw.met h b rk) xs z
theorem rv(ob:ej)(d:Nat)(k:an->aw):aW ob false 1 (.ep (qV d) 0) k=k (ao d):=by rw[ch,bc (v:=ao d) rfl]
theorem as5(k:g8 v l)(G:l.length<100000):∀(n N:Nat) (h:aI),n<=l.length->n<N->b4 h 0->da h->
 ∃w s d,g8 w (sD (l.take n))/\oq 0 3 N (avO u 0 (λe f g=>k7 g.aj 1 e none (some f) λi=>azC 0 i g)) v (ao n) h= .ok w 0 s d:=by
 intro n;induction n with
 |zero=>intro N h z C ub fc;obtain⟨N,rfl⟩:=cN N;obtain⟨w,j,o⟩:=KI (sz:=1) k h.aj (lo:=none) (hi:=some (ao (0:Nat))) (a:=0) (c:=0) (λf=>rfl) (λd f _=>uW d 0 f) (sm _) (xW _);have p:=dw.dU j;rw[AN];generalize oq 0 3 N (avO u 0 (λe f g=>k7 g.aj 1 e none (some f) λi=>azC 0 i g))=D;obtain⟨s,d,e⟩:=b9 (r:=w) (h:=h);refine⟨w,s,d,j,?_⟩;rw[avO,bF,bK,hH,bk,iE,an9,fQ,dO,a6,o,azC,bj,p,av];exact e
 |succ n E=>
  intro N h z C ub fc;obtain⟨N,rfl⟩:=cN N;have hi:l[n]? =some (l[n]'(by omega)):=dC _;have F:sD (l.take (n+1))=if l[n]'(by omega)=0 then sD (l.take n) else l.take (n+1):=by rw[List.take_succ_eq_append_getElem (by omega),Xn]
  obtain⟨w,j,o⟩:=KI (sz:=1) k h.aj (lo:=none) (hi:=some (ao ((n+1:Nat):Int))) (a:=0) (c:=n+1) (λf=>rfl) (λd f _=>uW d (n+1) f) (xW _) (by rw[ER];exact z);have p:=dw.dU j;have A:=E N h (by omega) (by omega) ub fc;have q:=k.at hi h.aj;rw[F];generalize l[n]'(by omega)=c at hi q;have t:((n+1:Nat):Int)-1=(n:Int):=by omega
  rw[AN];generalize oq 0 3 N (avO u 0 (λe f g=>k7 g.aj 1 e none (some f) λi=>azC 0 i g))=D at A;by_cases B:c=0
  ·rw[y1 B];obtain⟨w,s,d,x,y⟩:=A;refine⟨w,s,d,x,?_⟩;rw[avO,bF,bK,hH,bN,fi,e1,t,q,rv,dj,an9,fQ,dR,bN,bL,e1,t];exact y
  ·rw[Ca B];obtain⟨s,d,e⟩:=b9 (r:=w) (h:=h);refine⟨w,s,d,by simpa[g8,iz] using j,?_⟩;rw[avO,bF,bK,hH,bN,fi,e1,t,q,rv,dj,an9,fQ,dR,bk,a6,o,azC,bj,p,av];exact e
theorem aDa(a:g8 v l)(c:l.length<100000):∃w,g8 w (sD l)/\∃s d,abK u [v] 0 .nil= .ok w 0 s d:=by have F:=λ(h:aI) (ub:b4 h 0) (fc:da h)=>as5 (u:=u) a c l.length 1000000 h (sm _) (by omega) ub fc;rw[nG] at F;obtain⟨w,s,d,e,g⟩:=F (ba 0 .nil) inferInstance inferInstance;have j:=a.len;refine⟨w,e,s,d,?_⟩;rw[abK,dK];rw[apL,j];exact g
end
theorem VF:∀l:List Nat,(sD l).length<=l.length
 |[]=>sm _
 |d::r=>by have:=VF r;unfold sD;split<;>simp;omega
theorem aFY(n:Nat):sD (cU n)=cU n:=by rw[Do (q3 n),ud]
theorem B5{n:Nat}(h:n≠0):(cU n).length≠0:=by rw[Bq h];simp
theorem UT{n k:Nat}(j:(cU n).length=k+1)(h:(cU n)[k]? =some d):d≠0:=by
 rintro rfl;have e:cU n=(cU n).take k++[0]:=by have:=List.take_succ_eq_append_getElem (l:=cU n) (i:=k) (by omega);rw[dC (by omega)] at h;rw[jZ h,lH (by omega)] at this;exact this
 have a:=aFY n;rw[e,Xn,y1 rfl] at a;have g:=VF ((cU n).take k);have c:=oT List.length a;rw[OD] at c;simp at c g;omega
def qI(n:Int):Nat:=if n<0 then 1 else 0
theorem Rb(n:Int):qI n<=1:=by unfold qI;split<;>omega
theorem Fg(h:n≠0):(Lib.itoa n).length=qI n+(cU n.natAbs).length:=by rw[Oj h];unfold qI;split<;>simp;omega
theorem GB(h:d<10):(UInt8.ofNat (48+d)).toNat=48+d:=by rw[sp];omega
theorem NZ(h:n≠0)(hi:i<(cU n.natAbs).length)(hd:(cU n.natAbs)[(cU n.natAbs).length-1-i]? =some d):(Lib.itoa n)[qI n+i]? =some (UInt8.ofNat (48+d)):=by
 have e:((cU n.natAbs).reverse.map λd=>UInt8.ofNat (48+d))[i]? =some (UInt8.ofNat (48+d)):=by rw[O8,List.getElem?_reverse hi,hd];rfl
 rw[Oj h];unfold qI;split
 ·rw[sH (by simp)];simpa using e
 ·simpa using e
theorem Sf(h:n<0):(Lib.itoa n)[0]? =some 45:=by rw[Oj (by omega),y1 h];rfl
section
variable[Tok] {u:Fn} {b:Nat}
theorem Rn(h:n≠0)(hi:i<(cU n.natAbs).length)(hd:(cU n.natAbs)[(cU n.natAbs).length-1-i]? =some d)(k:an->aw):iN (bA n) (ao ((qI n+i:Nat):Int)) k=k (q4 (48+d)):=by have a:=q3 n.natAbs d (On hd);have:=Y3 (NZ h hi hd) k;rw[GB a] at this;exact this
theorem aFw(a:n≠0)(z:(cU n.natAbs).length<1000):∀(j i N:Nat) (h:aI),j+i=(cU n.natAbs).length->j<N->b4 h 0->da h->
 ∃s d,oq 0 4 N (atU u 0 (λe=>JL 0 dh e)) (bA n) (ao ((qI n+i:Nat):Int)) h= .ok (.a9 true) 0 s d:=by
 intro j;induction j with
 |zero=>intro i N h hi q ub fc;obtain⟨N,rfl⟩:=cN N;have r:=Fg a;have g:=λk=>ab2 (n:=n) k;rw[AN];generalize oq 0 4 N (atU u 0 (λe=>JL 0 dh e))=t;rw[atU,g,bO,bk,a6,JL,bj,gE,fO,av];exact b9
 |succ j w=>
  intro i N h hi q ub fc;obtain⟨N,rfl⟩:=cN N;have r:=Fg a;have hd:(cU n.natAbs)[(cU n.natAbs).length-1-i]? =some ((cU n.natAbs)[(cU n.natAbs).length-1-i]'(by omega)):=dC _;have o:=λk=>Rn a (i:=i) (by omega) hd k;have x:=q3 n.natAbs _ (On hd);generalize (cU n.natAbs)[(cU n.natAbs).length-1-i]'(by omega)=c at o x;have g:=λk=>ab2 (n:=n) k;have zI:=Rb n;have p:=w (i+1) N h (by omega) (by omega) ub fc;have y:((qI n+(i+1):Nat):Int)=((qI n+i:Nat):Int)+1:=by omega
  rw[y] at p;rw[AN];generalize oq 0 4 N (atU u 0 (λe=>JL 0 dh e))=t at p;rw[atU,g,bO,bN,bL,apt,o,Q9,aFl,bk,fZ,o,aEZ,aEI,aif,gE,fQ,dO,bk,a6,bK,cK];exact p
theorem Xt:Lib.itoa n=[48]↔n=0:=by
 constructor
 ·intro h;apply Classical.byContradiction;intro a;have c:=Fg a;have j:=B5 (n:=n.natAbs) (by omega);rw[h] at c;simp at c;have hd:(cU n.natAbs)[0]? =some ((cU n.natAbs)[0]'(by omega)):=dC _;have e:=NZ a (i:=0) (by omega) (d:=(cU n.natAbs)[0]'(by omega)) (by rw[show(cU n.natAbs).length-1-0=0 by omega];exact hd);have o:=UT (n:=n.natAbs) (k:=0) (by omega) hd;have g:=q3 n.natAbs _ (On hd);rw[h,show qI n+0=0 by omega] at e;have:=oT UInt8.toNat (jZ e);rw[GB g] at this;simp at this;omega
 ·rintro rfl;exact Qr
theorem amR(k:an->aw):bY (bA n) (.s 1 0x30) k=k (.a9 (decide (n=0))):=by have:=anN (Lib.itoa n) [48] k;rw[L9.2 Xt] at this;exact this
theorem aF6(r:(cU n.natAbs).length<1000):∃s d,Re u [bA n] 0 .nil= .ok (.a9 true) 0 s d:=by
 have j:=λk=>amR (n:=n) k;rw[Re,dK];by_cases o:n=0
 ·rw[ahV,j,bN,bL,JL,bj,gE,fO,av];exact b9
 ·have e:=λk=>ab2 (n:=n) k;have z:=Fg o;have A:=B5 (n:=n.natAbs) (by omega);have zI:=Rb n;have F:=λ(h:aI) (ub:b4 h 0) (fc:da h)=>aFw (u:=u) o r (cU n.natAbs).length 0 1000000 h (by omega) (by omega) ub fc;have hd:(cU n.natAbs)[(cU n.natAbs).length-1-0]? =some ((cU n.natAbs)[(cU n.natAbs).length-1-0]'(by omega)):=dC _;have a:=λk=>Rn o (i:=0) (by omega) hd k;have t:=UT (n:=n.natAbs) (k:=(cU n.natAbs).length-1-0) (by omega) hd;have w:=q3 n.natAbs _ (On hd);generalize (cU n.natAbs)[(cU n.natAbs).length-1-0]'(by omega)=c at a t w;by_cases p:n<0
  ·have x:=λk=>Y3 (Sf p) k;have y:∀k,iN (bA n) (ao 0) k=k (q4 45):=λk=>x k;have q:qI n=1:=by unfold qI;rw[if_pos p]
   rw[q] at a F;have g:∀k,iN (bA n) (ao 1) k=k (q4 (48+c)):=a;rw[ahV,j,bk,a6,aA4,e,bF,hH,bN,fi,y,NU,IG,afU,fQ,dR,bN,bL,avM,e,bK,qd,bk,fZ,g,Q9,IG,ayP,gE,fQ,dO,bk,a6,ayI];exact F _ inferInstance inferInstance
  ·have q:qI n=0:=by unfold qI;rw[if_neg p]
   rw[q] at a F;have g:∀k,iN (bA n) (ao 0) k=k (q4 (48+c)):=a;rw[ahV,j,bk,a6,aA4,e,bF,hH,bN,fi,g,NU,IG,afU,fQ,dR,bk,a6,avM,e,bF,qd,bk,fZ,g,Q9,IG,ayP,gE,fQ,dO,bk,a6,ayI];exact F _ inferInstance inferInstance
end
end
section
variable{n:Int} {v:an}
section
variable[Tok] {u:Fn} {b:Nat}
theorem aCs(y:n≠0)(L:(cU n.natAbs).length<1000)(neg:Bool):∀(j N:Nat) (h:aI) (arZ:an),j<=(cU n.natAbs).length->j<N->b4 h 0->da h->pd 0 2082 3 1 h arZ (((cU n.natAbs).take ((cU n.natAbs).length-j)).map qV)->
 ∃w s d,g8 w (cU n.natAbs)/\fs 0 4 5 6 7 N (az6 u 0 (λi k l=>ZI 0 i k l)) (bA n) (.a9 neg) (ao (qI n)) arZ (ao ((qI n:Int)+j-1)) h= .ok (.a0 [.a9 neg,w]) 0 s d:=by
 intro j;induction j with
 |zero=>intro N h arZ A B ub fc a;obtain⟨N,rfl⟩:=cN N;obtain⟨w,o,C⟩:=a.dU;rw[kM,nG] at o;obtain⟨s,d,e⟩:=b9 (r:= .a0 [.a9 neg,w]) (h:=h);refine⟨w,s,d,o,?_⟩;rw[gI];generalize fs 0 4 5 6 7 N (az6 u 0 (λi k l=>ZI 0 i k l))=D;rw[az6,ix,bk,a6,ZI,fO,C,av,av];exact e
 |succ j E=>
  intro N h arZ A B ub fc a;obtain⟨N,rfl⟩:=cN N;have zI:=Rb n;have hd:(cU n.natAbs)[(cU n.natAbs).length-1-j]? =some ((cU n.natAbs)[(cU n.natAbs).length-1-j]'(by omega)):=dC _;have p:=λk=>Rn y (i:=j) (by omega) hd k;have F:=q3 n.natAbs _ (On hd);have q:(cU n.natAbs).take ((cU n.natAbs).length-j)=(cU n.natAbs).take ((cU n.natAbs).length-(j+1))++[(cU n.natAbs)[(cU n.natAbs).length-1-j]'(by omega)]:=by have:=List.take_succ_eq_append_getElem (l:=cU n.natAbs) (i:=(cU n.natAbs).length-1-j) (by omega);rw[show(cU n.natAbs).length-1-j+1=(cU n.natAbs).length-j by omega] at this;rw[this,show(cU n.natAbs).length-(j+1)=(cU n.natAbs).length-1-j by omega]
  generalize (cU n.natAbs)[(cU n.natAbs).length-1-j]'(by omega)=c at p F q;obtain⟨t,h',G,H,x,-,P⟩:=MZ (d1:=2081) (bytes:=8) (z:=[aL]) (Jy (c:=(48+c-48:Nat))) a (by simp;omega);have I:pd 0 2082 3 1 h' t (((cU n.natAbs).take ((cU n.natAbs).length-j)).map qV):=by rw[q,LZ];rw[show 48+c-48=c by omega] at x;exact x
  have g:=E N h' t (by omega) (by omega) G H I;have J:(qI n:Int)+((j+1:Nat):Int)-1=((qI n+j:Nat):Int):=by omega
  have K:((qI n+j:Nat):Int)-1=(qI n:Int)+j-1:=by omega
  rw[J];rw[<-K] at g;rw[gI];generalize fs 0 4 5 6 7 N (az6 u 0 (λi k l=>ZI 0 i k l))=D at g;rw[az6,ix,bN,bL,axP,p,Q9,ayl,avH,P,bK,e1];exact g
theorem aBw(H:aK u 229 [bA n] (.a9 true))(x:(cU n.natAbs).length<1000):∃w,g8 w (cU n.natAbs)/\∃s d,Vf u [bA n] 0 .nil= .ok (.a0 [.a9 (decide (n<0)),w]) 0 s d:=by
 have l:=λk=>amR (n:=n) k;rw[Vf,dK];by_cases o:n=0
 ·have y:decide (n<0)=false:=GG (by omega);have el:cU n.natAbs=[]:=by rw[show n.natAbs=0 by omega];rfl
  obtain⟨s,d,e⟩:=b9 (r:= .a0 [.a9 false,.aE]) (h:=ba 0 .nil);rw[y,el];refine⟨.aE,.inl ⟨rfl,rfl⟩,s,d,?_⟩;rw[al3,bg,dP,av,aT,hj,tF,fZ,l,aio,gE,fQ,dO,bN,bL,ZI,fO,yg,av,av];exact e
 ·have t:=λk=>ab2 (n:=n) k;have E:=Fg o;have G:=B5 (n:=n.natAbs) (by omega);have zI:=Rb n;have hd:(cU n.natAbs)[(cU n.natAbs).length-1-0]? =some ((cU n.natAbs)[(cU n.natAbs).length-1-0]'(by omega)):=dC _;have p:=λk=>Rn o (i:=0) (by omega) hd k;have z:=UT (n:=n.natAbs) (k:=(cU n.natAbs).length-1-0) (by omega) hd;have A:=q3 n.natAbs _ (On hd);generalize (cU n.natAbs)[(cU n.natAbs).length-1-0]'(by omega)=c at p z A;have F:=λ(neg:Bool)=>aCs (u:=u) o x neg (cU n.natAbs).length 1000000 (ba 0 .nil) .aE (sm _) (by omega) inferInstance inferInstance (.inl ⟨rfl,by simp⟩);have j:((Lib.itoa n).length:Int)-1=(qI n:Int)+(cU n.natAbs).length-1:=by omega
  by_cases g:n<0
  ·obtain⟨w,s,d,q,a⟩:=F true;have B:=λk=>Y3 (Sf g) k;have C:∀k,iN (bA n) (ao 0) k=k (q4 45):=λk=>B k;rw[show qI n=1 by unfold qI;rw[if_pos g]] at a j;have I:=a.symm;rw[<-j] at a;rw[pl g];refine⟨w,q,s,d,?_⟩;rw[al3,bg,dP,av,aT,hj,tF,fZ,l,aio,gE,fQ,dO,bk,a6,asn,bF,C,NU,IG,bN,bL,aDy,t,bK,e1];exact a
  ·obtain⟨w,s,d,q,a⟩:=F false;rw[show qI n=0 by unfold qI;rw[if_neg g]] at a j p;rw[<-j] at a;have D:∀k,iN (bA n) (ao 0) k=k (q4 (48+c)):=p;rw[GG g];refine⟨w,q,s,d,?_⟩;rw[al3,bg,dP,av,aT,hj,tF,fZ,l,aio,gE,fQ,dO,bk,a6,asn,bF,D,NU,IG,bk,a6,aDy,t,bK,e1];exact a
theorem ayB{d e:Nat}{h:aI}{x:an}{l:List UInt8}(a:pd b d e 1 h x (l.map λc=>[q4 c.toNat]))(k:an->aw):c8 (In h.aj x) k=k (z9 l):=by
 have g:∀l:List UInt8,F9 (l.map λc=>[q4 c.toNat])=some (l.map UInt8.toNat):=by
  intro l;induction l with
  |nil=>rfl
  |cons c r i=>simp only[mG,uh] at*;rw[F9,i,ek,bN,lR,cY,Nat.add_sub_cancel_left]
 have j:rC h.aj 1 x=some (l.map λc=>[q4 c.toNat]):=by
  rcases a with⟨rfl,e⟩|⟨s,rfl,o⟩
  ·rw[e];rfl
  ·simp only[rC,o,wT,gy];rw[ek,pl (by rw[Ct];omega),lR];simp[part]
 have p:(l.map UInt8.toNat).map UInt8.ofNat=l:=by
  rw[kW];conv=>rhs;rw[<-List.map_id l]
  exact rH λc _=>UInt8.ofNat_toNat
 unfold In;rw[j];dsimp only;rw[g];dsimp only;rw[p,ER,tH];rfl
theorem acn{dd:Nat}(x:2078≠dd)(y:dd<4096){L:List Nat}(A:g8 v L)(hd:∀d∈L,d<10)(O:L.length<900)(pre:List UInt8)(Q:pre.length<=1)(B:pre=[]->2079=dd):∀(j N:Nat) (h:aI) (arZ:an),j<=L.length->j<N->b4 h 0->da h->pd 0 dd 5 1 h arZ ((pre++((L.drop j).reverse.map λd=>UInt8.ofNat (48+d))).map λc=>[q4 c.toNat])->
 ∃s d,fM 1 5 6 N (agS u 0 (λg i=>c8 (In i.aj g) λk=>Sj 0 k i)) v arZ (ao ((j:Int)-1)) h= .ok (z9 (pre++(L.reverse.map λd=>UInt8.ofNat (48+d)))) 0 s d:=by
 intro j;induction j with
 |zero=>intro N h arZ C D ub fc a;obtain⟨N,rfl⟩:=cN N;have P:=λk=>ayB a k;rw[dm] at P;have E:∀(l:List UInt8) (ob:ej) (f:jm),aD ob (z9 l) f=f (z9 l) []:=λ_ _ _=>rfl;rw[hI];generalize fM 1 5 6 N (agS u 0 (λg i=>c8 (In i.aj g) λk=>Sj 0 k i))=F;rw[agS,bF,ix,bk,a6,P,Sj,bj,E,av];exact b9
 |succ j G=>
  intro N h arZ C D ub fc a;obtain⟨N,rfl⟩:=cN N;have hi:L[j]? =some (L[j]'(by omega)):=dC _;have o:=A.at hi h.aj;have p:=hd _ (On hi);have q:L.drop j=L[j]'(by omega)::L.drop (j+1):=iK (by omega);generalize L[j]'(by omega)=c at hi o p q;have H:((48:Int)+c).toNat=48+c:=by omega
  obtain⟨r,h',I,J,t,-,P⟩:=MZ (d1:=2078) (d3:=2079) (bytes:=1) (z:=[wD]) (anZ (c:=((48:Int)+c).toNat)) a (by simp;omega) (by decide) x (by decide) y (λe=>B (List.append_eq_nil_iff.1 (Nr.1 e)).1);have K:pd 0 dd 5 1 h' r ((pre++((L.drop j).reverse.map λd=>UInt8.ofNat (48+d))).map λc=>[q4 c.toNat]):=by rw[H,<-GB p] at t;rw[q];simpa using t
  have w:=G N h' r (by omega) (by omega) I J K;have M:((j+1:Nat):Int)-1=(j:Int):=by omega
  rw[M];rw[hI];generalize fM 1 5 6 N (agS u 0 (λg i=>c8 (In i.aj g) λk=>Sj 0 k i))=F at w;rw[agS,bF,ix,bN,bL,ajL,o,rv,bK,ayg,cK,aFB,P,e1];exact w
theorem aFX{neg:Bool}{m:Nat}(h:m≠0):Lib.itoa (a8 neg m)=(if neg then[45] else[])++((cU m).reverse.map λd=>UInt8.ofNat (48+d)):=by
 cases neg
 ·have e:a8 false m=(m:Int):=rfl;rw[e,Oj (by omega),Ca (by omega),show((m:Int)).natAbs=m by omega];rfl
 ·have e:a8 true m= -(m:Int):=rfl;rw[e,Oj (by omega),y1 (by omega),show(-(m:Int)).natAbs=m by omega];rfl
theorem aF4{l:List Nat}(neg:Bool)(hd:∀d∈l,d<10)(D:l.length<900){w:an}(H:aK u 230 [v] w)(o:g8 w (sD l))(r:g8 v l):∃s d,aea u [.a9 neg,v] 0 .nil= .ok (bA (a8 neg (fP l))) 0 s d:=by
 have p:=dw.dU r;have a:=o.len;have g:=Do hd;have E:=VF l;rw[aea,dE];by_cases i:fP l=0
 ·have j:a8 neg 0=0:=by cases neg<;>rfl
  rw[i,QC] at g;rw[g] at a;have t:bA 0= .s 1 0x30:=by unfold bA;rw[Qr];rfl
  rw[i,j,t];have x:∀k,bq false w k=k (ao 0):=a;rw[ajV,bg,p,av,aT,x,bF,dj,bN,bL,Sj,bj,DQ,av];exact b9
 ·have j:=aFX (neg:=neg) i;rw[<-g] at j;have G:(sD l).length≠0:=by rw[g];exact B5 i
  have q:∀d∈sD l,d<10:=by rw[g];exact q3 _
  have es:bA (a8 neg (fP l))=z9 ((if neg then[45] else[])++((sD l).reverse.map λd=>UInt8.ofNat (48+d))):=by rw[<-j];rfl
  rw[es];cases neg
  ·have F:=acn (u:=u) (dd:=2079) (by decide) (by decide) o q (by omega) [] (by simp) (λ_=>rfl) (sD l).length 1000000 (ba 0 .nil) .aE (sm _) (by omega) inferInstance inferInstance (.inl ⟨rfl,by simp⟩);rw[ajV,bg,p,av,aT,a,bF,dj,bk,a6,aBn,a6,alM,a,bK,e1];exact F
  ·obtain⟨y,h',A,B,C,-,P⟩:=MZ (b:=0) (d1:=2062) (d2:=2063) (e:=5) (bytes:=1) (z:=[wD]) (h:=ba 0 .nil) (arZ:= .aE) (anZ (c:=45)) (.inl ⟨rfl,rfl⟩) (by simp);have F:=acn (u:=u) (dd:=2063) (by decide) (by decide) o q (by omega) [45] (by simp) (by simp) (sD l).length 1000000 h' y (sm _) (by omega) A B (by simpa using C);rw[ajV,bg,p,av,aT,a,bF,dj,bk,a6,aBn,bL,ajk,NU,P,alM,a,bK,e1];exact F
end
end
section
variable{l:List Nat} {n x y:Nat} {v w:an}
theorem aaO(h:∀d∈l,d<10)(a:n<=l.length):fP (l.take n)<10^n:=by have:=SB (l:=l.take n) λd hd=>h d (qc hd);rwa [jl,Nat.min_eq_left a] at this
theorem aho{k:Nat}(h:k<(cU n).length):10^k<=n:=by apply Classical.byContradiction;intro a;have:=Bt k n (by omega);omega
theorem atp{P c d:Nat}(g:x<P)(h:y<P):e4 ((x+P*c:Nat):Int) ((y+P*d:Nat):Int)=if c<d then-1 else if d<c then 1 else e4 (x:Int) (y:Int):=by
 unfold e4;by_cases a:c<d
 ·have:=AR P (show c+1<=d by omega);rw[Nat.mul_add] at this;rw[y1 a,y1 (by omega)]
 ·by_cases e:d<c
  ·have:=AR P (show d+1<=c by omega);rw[Nat.mul_add] at this;rw[Ca a,y1 e,Ca (by omega),y1 (by omega)]
  ·have:c=d:=by omega
   subst this;rw[Ca a,Ca e];split<;>split<;>(try split)<;>(try split)<;>omega
section
variable[Tok] {u:Fn} {b:Nat}
theorem aFd{r:List Nat}(q:g8 v l)(t:g8 w r)(K:l.length=r.length)(L:l.length<1000)(C:∀d∈l,d<10)(D:∀d∈r,d<10):∀(j N:Nat) (h:aI),j<=l.length->j<N->da h->
 ∃s d,fM 0 1 5 N (aoy u 0 (λg=>BO 0 aL g)) v w (ao ((j:Int)-1)) h= .ok (ao (e4 (fP (l.take j):Nat) (fP (r.take j):Nat))) 0 s d:=by
 intro j;induction j with
 |zero=>
  intro N h E F fc;obtain⟨N,rfl⟩:=cN N;have e:e4 ((fP (l.take 0):Nat):Int) ((fP (r.take 0):Nat):Int)=0:=by simp[fP,e4]
  rw[e];rw[hI];generalize fM 0 1 5 N (aoy u 0 (λg=>BO 0 aL g))=G;rw[aoy,bF,ix,bk,a6,BO,bj,b7,av];exact b9
 |succ j H=>
  intro N h E F fc;obtain⟨N,rfl⟩:=cN N;have A:=H N h (by omega) (by omega) fc;have hi:l[j]? =some (l[j]'(by omega)):=dC _;have I:r[j]? =some (r[j]'(by omega)):=dC _;have a:=q.at hi h.aj;have i:=t.at I h.aj;have k:=λ(xs:aB) (z:aw)=>q.met (b:=0) (rk:=[]) xs z;have o:=λ(xs:aB) (z:aw)=>t.met (b:=0) (rk:=[]) xs z;have J:((j+1:Nat):Int)-1=(j:Int):=by omega
  rw[J,XE (l:=l) (by omega),XE (l:=r) (by omega),atp (aaO C (by omega)) (aaO D (by omega))];generalize l[j]'(by omega)=c at a;generalize r[j]'(by omega)=d at i;rw[hI];generalize fM 0 1 5 N (aoy u 0 (λg=>BO 0 aL g))=G at A;by_cases p:c<d
  ·rw[y1 p];rw[aoy,bF,ix,bN,bL,azG,bZ,k,aV,aN,a,aJ,aV,aN,rv,bZ,o,aV,aN,i,aJ,aV,aN,rv,bO,bN,bL,BO,bj,pE,b7,av];exact b9
  ·by_cases B:d<c
   ·rw[Ca p,y1 B];rw[aoy,bF,ix,bN,bL,azG,bZ,k,aV,aN,a,aJ,aV,aN,rv,bZ,o,aV,aN,i,aJ,aV,aN,rv,bO,bk,a6,atD,bZ,k,aV,aN,a,aJ,aV,aN,rv,bZ,o,aV,aN,i,aJ,aV,aN,rv,hH,bN,bL,BO,bj,bK,b7,av];exact b9
   ·rw[Ca p,Ca B];rw[aoy,bF,ix,bN,bL,azG,bZ,k,aV,aN,a,aJ,aV,aN,rv,bZ,o,aV,aN,i,aJ,aV,aN,rv,bO,bk,a6,atD,bZ,k,aV,aN,a,aJ,aV,aN,rv,bZ,o,aV,aN,i,aJ,aV,aN,rv,hH,bk,a6,bK,e1];exact A
theorem aDU(g:g8 v (cU x))(i:g8 w (cU y))(j:(cU x).length<1000)(p:(cU y).length<1000):∃s d,R8 u [v,w] 0 .nil= .ok (ao (e4 (x:Int) (y:Int))) 0 s d:=by
 have a:=g.len;have c:=i.len;rw[R8,dE];by_cases h:(cU x).length=(cU y).length
 ·have F:=aFd (u:=u) g i h j (q3 x) (q3 y) (cU x).length 1000000 (ba 0 .nil) (sm _) (by omega) inferInstance;rw[nG,h,nG,ud,ud,<-h] at F;rw[av7,a,c,dF,bk,a6,ajc,a,bK,e1];exact F
 ·by_cases k:(cU x).length<(cU y).length
  ·have o:x<y:=iC (Dj (sm _)) (aho k);have e:e4 (x:Int) (y:Int)= -1:=Nc (by omega);rw[e];rw[av7,a,c,dF,bN,bL,azU,a,c,bO,bN,bL,BO,bj,pE,b7,av];exact b9
  ·have o:y<x:=iC (Dj (sm _)) (aho (show(cU y).length<(cU x).length by omega));have e:e4 (x:Int) (y:Int)=1:=by unfold e4;rw[if_neg (by omega),if_pos (by omega)]
   rw[e];rw[av7,a,c,dF,bN,bL,azU,a,c,bO,bk,a6,BO,bj,bK,b7,av];exact b9
end
end
section
variable{a x y:Nat} {v w:an} {l r:List Nat}
theorem O0(l:List Nat)(i:Nat):∃d,fP (l.drop i)=d+10*fP (l.drop (i+1))/\((i<l.length/\l[i]? =some d)\/(l.length<=i/\d=0)):=by
 by_cases h:i<l.length
 ·exact⟨l[i],ZP h,.inl ⟨h,dC h⟩⟩
 ·exact⟨0,by rw[lO,lO];rfl,.inr ⟨by omega,rfl⟩⟩
theorem adt(l:List Nat)(d:Nat):fP (l++[d])=fP l+10^l.length*d:=by rw[Wn];simp[fP]
section
variable[Tok] {u:Fn} {b:Nat}
theorem KR(k:an->aw):c8 (fA .rem (ao a) (ao 10)) k=k (ao (a%10:Nat)):=by rw[asb (by omega)];rfl
theorem Kz(c:a<1000000:=by omega)(k:an->aw):c8 (fA .quo (ao a) (ao 10)) k=k (ao (a/10:Nat)):=by rw[aum (by omega) (by omega)];rfl
theorem xR{c:Nat}(d:a+c<1000000:=by omega)(k:an->aw):bR (ao a) (ao c) k=k (ao (a+c:Nat)):=by rw[cK (by omega) (by omega)];rfl
theorem aic{L:List Nat}{d:Nat}:(L++[d]).map qV=L.map qV++[[ao d]]:=by rw[LZ];rfl
theorem aEX(D:g8 v l)(E:g8 w r)(hl:l.length<=800)(hr:r.length<=800)(O:∀d∈l,d<10)(Q:∀d∈r,d<10)(S:Nat):∀(m i N:Nat) (h:aI) (arZ:an) (L:List Nat) (c:Nat),m+i=802->m<N->b4 h 0->da h->pd 0 2098 3 1 h arZ (L.map qV)->L.length=i->(∀d∈L,d<10)->c<=1->(800<i->c=0)->fP L+10^i*(c+fP (l.drop i)+fP (r.drop i))=S->
 ∃x n s d,g8 x n/\(∀d∈n,d<10)/\n.length<=802/\fP n=S/\fs 0 1 5 6 7 N (awE u 0 (λe f=>akN 0 e f)) v w arZ (ao c) (ao i) h= .ok x 0 s d:=by
 intro m;induction m with
 |zero=>intro i N h arZ L c R T ub fc F G hd W hi o;obtain⟨N,rfl⟩:=cN N;obtain⟨x,t,A⟩:=F.dU;have g:=D.len;have j:=E.len;obtain⟨s,d,e⟩:=b9 (r:=x) (h:=h);have c0:=hi (by omega);rw[lO,lO,c0] at o;rw[gI];generalize fs 0 1 5 6 7 N (awE u 0 (λe f=>akN 0 e f))=X;refine⟨x,L,s,d,t,hd,by omega,by simpa[fP] using o,?_⟩;rw[awE,g,bO,bk,fZ,j,bO,awI,gE,dO,bk,fZ,bF,hH,aij,gE,dO,bk,a6,akN,bj,A,av];exact e
 |succ m Z=>
  intro i N h arZ L c R T ub fc F G hd W hi o;obtain⟨N,rfl⟩:=cN N;have g:=D.len;have j:=E.len;obtain⟨p,ar,B⟩:=O0 l i;obtain⟨q,a1,C⟩:=O0 r i;have cp:p<10:=B.elim (λh=>O _ (On h.2)) (λh=>by omega);have Yr:q<10:=C.elim (λh=>Q _ (On h.2)) (λh=>by omega);obtain⟨a2,h',a3,a4,K,-,P⟩:=MZ (d1:=2097) (bytes:=8) (z:=[aL]) (Jy (c:=((c+p+q) %10:Nat))) F (by simp;omega);rw[<-aic] at K;have a5:fP (L++[(c+p+q) %10])+10^(i+1)*((c+p+q)/10+fP (l.drop (i+1))+fP (r.drop (i+1)))=S:=by rw[adt,G,nV,Nat.mul_assoc,gm,<-Nat.mul_add,<-o,ar,a1];congr 2;omega
  have H:=Z (i+1) N h' a2 (L++[(c+p+q) %10]) ((c+p+q)/10) (by omega) (by omega) a3 a4 K (by simp[G]) (λd h=>(Ic.1 h).elim (hd d) λh=>by simp at h;omega) (by omega) (λh=>by rcases B with⟨_,_⟩|⟨_,_⟩<;>rcases C with⟨_,_⟩|⟨_,_⟩<;>omega) a5;have bd:((i+1:Nat):Int)=(i:Int)+1:=by omega
  rw[bd] at H;rw[gI];generalize fs 0 1 5 6 7 N (awE u 0 (λe f=>akN 0 e f))=X at H;by_cases bs:l.length<=i/\r.length<=i/\c=0
  ·obtain⟨cs,c1,bx⟩:=bs;obtain⟨x,t,A⟩:=F.dU;obtain⟨s,d,e⟩:=b9 (r:=x) (h:=h);rw[lO,lO,bx] at o;refine⟨x,L,s,d,t,hd,by omega,by simpa[fP] using o,?_⟩;rw[awE,g,bO,bk,fZ,j,bO,awI,gE,dO,bk,fZ,bF,hH,aij,gE,dO,bk,a6,akN,bj,A,av];exact e
  ·obtain⟨x,n,s,d,t,A,cl,cn,k⟩:=H;refine⟨x,n,s,d,t,A,cl,cn,?_⟩;rcases B with⟨B,cc⟩|⟨B,rfl⟩<;>rcases C with⟨C,M⟩|⟨C,rfl⟩
   ·have I:=D.at cc h.aj;have J:=E.at M h.aj;rw[awE,g,bO,bN,lL,awI,gE,dR,lL,aij,gE,dR,bL,ant,g,bO,bN,bL,al8,I,rv,xR,awn,j,bO,bN,bL,ajN,J,rv,xR,aCZ,CT,KR,P,Kz,bK,cK];exact k
   ·have I:=D.at cc h.aj;rw[gU] at P k;rw[awE,g,bO,bN,lL,awI,gE,dR,lL,aij,gE,dR,bL,ant,g,bO,bN,bL,al8,I,rv,xR,awn,j,bO,bk,a6,aCZ,CT,KR,P,Kz,bK,cK];exact k
   ·have J:=E.at M h.aj;rw[gU] at P k;rw[awE,g,bO,bk,fZ,j,bO,awI,gE,dO,bN,lL,aij,gE,dR,bL,ant,g,bO,bk,a6,awn,j,bO,bN,bL,ajN,J,rv,xR,aCZ,CT,KR,P,Kz,bK,cK];exact k
   ·simp only[gU] at P k;rw[awE,g,bO,bk,fZ,j,bO,awI,gE,dO,bk,fZ,bF,hH,aij,gE,dO,bN,bL,ant,g,bO,bk,a6,awn,j,bO,bk,a6,aCZ,CT,KR,P,Kz,bK,cK];exact k
theorem aEK(g:g8 v l)(h:g8 w r)(i:l.length<=800)(j:r.length<=800)(k:∀d∈l,d<10)(n:∀d∈r,d<10):∃x L,g8 x L/\(∀d∈L,d<10)/\L.length<=802/\fP L=fP l+fP r/\∃s d,abt u [v,w] 0 .nil= .ok x 0 s d:=by obtain⟨x,L,s,d,o,p,q,t,c⟩:=aEX (u:=u) g h i j k n (fP l+fP r) 802 0 1000000 (ba 0 .nil) .aE [] 0 (by omega) (by omega) inferInstance inferInstance (.inl ⟨rfl,rfl⟩) rfl (by simp) (by omega) (by omega) (by simp[fP]);refine⟨x,L,o,p,q,t,s,d,?_⟩;have e:(ao ((0:Nat):Int):an)=aL:=bF.symm;rw[e] at c;rw[abt,dE];rw[ajK];exact c
def G4(u:Fn):Prop:=∀v l,g8 v l->l.length<=900->∃w,g8 w (sD l)/\aK u 230 [v] w
theorem aDv(T:G4 u)(X:y<=x)(G:g8 v (cU x))(H:g8 w (cU y))(hl:(cU x).length<=800):∀(m i N:Nat) (h:aI) (arZ:an) (L:List Nat) (g:Nat),m+i=(cU x).length->m<N->b4 h 0->da h->pd 0 2086 3 1 h arZ (L.map qV)->L.length=i->(∀d∈L,d<10)->g<=1->fP L+10^i*fP ((cU x).drop i)=(x-y)+10^i*(g+fP ((cU y).drop i))->
 ∃z s d,g8 z (cU (x-y))/\fs 0 1 5 6 7 N (ahb u 0 (λe f=>bg u 0 230 e f λk l=>arc 0 k l)) v w arZ (ao g) (ao i) h= .ok z 0 s d:=by
 have c4:(cU y).length<=(cU x).length:=Bt _ _ (o4 X (Dj (sm _)));intro m;induction m with
 |zero=>
  intro i N h arZ L g Z ar ub fc I C hd hb A;obtain⟨N,rfl⟩:=cN N;obtain⟨z,J,o⟩:=I.dU;have B:=G.len;rw[lO,lO] at A;have a1:=SB hd;rw[C] at a1;have a2:g=0:=by
   have:g=0\/g=1:=by omega
   rcases this with h|h
   ·exact h
   ·rw[h] at A;simp[fP] at A;omega
  have a3:fP L=x-y:=by rw[a2] at A;simpa[fP] using A
  obtain⟨q,K,c5⟩:=T z L J (by omega);rw[Do hd,a3] at K;have a4:=dw.dU K;obtain⟨s,d,e⟩:=b9 (r:=q) (h:=h);rw[gI];generalize fs 0 1 5 6 7 N (ahb u 0 (λe f=>bg u 0 230 e f λk l=>arc 0 k l))=j5;refine⟨q,s,d,K,?_⟩;rw[ahb,B,bO,bk,a6,bg,o,av,aT,arc,bj,a4,av];exact e
 |succ m a5=>
  intro i N h arZ L g Z ar ub fc I C hd hb A;obtain⟨N,rfl⟩:=cN N;have B:=G.len;have D:=H.len;obtain⟨j,bd,R⟩:=O0 (cU x) i;obtain⟨n,bs,E⟩:=O0 (cU y) i;obtain⟨R,cc⟩:i<(cU x).length/\(cU x)[i]? =some j:=R.elim id (λh=>by omega);have dd:j<10:=q3 _ _ (On cc);have Yr:n<10:=E.elim (λh=>q3 _ _ (On h.2)) (λh=>by omega);obtain⟨t,p,ht,dq,bx,cl⟩:∃t p:Nat,j+10*p=t+g+n/\t<10/\p<=1/\((p=0/\0<=(j:Int)-g-n/\(t:Int)=j-g-n)\/(p=1/\(j:Int)-g-n<0/\(t:Int)=j-g-n+10)):=by
   by_cases h:(j:Int)-g-n<0
   ·exact⟨((j:Int)-g-n+10).toNat,1,by omega,by omega,by omega,.inr ⟨rfl,h,by omega⟩⟩
   ·exact⟨((j:Int)-g-n).toNat,0,by omega,by omega,by omega,.inl ⟨rfl,by omega,by omega⟩⟩
  obtain⟨cn,h',cp,cs,S,-,P⟩:=MZ (d1:=2085) (bytes:=8) (z:=[aL]) (Jy (c:=t)) I (by simp;omega);rw[<-aic] at S;have c0:fP (L++[t])+10^(i+1)*fP ((cU x).drop (i+1))=(x-y)+10^(i+1)*(p+fP ((cU y).drop (i+1))):=by
   rw[bd,bs] at A;have h3:10^i*(j+10*p)=10^i*(t+g+n):=by rw[ht]
   rw[adt,C,nV,Nat.mul_assoc,Nat.mul_assoc];generalize 10^i=Q at*;simp only[Nat.mul_add] at*;omega
  have c1:=a5 (i+1) N h' cn (L++[t]) p (by omega) (by omega) cp cs S (by simp[C]) (λd h=>(Ic.1 h).elim (hd d) λh=>by simp at h;omega) bx c0;obtain⟨z,s,d,J,o⟩:=c1;have c2:((i+1:Nat):Int)=(i:Int)+1:=by omega
  rw[c2] at o;rw[gI];generalize fs 0 1 5 6 7 N (ahb u 0 (λe f=>bg u 0 230 e f λk l=>arc 0 k l))=j5 at o;refine⟨z,s,d,J,?_⟩;have F:=G.at cc h.aj;rcases cl with⟨rfl,c3,M⟩|⟨rfl,c3,M⟩<;>rcases E with⟨E,W⟩|⟨E,rfl⟩
  ·have O:=H.at W h.aj;rw[M] at P;rw[ahb,B,bO,bN,bL,alG,F,rv,e1,D,bO,bN,bL,aqy,O,rv,e1,aA1,bF,bO,bk,a6,afR,P,bK,cK];exact o
  ·rw[show(t:Int)=j-g by omega] at P;rw[ahb,B,bO,bN,bL,alG,F,rv,e1,D,bO,bk,a6,aA1,bF,bO,bk,a6,afR,P,bK,cK];exact o
  ·have O:=H.at W h.aj;rw[M] at P;rw[ahb,B,bO,bN,bL,alG,F,rv,e1,D,bO,bN,bL,aqy,O,rv,e1,aA1,bF,bO,bN,bL,CT,cK,afR,P,bK,cK];exact o
  ·rw[show(t:Int)=j-g+10 by omega] at P;rw[ahb,B,bO,bN,bL,alG,F,rv,e1,D,bO,bk,a6,aA1,bF,bO,bN,bL,CT,cK,afR,P,bK,cK];exact o
theorem aFF(T:G4 u)(g:y<=x)(h:g8 v (cU x))(i:g8 w (cU y))(j:(cU x).length<=800):∃z,g8 z (cU (x-y))/\∃s d,VJ u [v,w] 0 .nil= .ok z 0 s d:=by obtain⟨z,s,d,k,c⟩:=aDv T g h i j (cU x).length 0 1000000 (ba 0 .nil) .aE [] 0 rfl (by omega) inferInstance inferInstance (.inl ⟨rfl,rfl⟩) rfl (by simp) (by omega) (by simp only[dm,ud,fP];omega);refine⟨z,k,s,d,?_⟩;have e:(ao ((0:Nat):Int):an)=aL:=bF.symm;rw[e] at c;rw[VJ,dE];rw[asm];exact c
end
end
end Go.Hf

import Derived.Test.YteehpeajjbkjnaaGreatDoorAo
import Derived.Test.YteehpeajjbkjnaaGreatDoorAn
import Derived.Test.YteehpeajjbkjnaaGreatDoorAm
set_option maxRecDepth 100000
set_option linter.all false
namespace Go.Hf
open Go.RowKit
section
variable{o:az}
section
variable[Tok] {u:Fn}{b:Nat}{N:Nat}{w:ao}
theorem mz.g(h:mz o):yT o:=by
 rcases h with h|⟨x,c,rfl⟩;exact .inl h;refine .inr ⟨uN x,(arY c).1,?_⟩;have hd:(yi.all λx=>Nat.ble (uN x).num.natAbs 1000&&Nat.ble (uN x).den 1000)=true:=by decide+kernel
 have a:=gp hd c;rw[cC]at a;have d:=dX a.1;have e:=dX a.2;have g:=vI 4 (uN x).num.natAbs (by omega);have i:=vI 4 (uN x).den (by omega);exact⟨by unfold b5;omega,by unfold b5;simp only[Int.natAbs_natCast];omega⟩
theorem kh.g{n c:Nat}(h:kh n c o)(a:∀o∈nf,yT o):ki n c o:=by
 induction h with
 |leaf h=>exact .leaf (a _ h)
 |cons _ _ d e=>exact .cons d e
theorem aqQ:∀o∈nf,yT o:=λo h=>by
 rcases fq.1 h with h|h;exact .inl h;obtain⟨x,a,rfl⟩:=ia.1 h;by_cases c:x∈yi;exact mz.g (.inr ⟨x,c,rfl⟩);refine .inr ⟨(x.1:Rat),?_,?_⟩;have:x=(-4,1)\/x=(4,1):=by
  have hd:(Dc.all λx=>decide (x∈yi)||(decide (x=(-4,1))||decide (x=(4,1))))=true:=by decide+kernel
  have:=gp hd a;simp only[oA,nB]at this;exact this.resolve_left c
 rcases this with rfl|rfl<;>rfl;have hd:(Dc.all λx=>Nat.ble x.1.natAbs 1000)=true:=by decide+kernel
 have d:=dX (gp hd a);have e:=vI 4 x.1.natAbs (by omega);exact⟨by unfold b5;show(bF x.1.natAbs).length<=100;omega,by show b5 ((1:Nat):Int)<=100;decide⟩
def IJ(o:az):Prop:=∃c,c<=100/\ki 6 c o
theorem m2.mi(h:m2 o):IJ o:=by
 have e:∃n c,n<=3/\kh n c o:=by
  cases h with
  |nS o h=>exact⟨0,1,by omega,.leaf (qt _ h)⟩
  |Db x h=>exact⟨0,1,by omega,.leaf (G7 h)⟩
  |vF n c c' a d g i hd=>exact⟨n+1,_,by omega,.cons i hd⟩
 obtain⟨n,c,g,h⟩:=e;have j:=h.Co;have:2^(n+1)<=2^4:=Nat.pow_le_pow_right (by decide) (by omega);exact⟨c,by omega,(h.g aqQ).le (by omega)⟩
theorem IJ.pp(h:IJ o):dL o:=by obtain⟨c,a,h⟩:=h;exact uo h (by omega)
theorem abW:∀{l:bg},(∀a∈l,IJ a)->∃n c,c<=1+101*l.length/\ki n c (lk l)
 |[],_=>⟨0,1,by simp,.leaf (.inl (by simp[jZ,lk,e5]))⟩
 |a::l,h=>by obtain⟨n,c,i,d⟩:=abW (l:=l) λx e=>h x (ii _ e);obtain⟨c',j,g⟩:=h a fQ;exact⟨n+6+1,1+c'+c,by simp;omega,.cons (g.le (by omega)) (d.le (by omega))⟩
theorem amj:It m2 dL:=⟨λo h=>h.mi.pp.v,λo h=>uo (n:=0) (.leaf h.g) (by omega),λl h g=>by
 obtain⟨n,c,i,j⟩:=abW λa e=>(g a e).mi;exact uo j (by omega),λa d e hd=>by
 obtain⟨c,i,k⟩:=e.mi;obtain⟨c',r,p⟩:=hd.mi;exact uo (.cons k p) (by omega)⟩
theorem am2:bV λu=>∀BX N,oB BX N->gG u 24 [aA 2] BX N (wC dL):=((KN.and uk).and QT).up λn h BX N a=>qN sS λc _ _ _ _ _ d e g i=>YH (dz:=1) h.1.1 amj (by omega) (h.1.2 BX N a) (h.2 BX N a) c d e g i
def Np(r:ao):Prop:=∃e,oC e/\cE 9 r (e.map gi)
def G3:bg:=[[.s 1 0x78],[.s 1 0x79],[.s 1 0x7a],[.s 1 0x6e]]
section
variable{BX:ao}{aC:cD}{q s:Nat}
theorem aqt(A:∀a c,bf u 15 [.s a c] (.agg [kD,.s a c]))(B:gG u 24 [aA 2] BX N (wC dL)){sn:Nat}:∀(m i M:Nat) (h:aO) (ca:ao) (e:List (dc×az)),m+i=4->m<M->eI b aC q s BX N h->h.am (b+2054)= .aV sn 9 1 G3 false->gm b 2067 91 9 h ca (e.map gi)->e.length=i->(∀p∈e,dL p.2)->
 gY (fm 0 3 6 7 8 M (B8 u b (λq r=>mm b q r)) (.aQ q s 0) ca (.aV (b+2054) sn 0 4) (aA 4) (aA i) h) b aC q s BX N Np:=by
 intro m;induction m with
 |zero=>
  intro i M h ca e C D d g O t j;obtain⟨M,rfl⟩:=eC M
  haveI:=d.aK
  obtain⟨v,E,F⟩:=O.fh;rw[iz];generalize fm 0 3 6 7 8 M (B8 u b (λq r=>mm b q r))=G;rw[B8,cz,bA,bc,mm,bJ,F,aq];exact mo d ⟨e,⟨by omega,j⟩,E⟩
 |succ m H=>
  intro i M h ca e C D d g O t j;obtain⟨M,rfl⟩:=eC M
  haveI:=d.aK
  obtain⟨a,c,hi⟩:∃a c,G3[i]? =some [.s a c]:=by
   have:i=0\/i=1\/i=2\/i=3:=by omega
   rcases this with rfl|rfl|rfl|rfl<;>exact⟨_,_,rfl⟩
  have I:=A a c;have l:=H (i+1) M;have J:((i+1:Nat):Int)=(i:Int)+1:=by omega
  rw[J]at l;have f0:([.s a c]:az)[0]? =some (.s a c):=rfl;have K:=λ(k:ao->ay)=>GR (sz:=1) (len:=4) (i:=i) g (by omega) k;rw[iz];generalize fm 0 3 6 7 8 M (B8 u b (λq r=>mm b q r))=G at l;have us:([kD,.s a c]:az)=cw (4,0x75736572,a,c):=rfl;rw[us]at I;have X:(cw (4,0x75736572,a,c)).length=2:=rfl;rw[B8,cz,bM,bw,XR,K,XQ,aby,aL,bE,qV,aq,a0];rw[e4];refine kH d B λr h' L x z=>?_;obtain⟨o,rfl,n⟩:=L
  haveI:=x.aK
  obtain⟨P,Y⟩:=n.v;obtain⟨Z,b2,-,-,-⟩:=Qf (p:=((4,0x75736572,a,c),o)) n;have Q:∀f:az->ay,eu 0 2 (.agg (cw (4,0x75736572,a,c))) [.s 0 0,.s 0 0,bt,.s 0 0,.s 0 0,.s 0 0,.s 0 0,.s 0 0,.ba] f=f (cw (4,0x75736572,a,c)++[bt,.s 0 0,.s 0 0,.s 0 0,.s 0 0,.s 0 0,.ba]):=λf=>rfl;have R:∀f:az->ay,eu 2 7 (.agg o) (cw (4,0x75736572,a,c)++[bt,.s 0 0,.s 0 0,.s 0 0,.s 0 0,.s 0 0,.ba]) f=f (gi ((4,0x75736572,a,c),o)):=λf=>by rw[RH P (by simp[cw])];congr 1;simp[cw,gi]
  have S:=(O.am (z 2067)).am (h':=h'.fc b 2066 91 9 [gi ((4,0x75736572,a,c),o)] false) (fJ rfl);obtain⟨s',T⟩:=S.g3 (bytes:=144) (y:= .aV (b+2066) (ie h' b 2066) 0 1) (r:=gi ((4,0x75736572,a,c),o)) (λf=>pt hX (by rfl) f) (by rw[mw];omega) (by omega);have V:=λ(h:aO) (ca:ao) (d:eI b aC q s BX N h) (g:h.am (b+2054)= .aV sn 9 1 G3 false) (O:gm b 2067 91 9 h ca (e.map gi++[gi ((4,0x75736572,a,c),o)]))=>l h ca (e++[((4,0x75736572,a,c),o)]) (by omega) (by omega) d g (by rw[oz];exact O) (by simp[t]) λp W=>(fq.1 W).elim (j p) λh=>by simp at h;rw[h];exact n
  generalize hy:cw (4,0x75736572,a,c)=y at*;rw[Q,R,iZ,jB,aq,iR,T,b8,fV];exact V _ _ (x.fc.je) (ic (fJ ((z 2054).trans g))) gm.new
theorem akx(g:∀a c,bf u 15 [.s a c] (.agg [kD,.s a c]))(h:gG u 24 [aA 2] BX N (wC dL))(j:ly BX){z:Nat}(k:q<b)(l:q%4096<2048)(n:z<=N)(p:b9 b aC q= .box s [BX,aA z]):gY (FH u [.aQ q s 0] b aC) b aC q s BX N Np:=by
 have e:=eI.start k l n p j
 haveI:=e.aK
 have d:∀(ob:dE) (i a c:Nat) (es:bg) (hi:i<es.length) (f:bg->fk->ay),eo ob 1 i (.s a c) es f=f (es.set i [.s a c]) []:=λob i a c es hi f=>RF (λ_=>rfl) (λ_=>rfl) rfl hi f;have r:((((eF 4 [.s 0 0]).set 0 [.s 1 0x78]).set 1 [.s 1 0x79]).set 2 [.s 1 0x7a]).set 3 [.s 1 0x6e]=G3:=rfl;have F:=aqt (u:=u) g h (sn:=ie (bN b aC) b 2054) 4 0 1000000 ((bN b aC).fc b 2054 9 1 G3 false) .ba [] rfl (by omega) e.fc hX (.inl ⟨rfl,rfl⟩) rfl (by simp);have e0:(aA ((0:Nat):Int):ao)=bt:=b7.symm;rw[e0]at F;rw[FH,jp];rw[XS,d _ _ _ _ _ (by decide),d _ _ _ _ _ (by decide),d _ _ _ _ _ (by decide),d _ _ _ _ _ (by decide),r,aq,aq,aq,aq,iR,z0];exact F
end
theorem amN:bV λu=>∀BX N,oB BX N->gG u 7 [] BX N Np:=(am2.and (bV.run (C:=λu=>∀a c,bf u 15 [.s a c] (.agg [kD,.s a c])) λn a c=>lN (RC n a c))).up λn h BX N d=>qN FH λe _ _ _ _ _ g i j k=>akx h.2 (h.1 BX N d) e g i j k
end
end
section
variable{h:aO}{d s6 s8 z:Nat}{Z:az}{hd:Nat×Nat×Nat×Nat×Nat}
section
variable[Tok] {u:Fn}{b:Nat}
def oS:List (Nat×Nat×Nat×Nat×Nat):=kn++lQ++lP
theorem Rq{h:Nat×Nat×Nat×Nat×Nat}(a:h∈kn++lQ++lP):h∈oS:=a
inductive cq:Nat->az->Prop
 |var (n i:Nat) (hi:i<3):cq n (gS i)
 |gT (n:Nat) (o:az) (h:m2 o):cq n (fg o)
 |g3 (n:Nat) (h:Nat×Nat×Nat×Nat×Nat) (hh:h∈oS) (l:bg) (hl:l.length=h.2.2.2.2) (ht:∀t∈l,cq n t):cq (n+1) (eG h l)
theorem cq.le{n m:Nat}{t:az}(h:cq n t)(g:n<=m):cq m t:=by
 induction h generalizing m with
 |var n i hi=>exact .var m i hi
 |gT n o h=>exact .gT m o h
 |g3 n h a l c j e=>obtain⟨m,rfl⟩:∃k,m=k+1:=⟨m-1,by omega⟩;exact .g3 m h a l c λt h=>e t h (by omega)
theorem cq.p{n:Nat}{t:az}(h:cq n t):fR t:=by
 cases h with
 |var i hi=>exact(rM.var _ ‹_›).p
 |gT o h=>exact(rM.gT _ ‹_›).p
 |g3 h a l c e=>exact aep _ _
theorem Rr:(oS.all λh=>Nat.ble 1 h.2.2.2.2&&Nat.ble h.2.2.2.2 3)=true:=by decide+kernel
theorem aaX:((kn++lQ++lP).all λh=>Nat.ble 1 h.2.2.2.2&&Nat.ble h.2.2.2.2 3)=true:=by decide+kernel
def nG(n:Nat)(r:ao):Prop:=∃t,r= .agg t/\cq n t
section
variable{w:ao}{BX:ao}{N:Nat}{aC:cD}{q s:Nat}
theorem aqK(O:A7 u w)(V:d<=9)(F:gG u 10 [w,aA ((d:Nat):Int)] BX N (nG d))(W:Z.length=11)(o:hd∈kn++lQ++lP):∀(m i M:Nat) (h:aO) (x:ao) (es:bg),m+i=hd.2.2.2.2->m<M->eI b aC q s BX N h->h.am (b+6)= .box s6 Z->h.am (b+8)= .box s8 [.s hd.1 hd.2.1,.s hd.2.2.1 hd.2.2.2.1]->gm b 2123 44 11 h x es->es.length=i->(∀t∈es,cq d t)->
 gY (uG 0 1 2 6 8 11 13 14 M (Bl u b (Er u b)) (.aQ q s 0) w (aA ((d+1:Nat):Int)) (.aQ (b+6) s6 0) (.aQ (b+8) s8 0) (aA hd.2.2.2.2) x (aA i) h) b aC q s BX N (nG (d+1)):=by
 have j:=gp aaX o;rw[cC]at j;have X:=dX j.1;have Y:=dX j.2;obtain⟨nw,al,p⟩:=O.bv;intro m;induction m with
 |zero=>
  intro i M h x es G H c A B k e l;obtain⟨M,rfl⟩:=eC M
  haveI:=c.aK
  obtain⟨v,I,J⟩:=k.fh;obtain rfl:v= .aN 11 es:=I.elim (λh=>by rw[h.2]at e;simp at e;omega) id;have a1:=O.zO hd.1 hd.2.1 hd.2.2.1 hd.2.2.2.1 es;obtain⟨t1,t2⟩:=aep hd es;rw[eG]at t1 t2;rw[Lw];generalize uG 0 1 2 6 8 11 13 14 M (Bl u b (Er u b))=K;rw[Bl,cz,bA,bc,Er,av,aU,b4,a6,J,aq,aq,a0,cM,Dm,eU,aU,bJ,a6];rw[aq];exact mo c.dp ⟨_,rfl,.g3 d hd (Rq o) es (by omega) l⟩
 |succ m L=>
  intro i M h x es G H c A B k e l;obtain⟨M,rfl⟩:=eC M
  haveI:=c.aK
  have P:((i+1:Nat):Int)=(i:Int)+1:=by omega
  have g:=λh' x' ea=>L (i+1) M h' x' ea (by omega) (by omega);have C:=F;rw[p]at g C;rw[P]at g;rw[Lw,p];generalize uG 0 1 2 6 8 11 13 14 M (Bl u b (Er u b))=K at g;rw[Bl,cz,bM,bw,UH,b8,g5,i2,ei,show((d+1:Nat):Int)-1=((d:Nat):Int) by omega];refine kH c C λr h' Q D n=>?_;obtain⟨t,rfl,E⟩:=Q
  haveI:=D.aK
  obtain⟨a2,a3⟩:=E.p;have R:=(k.am (n 2123)).am (h':=h'.fc b 2122 44 11 [t] false) (fJ rfl);obtain⟨s',S⟩:=R.g3 (bytes:=176) (y:= .aV (b+2122) (ie h' b 2122) 0 1) (r:=t) (λf=>pt hX (by rfl) f) (by omega) (by omega);rw[jB,aq,iR,S,fV];exact g _ _ _ (D.fc.je) (ic (fJ ((n 6).trans A))) (ic (fJ ((n 8).trans B))) gm.new (by simp[e]) λa T=>(fq.1 T).elim (l a) λh=>by simp at h;rw[h];exact E
theorem abH(O:A7 u w)(g:d<=9)(i:gG u 10 [w,aA ((d:Nat):Int)] BX N (nG d))(j:eI b aC q s BX N h)(k:Z.length=11)(a:hd∈kn++lQ++lP)(l:h.am (b+6)= .box s6 Z)(n:h.am (b+8)= .box s8 [.s hd.1 hd.2.1,.s hd.2.2.1 hd.2.2.2.1]):
 gY (I2 u b (.aQ q s 0) w (aA ((d+1:Nat):Int)) (.aQ (b+6) s6 0) (.aQ (b+8) s8 0) h) b aC q s BX N (nG (d+1)):=by
 obtain⟨r,x,c⟩:=O.bv;have o:=O.GB hd a;have F:=aqK O g i k a hd.2.2.2.2 0 1000000 h .ba [] (by omega) (by have e:=gp aaX a;rw[cC]at e;have:=dX e.2;omega) j l n (.inl ⟨rfl,rfl⟩) rfl (λt p=>by simp at p);rw[c]at o F;rw[c];have y:aA hd.2.2.2.2≠ .undef:=by rw[db];simp
 have A:ao.U true≠ .undef:=by simp
 rw[I2,av,aU,b4,i2,a6,aq,aq,a0,ez _ _,eA _ _];rw[b7,show(0:Int)=((0:Nat):Int) from rfl];exact F
theorem RN(O:A7 u w)(A:gG u 22 [] BX N wL)(B:gG u 24 [aA 1] BX N Ef){R:ao->Prop}(a:eI b aC q s BX N h)(l:h.am (b+6)= .box s6 Z)(x:Z.length=11)(y:∀t,cq 0 t->R (.agg t))(C:ao){k:Nat}(G:k<4):gY (Bk u b (.aQ q s 0) w C (.aQ (b+6) s6 0) (aA k) h) b aC q s BX N R:=by
 haveI:=a.aK
 by_cases H:k<3;rw[Bk,fu,cz,bM,bw];refine kH a A λr h' e g j=>?_;obtain⟨i,hi,rfl⟩:=e;exact adH g ((j 6).trans l) x (rM.var i hi).p (y _ (.var 0 i hi));rw[Bk,fu,cz,bA,bc,NR,fu,cd,bM,bw,UL];rw[b8];refine kH a B λr h' e g j=>?_;obtain⟨o,rfl,ho⟩:=e;obtain⟨n,c,_,D⟩:=ho.am;obtain⟨E,F⟩:=D.p;have I:=O.xO o E F;rw[bE,a6,aq,a0];exact adH g ((j 6).trans l) x (rM.gT o ho).p (y _ (.gT 0 o ho))
theorem alx(O:A7 u w)(l:∀n:Int,1<=n/\n<=100->gG u 21 [aA n] BX N (rE n))(c:gG u 22 [] BX N wL)(e:gG u 24 [aA 1] BX N Ef)(o:ly BX)(p:q<b)(x:q%4096<2048)(y:z<=N)(A:b9 b aC q= .box s [BX,aA z]):gY (pl u [.aQ q s 0,w,aA 0] b aC) b aC q s BX N (nG 0):=by
 have g:=eI.start p x y A o
 haveI:=g.aK
 rw[pl,iY,NQ,cF];rw[acm];refine kH g.cB (l 12 (by omega)) λr h' B i C=>?_;obtain⟨k,k0,E,rfl⟩:=B;have j:=(C 6).trans ec;obtain⟨k,rfl⟩:∃n:Nat,k=n:=⟨k.toNat,by omega⟩;by_cases D:(3:Int)<(k:Int);rw[b8,fu,cz,bM,dR,i1,Es,dJ D,cA,bw,nU,abz];rw[show((k:Int) %4)=((k%4:Nat):Int) by omega];exact RN O c e i j rfl (R:=nG 0) (λt a=>⟨t,rfl,a⟩) (aA 0) (by omega);rw[b8,fu,cz,bM,dR,i1,Es,cA,bA,bc];exact RN O c e i j rfl (R:=nG 0) (λt a=>⟨t,rfl,a⟩) (aA 0) (by omega)
theorem alw(O:A7 u w)(E:d<=9)(x:∀n:Int,1<=n/\n<=100->gG u 21 [aA n] BX N (rE n))(L:gG u 22 [] BX N wL)(M:gG u 24 [aA 1] BX N Ef)(F:gG u 10 [w,aA ((d:Nat):Int)] BX N (nG d))(P:ly BX)(Q:q<b)(S:q%4096<2048)(y:z<=N)(T:b9 b aC q= .box s [BX,aA z]):gY (pl u [.aQ q s 0,w,aA ((d+1:Nat):Int)] b aC) b aC q s BX N (nG (d+1)):=by
 have G:=eI.start Q S y T P
 haveI:=G.aK
 rw[pl,iY,NQ,cF];rw[acm];refine kH G.cB (x 12 (by omega)) λr h' l A V=>?_;obtain⟨k,k0,ar,rfl⟩:=l;have H:=(V 6).trans ec;obtain⟨k,rfl⟩:∃n:Nat,k=n:=⟨k.toNat,by omega⟩
 haveI:=A.aK
 rw[b8,fu,cz,bA,gB,Es,ch,cl,bc];by_cases W:k<4;exact RN O L M A H rfl (R:=nG (d+1)) (λt X=>⟨t,rfl,X.le (pg _)⟩) (aA ((d+1:Nat):Int)) W;have a1:=O.aaK;have a2:=O.aaL;rw[Bk,fu,cz,bA,bc,NR,fu,cd,bA,bc,UK,cF,a0,a0];rw[nU];refine kH A.cB (x 4 (by omega)) λr a3 l B I=>?_;obtain⟨c,c0,c4,rfl⟩:=l
 haveI:=B.aK
 have J:=(I 6).trans (fZ H);have K:=(I 8).trans ec;by_cases hc:c<3;rw[fu,cz,bM,bw,UI,gC,ei];refine kH B (x 25 (by omega)) λr y l o p=>?_;obtain⟨j,Y,al,rfl⟩:=l
 haveI:=o.aK
 obtain⟨j,rfl⟩:∃n:Nat,j=n:=⟨j.toNat,by omega⟩;obtain⟨a,c,g,hd,C,e⟩:=acy arQ (i:=j) (show j<25 by omega);have a4:=O.aaM a c;have D:=(p 8).trans K;have dB:([.s a c]:az)[0]? =some (.s a c):=rfl;rw[fH,cI,aL,bE,qV,aq,a0,cM];refine abH O E F o.dp rfl C (fS ((p 6).trans J)) ?_;rw[e];exact gn D;rw[fu,cz,bA,bc,UJ,gC,ei];refine kH B (x 8 (by omega)) λr y l o p=>?_;obtain⟨j,Y,al,rfl⟩:=l
 haveI:=o.aK
 obtain⟨j,rfl⟩:∃n:Nat,j=n:=⟨j.toNat,by omega⟩;obtain⟨a,c,g,hd,C,e⟩:=acy arR (i:=j) (show j<8 by omega);have a5:=O.jA a c;have D:=(p 8).trans K;have dB:([.s a c]:az)[0]? =some (.s a c):=rfl;rw[fH,cI,aL,bE,qV,aq,a0,cM];refine abH O E F o.dp rfl C (fS ((p 6).trans J)) ?_;rw[e];exact gn D
end
theorem Gw{w:ao}(bH:bV λu=>Be u w):∀d:Nat,d<=9->bV λu=>∀BX N,oB BX N->gG u 10 [w,aA ((d:Nat):Int)] BX N (nG d)
 |0,_=>(((ZV bH).and uk).and (Gu.and QT)).up λn h BX N a=>qN pl λc _ _ _ _ _ e g i j=>alx h.1.1 (h.1.2 BX N a) (h.2.1 BX N a) (h.2.2 BX N a) c e g i j
 |d+1,hd=>((((ZV bH).and uk).and (Gu.and QT)).and (Gw bH d (by omega))).up λn h BX N a=>qN pl λc _ _ _ _ _ e g i j=>alw h.1.1.1 (by omega) (h.1.1.2 BX N a) (h.1.2.1 BX N a) (h.1.2.2 BX N a) (h.2 BX N a) c e g i j
end
end
section
variable{p n c:Nat}{a:az}
section
variable[Tok] {u:Fn}{b:Nat}
section
variable{w:ao}{BX:ao}{N:Nat}{aC:cD}{q s:Nat}
theorem t32(k:Nat)(C:k<8)(g d j l h:ao)(e:aO):(cj (aA k) bt λz=>bp z ((bp z (B5 u b g d e) (JW u b (λo y r=>bh r.am true 11 y λt=>bl b none 11 o t r λ_ x=>pF b o x) (aA k) g j l h d e))) (cj (aA k) br λA=>(bp A (B5 u b g d e) (JW u b (λo y r=>bh r.am true 11 y λt=>bl b none 11 o t r λ_ x=>pF b o x) (aA k) g j l h d e))))=
 if k<=1 then B5 u b g d e
 else if k=2 then PC u b g j l h d e
 else if k=3 then PD u b h d e
 else if k=4 then PE u b g j l h d e
 else if k=5 then PF u b h j l d e
 else bh e.am true 11 g λt=>bl b none 11 d t e λ_ x=>pF b d x:=by
 have B:∀k:Nat,aA (k:Int)= .ag .i64 (18446744073709551616+k):=λk=>by rw[db];congr 1;omega
 rw[B];have:k=0\/k=1\/k=2\/k=3\/k=4\/k=5\/k=6\/k=7:=by omega
 rcases this with rfl|rfl|rfl|rfl|rfl|rfl|rfl|rfl<;>rfl
theorem SV{h:aO}{s6:Nat}{d:az}{l:bg}{R:ao->Prop}(e:eI b aC q s BX N h)(i:h.am (b+6)= .box s6 d)(j:d.length=11)(g:R (.agg (dI dH (.s p n) l))):gY (bl b none 11 (.aQ (b+6) s6 0) (.agg (dI dH (.s p n) l)) h λ_ h'=>pF b (.aQ (b+6) s6 0) h') b aC q s BX N R:=by
 haveI:=e.aK
 have k:(dI dH (.s p n) l).length=11:=rfl;have o:cg (dI dH (.s p n) l)=true:=rfl;rw[cM,pF,eU,aU,bJ,a6];rw[aq];exact mo e.dp g
theorem cq.one(e:(4,0x6c697370,p,c,1)∈kn++lQ++lP)(g:cq n a):cq (n+1) (dI dH (.s p c) [a]):=
 .g3 n (4,0x6c697370,p,c,1) (Rq e) [a] rfl λt d=>by simp at d;rw[d];exact g
theorem cq.wn(g:(4,0x6c697370,p,c,2)∈kn++lQ++lP){e:az}(h:cq n a)(i:cq n e):cq (n+1) (dI dH (.s p c) [a,e]):=
 .g3 n (4,0x6c697370,p,c,2) (Rq g) [a,e] rfl λt d=>by simp at d;rcases d with rfl|rfl;exact h;exact i
theorem C3:((4,0x6c697370,3,0x6e6f74,1):Nat×Nat×Nat×Nat×Nat)∈kn++lQ++lP:=by decide
theorem R5:((4,0x6c697370,5,0x657175616c,2):Nat×Nat×Nat×Nat×Nat)∈kn++lQ++lP:=by decide
theorem R6:((4,0x6c697370,1,0x3c,2):Nat×Nat×Nat×Nat×Nat)∈kn++lQ++lP:=by decide
theorem abZ:((4,0x6c697370,5,0x636f6e7370,1):Nat×Nat×Nat×Nat×Nat)∈kn++lQ++lP:=by decide
theorem ak6{d:Nat}(a4:d<=9)(h:∀a c l,bf u 13 [.s a c,.aN 11 l] (.agg (dI dH (.s a c) l)))(S:∃n l,w= .aN n l)(T:∀n:Int,1<=n/\n<=100->gG u 21 [aA n] BX N (rE n))(I:gG u 22 [] BX N wL)(F:gG u 10 [w,aA ((d:Nat):Int)] BX N (nG d))(V:gG u 10 [w,aA ((d+1:Nat):Int)] BX N (nG (d+1)))(W:ly BX){z:Nat}(X:q<b)(Y:q%4096<2048)(A:z<=N)(J:b9 b aC q= .box s [BX,aA z]):gY (FI u [.aQ q s 0,w,aA ((d+1:Nat):Int)] b aC) b aC q s BX N (nG (d+3)):=by
 have K:=eI.start X Y A J W
 haveI:=K.aK
 obtain⟨nw,a5,Z⟩:=S;subst Z;rw[FI,iY,XD,cF,i2,ei];refine kH K.cB V λr h' e L al=>?_;obtain⟨t,rfl,B⟩:=e
 haveI:=L.aK
 obtain⟨t1,t2⟩:=B.p;have ar:=(al 6).trans ec;rw[cF,cM,XC];rw[acr];refine kH (L.cB.dp) (T 8 (by omega)) λr bd e o M=>?_;obtain⟨k,k0,bs,rfl⟩:=e
 haveI:=o.aK
 have C:=(M 6).trans (fS (fZ ar));have bx:=(M 7).trans (gn ec);obtain⟨k,rfl⟩:∃n:Nat,k=n:=⟨k.toNat,by omega⟩;rw[t32 k (by omega)];split;have E:=h 3 0x6e6f74 [t];rw[B5,av,aU,jB,aq,iR,jY,aq,a0];exact SV o.fc (fJ C) rfl ⟨_,rfl,(cq.one C3 B).le (by omega)⟩;split;rw[PC,aS,bO,aP,av,aU,b8,g5,show((d+1:Nat):Int)-1=((d:Nat):Int) by omega,i2,ei];refine Kt o F λr A e g x=>?_;obtain⟨y,rfl,j⟩:=e
 haveI:=g.aK
 obtain⟨O,P⟩:=j.p;have E:=h 5 0x657175616c [t,y];have Q:=h 3 0x6e6f74 [dI dH zI [t,y]];have G:(dI dH zI [t,y]).length=11:=rfl;have H:cg (dI dH zI [t,y])=true:=rfl;have b1:(dI dH acB [dI dH zI [t,y]]).length=11:=rfl;have b2:cg (dI dH acB [dI dH zI [t,y]])=true:=rfl;have D:=(x 6).trans C;rw[be,be,aP,vT,vU,aq,aq,x1,XE,x8,aP,jY,aq,a0,be,aP,jB,aq,x1,x8,aP,jY,aq,a0,bO,aP,eS,pF,eU,aU,bJ,a6];rw[aq];exact mo (g.fc.fc.dp) ⟨_,rfl,cq.one C3 (cq.wn R5 B (j.le (Nat.le_succ _)))⟩;split;rw[PD];refine kH o I λr A e g x=>?_;obtain⟨i,hi,rfl⟩:=e
 haveI:=g.aK
 have E:=h 5 0x636f6e7370 [gS i];have Q:=h 3 0x6e6f74 [dI dH (.s 5 0x636f6e7370) [gS i]];have a1:(gS i).length=11:=rfl;have a2:cg (gS i)=true:=rfl;have G:(dI dH (.s 5 0x636f6e7370) [gS i]).length=11:=rfl;have H:cg (dI dH (.s 5 0x636f6e7370) [gS i])=true:=rfl;have D:=(x 6).trans C;rw[jB,aq,iR,jY,aq,a0,jB,aq,iR,jY,aq,a0];exact SV g.fc.fc (fJ (fJ D)) rfl ⟨_,rfl,(cq.one C3 (cq.one abZ (cq.var 0 i hi))).le (by omega)⟩;split;rw[PE,aS,bO,aP,av,aU,b8,g5,show((d+1:Nat):Int)-1=((d:Nat):Int) by omega,XF,i2,ei];refine Kt o F λr A e g x=>?_;obtain⟨y,rfl,j⟩:=e
 haveI:=g.aK
 obtain⟨O,P⟩:=j.p;have E:=h 5 0x657175616c [t,y];have G:(dI dH zI [t,y]).length=11:=rfl;have H:cg (dI dH zI [t,y])=true:=rfl;have D:=(x 6).trans C;rw[be,be,aP,vT,vU,aq,aq,x1,x8,aP,jY,aq,a0,bO,aP,eS,pF,eU,aU,bJ,a6];rw[aq];exact mo (g.fc.dp) ⟨_,rfl,(cq.wn R5 B (j.le (Nat.le_succ _))).le (by omega)⟩;split;rw[PF];refine kH o I λr A e g x=>?_;obtain⟨i,hi,rfl⟩:=e
 haveI:=g.aK
 rw[b8,g5,show((d+1:Nat):Int)-1=((d:Nat):Int) by omega,i2,ei];refine kH g F λr J e R a3=>?_;obtain⟨y,rfl,j⟩:=e
 haveI:=R.aK
 obtain⟨O,P⟩:=j.p;have E:=h 1 0x3c [gS i,y];have Q:=h 3 0x6e6f74 [dI dH RR [gS i,y]];have a1:(gS i).length=11:=rfl;have a2:cg (gS i)=true:=rfl;have G:(dI dH RR [gS i,y]).length=11:=rfl;have H:cg (dI dH RR [gS i,y])=true:=rfl;have D:=(a3 6).trans ((x 6).trans C);rw[XG,vT,vU,aq,aq,iR,jY,aq,a0,jB,aq,iR,jY,aq,a0];exact SV R.fc.fc (fJ (fJ D)) rfl ⟨_,rfl,(cq.one C3 (cq.wn R6 (cq.var d i hi) j)).le (by omega)⟩;rw[av,aU,cM,pF,eU,aU,bJ,a6];rw[aq];exact mo (o.dp) ⟨_,rfl,B.le (by omega)⟩
end
end
end
section
variable{e sz d:Nat}{h:aO}{x:ao}{es:bg}{o:fb}{R:bg->Prop}
section
variable[Tok] {u:Fn}{b:Nat}
def n3(q e sz:Nat)(h:aO)(x:ao)(es:bg):Prop:=∃s,x= .aV q s 0 es.length/\h.am q= .aV s e sz es false
theorem n3.am{q:Nat}{h':aO}(H:n3 q e sz h x es)(ho:h'.am q=h.am q):n3 q e sz h' x es:=by obtain⟨s,a,c⟩:=H;exact⟨s,a,ho.trans c⟩
theorem n3.fh{q:Nat}(H:n3 q e sz h x es)(f:gI):bi h.am x f=f (.aN sz es) []:=by obtain⟨s,rfl,ho⟩:=H;exact jY ho rfl f
theorem Us{k:Nat}(g:b+d<h.ax)(i:k≠b+d):(h.dP b d o).am k=h.am k:=(n6 g).am _ λc a=>by simp at a;rw[a];exact i
theorem n3.g3{q d' bytes:Nat}{y:ao}{r:az}(H:n3 q e sz h x es)(a:q<h.ax)(c:∀f:bg->ay,i0 h.am sz y f=f [r])(j:es.length<1000)(l:bytes<1000):
 ∃s,∀k:dv,fW b d' none e sz bytes x y false h k=k (.aV q s 0 (es++[r]).length) (h.g1 b q (nr s e sz (es++[r]) false)):=by
 have p:(es.length+1)*bytes<=1000*1000:=AZ (by omega) (by omega);obtain⟨s,rfl,ho⟩:=H;refine⟨Nat.add s 1,λk=>?_⟩;have e0:fW b d' none e sz bytes (.aV q s 0 es.length) y false h k=i0 h.am sz y λys=>mr ys λys=>gc (eJ ys) λn=>
  bB (Nat.beq 0 0) (uP (h.yA q) λg e' i rs r=>bB (Nat.beq s g) (bB (Nat.beq e' e) (bB (Nat.beq i sz)
   (@Bool.rec (λ_=>ay) (bB r (bB (Nat.ble es.length (eJ rs)) (jr b none bytes q s e sz (mb (Nat.sub (eJ rs) es.length) rs) n ys r es.length h k) .aF) .aF) (jr b none bytes q s e sz rs n ys r es.length h k) (Nat.beq es.length (eJ rs))) .aF) .aF) .aF) .aF:=rfl
 rw[e0,c,ms,fN,gV,fI,da,Dg (by rw[aO.AB];exact ho),fI,da,fI,da,fI,da,gV,u6,fI];show jr b none bytes q s e sz es.reverse 1 [r] false es.length h k=_;unfold jr;rw[fN,eT,dJ (by rw[tE,h5];omega),da,eT,dJ (by rw[h5];omega),da,fN,sp,uC (kC b _) a,u7];unfold nr;rw[List.reverse_append];rfl
def l6(b d e sz:Nat)(h:aO)(x:ao)(es:bg):Prop:=(x= .ba/\es=[])\/∃q,(q=b+d\/b+4096<=q)/\q<h.ax/\n3 q e sz h x es
theorem l6.am{d e sz:Nat}{h h':aO}{x:ao}{es:bg}(H:l6 b d e sz h x es)(i:h.ax<=h'.ax)(ho:∀k,b+4096<=k\/k=b+d->k<h.ax->h'.am k=h.am k):l6 b d e sz h' x es:=by rcases H with H|⟨q,a,c,g⟩;exact .inl H;exact .inr ⟨q,a,by omega,g.am (ho q a.symm c)⟩
theorem l6.fh{d e sz:Nat}{h:aO}{x:ao}{es:bg}(H:l6 b d e sz h x es):∃v,cE sz v es/\∀f:ao->fk->ay,bi h.am x f=f v []:=by rcases H with⟨rfl,rfl⟩|⟨q,_,_,h⟩;exact⟨.ba,.inl ⟨rfl,rfl⟩,λf=>uz _ f⟩;exact⟨_,.inr rfl,λf=>h.fh f⟩
theorem l6.dP{c:Nat}[cp h b](H:l6 b d e sz h x es)(a:c<4096:=by decide)(g:c≠d:=by decide):l6 b d e sz (h.dP b c o) x es:=
 H.am (by rw[lC];exact dn _) λk i _=>Us (cp.lt a) (by omega)
section
variable{BX:ao}{N:Nat}{aC:cD}{q s:Nat}
theorem eI.axj{a:Nat}(H:eI b aC q s BX N h)(n:b<=a)(g:a<h.ax):eI b aC q s BX N (h.g1 b a o):=by
 refine⟨H.lt,H.jx,by rw[aO.lY];exact H.ax,?_,?_,λk c i=>?_,H.mH⟩;obtain⟨z,j,l⟩:=H.am;refine⟨z,j,?_⟩;rw[aO.mu g];simp[Go.Hf.dk,show q≠a by have:=H.lt;omega];exact l;intro k c;have e:(h.g1 b a o).ck=h.ck:=by obtain⟨ub,bj,dd⟩:=h;show @Bool.rec (λ_=>List Nat) dd (a::dd) (Nat.blt a b)=dd;rw[m9,bA]
 rw[e]at c;exact H.ck k c;rw[aO.mu g];simp[Go.Hf.dk,show k≠a by omega];exact H.aj k c i
def vf(a:ay)(b:Nat)(aC:cD)(q s:Nat)(BX:ao)(N:Nat)(R:bg->Prop):Prop:=
 ∃r c g d es,∃z:Nat,a= .ok r c g d/\b<=c/\R es/\z<=N/\b9 c g q= .box s [BX,aA z]/\(∀k,k<b->k≠q->b9 c g k=b9 b aC k)/\(∀k∈d,k=q)/\
  ((r= .ba/\es=[])\/∃i j,b<=i/\i<c/\r= .aV i j 0 es.length/\b9 c g i= .aV j 44 11 es false)
def Ir(u:Fn)(f:Nat)(args:az)(BX:ao)(N:Nat)(R:bg->Prop):Prop:=ly BX->∀{b:Nat}{aC:cD}{q s z:Nat},q<b->q%4096<2048->z<=N->b9 b aC q= .box s [BX,aA z]->vf (u f (.aQ q s 0::args) b aC) b aC q s BX N R
theorem al1{f:Nat}{args:az}{n:ao->Prop}{K:dv}(a:eI b aC q s BX N h)(C:Ir u f args BX N R)
 (H:∀r h' es,R es->eI b aC q s BX N h'->h.ax<=h'.ax->(∀k,k<h.ax->k≠q->h'.am k=h.am k)->((r= .ba/\es=[])\/∃g,b+4096<=g/\g<h'.ax/\n3 g 44 11 h' r es)->gY (K r h') b aC q s BX N n):gY (dC u b f (.aQ q s 0::args) [] h K) b aC q s BX N n:=by
 obtain⟨z,t,ho⟩:=a.am;obtain⟨ub,bj,dd⟩:=h;have P:b+4096<=ub:=a.ax;have Q:=a.lt;obtain⟨r,i,l,d,es,w,y,e0,A,B,D,p,E,F⟩:= @C a.mH ub bj q s z (by omega) a.jx t ho;have hd:∀k∈aZ (fA b d) dd,k=q:=λk c=>by rw[kU,fq]at c;exact c.elim (λh=>E k (xI h)) (a.ck k)
 have G:dC u b f (.aQ q s 0::args) [] (.mk ub bj dd) K=js b ub dd K (u f (.aQ q s 0::args) ub bj):=rfl;rw[G,y];have I:js b ub dd K (.ok r i l d)=bB (Nat.ble ub i) (K r (.mk i l (aZ (fA b d) dd))) .aF:=rfl;rw[I,eT,dJ e0,da];refine H r (.mk i l (aZ (fA b d) dd)) es A ⟨a.lt,a.jx,?_,⟨w,B,D⟩,hd,λk c j=>(p k (by omega) j).trans (a.aj k c j),a.mH⟩ e0 (λk c j=>p k c j) ?_;show b+4096<=i;omega;rcases F with h|⟨g,J,S,L,M,O⟩;exact .inl h;exact .inr ⟨g,by omega,L,J,M,O⟩
theorem auR(a:eI b aC q s BX N h)(O:gm b d 44 11 h x es)(hd:d<4096)(r:R es):vf (so b [x] [] h) b aC q s BX N R:=by
 obtain⟨z,t,ho⟩:=a.am;have g:=a.ax;have w:=a.lt;have y:=a.mH b;obtain⟨ub,bj,dd⟩:=h;have A:∀k∈dd,k=q:=a.ck;have n:(bj.get q).aj= .box s [BX,aA z]:=by have:b9 ub bj q= .box s [BX,aA z]:=ho;have g:b+4096<=ub:=g;rw[h7]at this;exact this
 rcases O with⟨rfl,rfl⟩|⟨i,rfl,n⟩;have c:so b [.ba] [] (.mk ub bj dd)= @Bool.rec (λ_=>ay) (bB true (.ok .ba ub bj dd) .aF) (.ok .ba b (bj.drop b) dd) (c7 true (kr b bj dd)):=rfl;have c:so b [.ba] [] (.mk ub bj dd)= .ok .ba b (bj.drop b) dd:=by rw[c,RZ (N:=N) y n dd A];rfl
 have j:∀k,k<b->b9 b (bj.drop b) k=b9 ub bj k:=λk j=>by have g:b+4096<=ub:=g;rw[h7 j,cD.uq b bj k j,h7]
 refine⟨.ba,b,bj.drop b,dd,[],z,c,dn _,r,t,(j q w).trans ho,λk l p=>(j k l).trans (a.aj k l p),a.ck,.inl ⟨rfl,rfl⟩⟩;have g:b+4096<=ub:=g;have c:so b [.aV (b+d) i 0 es.length] [] (.mk ub bj dd)= @Bool.rec (λ_=>ay) (bB (Nat.ble (Nat.succ (b+d)) ub) (.ok (.aV (b+d) i 0 es.length) ub bj dd) .aF) (.ok (.aV (b+d) i 0 es.length) b (bj.drop b) dd) (c7 (Nat.ble (Nat.succ (b+d)) b) (kr b bj dd)):=rfl;have c:so b [.aV (b+d) i 0 es.length] [] (.mk ub bj dd)= .ok (.aV (b+d) i 0 es.length) ub bj dd:=by rw[c,eT (Nat.succ (b+d)) b,bA,eT,bM];rfl
 rw[c];exact⟨_,ub,bj,dd,es,z,rfl,by omega,r,t,ho,λk l p=>a.aj k l p,a.ck,.inr ⟨b+d,i,by omega,by omega,rfl,n⟩⟩
end
end
end
section
variable{h:aO}{d cc:Nat}
section
variable[Tok] {u:Fn}{b:Nat}{w:ao}{BX:ao}{N:Nat}{aC:cD}{q s:Nat}
theorem zC{f:Nat}{args:az}{R:ao->Prop}{a:bg->Prop}{K:dv}(c:eI b aC q s BX N h)(C:gG u f args BX N R)
 (H:∀r h',R r->eI b aC q s BX N h'->(∀d,h'.am (b+d)=h.am (b+d))->vf (K r h') b aC q s BX N a):vf (dC u b f (.aQ q s 0::args) [] h K) b aC q s BX N a:=by
 obtain⟨r,h',g,i,j,e⟩:=abr c C;rw[e];exact H r h' g i λd=>j _ (by have:=c.lt;omega)
structure Ue (u:Fn) (w:ao) (d:Nat) (BX:ao) (N:Nat):Prop where
 D5:∀n:Int,1<=n/\n<=100->gG u 21 [aA n] BX N (rE n)
 yQ:gG u 22 [] BX N wL
 ae8:gG u 24 [aA 0] BX N yU
 ae9:gG u 71 [w,aA ((d+1:Nat):Int)] BX N (nG (d+3))
 aaP:Nl u 33
 r1:∀a c l,bf u 13 [.s a c,.aN 11 l] (.agg (dI dH (.s a c) l))
 KW:bf u 52 [aA 0] (.agg (fg (eK ((0:Int):Rat))))
 bv:∃n l,w= .aN n l
theorem Sr:m2 (eK ((0:Int):Rat)):=by rw[G8];exact .Db (0,1) (by decide)
theorem Lh(x:ao)(k:ao->ay):cj x br k=cj x (aA 1) k:=by rw[b8]
def A0(d:Nat)(es:bg):Prop:=es.length<=3/\∀t∈es,cq (d+3) t
theorem aif{i:Nat}{m M:Nat}{ca:ao}{es:bg}{t:az}{Ia:Nat}(I:m<M)(hi:i+m+1=cc)(J:cc<=3)(c:eI b aC q s BX N h)(O:gm b 2101 44 11 h ca es)(j:es.length=i)(e:cq (d+3) t)(k:∀t∈es,cq (d+3) t)(l:h.am (b+12)= .box Ia t)
 (p:∀(h':aO) (g:ao) (ea:bg),eI b aC q s BX N h'->gm b 2101 44 11 h' g ea->ea.length=i+1->(∀t∈ea,cq (d+3) t)->vf (k1 0 1 3 9 10 11 M (w2 u b λn o=>At b n o) (.aQ q s 0) w (aA ((d+1:Nat):Int)) g (aA cc) (aA ((i+1:Nat):Int)) h') b aC q s BX N (A0 d)):
 vf (Jw u b (λx y z A B C D=>dT C br λE=>k1 0 1 3 9 10 11 M (w2 u b λn o=>At b n o) x y z A B E D) (.aQ q s 0) w (aA ((d+1:Nat):Int)) ca (aA cc) (aA ((i:Nat):Int)) (.aQ (b+12) Ia 0) h) b aC q s BX N (A0 d):=by
 haveI:=c.aK
 obtain⟨K,L⟩:=e.p;have F:=O.am (h':=h.fc b 2100 44 11 [t] false) (fJ rfl);obtain⟨P,G⟩:=F.g3 (bytes:=176) (y:= .aV (b+2100) (ie h b 2100) 0 1) (r:=t) (λf=>pt hX (by rfl) f) (by omega) (by omega);rw[Jw,av l,aU,jB,aq,iR,G,b8,fV,show((i:Nat):Int)+1=((i+1:Nat):Int) by omega];exact p _ _ _ (c.fc.je) gm.new (by simp[j]) λa H=>(fq.1 H).elim (k a) λh=>by simp at h;rw[h];exact e
theorem aqu(H:Ue u w d BX N)(S:cc<=3):∀(m i M:Nat) (h:aO) (ca:ao) (es:bg),m+i=cc->m<M->eI b aC q s BX N h->gm b 2101 44 11 h ca es->es.length=i->(∀t∈es,cq (d+3) t)->
 vf (k1 0 1 3 9 10 11 M (w2 u b λn o=>At b n o) (.aQ q s 0) w (aA ((d+1:Nat):Int)) ca (aA cc) (aA ((i:Nat):Int)) h) b aC q s BX N (A0 d):=by
 obtain⟨nw,bs,T⟩:=H.bv;intro m;induction m with
 |zero=>
  intro i M h ca es V W j O F D;obtain⟨M,rfl⟩:=eC M
  haveI:=j.aK
  rw[ti];generalize k1 0 1 3 9 10 11 M (w2 u b λn o=>At b n o)=j6;rw[w2,cz,bA,bc,At];exact auR j O (by omega) ⟨by omega,D⟩
 |succ m X=>
  intro i M h ca es V W j O F D;obtain⟨M,rfl⟩:=eC M
  haveI:=j.aK
  have Y:=λh' Z ea=>X (i+1) M h' Z ea (by omega) (by omega);have x:=λ(h:aO) (ca:ao) (t:az) (Ia:Nat) j O B l=>aif (u:=u) (b:=b) (aC:=aC) (q:=q) (s:=s) (w:=w) (BX:=BX) (N:=N) (d:=d) (cc:=cc) (i:=i) (m:=m) (M:=M) (h:=h) (ca:=ca) (es:=es) (t:=t) (Ia:=Ia) (by omega) (by omega) S j O F B D l Y;rw[ti];generalize k1 0 1 3 9 10 11 M (w2 u b λn o=>At b n o)=j6 at x;have al:∀(ob:dE) (f:gI),bi ob w f=f w []:=λob f=>by rw[T];exact i2 ob _ _ f
  rw[w2,cz,bM,bw,Wc,al,ei,aq,aq];refine zC j H.ae9 λr h' a G ar=>?_;obtain⟨t,rfl,B⟩:=a
  haveI:=G.aK
  obtain⟨t1,t2⟩:=B.p;have a1:=(O.am (ar 2101)).am (h':=(h'.cB b 12 44 cW).dp b 12 t) (fS (fZ rfl));rw[cF,cM,uM];refine zC (G.cB.dp) (H.D5 6 (by omega)) λr h2 a y I=>?_;obtain⟨k,k0,bx,rfl⟩:=a
  haveI:=y.aK
  have C:=a1.am (I 2101);have l:=(I 12).trans (gn ec);have E:=H.r1;by_cases e0:k=0;subst e0;rw[b7,cd,bM,bw,V7];refine zC y H.yQ λr J a c e=>?_;obtain⟨v,z,rfl⟩:=a
  haveI:=c.aK
  have K:=E 5 0x636f6e7370 [gS v];have L:(gS v).length=11:=rfl;have P:cg (gS v)=true:=rfl;have A:(dI dH (.s 5 0x636f6e7370) [gS v]).length=11:=rfl;have g:=(e 12).trans l;rw[jB,aq,iR,jY,aq,a0,cM A (fJ g)];exact x _ _ _ _ (c.fc.dp) ((C.am (e 2101)).am (fS (fJ rfl))) ((cq.one abZ (cq.var 0 v z)).le (by omega)) (gn (fJ g));rw[b7,cd,bA,bc,Wb];by_cases a2:k=1;subst a2;rw[Lh,cd,bM,bw,V8];refine zC y H.yQ λr J a c e=>?_;obtain⟨v,z,rfl⟩:=a
  haveI:=c.aK
  rw[b7];refine zC c H.ae8 λr b1 a Q R=>?_;obtain⟨o,rfl,ho⟩:=a
  haveI:=Q.aK
  obtain⟨a3,q2⟩:=ho.p;have b2:=H.aaP o a3 q2;have K:=E 5 0x657175616c [gS v,fg o];have L:(gS v).length=11:=rfl;have P:cg (gS v)=true:=rfl;obtain⟨a4,a5⟩:=(rM.gT o ho.am).p;have A:(dI dH (.s 5 0x657175616c) [gS v,fg o]).length=11:=rfl;have g:=(R 12).trans ((e 12).trans l);rw[bE,a6,aq,a0,vT,vU,aq,aq,iR,jY,aq,a0,cM A (fJ g)];exact x _ _ _ _ (Q.fc.dp) (((C.am (e 2101)).am (R 2101)).am (fS (fJ rfl))) ((cq.wn R5 (cq.var 0 v z) (cq.gT 0 o ho.am)).le (by omega)) (gn (fJ g));rw[Lh,cd,bA,bc,Wa];by_cases bd:k=2;subst bd;have cn:=H.KW;rw[e4,cd,bM,bw,V9];rw[b7];rw[a0];refine zC y H.yQ λr J a c e=>?_;obtain⟨v,z,rfl⟩:=a
  haveI:=c.aK
  obtain⟨a4,a5⟩:=(rM.gT _ Sr).p;have K:=E 1 0x3c [fg (eK ((0:Int):Rat)),gS v];have L:(gS v).length=11:=rfl;have P:cg (gS v)=true:=rfl;have A:(dI dH (.s 1 0x3c) [fg (eK ((0:Int):Rat)),gS v]).length=11:=rfl;have g:=(e 12).trans l;rw[vT,vU,aq,aq,iR,jY,aq,a0,cM A (fJ g)];exact x _ _ _ _ (c.fc.dp) ((C.am (e 2101)).am (fS (fJ rfl))) ((cq.wn R6 (cq.gT 0 _ Sr) (cq.var 0 v z)).le (by omega)) (gn (fJ g));rw[e4,cd,bA,bc];exact x _ _ _ _ y C B l
theorem akI(hd:d<=9)(H:Ue u w d BX N)(c:ly BX){z:Nat}(e:q<b)(g:q%4096<2048)(i:z<=N)(j:b9 b aC q= .box s [BX,aA z]):vf (EZ u [.aQ q s 0,w,aA 3,aA ((d+1:Nat):Int)] b aC) b aC q s BX N (A0 d):=by
 have a:=eI.start e g i j c
 haveI:=a.aK
 rw[EZ,Ek,Wd,b8,fV,ei,aq];refine zC a (H.D5 4 (by omega)) λr h' l o x=>?_;obtain⟨k,k0,y,rfl⟩:=l;obtain⟨k,rfl⟩:∃n:Nat,k=n:=⟨k.toNat,by omega⟩;rw[b7,show(0:Int)=((0:Nat):Int) from rfl];exact aqu H (by omega) k 0 1000000 h' .ba [] (by omega) (by omega) o (.inl ⟨rfl,rfl⟩) rfl (λt p=>by simp at p)
end
end
section
variable{h:aO}{es:bg}{cc e0:Nat}
section
variable[Tok] {u:Fn}{b:Nat}{w:ao}{BX:ao}{N:Nat}{aC:cD}{q s:Nat}
theorem l6.g3{d:Nat}{h:aO}{x y:ao}{es:bg}{r:az}(e:eI b aC q s BX N h)(O:l6 b d 44 11 h x es)(l:∀f:bg->ay,i0 h.am 11 y f=f [r])(n:es.length<1000)(hd:d<4096:=by decide):
 ∃x' h',eI b aC q s BX N h'/\l6 b d 44 11 h' x' (es++[r])/\(∀c,c<4096->d≠c->h'.am (b+c)=h.am (b+c))/\∀k:dv,fW b d none 44 11 176 x y false h k=k x' h':=by
 haveI:=e.aK
 have A:=e.ax;have L8:∀O:gm b d 44 11 h x es,∃x' h',eI b aC q s BX N h'/\l6 b d 44 11 h' x' (es++[r])/\(∀c,c<4096->d≠c->h'.am (b+c)=h.am (b+c))/\∀k:dv,fW b d none 44 11 176 x y false h k=k x' h':=λO=>by obtain⟨g,i⟩:=O.g3 (bytes:=176) (r:=r) (d':=d) l n (by omega) hd (λ_=>rfl);refine⟨_,_,e.je hd,.inr ⟨b+d,.inl rfl,?_,g,rfl,kk hd⟩,λc z o=>ic rfl o hd,i⟩;have:(h.je b d g 44 11 (es++[r]) false).ax=h.ax:=lC _ _ _ _;omega
 rcases O with O|⟨p,j,a,t⟩;exact L8 (.inl O);rcases j with rfl|j;exact L8 (.inr t);obtain⟨g,i⟩:=t.g3 (b:=b) (d':=d) (bytes:=176) a l n (by omega);refine⟨_,_,e.axj (by omega) a,.inr ⟨p,.inr j,by rw[aO.lY];exact a,g,rfl,(nv a).trans (yv _ _ _ _ _)⟩,λc z o=>?_,i⟩;rw[aO.mu a];simp[Go.Hf.dk,show b+c≠p by omega]
theorem Cv{f:Nat}{args:az}{R g:ao->Prop}{K:dv}(a:eI b aC q s BX N h)(C:gG u f args BX N R)
 (H:∀r h',R r->eI b aC q s BX N h'->h'.ax=h.ax->(∀k,b<=k->h'.am k=h.am k)->gY (K r h') b aC q s BX N g):gY (dC u b f (.aQ q s 0::args) [] h K) b aC q s BX N g:=by
 obtain⟨z,l,ho⟩:=a.am;obtain⟨ub,bj,dd⟩:=h;have n:b+4096<=ub:=a.ax;have E:=a.lt;obtain⟨r,e,d,o,p,t,x,y,i,A⟩:= @C a.mH ub bj q s z (by omega) a.jx l ho;have hd:∀k∈aZ (fA b d) dd,k=q:=λk c=>by rw[kU,fq]at c;exact c.elim (λh=>A k (xI h)) (a.ck k)
 have B:dC u b f (.aQ q s 0::args) [] (.mk ub bj dd) K=js b ub dd K (u f (.aQ q s 0::args) ub bj):=rfl;rw[B,p];have D:js b ub dd K (.ok r ub e d)=bB (Nat.ble ub ub) (K r (.mk ub e (aZ (fA b d) dd))) .aF:=rfl;rw[D,eT,dJ (dn ub),da];exact H r (.mk ub e (aZ (fA b d) dd)) t ⟨a.lt,a.jx,n,⟨o,x,y⟩,hd,λk c j=>(i k j).trans (a.aj k c j),a.mH⟩ rfl λk c=>i k (by omega)
theorem l6.x4{d:Nat}{h':aO}{x:ao}(H:l6 b d 44 11 h x es)(a:h'.ax=h.ax)(ho:∀k,b<=k->h'.am k=h.am k):l6 b d 44 11 h' x es:=H.am (by omega) λk c _=>ho k (by omega)
theorem z9:(uK:ao)=aA 5:=by rw[db];rfl
def pz(i j:Nat):az:=dI kD (.s 6 0x6c696e6b6564) [gS i,gS j]
def vl(t:az):Prop:=cq 4 t\/∃i j,i<3/\j<3/\t=pz i j
theorem vl.p{t:az}(h:vl t):fR t:=by rcases h with h|⟨i,j,_,_,rfl⟩;exact h.p;exact⟨rfl,rfl⟩
theorem ab1:((4,0x6c697370,4,0x706f7370,1):Nat×Nat×Nat×Nat×Nat)∈kn++lQ++lP:=by decide
theorem R7:((4,0x6c697370,4,0x6e617470,1):Nat×Nat×Nat×Nat×Nat)∈kn++lQ++lP:=by decide
theorem Ly:((4,0x6c697370,3,0x6c656e,1):Nat×Nat×Nat×Nat×Nat)∈kn++lQ++lP:=by decide
structure Ug (u:Fn) (w:ao) (BX:ao) (N:Nat):Prop where
 D5:∀n:Int,1<=n/\n<=100->gG u 21 [aA n] BX N (rE n)
 yQ:gG u 22 [] BX N wL
 ae6:gG u 10 [w,br] BX N (nG 1)
 ae7:Ir u 20 [w,eB,dM] BX N (A0 1)
 r1:∀a c l,bf u 13 [.s a c,.aN 11 l] (.agg (dI dH (.s a c) l))
 xM:∀a c l,bf u 23 [.s a c,.aN 11 l] (.agg (dI kD (.s a c) l))
 bv:∃n l,w= .aN n l
def ae5(es:bg):Prop:=es.length<=6/\∀t∈es,vl t
def D0(r:ao):Prop:=∃es,cE 11 r es/\ae5 es
theorem ajf{i m M:Nat}{ca:ao}{t:az}{s8:Nat}(E:e0+cc<=6)(F:m+1+i=cc)(g:es.length=e0+i)(c:eI b aC q s BX N h)(O:l6 b 2102 44 11 h ca es)(d:vl t)(j:∀t∈es,vl t)(k:h.am (b+8)= .box s8 t)
 (l:∀(h':aO) (e:ao) (ea:bg),eI b aC q s BX N h'->l6 b 2102 44 11 h' e ea->ea.length=e0+(i+1)->(∀t∈ea,vl t)->gY (fm 0 1 5 6 7 M (xi u b λm n=>i4 b m n) (.aQ q s 0) w e (aA cc) (aA ((i+1:Nat):Int)) h') b aC q s BX N D0):
 gY (JV u b (λt v w x y z=>dT y br λo=>fm 0 1 5 6 7 M (xi u b λm n=>i4 b m n) t v w x o z) (.aQ q s 0) w ca (aA cc) (aA ((i:Nat):Int)) (.aQ (b+8) s8 0) h) b aC q s BX N D0:=by
 haveI:=c.aK
 obtain⟨G,H⟩:=d.p;have p:l6 b 2102 44 11 (h.fc b 2101 44 11 [t] false) ca es:=O.dP;obtain⟨x',h',A,B,I,C⟩:=p.g3 (y:= .aV (b+2101) (ie h b 2101) 0 1) (r:=t) c.fc (λf=>pt hX (by rfl) f) (by omega);rw[JV,av k,aU,jB,aq,iR,C,b8,fV,show((i:Nat):Int)+1=((i+1:Nat):Int) by omega];exact l _ _ _ A B (by simp[g];omega) λa D=>(fq.1 D).elim (j a) λh=>by simp at h;rw[h];exact d
theorem aqF(H:Ug u w BX N)(S:e0+cc<=6):∀(m i M:Nat) (h:aO) (ca:ao) (es:bg),m+i=cc->m<M->eI b aC q s BX N h->l6 b 2102 44 11 h ca es->es.length=e0+i->(∀t∈es,vl t)->
 gY (fm 0 1 5 6 7 M (xi u b λm n=>i4 b m n) (.aQ q s 0) w ca (aA cc) (aA ((i:Nat):Int)) h) b aC q s BX N D0:=by
 obtain⟨nw,cY,T⟩:=H.bv;intro m;induction m with
 |zero=>
  intro i M h ca es V W e O J F;obtain⟨M,rfl⟩:=eC M
  haveI:=e.aK
  obtain⟨v,y,G⟩:=O.fh;rw[iz];generalize fm 0 1 5 6 7 M (xi u b λm n=>i4 b m n)=X;rw[xi,cz,bA,bc,i4,bJ,G,aq];exact mo e ⟨es,y,by omega,F⟩
 |succ m Y=>
  intro i M h ca es V W e O J F;obtain⟨M,rfl⟩:=eC M
  haveI:=e.aK
  have Z:=λh' ar ea=>Y (i+1) M h' ar ea (by omega) (by omega);have l:=λ(h:aO) (ca:ao) (t:az) (s8:Nat) e O g a=>ajf (u:=u) (b:=b) (aC:=aC) (q:=q) (s:=s) (w:=w) (BX:=BX) (N:=N) (cc:=cc) (e0:=e0) (i:=i) (m:=m) (M:=M) (h:=h) (ca:=ca) (es:=es) (t:=t) (s8:=s8) S (by omega) J e O g F a Z;rw[iz];generalize fm 0 1 5 6 7 M (xi u b λm n=>i4 b m n)=X at l;have a1:∀(ob:dE) (f:gI),bi ob w f=f w []:=λob f=>by rw[T];exact i2 ob _ _ f
  rw[xi,cz,bM,bw,XA,a1,aq];refine Cv e H.ae6 λr h' d K a2 a3=>?_;obtain⟨t,rfl,g⟩:=d
  haveI:=K.aK
  obtain⟨t1,t2⟩:=g.p;have a4:l6 b 2102 44 11 ((h'.cB b 8 44 cW).dp b 8 t) ca es:=((O.x4 a2 a3).dP (c:=8)).dP (c:=8);rw[cF,cM,z9];refine Cv (K.cB.dp) (H.D5 5 (by omega)) λr h2 d p a5 L=>?_;obtain⟨k,k0,c0,rfl⟩:=d
  haveI:=p.aK
  have z:=a4.x4 a5 L;have a:=(L (b+8) (by omega)).trans (gn ec);have D:=H.r1;by_cases e0:k=0;subst e0;have P:=D 4 0x706f7370 [t];have j:(dI dH (.s 4 0x706f7370) [t]).length=11:=rfl;rw[b7,cd,bM,bw,Xt,av a,aU,jB,aq,iR,jY,aq,a0,cM j (fJ a)];exact l _ _ _ _ (p.fc.dp) ((z.dP (c:=2075)).dP (c:=8)) (.inl ((cq.one ab1 g).le (by omega))) (gn (fJ a));rw[b7,cd,bA,bc,Xz];by_cases G:k=1;subst G;have P:=D 4 0x6e617470 [t];have j:(dI dH (.s 4 0x6e617470) [t]).length=11:=rfl;rw[Lh,cd,bM,bw,Xu,av a,aU,jB,aq,iR,jY,aq,a0,cM j (fJ a)];exact l _ _ _ _ (p.fc.dp) ((z.dP (c:=2080)).dP (c:=8)) (.inl ((cq.one R7 g).le (by omega))) (gn (fJ a));rw[Lh,cd,bA,bc,Xy];by_cases bd:k=2;subst bd;have P:=D 3 0x6c656e [t];have c1:(dI dH (.s 3 0x6c656e) [t]).length=11:=rfl;have c2:cg (dI dH (.s 3 0x6c656e) [t])=true:=rfl;rw[e4,cd,bM,bw,av a,aU,Xv,jB,aq,iR,jY,aq,a0];refine Cv (p.fc) H.yQ λr h3 d E I A=>?_;obtain⟨v,y,rfl⟩:=d
  haveI:=E.aK
  have bs:=(z.dP (c:=2085) (o:= .ae (.aV (ie h2 b 2085) 44 11 [t] false))).x4 I A;have B:=(A (b+8) (by omega)).trans (fJ a);have bx:(gS v).length=11:=rfl;have b1:cg (gS v)=true:=rfl;have c3:=D 1 0x3c [dI dH (.s 3 0x6c656e) [t],gS v];have j:(dI dH (.s 1 0x3c) [dI dH (.s 3 0x6c656e) [t],gS v]).length=11:=rfl;rw[vT,vU,aq,aq,iR,jY,aq,a0,cM j (fJ B)];exact l _ _ _ _ (E.fc.dp) ((bs.dP (c:=2089)).dP (c:=8)) (.inl ((cq.wn R6 (cq.one Ly g) (cq.var 2 v y)).le (by omega))) (gn (fJ B));rw[e4,cd,bA,bc,Xx];by_cases b2:k=3;subst b2;rw[fu,cd,bM,bw,Xw];refine Cv p H.yQ λr h3 d E I A=>?_;obtain⟨v,y,rfl⟩:=d;refine Cv E H.yQ λr c4 d Q cn R=>?_;obtain⟨C,cs,rfl⟩:=d
  haveI:=Q.aK
  have cu:=(z.x4 I A).x4 cn R;have B:=(R (b+8) (by omega)).trans ((A (b+8) (by omega)).trans a);have bx:(gS v).length=11:=rfl;have b1:cg (gS v)=true:=rfl;have c5:(gS C).length=11:=rfl;have dd:cg (gS C)=true:=rfl;have ds:=H.xM 6 0x6c696e6b6564 [gS v,gS C];have j:(dI kD (.s 6 0x6c696e6b6564) [gS v,gS C]).length=11:=rfl;rw[vT,vU,aq,aq,iR,jY,aq,a0,cM j (fJ B)];exact l _ _ _ _ (Q.fc.dp) ((cu.dP (c:=2097)).dP (c:=8)) (.inr ⟨v,C,y,cs,rfl⟩) (gn (fJ B));rw[fu,cd,bA,bc];exact l _ _ _ _ p z (.inl (g.le (by omega))) a
theorem ali(H:Ug u w BX N)(i:ly BX){z:Nat}(c:q<b)(a:q%4096<2048)(d:z<=N)(j:b9 b aC q= .box s [BX,aA z]):gY (FG u [.aQ q s 0,w] b aC) b aC q s BX N D0:=by
 have e:=eI.start c a d j i
 haveI:=e.aK
 obtain⟨F,G,l⟩:=H.bv;have o:∀(ob:dE) (f:gI),bi ob w f=f w []:=λob f=>by rw[l];exact i2 ob _ _ f
 rw[FG,ep,Xs,o,aq];refine al1 e H.ae7 λr h' es g p I J x=>?_;rw[nU];refine Cv p (H.D5 4 (by omega)) λK a y A B C=>?_;obtain⟨k,k0,L,rfl⟩:=y;obtain⟨k,rfl⟩:∃n:Nat,k=n:=⟨k.toNat,by omega⟩;have O:l6 b 2102 44 11 h' r es:=x.elim .inl λ⟨D,c,a,d⟩=> .inr ⟨D,.inr c,a,d⟩;rw[b7,show(0:Int)=((0:Nat):Int) from rfl];exact aqF H (cc:=k) (e0:=es.length) (by have:=g.1;omega) k 0 1000000 a r es (by omega) (by omega) A (O.x4 B C) rfl λt E=> .inl (g.2 t E)
end
end
section
variable{d:Nat}
section
variable[Tok] {w:ao}
theorem ang(bH:bV λu=>Be u w)(hd:d<=8):bV λu=>∀BX N,oB BX N->gG u 71 [w,aA ((d+1:Nat):Int)] BX N (nG (d+3)):=
 (((KM.and bH).and (uk.and Gu)).and ((Gw bH d (by omega)).and (Gw bH (d+1) (by omega)))).up λn h BX N a=>qN FI λb _ _ _ _ _ c e g i=>
  ak6 (by omega) h.1.1.1.1 h.1.1.2.bv (h.1.2.1 BX N a) (h.1.2.2 BX N a) (h.2.1 BX N a) (h.2.2 BX N a) b c e g i
theorem amQ:bV λu=>∀BX N,oB BX N->gG u 24 [aA 0] BX N yU:=(KN.and uk).up λn h BX N a=>qN sS λb _ _ _ _ _ c e g i=>YI h.1 (h.2 BX N a) b c e g i
theorem al2{f n N:Nat}{args:az}{BX:ao}{R:bg->Prop}(g:jj)
 (h:ly BX->∀{b:Nat}{aC:cD}{q s z:Nat},q<b->q%4096<2048->z<=N->b9 b aC q= .box s [BX,aA z]->vf (g (bR bX n) (.aQ q s 0::args) b aC) b aC q s BX N R)(e:bR bX (n+1) f=g (bR bX n):=by kernel_rfl):Ir (bR bX (n+1)) f args BX N R:=by
 intro a b aC q s z c i j k;rw[e];exact h a c i j k
theorem anf(bH:bV λu=>Be u w)(hd:d<=8):bV λu=>∀BX N,oB BX N->Ir u 20 [w,aA 3,aA ((d+1:Nat):Int)] BX N (A0 d):=
 (((KM.and bH).and (uk.and Gu)).and ((amQ.and ZW).and (ZN.and (ang bH hd)))).up λn h BX N a=>al2 EZ λb _ _ _ _ _ c e g i=>
  akI (by omega) ⟨h.1.2.1 BX N a,h.1.2.2 BX N a,h.2.1.1 BX N a,h.2.2.2 BX N a,h.2.1.2,h.1.1.1.1,h.2.2.1.1 0 (by decide),h.1.1.2.bv⟩ b c e g i
theorem am1(bH:bV λu=>Be u w):bV λu=>∀BX N,oB BX N->gG u 6 [w] BX N D0:=
 (((KM.and bH).and (uk.and Gu)).and ((Gw bH 1 (by omega)).and (anf bH (d:=1) (by omega)))).up λn h BX N a=>qN FG λb _ _ _ _ _ c e g i=>
  ali ⟨h.1.2.1 BX N a,h.1.2.2 BX N a,by rw[b8];exact h.2.1 BX N a,by rw[fu,e4];exact h.2.2 BX N a,h.1.1.1.1,h.1.1.1.2.1,h.1.1.2.bv⟩ b c e g i
end
end
section
variable{j:gZ}
section
variable[Tok] {u:Fn}{b:Nat}
section
variable{x y:az}{h:aO} [cp h 0] [dS h] {M:Nat}{g s3:Nat}
theorem atU{a d c d':az}(pa:a.length=7/\cg a=true)(n:d.length=7/\cg d=true)(o:c.length=7/\cg c=true)(r:d'.length=7/\cg d'=true)(J:x[0+6]? =some (.aN 7 [a,d]))(L:y[0+6]? =some (.aN 7 [c,d']))(N:x.length=7)(O:y.length=7)
 (t:(d=d'->a=c->x=y))(w:sD u 126 a c)(z:h.am (0+2)= .box g x)(A:h.am (0+3)= .box s3 y)(K:∀h':aO,cp h' 0->dS h'->h'.am (0+2)= .box g d->h'.am (0+3)= .box s3 d'->qB (j (.aQ (0+2) g 0) (.aQ (0+3) s3 0) h') d d'):
 qB (Ez u 0 j (.aQ (0+2) g 0) (.aQ (0+3) s3 0) h) x y:=by
 obtain⟨P,Q⟩:=pa;obtain⟨R,S⟩:=n;obtain⟨T,V⟩:=o;obtain⟨W,X⟩:=r;obtain⟨e,B,Y⟩:=w;have C:∀(p q:az) (k:ao->ay),cv false (.aN 7 [p,q]) k=k (aA 2):=λp q k=>gC _ _ k;have Z:([a,d]:bg)[0]? =some a:=rfl;have al:([a,d]:bg)[1]? =some d:=rfl;have w0:([c,d']:bg)[0]? =some c:=rfl;have ar:([c,d']:bg)[1]? =some d':=rfl;rw[Ez,bn,aH,av,aL,C,b7,cd,bA,bc,U2,b8,g5];rw[p7,iz];have i:(2:Int)-1=1:=rfl;have D:(0:Int)+1=1:=rfl;have E:(999999:Nat)=999998+1:=rfl;have l:qB (fm 2 3 5 55 56 999999 (y9 u 0 (Ey u 0 j)) (.aQ (0+2) g 0) (.aQ (0+3) s3 0) (aA 2) (aA 1) (aA 1) h) d d':=by rw[E,iz];generalize fm 2 3 5 55 56 999998 (y9 u 0 (Ey u 0 j))=F;rw[y9,cz,bA,bc,Ey,aH,aS,bO,aP,av,aL,b8,g5,dW,be,be,aP,i,jC,aS,be,aP,cI,aU,aH,U0,aS,bO,aP,av,aL,b8,g5,dW,be,be,aP,i,jC,aS,be,aP,cI,aU,bO,aP,eS,bO,aP,eS];exact K _ inferInstance inferInstance (fS (gn z)) (gn (fS A))
 generalize fm 2 3 5 55 56 999999 (y9 u 0 (Ey u 0 j))=F at l;cases e;refine .aF ?_;rw[y9,b7,cz,bM,bw,NW,aH,aS,bO,aP,av,aL,dW,be,be,aP,gQ,aS,be,aP,cI,aU,aH,aS,bO,aP,av,aL,NV,dW,be,be,aP,gQ,aS,be,aP,cI,aU,be,be,aP,a6,a6,aq,aq,a0,e1,jI,bw,sk,bJ,cl,dh,aq];exact b6;obtain⟨G,H,I⟩:=l;refine⟨G,λh=>t (H h) (B rfl),?_⟩;rw[y9,b7,cz,bM,bw,NW,aH,aS,bO,aP,av,aL,dW,be,be,aP,gQ,aS,be,aP,cI,aU,aH,aS,bO,aP,av,aL,NV,dW,be,be,aP,gQ,aS,be,aP,cI,aU,be,be,aP,a6,a6,aq,aq,a0,e1,gX,bc,b8,fV];rw[D];exact I
theorem f126{k:Int}{I c1 J L N O P Q R S:Nat}{o:ao}{T:Int}{V W X Y Z al ar bd bs bx:Nat}{r:ao}(c:A4 x k I c1 J L N O P Q R S o)(i:A4 y T V W X Y Z al ar bd bs bx r)
 (b2:o= .ba\/∃a d,o= .aN 7 [a,d])(cc:r= .ba\/∃a d,r= .aN 7 [a,d])(h2:h.am (0+2)= .box g x)(h3:h.am (0+3)= .box s3 y)
 (K:((o=r->x=y)/\((o= .ba/\r= .ba)\/∃a d F d',o= .aN 7 [a,d]/\r= .aN 7 [F,d']))->qB (Ez u 0 j (.aQ (0+2) g 0) (.aQ (0+3) s3 0) h) x y):
 qB (qH u 0 j (.aQ (0+2) g 0) (.aQ (0+3) s3 0) h) x y:=by
 have cn:=c.v.dB;have cs:=c.v.c8;have cu:=c.v.cX;have cY:=c.v.nc;have c0:=c.v.iH;have w:=c.v.gD;have dd:=i.v.dB;have ds:=i.v.c8;have dt:=i.v.cX;have dz:=i.v.nc;have ee:=i.v.iH;have z:=i.v.gD;have em:=c.aa;have en:=i.aa;have A:=c.v.t3;have B:=i.v.t3;have D:∀(p q:az) (k:ao->ay),cv false (.aN 7 [p,q]) k=k (aA 2):=λp q k=>gC _ _ k;have E:∀k:ao->ay,cv false .ba k=k (aA 0):=λk=>li k;by_cases e0:k=T
 rotate_left 1
 refine .aF ?_;rw[qH,bn,aH,av,aL,aH,tT,av,aL,eL,bM,gf,sO,cf,cA,gf,sN,cf,cA,gf,sM,cf,cA,gf,sL,cf,cA,gf,sP,cf,cA,bw,sk,bJ,cl,dh,aq];exact b6;cases l:gu (eN I c1 V W)
 rotate_left 1
 refine .aF ?_;rw[qH,bn,aH,av,aL,aH,tT,av,aL,eL,bA,cV,aH,av,aL,aH,av,aL,gq,l,sO,cf,ch,gf,sN,cf,cA,gf,sM,cf,cA,gf,sL,cf,cA,gf,sP,cf,cA,bw,sk,bJ,cl,dh,aq];exact b6;cases n:gu (eN J L X Y)
 rotate_left 1
 refine .aF ?_;rw[qH,bn,aH,av,aL,aH,tT,av,aL,eL,bA,cV,aH,av,aL,aH,av,aL,gq,l,sO,cf,ch,cV,aH,av,aL,aH,av,aL,gq,n,sN,cf,ch,gf,sM,cf,cA,gf,sL,cf,cA,gf,sP,cf,cA,bw,sk,bJ,cl,dh,aq];exact b6;cases t:gu (c7 (eN P Q ar bd) (eN N O Z al))
 rotate_left 1
 refine .aF ?_;rw[qH,bn,aH,av,aL,aH,tT,av,aL,eL,bA,cV,aH,av,aL,aH,av,aL,gq,l,sO,cf,ch,cV,aH,av,aL,aH,av,aL,gq,n,sN,cf,ch,cV,aH,av,dG w,A,aH,av,dG z,B,nO,t,sM,cf,ch,gf,sL,cf,cA,gf,sP,cf,cA,bw,sk,bJ,cl,dh,aq];exact b6;cases C:gu (eN R S bs bx)
 rotate_left 1
 refine .aF ?_;rw[qH,bn,aH,av,aL,aH,tT,av,aL,eL,bA,cV,aH,av,aL,aH,av,aL,gq,l,sO,cf,ch,cV,aH,av,aL,aH,av,aL,gq,n,sN,cf,ch,cV,aH,av,dG w,A,aH,av,dG z,B,nO,t,sM,cf,ch,cV,aH,av,aL,aH,av,aL,gq,C,sL,cf,ch,gf,sP,cf,cA,bw,sk,bJ,cl,dh,aq];exact b6;have b1:o=r->x=y:=by rintro rfl;have f1:=oe c.fD i.fD (yh l);have f2:=oe c.cy i.cy (yh n);have f34:=yh t;rw[hY,cC]at f34;have f4:=oe c.cG i.cG f34.1;have f3:=oe c.bP i.bP f34.2;have f5:=oe c.cU i.cU (yh C);rw[c.v.eq,i.v.eq,e0,f1.1,f1.2,f2.1,f2.2,f3.1,f3.2,f4.1,f4.2,f5.1,f5.2]
 rcases b2 with rfl|⟨a,d,rfl⟩<;>rcases cc with rfl|⟨F,d',rfl⟩;obtain⟨e,G,H⟩:=K ⟨b1,.inl ⟨rfl,rfl⟩⟩;refine⟨e,G,?_⟩;rw[qH,bn,aH,av,aL,aH,tT,av,aL,eL,bA,cV,aH,av,aL,aH,av,aL,gq,l,sO,cf,ch,cV,aH,av,aL,aH,av,aL,gq,n,sN,cf,ch,cV,aH,av,dG w,A,aH,av,dG z,B,nO,t,sM,cf,ch,cV,aH,av,aL,aH,av,aL,gq,C,sL,cf,ch,cV,EA,aH,av,aL,E,aH,av,aL,E,eL,sP,cf,ch,bA,bc];exact H;refine .aF ?_;rw[qH,bn,aH,av,aL,aH,tT,av,aL,eL,bA,cV,aH,av,aL,aH,av,aL,gq,l,sO,cf,ch,cV,aH,av,aL,aH,av,aL,gq,n,sN,cf,ch,cV,aH,av,dG w,A,aH,av,dG z,B,nO,t,sM,cf,ch,cV,aH,av,aL,aH,av,aL,gq,C,sL,cf,ch,cV,EA,aH,av,aL,E,aH,av,aL,D,eL,sP,cf,ch,bM,bw,sk,bJ,cl,dh,aq];exact b6;refine .aF ?_;rw[qH,bn,aH,av,aL,aH,tT,av,aL,eL,bA,cV,aH,av,aL,aH,av,aL,gq,l,sO,cf,ch,cV,aH,av,aL,aH,av,aL,gq,n,sN,cf,ch,cV,aH,av,dG w,A,aH,av,dG z,B,nO,t,sM,cf,ch,cV,aH,av,aL,aH,av,aL,gq,C,sL,cf,ch,cV,EA,aH,av,aL,D,aH,av,aL,E,eL,sP,cf,ch,bM,bw,sk,bJ,cl,dh,aq];exact b6;obtain⟨e,G,H⟩:=K ⟨b1,.inr ⟨a,d,F,d',rfl,rfl⟩⟩;refine⟨e,G,?_⟩;rw[qH,bn,aH,av,aL,aH,tT,av,aL,eL,bA,cV,aH,av,aL,aH,av,aL,gq,l,sO,cf,ch,cV,aH,av,aL,aH,av,aL,gq,n,sN,cf,ch,cV,aH,av,dG w,A,aH,av,dG z,B,nO,t,sM,cf,ch,cV,aH,av,aL,aH,av,aL,gq,C,sL,cf,ch,cV,EA,aH,av,aL,D,aH,av,aL,D,eL,sP,cf,ch,bA,bc];exact H
end
theorem aqm{D:Nat}(E:∀m c x k c' y,m<D->gH m c x->gH k c' y->sD u 126 x y):∀(n c:Nat) (x:az),gH n c x->n<=D->∀(k c':Nat) (y:az),gH k c' y->∀(M g s3:Nat) (h:aO),cp h 0->dS h->n<M->h.am (0+2)= .box g x->h.am (0+3)= .box s3 y->
 qB (lK 2 3 M (qH u 0) (.aQ (0+2) g 0) (.aQ (0+3) s3 0) h) x y:=by
 intro n;induction n using Nat.strongRecOn with
 |_ n F=>
 intro c x i V k c' y l M g s3 h ub b5 W e o;obtain⟨M,rfl⟩:=eC M;have G:=i.p;have H:=l.p;obtain⟨X,Y,c1,Z,p,a3,c3,a4,c4,a5,c5,al,q,Ad⟩:=i.aa;obtain⟨ar,bd,bs,bx,cc,cn,cs,cu,cY,c0,dd,L',r,t⟩:=l.aa;rw[vX];refine f126 q r (Ad.imp id λ⟨m,c1,p,a,d,_,h,_⟩=>⟨a,d,h⟩) (t.imp id λ⟨m,c1,p,a,d,_,h,_⟩=>⟨a,d,h⟩) e o λ⟨w,I⟩=>?_;have J:=q.v.iH;have K:=r.v.iH;rcases I with⟨rfl,rfl⟩|⟨a,d,a',d',rfl,rfl⟩;refine⟨true,λ_=>w rfl,?_⟩;have L:∀k:ao->ay,cv false .ba k=k (aA 0):=λk=>li k;generalize lK 2 3 M (qH u 0)=j2;rw[Ez,bn,aH,av,aL,L,b7,cd,bM,bw,sk,bJ,cf,dh,aq];exact b6;obtain⟨m,ds,dt,b1,b2,en,N,z,A⟩:=Ad.elim (λh=>by cases h) id;obtain⟨m',dz,ee,em,eq,er,O,B,C⟩:=t.elim (λh=>by cases h) id;cases N;cases O;refine atU z.p A.p B.p C.p J K G.1 H.1 (λP e=>w (by rw[P,e])) (E _ _ _ _ _ _ (by omega) z B) e o λh' Q R S T=>F m (by omega) _ _ A (by omega) _ _ _ C M g s3 h' Q R (by omega) S T
theorem YC{n c:Nat}{x:az}(a:gH n c x){k c':Nat}{y:az}(d:gH k c' y)(p:n<=900)(i:∀m c x k c' y,m<n->gH m c x->gH k c' y->sD u 126 x y):qB (Bo u [.agg x,.agg y] 0 .nil) x y:=by obtain⟨e,l,o⟩:=aqm i n c x a (dn _) k c' y d 1000000 (fK (bN 0 .nil) 0 2 42) (fK ((bN 0 .nil).cB 0 2 42 x) 0 3 42) (((bN 0 .nil).cB 0 2 42 x).cB 0 3 42 y) inferInstance inferInstance (by omega) (fZ ec) ec;refine⟨e,l,?_⟩;rw[Bo,ep,U1,b3,b3];exact o
theorem ZH:∀n:Nat,n<=900->bV λu=>∀m c x k c' y,m<=n->gH m c x->gH k c' y->sD u 126 x y:=by
 intro n;induction n with
 |zero=>
  intro _;refine bV.lL.up λl _ m c x k c' y p a d=>?_;obtain rfl:m=0:=by omega
  obtain⟨e,i,o⟩:=YC (u:=bR bX l) a d (by omega) λm c x k c' y h=>absurd h (by omega);exact⟨e,i,eO Bo o⟩
 |succ n q=>intro t;refine(q (by omega)).up λl H m c x k c' y p a d=>?_;obtain⟨e,i,o⟩:=YC (u:=bR bX l) a d (by omega) λr c x k c' y h=>H r c x k c' y (by omega);exact⟨e,i,eO Bo o⟩
end
end
section
variable{x y o t s:az}{n:Nat}{m l:bg}{r L j:ao}
section
variable[Tok] {u:Fn}{b:Nat}
theorem aaY:(oS.all λh=>Nat.blt h.2.1 (256^h.1)&&Nat.blt h.2.2.2.1 (256^h.2.2.1))=true:=by decide+kernel
theorem F7{x y:Nat}(h:Nat.blt x y=true):x<y:=by rw[m9]at h;exact qv h
structure kj (t:az) (aa:Int) (a1 c1 a2 c2:Nat) (aj:az) (L:ao):Prop where
 v:lh t aa (.s a1 c1) (.s a2 c2) aj L
 aa:1<=aa/\aa<=3
 fD:c1<256^a1
 cy:c2<256^a2
 aj:∃c,gH 3 c aj
theorem gH.le{m c:Nat}(h:gH n c o)(a:n<=m):gH m c o:=by
 induction a with
 |refl=>exact h
 |step _ d=>exact d.mono
theorem cq.aa(h:cq n t):∃k p c1 q w o L,kj t k p c1 q w o L/\(L= .ba\/∃m l,n=m+1/\L= .aN 11 l/\l.length<=3/\∀t∈l,cq m t):=by
 cases h with
 |var _ i hi=>refine⟨1,_,_,_,_,dD,.ba,⟨uZ rfl,by omega,by decide,?_,_,LS.le (by omega)⟩,.inl rfl⟩;show 0x78+i<256^1;omega
 |gT _ o ho=>obtain⟨m,c,z,a⟩:=ho.am;exact⟨2,0,0,0,0,_,.ba,⟨qm a.p.1 a.p.2,by omega,by omega,by omega,c,a.q6.le z⟩,.inl rfl⟩
 |g3 m h e l B A=>have d:=gp aaY e;rw[cC]at d;have g:=gp Rr e;rw[cC]at g;have C:=dX g.2;exact⟨3,_,_,_,_,dD,_,⟨yB rfl,by omega,F7 d.1,F7 d.2,_,LS.le (by omega)⟩,.inr ⟨_,l,rfl,rfl,by omega,A⟩⟩
def rx(u:Fn)(x y:az):Prop:=∃e,(e=true->x=y)/\∀b aC,u 93 [.agg x,.agg y] b aC= .ok (.U e) b aC []
theorem rx.aX(h:rx u x y):∃e,(e=true->x=y)/\bf u 93 [.agg x,.agg y] (.U e):=by obtain⟨e,a,c⟩:=h;exact⟨e,a,_,_,c 0 .nil⟩
theorem apG{f:Nat}{p q:az}{h:aO}(a:cg p=true)(c:cg q=true)(H:∀b aC,u f [.agg p,.agg q] b aC= .ok r b aC [])(k:dv):
 nd u b (.bo (.func (.func f) ⟨[]⟩ ⟨[]⟩)) [.agg p,.agg q] [] h k=k r h:=by
 have d:nd u b (.bo (.func (.func f) ⟨[]⟩ ⟨[]⟩)) [.agg p,.agg q] [] h k=oV h.am (λps us=>dC u b f (aZ ps []) us h k) [] [.agg p,.agg q]:=rfl;have e:oV h.am (λps us=>dC u b f (aZ ps []) us h k) [] [.agg p,.agg q]=bi h.am (.agg p) λx s=>bi h.am (.agg q) λy t=>dC u b f [x,y] (aZ s (aZ t [])) h k:=by simp only[oV];rfl
 rw[d,e,a6 a,a6 c,aq,aq];obtain⟨ub,bj,dd⟩:=h;have g:dC u b f [.agg p,.agg q] [] (.mk ub bj dd) k=js b ub dd k (u f [.agg p,.agg q] ub bj):=rfl;rw[g,H];have i:js b ub dd k (.ok r ub bj [])=bB (Nat.ble ub ub) (k r (.mk ub bj dd)) .aF:=rfl;rw[i,eT,dJ (dn ub),da]
theorem aqn(Q:l.length=m.length)(R:l.length<=3)(H:∀(i:Nat) (p q:az),l[i]? =some p->m[i]? =some q->fR p/\fR q/\rx u p q):∀(n i N:Nat) (h:aO),n+i=l.length->n<N->cp h 0->dS h->
 ∃e,(e=true->l.drop i=m.drop i)/\∃s d,fm 1 2 15 16 17 N (vq u 0 (λg=>ts 0 dx g)) (.aN 11 m) (.bo (.func (.func 93) ⟨[]⟩ ⟨[]⟩)) (.aN 11 l) (aA l.length) (aA ((i:Nat):Int)) h= .ok (.U e) 0 s d:=by
 intro n;induction n with
 |zero=>intro i N h E F ub b5;obtain⟨N,rfl⟩:=eC N;refine⟨true,λ_=>by rw[pm,pm],?_⟩;rw[iz];generalize fm 1 2 15 16 17 N (vq u 0 (λg=>ts 0 dx g))=G;rw[vq,cz,bA,bc,ts,bJ,cf,dh,aq];exact b6
 |succ n I=>
  intro i N h E F ub b5;obtain⟨N,rfl⟩:=eC N;have gl:l[i]? =some (l[i]'(by omega)):=fo _;have A:m[i]? =some (m[i]'(by omega)):=fo _;obtain⟨⟨J,B⟩,⟨K,C⟩,e,a,c⟩:=H i _ _ gl A;have el:l.drop i=(l[i]'(by omega))::l.drop (i+1):=sy _;have D:m.drop i=(m[i]'(by omega))::m.drop (i+1):=sy _;generalize (l[i]'(by omega))=p at gl J B a c el;generalize (m[i]'(by omega))=q at A K C a c D;have z:=λh ub b5=>I (i+1) N h (by omega) (by omega) ub b5;have M:((i+1:Nat):Int)=(i:Int)+1:=by omega
  rw[M]at z;rw[iz];generalize fm 1 2 15 16 17 N (vq u 0 (λg=>ts 0 dx g))=G at z;have w:=λ(h:aO) (k:dv)=>apG (b:=0) (h:=h) B C c k;cases e;refine⟨false,λh=>(by cases h),?_⟩;rw[vq,cz,bM,bw,NY,fH,cI,aU,cF,cM,NX,fH,cI,aU,cF,cM,av,aU,av,aU,w,e1,jI,bw,ts,bJ,cl,dh,aq];exact b6;obtain⟨e,O,P⟩:=z ((((h.cB 0 8 44 cW).dp 0 8 p).cB 0 9 44 cW).dp 0 9 q) inferInstance inferInstance;refine⟨e,λh=>by rw[el,D,a rfl,O h],?_⟩;rw[vq,cz,bM,bw,NY,fH,cI,aU,cF,cM,NX,fH,cI,aU,cF,cM,av,aU,av,aU,w,e1,gX,bc,b8,fV];exact P
theorem akg(w:(L= .ba/\l=[])\/(L= .aN 11 l/\l≠[]))(z:(j= .ba/\m=[])\/(j= .aN 11 m/\m≠[]))(A:l.length<=3)(H:∀(i:Nat) (p q:az),l[i]? =some p->m[i]? =some q->fR p/\fR q/\rx u p q):
 ∃e,(e=true->L=j)/\∃s d,za u [L,j,.bo (.func (.func 93) ⟨[]⟩ ⟨[]⟩)] 0 .nil= .ok (.U e) 0 s d:=by
 have a:∀k:ao->ay,cv false .ba k=k (aA ((0:Nat):Int)):=λk=>li k;by_cases c:l.length=m.length;rcases w with⟨rfl,rfl⟩|⟨rfl,B⟩<;>rcases z with⟨rfl,rfl⟩|⟨rfl,C⟩;refine⟨true,λ_=>rfl,?_⟩;rw[za,iY,I6,a,a,eL,bA,bc,NZ,a];rw[p7,iz];generalize fm 1 2 15 16 17 999999 (vq u 0 (λg=>ts 0 dx g))=I;rw[b7];rw[vq,cz,bA,bc,ts,bJ,cf,dh,aq];exact b6;exact absurd (AO.1 c.symm) C;exact absurd (AO.1 c) B;obtain⟨e,D,E⟩:=aqn c A H l.length 0 1000000 (bN 0 .nil) (by omega) (by omega) inferInstance inferInstance;refine⟨e,λh=>by have:=D h;simp only[sA]at this;rw[this],?_⟩;rw[za,iY,I6,gC,gC,eL,bA,bc,NZ,gC];rw[b7];exact E;refine⟨false,λh=>(by cases h),?_⟩;have F:∀k:ao->ay,cv false L k=k (aA l.length):=λk=>by rcases w with⟨rfl,rfl⟩|⟨rfl,_⟩;exact a k;exact gC _ _ k
 have G:∀k:ao->ay,cv false j k=k (aA m.length):=λk=>by rcases z with⟨rfl,rfl⟩|⟨rfl,_⟩;exact a k;exact gC _ _ k
 rw[za,iY,I6,F,G,eL,bM];rw[bw,ts,bJ,cl,dh,aq];exact b6
theorem GN(a c d c' x y x' e:Nat)(k:ao->ay):iP false (.agg [.s a c,.s x y]) (.agg [.s d c',.s x' e]) k=k (.U (c7 (eN x y x' e) (eN a c d c'))):=rfl
theorem als{k:Int}{w c1 z A:Nat}{B:Int}{C D E F:Nat}{o':az}(a:kj t k w c1 z A o L)(c:kj s B C D E F o' j)
 (K:sD u 126 o o')(M:∃e,(e=true->L=j)/\bf u 127 [L,j,.bo (.func (.func 93) ⟨[]⟩ ⟨[]⟩)] (.U e))(N:∀(ob:dE) (f:gI),bi ob L f=f L [])(O:∀(ob:dE) (f:gI),bi ob j f=f j []):
 qB (vD u [.agg t,.agg s] 0 .nil) t s:=by
 have S:=a.v.dB;have T:=a.v.iM;have g:=a.v.fC;have G:=a.v.gD;have i:=a.v.t1;have H:=a.v.t3;have V:=c.v.dB;have W:=c.v.iM;have p:=c.v.fC;have I:=c.v.gD;have q:=c.v.t1;have J:=c.v.t3;have X:=a.aa;have Y:=c.aa;obtain⟨Z,ho⟩:=a.aj;obtain⟨al,P⟩:=c.aj;obtain⟨fP,ar⟩:=ho.p;obtain⟨a3,a4⟩:=P.p;obtain⟨e,Q,a5⟩:=K;obtain⟨e',R,bd⟩:=M;by_cases e0:k=B
 rotate_left 1
 refine .aF ?_;rw[vD,ep];rw[FV,b3,b3,bn,aH,av,aL,aH,FU,av,aL,cd,bA,gB,Cf,cl,ch,gB,Ce,cl,ch,gB,ch,Ds,bJ,dh,aq];exact b6;cases d:c7 (eN z A E F) (eN w c1 C D);refine .aF ?_;rw[vD,ep];rw[FV,b3,b3,bn,aH,av,aL,aH,FU,av,aL,cd,bM,dR,aH,av,dG g,i,aH,av,dG p,q,GN,d,Cf,cl,cA,gB,Ce,cl,ch,gB,ch,Ds,bJ,dh,aq];exact b6;cases e;refine .aF ?_;rw[vD,ep];rw[FV,b3,b3,bn,aH,av,aL,aH,FU,av,aL,cd,bM,dR,aH,av,dG g,i,aH,av,dG p,q,GN,d,Cf,cl,cA,dR,PS,aH,av,dG G,H,aH,av,dG I,J,b4,a6,a6,aq,aq,a0,Ce,cl,cA,gB,ch,Ds,bJ,dh,aq];exact b6;refine⟨e',λh=>?_,?_⟩;rw[hY,cC]at d;have f2:=oe a.cy c.cy d.1;have f1:=oe a.fD c.fD d.2;rw[a.v.eq,c.v.eq,e0,f1.1,f1.2,f2.1,f2.2,Q rfl,R h];rw[vD,ep];rw[FV,b3,b3,bn,aH,av,aL,aH,FU,av,aL,cd,bM,dR,aH,av,dG g,i,aH,av,dG p,q,GN,d,Cf,cl,cA,dR,PS,aH,av,dG G,H,aH,av,dG I,J,b4,a6,a6,aq,aq,a0,Ce,cl,cA,dR,X2,aH,av,aL,aH,av,aL,N,O,aq,aq,a0,cA,Ds,bJ,dh,aq];exact b6
theorem aut{g:jj}(a:cg x=true)(c:cg y=true)(h:∃s d,g u [.agg x,.agg y] 0 .nil= .ok r 0 s d)(b:Nat)(aC:cD):v8 g u [.agg x,.agg y] b aC= .ok r b aC []:=by obtain⟨s,d,e⟩:=h;have i:v8 g u [.agg x,.agg y] b aC=bB (@Bool.rec (λ_=>Bool) false (@Bool.rec (λ_=>Bool) false true (cg y)) (cg x)) (@ay.rec (λ_=>ay) .aF (λr ub _ _=>bB (Nat.beq ub 0) (.ok r b aC []) .aF) (g u [.agg x,.agg y] 0 .nil)) .aF:=rfl;rw[i,a,c,e];rfl
theorem kj.args(h:L= .ba\/∃m l,n=m+1/\L= .aN 11 l/\l.length<=3/\∀t∈l,cq m t):∃l,((L= .ba/\l=[])\/L= .aN 11 l)/\l.length<=3/\∀t∈l,∃m,m<n/\cq m t:=by rcases h with rfl|⟨m,l,rfl,rfl,a,c⟩;exact⟨[],.inl ⟨rfl,rfl⟩,by simp,λt h=>by cases h⟩;exact⟨l,.inr rfl,a,λt h=>⟨m,by omega,c t h⟩⟩
theorem cq.k4(h:cq n t):∃k a c1 c d o L l,kj t k a c1 c d o L/\((L= .ba/\l=[])\/(L= .aN 11 l/\l≠[]))/\l.length<=3/\∀t∈l,∃m,m<n/\cq m t:=by
 cases h with
 |var _ i hi=>obtain⟨k,a,c1,c,d,o,L,g,p⟩:=(cq.var 0 i hi).aa;obtain rfl:L= .ba:=p.elim id λ⟨m,l,h,_⟩=>absurd h (by omega);exact⟨k,a,c1,c,d,o,_,[],g,.inl ⟨rfl,rfl⟩,by simp,λt h=>by cases h⟩
 |gT _ o ho=>obtain⟨k,a,c1,c,d,o',L,g,p⟩:=(cq.gT 0 o ho).aa;obtain rfl:L= .ba:=p.elim id λ⟨m,l,h,_⟩=>absurd h (by omega);exact⟨k,a,c1,c,d,o',_,[],g,.inl ⟨rfl,rfl⟩,by simp,λt h=>by cases h⟩
 |g3 m h z l A B=>have q:=gp aaY z;rw[cC]at q;have w:=gp Rr z;rw[cC]at w;have C:=dX w.1;have D:=dX w.2;exact⟨3,_,_,_,_,dD,_,l,⟨yB rfl,by omega,F7 q.1,F7 q.2,_,LS.le (by omega)⟩,.inr ⟨rfl,λe=>by rw[e]at A;simp at A;omega⟩,by omega,λt h=>⟨m,by omega,B t h⟩⟩
theorem anq(a:fR t)(c:fR s)(h:qB (vD (bR bX n) [.agg t,.agg s] 0 .nil) t s):rx (bR bX (n+1)) t s:=by obtain⟨e,d,g⟩:=h;exact⟨e,d,λb aC=>by rw[bZ 93 (v8 vD) n];exact aut a.2 c.2 g b aC⟩
theorem aej{l:Nat}(C:∀m c x k c' y,m<=3->gH m c x->gH k c' y->sD (bR bX (l+1)) 126 x y)(D:∀m k t s,m<n->cq m t->cq k s->rx (bR bX l) t s){k:Nat}(a:cq n t)(d:cq k s):rx (bR bX (l+1+1)) t s:=by
 obtain⟨Q,R,c1,S,T,o,L,V,g,w,E,F⟩:=a.k4;obtain⟨W,X,Y,Z,al,o',j,ar,vs,z,a3,G⟩:=d.k4;obtain⟨a4,ho⟩:=g.aj;obtain⟨a5,H⟩:=vs.aj;have I:∃e,(e=true->L=j)/\bf (bR bX (l+1)) 127 [L,j,.bo (.func (.func 93) ⟨[]⟩ ⟨[]⟩)] (.U e):=by
  obtain⟨e,J,K⟩:=akg (u:=bR bX l) w z E λi p q M N=>by obtain⟨m,O,A⟩:=F p (eH M);obtain⟨P,bd,B⟩:=G q (eH N);exact⟨A.p,B.p,D m P p q O A B⟩
  exact⟨e,J,eO za K⟩
 have hd:∀{L:ao}{l:bg},((L= .ba/\l=[])\/(L= .aN 11 l/\l≠[]))->∀(ob:dE) (f:gI),bi ob L f=f L []:=λh ob f=>by rcases h with⟨rfl,_⟩|⟨rfl,_⟩<;>rfl
 exact anq a.p d.p (als g vs (C _ _ _ _ _ _ (dn _) ho H) I (hd w) (hd z))
theorem QW:∀n:Nat,bV λu=>∀m k t s,m<=n->cq m t->cq k s->rx u t s:=by
 intro n;induction n with
 |zero=>
  obtain⟨N,h⟩:=ZH 3 (by omega);refine⟨N+2,λl d m k t s e a c=>?_⟩;obtain⟨l,rfl⟩:∃x,l=x+1+1:=⟨l-2,by omega⟩;obtain rfl:m=0:=by omega
  exact aej (h (l+1) (by omega)) (λm k t s h=>absurd h (by omega)) a c
 |succ n g=>obtain⟨N,h⟩:=(ZH 3 (by omega)).and g;refine⟨N+2,λl d m k t s e a c=>?_⟩;obtain⟨l,rfl⟩:∃x,l=x+1+1:=⟨l-2,by omega⟩;exact aej (h (l+1) (by omega)).1 (λi k t s p=>(h l (by omega)).2 i k t s (by omega)) a c
end
end
section
variable{L:ao}{l:bg}{n r c1 j q a c:Nat}{t o:az}{k:Int}
section
variable[Tok] {u:Fn}{b:Nat}
theorem jX(a c d c':Nat)(k:ao->ay):cj (.s a c) (.s d c') k=k (.U (eN a c d c')):=rfl
def l3(L:ao)(l:bg):Prop:=(L= .ba/\l=[])\/(L= .aN 11 l/\l≠[])
theorem l3.len(h:l3 L l)(k:ao->ay):cv false L k=k (aA l.length):=by rcases h with⟨rfl,rfl⟩|⟨rfl,_⟩;exact li k;exact gC _ _ k
theorem l3.fh(h:l3 L l)(ob:dE)(f:gI):bi ob L f=f L []:=by rcases h with⟨rfl,_⟩|⟨rfl,_⟩<;>rfl
theorem cq.C8(h:cq n t):∃k r c1 j q o L l,kj t k r c1 j q o L/\l3 L l/\l.length<=3/\∀t∈l,∃m,m<n/\cq m t:=h.k4
theorem alo(g:kj t k r c1 j q o L)(w:l3 L l)(y:l.length<=3){n:Int}(z:0<=n/\n<=3):
 ∃e,(e=true->k=3/\eN r c1 4 0x6c697370=true/\eN j q a c=true/\(l.length:Int)=n)/\∃s d,xl u [.agg t,.s a c,aA n] 0 .nil= .ok (.U e) 0 s d:=by
 have A:=g.v.dB;have B:=g.v.iM;have C:=g.aa;have x:=w.len;have D:t[0+1+0]? =some (.s r c1):=by rw[g.v.eq];rfl
 have E:t[0+1+1]? =some (.s j q):=by rw[g.v.eq];rfl
 have F:=g.v.ad;have G:=g.v.ja;by_cases e0:k=3
 rotate_left 1
 refine⟨false,λh=>(by cases h),?_⟩;rw[xl,iY];rw[FQ,b3,FP,bn,aH,av,aL,fu,cd,bA,gB,Cb,cl,ch,gB,Ca,cl,ch,gB,ch,Dr,bJ,dh,aq];exact b6;cases i:eN r c1 4 0x6c697370;refine⟨false,λh=>(by cases h),?_⟩;rw[xl,iY];rw[FQ,b3,FP,bn,aH,av,aL,fu,cd,bM,dR,aH,aH,av,aL,jX,i,Cb,cl,cA,gB,Ca,cl,ch,gB,ch,Dr,bJ,dh,aq];exact b6;cases p:eN j q a c;refine⟨false,λh=>(by cases h),?_⟩;rw[xl,iY];rw[FQ,b3,FP,bn,aH,av,aL,fu,cd,bM,dR,aH,aH,av,aL,jX,i,Cb,cl,cA,dR,aH,aH,av,aL,jX,p,Ca,cl,cA,gB,ch,Dr,bJ,dh,aq];exact b6;refine⟨decide ((l.length:Int)=n),λh=>⟨e0,rfl,rfl,qv h⟩,?_⟩;rw[xl,iY];rw[FQ,b3,FP,bn,aH,av,aL,fu,cd,bM,dR,aH,aH,av,aL,jX,i,Cb,cl,cA,dR,aH,aH,av,aL,jX,p,Ca,cl,cA,dR,bn,aH,av,aL,x,cd,cA,Dr,bJ,dh,aq];exact b6
theorem akf(i:kj t k r c1 j q o L)(y:l3 L l)(A:l.length<=3){n:Int}(B:0<=n/\n<=3):
 ∃e,(e=true->k=3/\eN r c1 4 0x6c697370=true/\eN j q a c=true/\(l.length:Int)=n)/\∃s d,y8 u [.agg t,.s a c,aA n] 0 .nil= .ok (.U e) 0 s d:=by
 have C:=i.v.dB;have D:=i.v.iM;have p:=i.v.fC;have w:=i.v.t1;have E:=i.aa;have z:=y.len;have F:=i.v.ad;have G:=i.v.ja;have ps:∀f:az->ay,eu 0 1 (.s 4 0x6c697370) [.s 0 0,.s 0 0] f=f [.s 4 0x6c697370,.s 0 0]:=λf=>rfl;have x:∀f:az->ay,eu 1 1 (.s a c) [.s 4 0x6c697370,.s 0 0] f=f [.s 4 0x6c697370,.s a c]:=λf=>rfl;by_cases e0:k=3
 rotate_left 1
 refine⟨false,λh=>(by cases h),?_⟩;rw[y8,iY];rw[I5,b3,bn,aH,av,aL,fu,cd,bA,gB,Ex,cl,ch,gB,ch,Hq,bJ,dh,aq];exact b6;cases g:c7 (eN j q a c) (eN r c1 4 0x6c697370);refine⟨false,λh=>(by cases h),?_⟩;rw[y8,iY];rw[I5,b3,bn,aH,av,aL,fu,cd,bM,dR,NU,aH,av,dG p,w,ps,x,iZ,GN,g,Ex,cl,cA,gB,ch,Hq,bJ,dh,aq];exact b6;rw[hY,cC]at g;refine⟨decide ((l.length:Int)=n),λh=>⟨e0,g.2,g.1,qv h⟩,?_⟩;have g:c7 (eN j q a c) (eN r c1 4 0x6c697370)=true:=by rw[hY,g.1,g.2];rfl
 rw[y8,iY];rw[I5,b3,bn,aH,av,aL,fu,cd,bM,dR,NU,aH,av,dG p,w,ps,x,iZ,GN,g,Ex,cl,cA,dR,bn,aH,av,aL,z,cd,cA,Hq,bJ,dh,aq];exact b6
theorem cq.call(h:cq n t)(d:kj t 3 r c1 j q o L)(z:l3 L l)(A:c<256^a)(B:eN r c1 4 0x6c697370=true)(C:eN j q a c=true):
 t=dI dH (.s a c) l/\∃m,n=m+1/\(4,0x6c697370,a,c,l.length)∈oS/\∀t∈l,cq m t:=by
 have f1:=oe d.fD (by decide) B;have f2:=oe d.cy A C;have x:=d.v.dB;have D:=d.v.iM;have E:=d.v.t1;cases h with
 |var _ i hi=>have w:=(uZ (p:=kD) (n:=DD i) rfl).dB;have:=x.symm.trans w;simp only[dN]at this;exact absurd (pe this (by omega) (by omega)) (by omega)
 |gT _ o ho=>have w:=(qm ho.mi.pp.v.1 ho.mi.pp.v.2).dB;have:=x.symm.trans w;simp only[dN]at this;exact absurd (pe this (by omega) (by omega)) (by omega)
 |g3 m g F l' G H=>
  have I:=(pK g l').iM;have J:=(pK g l').t1;have e:=D.symm.trans I;simp only[dN]at e;have y:=E.symm.trans J;simp only[jQ,ao.s.injEq,and_true]at y;obtain⟨⟨c8,cX⟩,ih,og⟩:=y;rcases z with⟨rfl,rfl⟩|⟨rfl,_⟩;cases e;simp only[ao.aN.injEq,true_and]at e;subst e;have K:g=(4,0x6c697370,a,c,l.length):=by refine Prod.ext ?_ (Prod.ext ?_ (Prod.ext ?_ (Prod.ext ?_ ?_)));exact c8.symm.trans f1.1;exact cX.symm.trans f1.2;exact ih.symm.trans f2.1;exact og.symm.trans f2.2;exact G.symm
  subst K;exact⟨rfl,m,rfl,F,H⟩
theorem aa9(n a c:Nat)(l:bg):nj (bR bX (n+9) 125 [.s a c,.aN 11 l] 0 .nil)= .ok (.agg (dI dH (.s a c) l)) 0 .nil []:=by kernel_rfl
def afH(u:Fn)(n:Nat)(t:az):Prop:=∃d,cq (n+1) d/\(t=dI dH (.s 3 0x6e6f74) [d]\/d=dI dH (.s 3 0x6e6f74) [t])/\bf u 91 [.agg t] (.agg d)
theorem alq(h:cq n t)(A:∀k r c1 j q o L l,kj t k r c1 j q o L->l3 L l->l.length<=3->∃e,(e=true->k=3/\eN r c1 4 0x6c697370=true/\eN j q 3 0x6e6f74=true/\(l.length:Int)=1)/\bf u 124 [.agg t,.s 3 0x6e6f74,aA 1] (.U e))
 (B:∀a c l,bf u 125 [.s a c,.aN 11 l] (.agg (dI dH (.s a c) l))):∃p,cq (n+1) p/\(t=dI dH (.s 3 0x6e6f74) [p]\/p=dI dH (.s 3 0x6e6f74) [t])/\∃s d,Cd u [.agg t] 0 .nil= .ok (.agg p) 0 s d:=by
 obtain⟨k,r,c1,j,q,o,L,l,g,i,C,E⟩:=h.C8;obtain⟨e,D,y⟩:=A k r c1 j q o L l g i C;have F:=g.v.iM;have G:=g.v.ad;have H:=g.v.ja;cases e;have I:=B 3 0x6e6f74 [t];have J:(dI dH (.s 3 0x6e6f74) [t]).length=11:=rfl;have K:cg (dI dH (.s 3 0x6e6f74) [t])=true:=rfl;refine⟨dI dH (.s 3 0x6e6f74) [t],cq.one C3 h,.inr rfl,?_⟩;rw[Cd,jp];rw[b8.symm]at y;rw[PR,b3,cF,av,aU,a6,aq,a0,bc,XY,av,aU,jB,aq,iR,jY,aq,a0,cM,Mp,eU,aU,bJ,a6,aq];exact b6;obtain⟨rfl,f1,f2,f3⟩:=D rfl;obtain⟨w,m,rfl,_,x⟩:=h.call g i (by decide) f1 f2
 match l,f3,i,w,x with
 |[a],_,i,w,x=>have z:=x a fQ;obtain⟨M,N⟩:=z.p;obtain rfl:L= .aN 11 [a]:=i.elim (λh=>by cases h.2) λh=>h.1;refine⟨a,z.le (by omega),.inl w,?_⟩;rw[Cd,jp];rw[b8.symm]at y;rw[PR,b3,cF,av,aU,a6,aq,a0,bw,XZ,bn,aH,av,aL,b7,gQ,cI,aU,cM,Mp,eU,aU,bJ,a6,aq];exact b6
theorem QV:bV λu=>∀t,cq n t->∀k r c1 j q o L l,kj t k r c1 j q o L->l3 L l->l.length<=3->∀a c (z:Int),0<=z/\z<=3->∃e,(e=true->k=3/\eN r c1 4 0x6c697370=true/\eN j q a c=true/\(l.length:Int)=z)/\bf u 89 [.agg t,.s a c,aA z] (.U e):=
 bV.lL.up λx _ t _ k r c1 j q o L l d g h a c z i=>by obtain⟨e,p,w⟩:=alo (u:=bR bX x) d g h (a:=a) (c:=c) i;exact⟨e,p,eO xl w⟩
theorem ZT:bV λu=>∀m t,m<=n->cq m t->afH u m t:=by
 have p:bV λu=>∀t k r c1 j q o L l,kj t k r c1 j q o L->l3 L l->l.length<=3->∃e,(e=true->k=3/\eN r c1 4 0x6c697370=true/\eN j q 3 0x6e6f74=true/\(l.length:Int)=1)/\bf u 124 [.agg t,.s 3 0x6e6f74,aA 1] (.U e):=
  bV.lL.up λx _ t k r c1 j q o L l w y d=>by obtain⟨e,g,i⟩:=akf (u:=bR bX x) w y d (a:=3) (c:=0x6e6f74) (n:=1) (by omega);exact⟨e,g,eO y8 i⟩
 have z:bV λu=>∀a c l,bf u 125 [.s a c,.aN 11 l] (.agg (dI dH (.s a c) l)):=bV.run λn a c l=>lN (aa9 n a c l);refine(p.and z).up λx H m t B h=>?_;obtain⟨A,g,i,d⟩:=alq (u:=bR bX x) h (H.1 t) H.2;exact⟨A,g,i,eO Cd d⟩
theorem aqI(x:fR t)(H:∀a∈l,fR a/\rx u a t)(I:l.length<=900){s3:Nat}:∀(n i N:Nat) (h:aO),n+i=l.length->n<N->cp h 0->dS h->h.am (0+3)= .box s3 t->
 ∃e,(e=true->t∈l)/\∃s d,gd 3 7 8 9 N (vC u 0 (λi=>wd 0 cQ i)) (.aQ (0+3) s3 0) (.aN 11 l) (aA l.length) (aA ((i:Nat):Int)) h= .ok (.U e) 0 s d:=by
 obtain⟨t1,t2⟩:=x;intro n;induction n with
 |zero=>intro i N h y z ub b5 g;obtain⟨N,rfl⟩:=eC N;refine⟨false,λh=>(by cases h),?_⟩;rw[jt];generalize gd 3 7 8 9 N (vC u 0 (λi=>wd 0 cQ i))=A;rw[vC,cz,bA,bc,wd,bJ,cl,dh,aq];exact b6
 |succ n B=>
  intro i N h y z ub b5 g;obtain⟨N,rfl⟩:=eC N;obtain⟨a,w⟩:∃a,l[i]? =some a:=⟨_,fo (by omega)⟩;obtain⟨⟨J,K⟩,C⟩:=H a (eH w);obtain⟨e,D,M⟩:=C.aX;have p:=λh ub b5 g=>B (i+1) N h (by omega) (by omega) ub b5 g;have E:((i+1:Nat):Int)=(i:Int)+1:=by omega
  rw[E]at p;rw[jt];generalize gd 3 7 8 9 N (vC u 0 (λi=>wd 0 cQ i))=A at p;cases e;obtain⟨e,F,G⟩:=p ((h.cB 0 6 44 cW).dp 0 6 a) inferInstance inferInstance (fS (fZ g));refine⟨e,F,?_⟩;rw[vC,cz,bM,bw,PP,fH,PO,cI,aU,cF,cM,av,aU,av,aU,b4,a6,a6,aq,aq,a0,bc,b8,fV];exact G;refine⟨true,λ_=>D rfl▸eH w,?_⟩;rw[vC,cz,bM,bw,PP,fH,PO,cI,aU,cF,cM,av,aU,av,aU,b4,a6,a6,aq,aq,a0,bw,wd,bJ,cf,dh,aq];exact b6
theorem alp{v:ao}(p:cE 11 v l)(g:fR t)(H:∀a∈l,fR a/\rx u a t)(w:l.length<=900):∃e,(e=true->t∈l)/\∃s d,Cc u [v,.agg t] 0 .nil= .ok (.U e) 0 s d:=by have x:=g;obtain⟨t1,t2⟩:=g;rcases p with⟨rfl,rfl⟩|rfl;refine⟨false,λh=>(by cases h),?_⟩;have y:∀k:ao->ay,cv false .ba k=k (aA ((0:Nat):Int)):=λk=>li k;rw[Cc,ep,PQ,b3,y];rw[p7,jt];generalize gd 3 7 8 9 999999 (vC u 0 (λi=>wd 0 cQ i))=B;rw[vC,b7,cz,bA,bc,wd,bJ,cl,dh,aq];exact b6;obtain⟨e,z,A⟩:=aqI x H w l.length 0 1000000 ((bN 0 .nil).cB 0 3 44 t) (by omega) (by omega) inferInstance inferInstance ec;refine⟨e,z,?_⟩;rw[Cc,ep,PQ,b3,gC];rw[b7];exact A
end
end
def qa(r:Nat->Rat)(k:Nat):Rat:=if k=0 then 1 else if k<10 then r (k-1) else r ((k-10)/9)*r ((k-10) %9)
section
variable{h:eZ}{l:bg}{o:az}
def of(h g:eZ):Bool:=Nat.beq h.1 g.1&&(Nat.beq h.2.1 g.2.1&&(Nat.beq h.2.2.1 g.2.2.1&&Nat.beq h.2.2.2.1 g.2.2.2.1))
theorem aaU:(hT.all λh=>hT.all λg=> !of h g||Nat.beq h.2.2.2.2 g.2.2.2.2)=true:=by decide+kernel
theorem aom:(lW.all λh=> !of h i5&&ko.all λg=> !of h g)=true:=by decide+kernel
theorem aon:(ko.all λg=> !of g i5)=true:=by decide+kernel
theorem Gq(h:eZ):of h h=true:=by simp[of,fI]
theorem Am(c:h∈lW):h≠i5/\h∉ko:=by have:=gp aom c;rw[cC]at this;refine⟨λe=>?_,λd=>?_⟩;have a:=this.1;rw[e,Gq]at a;cases a;have b:=gp this.2 d;rw[Gq]at b;cases b
theorem KR(a:h∈ko):h≠i5:=λe=>by have:=gp aon a;rw[e,Gq]at this;cases this
section
variable[Tok] {D:eZ->List dc->az->Prop}{e:List (dc×az)}
theorem pb{g:eZ}{m:bg}(k:h∈hT)(n:g∈hT)(p:eG h l=eG g m):h=g/\l=m:=by
 have a:dI (.s h.1 h.2.1) (.s h.2.2.1 h.2.2.2.1) l=dI (.s g.1 g.2.1) (.s g.2.2.1 g.2.2.2.1) m:=p;unfold dI at a;simp only[jQ,ao.s.injEq,ao.aN.injEq,and_true,true_and]at a;obtain⟨⟨b,c⟩,⟨d,i⟩,q⟩:=a;have j:=gp (gp aaU k) n;have r:of h g=true:=by simp[of,b,c,d,i]
 rw[r]at j;have t:=e8 (show Nat.beq h.2.2.2.2 g.2.2.2.2=true from j);exact⟨Prod.ext b (Prod.ext c (Prod.ext d (Prod.ext i t))),q⟩
def Inv(D:eZ->List dc->az->Prop)(e:List (dc×az))(h:eZ)(l:bg)(o:az):Prop:=
 (h=i5/\∃a c d,l=[a,c,d]/\((∃x,eD D e a x/\x≠e5/\eD D e c o)\/(eD D e a e5/\eD D e d o)))\/
 (h∈lW/\∃xs:bg,l.length=xs.length/\(∀(i:Nat) (t x:az),l[i]? =some t->xs[i]? =some x->eD D e t x)/\lg h.2.2.2.1 xs o)\/
 (h∈ko/\∃ps b,∃xs:bg,D h ps b/\l.length=xs.length/\(∀(i:Nat) (t x:az),l[i]? =some t->xs[i]? =some x->eD D e t x)/\eD D (kX ps xs) b o)
theorem Aa{a c:Int}{l m:az}(h:a≠c)(b: -1000<a:=by omega)(d: -1000<c:=by omega):aA a::l≠aA c::m:=λe=>h (pe (List.cons.inj e).1 b d)
theorem z6(a:h∈lW):h∈hT:=ii _ (qt _ a)
theorem uI(a:h∈ko):h∈hT:=ii _ (AW _ a)
theorem AI{t:az}(V:eD D e t o):(∀s:dc,t=kQ (.s s.1 s.2.1) (.s s.2.2.1 s.2.2.2)->nT s e=some o)/\(∀x,t=fg x->o=x)/\(∀h l,h∈hT->t=eG h l->Inv D e h l o):=by
 have w:∀{p n:ao}{x:az},kQ p n≠fg x:=λh=>by unfold kQ fg at h;rw[b8,e4]at h;exact Aa (a:=1) (c:=2) (by omega) (by omega) (by omega) h
 have j:∀{p n:ao}{h:eZ}{l:bg},kQ p n≠eG h l:=λh=>by unfold kQ eG dI at h;rw[b8,fu]at h;exact Aa (a:=1) (c:=3) (by omega) (by omega) (by omega) h
 have nI:∀{x:az}{h:eZ}{l:bg},fg x≠eG h l:=λh=>by unfold fg eG dI at h;rw[e4,fu]at h;exact Aa (a:=2) (c:=3) (by omega) (by omega) (by omega) h
 cases V with
 |var _ s o h=>refine⟨λz b=>?_,λx b=>absurd b w,λh l _ b=>absurd b j⟩;unfold kQ at b;simp only[jQ,ao.s.injEq,and_true,true_and]at b;have:s=z:=Prod.ext b.1.1 (Prod.ext b.1.2 (Prod.ext b.2.1 b.2.2));rw[<-this];exact h
 |gT _ o=>refine⟨λs b=>absurd b.symm w,λx b=>?_,λh l _ b=>absurd b nI⟩;unfold fg at b;simpa using b
 |vQ _ a c d x y q A B=>refine⟨λs b=>absurd b.symm j,λx b=>absurd b.symm nI,λh l i b=>?_⟩;obtain⟨rfl,rfl⟩:=pb fQ i b;exact .inl ⟨rfl,a,c,d,rfl,.inl ⟨x,q,A,B⟩⟩
 |xU _ a c d y q hd=>refine⟨λs b=>absurd b.symm j,λx b=>absurd b.symm nI,λh l i b=>?_⟩;obtain⟨rfl,rfl⟩:=pb fQ i b;exact .inl ⟨rfl,a,c,d,rfl,.inr ⟨q,hd⟩⟩
 |Aj _ g k l' xs o r u ho=>refine⟨λs b=>absurd b.symm j,λx b=>absurd b.symm nI,λh l i b=>?_⟩;obtain⟨rfl,rfl⟩:=pb (z6 k) i b;exact .inr (.inl ⟨k,xs,r,u,ho⟩)
 |fn _ g k ps C E l' xs o r u F=>refine⟨λs b=>absurd b.symm j,λx b=>absurd b.symm nI,λh l i b=>?_⟩;obtain⟨rfl,rfl⟩:=pb (uI k) i b;exact .inr (.inr ⟨k,ps,C,xs,E,r,u,F⟩)
theorem TH(b:h∈lW)(V:eD D e (eG h l) o):∃xs:bg,l.length=xs.length/\(∀(i:Nat) (t x:az),l[i]? =some t->xs[i]? =some x->eD D e t x)/\lg h.2.2.2.1 xs o:=by obtain⟨c,d⟩:=Am b;rcases(AI V).2.2 h l (z6 b) rfl with⟨a,_⟩|⟨_,a⟩|⟨a,_⟩;exact absurd a c;exact a;exact absurd a d
theorem aeS(b:h∈ko)(V:eD D e (eG h l) o):∃ps c,∃xs:bg,D h ps c/\l.length=xs.length/\(∀(i:Nat) (t x:az),l[i]? =some t->xs[i]? =some x->eD D e t x)/\eD D (kX ps xs) c o:=by rcases(AI V).2.2 h l (uI b) rfl with⟨a,_⟩|⟨a,_⟩|⟨_,a⟩;exact absurd a (KR b);exact absurd b (Am a).2;exact a
theorem aeT{a c d:az}(V:eD D e (eG i5 [a,c,d]) o):(∃x,eD D e a x/\x≠e5/\eD D e c o)\/(eD D e a e5/\eD D e d o):=by rcases(AI V).2.2 i5 _ fQ rfl with⟨_,i,c',d',g,h⟩|⟨b,_⟩|⟨b,_⟩;simp only[jQ,and_true]at g;obtain⟨rfl,rfl,rfl⟩:=g;exact h;exact absurd rfl (Am b).1;exact absurd rfl (KR b)
end
end
end Go.Hf

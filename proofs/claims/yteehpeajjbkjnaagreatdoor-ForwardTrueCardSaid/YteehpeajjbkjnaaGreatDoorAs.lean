import Derived.Test.YteehpeajjbkjnaaGreatDoorAr
set_option maxRecDepth 100000
set_option linter.all false
noncomputable section
namespace Go.Hf
open Go.RowKit
section
variable{o t:az}{n A c1 j w:Nat}{L:ao}
section
variable[Tok] {u:Fn}{b:Nat}
abbrev Mt (h:Nat×Nat×Nat×Nat×Nat):Option Nat:=bif Nat.beq h.2.1 0x6c697370 then ql h.2.2.1 h.2.2.2.1 else none
theorem ZU:bV λu=>∀h∈oS,bf u 94 [.agg [.s h.1 h.2.1,.s h.2.2.1 h.2.2.2.1]] (.bD [aA ((Mt h).getD 0:Nat),.U (Mt h).isSome]):=bV.hE 30 λn h a=>hF (gp (apc n) a)
theorem aox(h:Ry o=true):∃s,(o,s)∈o9:=by obtain⟨p,a,e⟩:=nC.1 h;have:=na e;exact⟨p.2,this▸a⟩
theorem amT:bV λu=>∀m y,cq m y->∃e,bf u 267 [.agg y] (.U e)/\(e=true->∃o s,(o,s)∈o9/\y=fg o/\bf u 129 [.agg o] (aA ((s:Nat):Int))):=bV.hE 60 λn m y k=>by
 have L:∀o∈nf,∃e,bf (bR bX (n+60)) 267 [.agg (fg o)] (.U e)/\(e=true->∃o' s,(o',s)∈o9/\fg o=fg o'/\bf (bR bX (n+60)) 129 [.agg o'] (aA ((s:Nat):Int))):=λo ho=>by refine⟨Ry o,hF (gp (aoW n) ho),λe=>?_⟩;obtain⟨s,g⟩:=aox e;exact⟨o,s,g,rfl,hF (gp (aoK n) g)⟩
 cases k with
 |var _ i hi=>exact⟨false,hF (aoZ n i),λe=>(by cases e)⟩
 |gT _ o ho=>
  cases ho with
  |nS o h=>exact L o (qt _ h)
  |Db x h=>exact L _ (G7 h)
  |vF m c c' a d p q hd=>exact⟨false,hF (aoY n a d),λe=>(by cases e)⟩
 |g3 m h r l z B=>exact⟨false,hF (aoX n _ _ _),λe=>(by cases e)⟩
theorem ZG:bV λu=>∀a c l,bf u 125 [.s a c,.aN 11 l] (.agg (dI dH (.s a c) l)):=bV.run λn a c l=>lN (aa9 n a c l)
theorem ana:bV λu=>A5 u n:=by
 have a:bV λu=>∀x y,fR x->fR y->bf u 92 [.agg x,.agg y] (.agg (dI dH (.s 5 0x657175616c) [x,y])):=ZG.up λx h p q c d=>eO FT (alr c d h);have e:bV λu=>bf u 266 [bt] (.agg (fw 0 1))/\bf u 265 [.agg (fw 0 1)] (.agg (fg (fw 0 1))):=bV.hE 30 λx=>by have h:=aoV x;rw[cC]at h;exact⟨by rw[b7];exact hF h.1,hF h.2⟩
 refine(((QW n).and ZU).and ((amT.and e).and a)).imp λx h=>?_;obtain⟨⟨g,i⟩,⟨k,l,r⟩,z⟩:=h;exact⟨g,i,k,l,r,z⟩
theorem Ur{f:Nat}{C:Nat->Prop}{args:az}(g:jj)(h:iW C (g (bR bX n) args 0 .nil))(e:bR bX (n+1) f=g (bR bX n):=by kernel_rfl):wz C (bR bX (n+1)) f args:=by obtain⟨s,l,e',a,c,d,i⟩:=h;exact⟨s,l,e',a,c,d,eO g i e⟩
theorem amP:bV λu=>∀m k x y,m<=n->cq m x->cq k y->wz (jR y x) u 211 [.agg x,.agg y]:=(ana (n:=n)).up λz h m k x y a c d=>Ur zi (akK h (c.le a) d)
theorem amM:bV λu=>∀m x y,cq n x->cq m y->wz (nD y x) u 169 [.agg x,.agg y]:=by have a:bV λu=>∀x,fR x->bf u 210 [.agg x] (.agg (dI dH (.s 3 0x6e6f74) [x])):=ZG.up λx h p c=>eO E1 (akJ c h);exact(((QW n).and (amP (n:=n))).and (a.and (QV (n:=n)))).up λz h m x y d e=>Ur vr (akq ⟨h.1.1,h.1.2,h.2.1,h.2.2⟩ d e)
def yW(t:az):Prop:=∀y,t≠ej 4 0x706f7370 y/\t≠ej 4 0x6e617470 y
theorem Sp{k:Int}(h:kj t k A c1 j w o L)(g:k=2\/G5 j w=true):yW t:=by
 have i:∀c y,t=ej 4 c y->k=3/\j=4/\w=c:=λc y e=>by have v:lh (ej 4 c y) 3 dH (.s 4 c) dD (.aN 11 [y]):=yB rfl;have d:=h.v.dB;have a:=h.v.t1;rw[e,v.dB]at d;rw[e,v.t1]at a;simp only[dN]at d;simp only[jQ,ao.s.injEq,and_true]at a;have l:=h.aa;exact⟨(pe d (by omega) (by omega)).symm,a.2.1.symm,a.2.2.symm⟩
 refineλy=>⟨λe=>?_,λe=>?_⟩;obtain⟨rfl,rfl,rfl⟩:=i _ _ e;rcases g with h|h;omega;revert h;decide;obtain⟨rfl,rfl,rfl⟩:=i _ _ e;rcases g with h|h;omega;revert h;decide
theorem alI{h:Nat×Nat×Nat×Nat×Nat}{f:ay}{g:Nat->ay}(c:YS h f g=true):∃(z:Nat) (e:Bool),z<=3/\(∃s d,f= .ok (.bD [aA (z:Int),.U e]) 0 s d)/\(e=true->G5 h.2.2.1 h.2.2.2.1=true/\∃s:Nat,s<=2047/\∃bj d,g z= .ok (aA (s:Int)) 0 bj d):=by
 cases f with
 |aF=>cases c
 |ok r ub bj d=>have h':c7 (Nat.beq ub 0) (Qt h r g)=true:=c;rw[hY,cC]at h';obtain⟨i,a⟩:=h';have:=e8 i;subst this;unfold Qt at a;clear c;split at a;rename_i m e;rw[hY,cC,hY,cC]at a;obtain⟨c8,cX,ih⟩:=a;have c8:=dX c8;have cX:=dX cX;refine⟨m-18446744073709551616,e,by omega,⟨bj,d,?_⟩,λk=>?_⟩;rw[db];congr 4;congr 1;omega;subst k;have ih:c7 (G5 h.2.2.1 h.2.2.2.1) (zU (g (Nat.sub m 18446744073709551616)))=true:=ih;rw[hY,cC]at ih;exact⟨ih.1,CN ih.2⟩;cases a
theorem amG:bV λu=>∀h∈oS,∃(z:Nat) (e:Bool),z<=3/\bf u 130 [.agg [.s h.1 h.2.1,.s h.2.2.1 h.2.2.2.1]] (.bD [aA (z:Int),.U e])/\(e=true->G5 h.2.2.1 h.2.2.2.1=true/\∃s:Nat,s<=2047/\bf u 131 [.agg [.s h.1 h.2.1,.s h.2.2.1 h.2.2.2.1],.aN 1 ((List.replicate z 2047).map gh)] (aA (s:Int))):=
 bV.hE 60 λn h a=>alI (gp (aoL n) a)
theorem cq.alV(h:cq n t)(c:kj t 2 A c1 j w o L):m2 o:=by
 have d:=c.v.dB;have e:=c.v.t3;cases h with
 |var _ i hi=>have a:=(uZ (p:=kD) (n:=DD i) rfl).dB;have:=d.symm.trans a;simp only[dN]at this;exact absurd (pe this (by omega) (by omega)) (by omega)
 |gT _ o' ho=>have k:=(qm ho.mi.pp.v.1 ho.mi.pp.v.2).t3;have:=e.symm.trans k;exact this▸ho
 |g3 m g l l' q r=>have a:=(pK g l').dB;have:=d.symm.trans a;simp only[dN]at this;exact absurd (pe this (by omega) (by omega)) (by omega)
theorem cq.af6(h:cq n t)(c:kj t 3 A c1 j w o L):∃g∈oS,A=g.1/\c1=g.2.1/\j=g.2.2.1/\w=g.2.2.2.1:=by
 have d:=c.v.dB;have k:=c.v.t1;cases h with
 |var _ i hi=>have a:=(uZ (p:=kD) (n:=DD i) rfl).dB;have:=d.symm.trans a;simp only[dN]at this;exact absurd (pe this (by omega) (by omega)) (by omega)
 |gT _ o ho=>have a:=(qm ho.mi.pp.v.1 ho.mi.pp.v.2).dB;have:=d.symm.trans a;simp only[dN]at this;exact absurd (pe this (by omega) (by omega)) (by omega)
 |g3 m g l l' r x=>have q:=(pK g l').t1;have e:=k.symm.trans q;simp only[jQ,ao.s.injEq,and_true]at e;obtain⟨⟨c8,cX⟩,ih,og⟩:=e;exact⟨g,l,c8,cX,ih,og⟩
theorem am9:bV λu=>∀v es t,cE 11 v es->es.length<=900->(∀a∈es,cq n a)->cq n t->∃x,NI (λa s=>nD t a s) es (yW t) x/\bf u 95 [v,.agg t] (aA (x:Int)):=by
 have F:bV λu=>∀v t,(v= .ba\/∃l,v= .aN 11 l)->Ix u v t:=bV.hE 1 λn v t y=>akl y;refine(((amF.and amG).and (QV (n:=n))).and (((amM (n:=n)).and (ZT (n:=n))).and F)).up λz h v es t y G D i=>?_;obtain⟨⟨⟨H,I⟩,J⟩,⟨K,M⟩,N⟩:=h;obtain⟨k,A,c1,j,w,o,L,l,c,B,d,R⟩:=i.C8;have O:Uh (bR bX z) (λa s=>nD t a s) (yW t) v es t:=by refine⟨?_,?_,?_,?_,?_,?_⟩;rintro k A c1 j w o L c rfl;exact⟨Sp c (.inl rfl),H o (i.alV c)⟩;intro k A c1 j w o L l c B d;obtain⟨e,_,h⟩:=J t i k A c1 j w o L l c B d 2 0x6966 l.length (by omega);exact⟨e,h⟩;rintro k A c1 j w o L l c B rfl;obtain⟨g,P,rfl,rfl,rfl,rfl⟩:=i.af6 c;obtain⟨z,e,q,r,d⟩:=I g P;exact⟨z,e,q,r,λE _=>⟨Sp c (.inr (d E).1),(d E).2⟩⟩;intro a C;exact⟨(D a C).p,K n a t (D a C) i⟩;intro a C;obtain⟨Q,q,_,r⟩:=M n a (dn _) (D a C);exact⟨Q,q.p,r⟩;exact N v t (y.imp And.left λh=>⟨_,h⟩)
 obtain⟨x,q,r⟩:=alt y G c B d O;exact⟨x,q,eO ws r⟩
end
end
section
variable{p:Nat×Nat}{n:Nat}
section
variable[Tok] {u:Fn}{b:Nat}
def rV:List (Nat×Nat):=[(4,0x706f7370),(4,0x6e617470),(8,0x696e746567657270)]
theorem al5(a:p∈rV):(4,0x6c697370,p.1,p.2,1)∈oS:=by simp only[rV,e9,iV,iU]at a;rcases a with rfl|rfl|rfl<;>decide
theorem Cq(a c:Nat)(y:az):lh (ej a c y) 3 dH (.s a c) dD (.aN 11 [y]):=yB rfl
theorem Y6(a:p∈rV)(y:az):kj (ej p.1 p.2 y) 3 4 0x6c697370 p.1 p.2 dD (.aN 11 [y]):=by refine⟨Cq _ _ y,by omega,by decide,?_,1,LS.le (by omega)⟩;simp only[rV,e9,iV,iU]at a;rcases a with rfl|rfl|rfl<;>decide
theorem al6(y:az):yW (ej 8 0x696e746567657270 y):=Sp (Y6 (p:=(8,0x696e746567657270)) (by decide) y) (.inr (by decide))
def T5(u:Fn)(v:ao)(es:bg)(t:az):Prop:=∃r:Int,wA (λa s=>nD t a s) es (yW t) t r/\bf u 32 [v,.agg t] (aA r)
theorem aaZ{a c d c':Nat}{y z:az}(h:ej a c y=dI dH (.s d c') [z]):a=d/\c=c':=by have e:=(Cq a c y).t1;have g:=(Cq d c' z).t1;have i:(ej a c y)=ej d c' z:=h;rw[i,g]at e;simp only[jQ,ao.s.injEq,and_true]at e;exact⟨e.2.1.symm,e.2.2.symm⟩
theorem ZQ:bV λu=>∀p∈rV,∀v es y,cE 11 v es->es.length<=900->(∀a∈es,cq n a)->cq n (ej p.1 p.2 y)->cq n y->T5 u v es (ej p.1 p.2 y):=by
 have H:bV λu=>∀v l t,cE 11 v l->l.length<=900->(∀a∈l,cq n a)->cq (n+1) t->∃e,(e=true->t∈l)/\bf u 90 [v,.agg t] (.U e):=(QW n).up λz h v l t i k w d=>by obtain⟨e,g,j⟩:=alp (u:=bR bX z) i d.p (λa A=>⟨(w a A).p,h n (n+1) a t (dn _) (w a A) d⟩) k;exact⟨e,g,eO Cc j⟩
 refine((((am9 (n:=n)).and H).and (QV (n:=n))).and ((ZT (n:=n)).and ZU)).up λz h p c v es y i k o d B=>?_;obtain⟨⟨⟨C,D⟩,E⟩,I,J⟩:=h;have F:=Y6 c y;have G:l3 (.aN 11 [y]) [y]:= .inr ⟨rfl,by simp⟩;have O:Uf (bR bX z) (λa s=>nD (ej p.1 p.2 y) a s) (yW (ej p.1 p.2 y)) v es p.1 p.2 y (ej p.1 p.2 y):=by refine⟨?_,?_,?_,?_,?_,?_,?_⟩;obtain⟨e,q,h⟩:=E _ d 3 4 0x6c697370 p.1 p.2 dD _ _ F G (by simp) 3 0x6e6f74 1 (by omega);cases e;rw[b8];exact h;obtain⟨_,_,f,_⟩:=q rfl;exfalso;simp only[rV,e9,iV,iU]at c;rcases c with rfl|rfl|rfl<;>exact absurd f (by decide);obtain⟨e,q,h⟩:=E _ d 3 4 0x6c697370 p.1 p.2 dD _ _ F G (by simp) 5 0x657175616c 2 (by omega);cases e;rw[e4];exact h;obtain⟨_,_,_,f⟩:=q rfl;exact absurd f (by simp);rintro K (rfl|rfl);exact D v es _ i k o (d.le (by omega));exact D v es _ i k o (cq.one C3 d);obtain⟨K,_,g,j⟩:=I n _ (dn _) d;rcases g with g|rfl;have f:=aaZ g;exfalso;simp only[rV,e9,iV,iU]at c;rcases c with rfl|rfl|rfl<;>simp at f;exact j;refine⟨(Mt (4,0x6c697370,p.1,p.2,1)).getD 0,(Mt (4,0x6c697370,p.1,p.2,1)).isSome,?_,?_,J _ (al5 c)⟩;simp only[rV,e9,iV,iU]at c;rcases c with rfl|rfl|rfl<;>decide;simp only[rV,e9,iV,iU]at c;rcases c with rfl|rfl|rfl;exactλh=>absurd h (by decide);exactλh=>absurd h (by decide);exactλ_=>al6 y;exact C v es _ i k o d;obtain⟨x,g,j⟩:=C v es y i k o B;exact⟨x,g.1,j⟩
 obtain⟨r,g,j⟩:=ak7 rfl i B.p O;exact⟨r,g,eO tY j⟩
def afG(u:Fn)(p:Nat×Nat×Nat)(t:az):Prop:=(∃y n,t=ej p.1 p.2.1 y/\cq n y/\cq (n+1) t/\bf u 27 [.agg (ej p.1 p.2.1 (hR p.2.2)),.agg t,.ba] (.bD [.aN 13 [kV p.2.2 y],.U true]))\/bf u 27 [.agg (ej p.1 p.2.1 (hR p.2.2)),.agg t,.ba] (.bD [.ba,.U false])
theorem QZ{t:az}(h:cq n t){P:az->Prop}(H:∀(k:Int) (d c1 g i:Nat) (j:Int) (o d1 q d2 ik d3 jT d4 jU d5:Nat) (a c:ao),(a= .ba\/∃e f,a= .aN 7 [e,f])->(c= .ba\/∃l,c= .aN 11 l)->P (jx k d c1 g i j o d1 q d2 ik d3 jT d4 jU d5 a c)):P t:=by obtain⟨k,d,c1,g,i,j,o,d1,q,d2,ik,d3,jT,d4,jU,d5,a,c,rfl,r,w⟩:=h.anD;exact H _ _ _ _ _ _ _ _ _ _ _ _ _ _ _ _ _ _ r w
theorem amU:bV λu=>∀p∈qf,∀n t,cq n t->afG u p t:=bV.hE 40 λx p d n t a=>by
 cases a with
 |var _ i hi=>right;have h:=gp (gp (ao3 x) d) (show i∈[0,1,2] by simp;omega);exact hF h
 |gT _ o ho=>right;obtain⟨m,c,A,D⟩:=ho.am;obtain⟨E,F,d1,G,d2,ik,d3,jT,d4,jU,d5,H,g,I⟩:=D.q6.aa;rw[g.v.eq];exact lN (ao1 d x (I.imp id λ⟨_,_,_,e,f,_,h,_⟩=>⟨e,f,h⟩))
 |g3 m h j l g a=>
  have e:=gp (gp (ao2 x l) d) j;rw[oA]at e;rcases e with e|e;left;simp only[cC]at e;obtain⟨q,r,w⟩:=e;have q:=e8 q;have r:=e8 r;have w:=e8 w;obtain⟨z,B,M,N,J⟩:=h;subst q r w;have K:z=4/\J=1:=by
   have A:(oS.all λh=>qf.all λp=>gu (Nat.beq h.2.1 0x6c697370&&(Nat.beq h.2.2.1 p.1&&Nat.beq h.2.2.2.1 p.2.1))||(Nat.beq h.1 4&&Nat.beq h.2.2.2.2 1))=true:=by decide+kernel
   have:=gp (gp A j) d;simp only[fI,m0,oA,cC]at this;rcases this with h|h;cases h;exact⟨e8 h.1,e8 h.2⟩
  obtain⟨rfl,rfl⟩:=K
  match l,g,a with
  |[y],_,a=>have C:=a y fQ;have L:cq (m+1) (eG (4,0x6c697370,p.1,p.2.1,1) [y]):= .g3 m _ j [y] rfl a;refine⟨y,m,rfl,C,L,?_⟩;exact QZ C (P:=λy=>bf (bR bX (x+40)) 27 [.agg (ej p.1 p.2.1 (hR p.2.2)),.agg (ej p.1 p.2.1 y),.ba] (.bD [.aN 13 [kV p.2.2 y],.U true])) λk O c1 Q R E F d1 G d2 ik d3 jT d4 jU d5 H S z B=>lN (ao0 d x z B)
  exact .inr (hF e)
theorem ZO:bV λu=>∀p∈pH,∀n y,cq n y->bf u 29 [.agg (p.2 (hR p.1)),.aN 13 [kV p.1 y]] (.U false):=bV.hE 40 λx p a n y c=>
 QZ c (P:=λy=>bf (bR bX (x+40)) 29 [.agg (p.2 (hR p.1)),.aN 13 [kV p.1 y]] (.U false)) λk d c1 e g h i d1 j d2 ik d3 jT d4 jU d5 l o q r=>lN (ao4 a x)
theorem ZP:bV λu=>∀p∈pH,∀n y,cq n y->bf u 30 [.agg (p.2 (hR p.1)),.aN 13 [kV p.1 y]] (.agg (p.2 y)):=bV.hE 40 λx p a n y c=>
 QZ c (P:=λy=>bf (bR bX (x+40)) 30 [.agg (p.2 (hR p.1)),.aN 13 [kV p.1 y]] (.agg (p.2 y))) λk g c1 h i j l d1 o d2 ik d3 jT d4 jU d5 q r d e=>lN (ao5 a x d e)
end
end
section
variable{v:ao}{l:bg}
section
variable[Tok] {u:Fn}{b:Nat}
theorem arj:(999999:Nat)=999998+1:=rfl
theorem ak4(a:v= .ba\/∃l,v= .aN 11 l):∃s d,sT u [v,.ba,.aN 13 l] 0 .nil= .ok (.bD [.aN 13 l,.U true]) 0 s d:=by
 have h:∀(ob:dE) (f:gI),bi ob v f=f v []:=λob f=>by rcases a with rfl|⟨_,rfl⟩<;>rfl
 have c:∀k:ao->ay,cv false .ba k=k (aA ((0:Nat):Int)):=λk=>li k;rw[sT,iY,JH,c,p7,iz];generalize fm 0 2 15 16 17 999999 (xd u 0 (λe g=>wc 0 e dx g))=i;rw[xd,b7,cz,bA,bc,wc,i2,cf,dh,aq,aq];exact b6
theorem ak3(k:v= .ba\/∃l,v= .aN 11 l){h t:az}(ph:fR h)(ej:fR t)(o:bf u 29 [.agg h,.aN 13 l] (.U false))(p:bf u 30 [.agg h,.aN 13 l] (.agg t)){r:Int}(q:bf u 32 [v,.agg t] (aA r))(w:0<=r/\r<=2):
 (r=1/\∃s d,sT u [v,.aN 11 [h],.aN 13 l] 0 .nil= .ok (.bD [.aN 13 l,.U true]) 0 s d)\/∃s d,sT u [v,.aN 11 [h],.aN 13 l] 0 .nil= .ok (.bD [.ba,.U false]) 0 s d:=by
 obtain⟨x,y⟩:=ph;obtain⟨z,A⟩:=ej;have i:∀(ob:dE) (f:gI),bi ob v f=f v []:=λob f=>by rcases k with rfl|⟨_,rfl⟩<;>rfl
 have j:∀a:ao->ay,cv false (.aN 11 [h]) a=a (aA 1):=λa=>gC _ _ a;have B:(0:Int)+1=1:=rfl;by_cases e:r=1;subst e;left;refine⟨rfl,?_⟩;rw[sT,iY,JH,j,p7,iz,arj,iz];generalize fm 0 2 15 16 17 999998 (xd u 0 (λc g=>wc 0 c dx g))=n;rw[xd,b7,cz,bM,bw,O3,gQ,cI,aU,cF,O2,cM,av,aU,b4,a6,i2,aq,aq,a0,e1,jI,bw,O1,av,aU,b4,a6,i2,aq,aq,a0,b4,i,a6,aq,aq,a0,b8,eL,bA,bc,fV,xd,cz,bA,bc,wc,i2,cf,dh,aq,aq];exact b6;right;rw[sT,iY,JH,j,p7,iz];generalize fm 0 2 15 16 17 999999 (xd u 0 (λc g=>wc 0 c dx g))=n;rw[xd,b7,cz,bM,bw,O3,gQ,cI,aU,cF,O2,cM,av,aU,b4,a6,i2,aq,aq,a0,e1,jI,bw,O1,av,aU,b4,a6,i2,aq,aq,a0,b4,i,a6,aq,aq,a0,b8,eL,bM,bw,wc,uz,cl,dh,aq,aq];exact b6
theorem S4{p:Nat×(az->az)}(a:p∈pH)(y:az):fR (p.2 y):=by simp only[pH,e9,iV,iU]at a;rcases a with rfl|rfl|rfl|rfl<;>exact⟨rfl,rfl⟩
theorem amW:bV λu=>∀v es,cE 11 v es->∀l,bf u 28 [v,.ba,.aN 13 l] (.bD [.aN 13 l,.U true]):=bV.lL.up λz _ v es a l=>eO sT (ak4 (a.imp And.left λh=>⟨_,h⟩))
def GF:List (Nat×Nat):=[(4,0x706f7370),(4,0x6e617470)]
theorem amV{n:Nat}:bV λu=>∀p∈GF,∀v es y,cE 11 v es->es.length<=900->(∀a∈es,cq n a)->cq n (ej p.1 p.2 y)->cq n y->
 (wA (λa s=>nD (ej p.1 p.2 y) a s) es False (ej p.1 p.2 y) 1/\bf u 28 [v,.aN 11 [ej p.1 p.2 (hR 0x6e)],.aN 13 [kV 0x6e y]] (.bD [.aN 13 [kV 0x6e y],.U true]))\/bf u 28 [v,.aN 11 [ej p.1 p.2 (hR 0x6e)],.aN 13 [kV 0x6e y]] (.bD [.ba,.U false]):=by
 refine((ZQ (n:=n)).and (ZO.and ZP)).up λz h p c v es y j o q t g=>?_;obtain⟨w,x,A⟩:=h;have hd:p∈rV:=by simp only[GF,e9,iV,iU]at c;rcases c with rfl|rfl<;>decide
 have d:((0x6e,ej p.1 p.2):Nat×(az->az))∈pH:=by simp only[GF,e9,iV,iU]at c;rcases c with rfl|rfl;exact fQ;exact ii _ fQ
 obtain⟨r,i,B⟩:=w p hd v es y j o q t g;have C:¬yW (ej p.1 p.2 y):=λk=>by simp only[GF,e9,iV,iU]at c;rcases c with rfl|rfl;exact(k y).1 rfl;exact(k y).2 rfl
 rcases ak3 (u:=bR bX z) (j.imp And.left λh=>⟨_,h⟩) (S4 d (hR 0x6e)) (S4 d y) (x _ d n y g) (A _ d n y g) B ⟨i.1,i.2.1⟩ with⟨e,h⟩|h;refine .inl ⟨⟨by omega,by omega,λ_=>?_⟩,eO sT h⟩;rcases i.2.2 e with h|h|h;exact .inl h;exact absurd h C;exact .inr (.inr h);exact .inr (eO sT h)
end
end
section
variable{n:Nat}{o:az}{l:bg}
section
variable[Tok] {u:Fn}{b:Nat}
theorem gH.Co{c:Nat}(h:gH n c o):1<=c/\c+1<=2^(n+1):=by
 induction h with
 | @leaf n o h=>have:0<2^n:=Nat.two_pow_pos n;exact⟨by omega,by rw[m1];omega⟩
 | @cons n c c' a d _ _ e g=>exact⟨by omega,by rw[m1];omega⟩
theorem aqr{m:Nat}(H:∀n c o,n<m->gH n c o->∀l:Int,(c:Int)<=l->l<100000->bf u 164 [.agg o,aA l] (aA (l-c))):∀(n c:Nat) (o:az) (l:Int) (N:Nat) (h:aO) (j:Nat),n<=m->gH n c o->(c:Int)<=l->l<100000->n<N->cp h 0->dS h->h.am (0+2)= .box j o->
 ∃s d,lK 1 2 N (By u 0 (λe g=>gU e br λi=>Ht 0 i g)) (aA l) (.aQ (0+2) j 0) h= .ok (aA (l-c)) 0 s d:=by
 intro n;induction n using Nat.strongRecOn with
 |_ n z=>
 intro c o l N h j I ho J K L ub b5 w;obtain⟨N,rfl⟩:=eC N;have M:=ho.Co.1;rw[vX];cases ho with
 |leaf ho=>
  obtain⟨k,O,c1,P,Q,R,S,T,V,W,X,A⟩:=ho;have iH:=A.v.iH;have B:∀k:ao->ay,cv false .ba k=k (aA 0):=λk=>li k;generalize lK 1 2 N (By u 0 (λe g=>gU e br λi=>Ht 0 i g))=C;have q:l-((1:Nat):Int)=l-1:=by omega
  rw[q];rw[By,b7,i1,bM,dR,aH,av,aL,B,e4,cd,Jg,cl,cA,bA,bc,b8,g5,Ht,bJ,ei,aq];exact b6
 | @cons x p r a d t hd=>
   have Y:=(gH.Co t).1;have Z:=(gH.Co hd).1;obtain⟨al,ar⟩:=gH.p t;obtain⟨bd,bs⟩:=gH.p hd;have D:=(ug (a:=a) (d:=d)).ad;have iH:=(ug (a:=a) (d:=d)).iH;have bx:=H x p a (by omega) t (l-1) (by omega) (by omega);have y:=λ(h:aO) (E:cp h 0) (F:dS h)=>z x (by omega) r d (l-1-p) N h j (by omega) hd (by omega) (by omega) (by omega) E F;generalize lK 1 2 N (By u 0 (λe g=>gU e br λi=>Ht 0 i g))=C at y;have q:l-((1+p+r:Nat):Int)=l-1-p-r:=by omega
   rw[q];have G:∀k:ao->ay,cv false (.aN 7 [a,d]) k=k (aA 2):=λk=>gC _ _ k;generalize ([aA 4,.s 0 0,.s 0 0,.s 0 0,.s 0 0,.s 0 0,.aN 7 [a,d]]:az)=o at w D iH;rw[By,b7,i1,bM,dR,aH,av,aL,G,e4,cd,Jg,cl,cA,bM,bw,Oe,bn,aH,av,aL,b7,gQ,Vn,cI,aU,b8,g5,b4,a6,ei,aq,aq,a0,bn,aH,av,aL,jC,cI,aU,cM];exact y _ inferInstance inferInstance (gn w)
theorem amK:∀m:Nat,m<=900->bV λu=>∀n c o,n<=m->gH n c o->∀l:Int,(c:Int)<=l->l<100000->bf u 164 [.agg o,aA l] (aA (l-c)):=by
 have step:∀(m:Nat),m<=900->∀z,(∀n c o,n<m->gH n c o->∀l:Int,(c:Int)<=l->l<100000->bf (bR bX z) 164 [.agg o,aA l] (aA (l-c)))->∀n c o,n<=m->gH n c o->∀l:Int,(c:Int)<=l->l<100000->bf (bR bX (z+1)) 164 [.agg o,aA l] (aA (l-c)):=by intro m a z H n c o d ho l g i;have F:=λ(h:aO) (e:Nat) (ub:cp h 0) (b5:dS h) (j:h.am (0+2)= .box e o)=>aqr (u:=bR bX z) H n c o l 1000000 h e d ho g i (by omega) ub b5 j;obtain⟨p,q⟩:=ho.p;refine eO Jf ?_;rw[Jf,ep,Vo,b3];exact F _ _ inferInstance inferInstance ec
 intro m;induction m with
 |zero=>exactλ_=>bV.lL.up λz _=>step 0 (by omega) z λn c o h=>absurd h (by omega)
 |succ m k=>exactλa=>(k (by omega)).up λz h=>step (m+1) a z λn c o d=>h n c o (by omega)
theorem apR{a c:Int}(d: -18446744073709551616<=a:=by omega)(g: -18446744073709551616<=c:=by omega)(k:ao->ay):dj (rm false (aA a) (aA c)) k=k (aA (min a c)):=by rw[db,db,db];have e:rm false (.ag .i64 (a+18446744073709551616).toNat) (.ag .i64 (c+18446744073709551616).toNat)=some (.ag .i64 (bif Nat.blt (c+18446744073709551616).toNat (a+18446744073709551616).toNat then(c+18446744073709551616).toNat else(a+18446744073709551616).toNat)):=rfl;rw[e];show k _=_;congr 2;rw[show Nat.blt (c+18446744073709551616).toNat (a+18446744073709551616).toNat=decide ((c+18446744073709551616).toNat<(a+18446744073709551616).toNat) from m9 ..];by_cases h:c<a;rw[dJ (by omega),Int.min_eq_right (by omega)];rfl;rw[gy (by omega),Int.min_eq_left (by omega)];rfl
theorem ZF:bV λu=>∀o c,gH 3 c o->∃z:Int,1<=z/\z<=15/\bf u 123 [.agg o] (aA z):=(amK 3 (by omega)).up λz H o c ho=>by
 obtain⟨a,d⟩:=ho.p;have i:=ho.Co;have e:=H 3 c o (by omega) ho 3001 (by omega) (by omega);have g:(3001:Int)-(3001-(c:Int))=c:=by omega
 have h:max (0:Int) (3001-(c:Int))=3001-c:=by omega
 refine⟨c,by omega,by omega,eO I4 ?_⟩;rw[I4,jp,UZ,b3,av ec,aU a,a6 d,aq,LI,a0 e,b7,Ln (by omega) (by omega),h,g5 (by omega) (by omega) (by omega) (by omega),g,adm,bJ,ei,aq];exact b6
def Eh(u:Fn)(t:az):Prop:=∀z:Int,1<=z->z<=3001->∃r:Int,-100<=r/\r<=3001/\bf u 86 [.agg t,aA z] (aA r)
theorem aqH(K:l.length<=3)(H:∀t∈l,fR t/\Eh u t):∀(n i N:Nat) (z:Int) (h:aO),n+i=l.length->n<N-> -100<=z->z<=3001->cp h 0->dS h->
 ∃r:Int,-100<=r/\r<=3001/\∃s d,gd 1 21 22 23 N (sU u 0 (λc g=>pG 0 c g)) (aA z) (.aN 11 l) (aA l.length) (aA ((i:Nat):Int)) h= .ok (aA r) 0 s d:=by
 intro n;induction n with
 |zero=>intro i N z h w x k j ub b5;obtain⟨N,rfl⟩:=eC N;refine⟨z,k,j,?_⟩;rw[jt];generalize gd 1 21 22 23 N (sU u 0 (λc g=>pG 0 c g))=q;rw[sU,cz,bA,bc,pG,bJ,ei,aq];exact b6
 |succ n y=>
  intro i N z h w x k j ub b5;obtain⟨N,rfl⟩:=eC N;obtain⟨a,A⟩:∃a,l[i]? =some a:=⟨_,fo (by omega)⟩;obtain⟨⟨L,M⟩,B⟩:=H a (eH A);have C:((i+1:Nat):Int)=(i:Int)+1:=by omega
  by_cases e:z<=0;refine⟨z,k,j,?_⟩;rw[jt];generalize gd 1 21 22 23 N (sU u 0 (λc g=>pG 0 c g))=q;have D:min z 0=z:=by omega
  rw[sU,cz,bM,bw,PK,fH,cI,aU,cF,cM,b7,p1,bM,bw,apR,pG,bJ,ei,aq];rw[D];exact b6;obtain⟨r,E,F,v⟩:=B z (by omega) j;obtain⟨G,I,J,p⟩:=y (i+1) N r ((h.cB 0 6 44 cW).dp 0 6 a) (by omega) (by omega) E F inferInstance inferInstance;refine⟨G,I,J,?_⟩;rw[C]at p;rw[jt];generalize gd 1 21 22 23 N (sU u 0 (λc g=>pG 0 c g))=q at p ⊢;rw[sU,cz,bM,bw,PK,fH,cI,aU,cF,cM,b7,p1,bA,bc,XX,av,aU,b4,a6,ei,aq,aq,a0,b8,fV];exact p
theorem aln{t:az}{k:Int}{q c1 x y:Nat}{i:ao}(a:kj t k q c1 x y o i)(j:l3 i l)(A:l.length<=3)(B:∀o c,gH 3 c o->∃z:Int,1<=z/\z<=15/\bf u 123 [.agg o] (aA z))(H:∀t∈l,fR t/\Eh u t){z:Int}(N:1<=z)(O:z<=3001):
 ∃r:Int,-100<=r/\r<=3001/\∃s d,xk u [.agg t,aA z] 0 .nil= .ok (aA r) 0 s d:=by
 have P:=a.v.dB;have Q:=a.v.iM;have R:=a.aa;have S:=a.v.ad;have T:=a.v.ja;have C:=a.v.gD;have D:=a.v.t3;have p:=j.len;obtain⟨E,ho⟩:=a.aj;obtain⟨fP,V⟩:=ho.p;obtain⟨w,W,X,Y⟩:=B o E ho;by_cases e0:k=2;refine⟨z-w,by omega,by omega,?_⟩;rw[xk,ep];rw[FO,b3,bn,aH,av,aL,e4,cd,bM,bw,XW,aH,av,dG C,D,bE,a6,aq,a0,g5,pG,bJ,ei,aq];exact b6;by_cases Z:k=3
 rotate_left 1
 refine⟨z-1,by omega,by omega,?_⟩;rw[xk,ep];rw[FO,b3,bn,aH,av,aL,e4,cd,bA,bc,JY,fu,cd,bA,bc,b8,g5,pG,bJ,ei,aq];exact b6;rcases j with⟨rfl,rfl⟩|⟨rfl,al⟩;refine⟨z-1,by omega,by omega,?_⟩;have F:∀(h:aO) (G:cp h 0) (I:dS h),∃s d,gd 1 21 22 23 1000000 (sU u 0 (λe g=>pG 0 e g)) (aA (z-1)) .ba (aA (([]:bg).length:Int)) bt h= .ok (aA (z-1)) 0 s d:=λh G I=>by have J:(([]:bg).length:Int)=0:=rfl;rw[J,p7,jt];generalize gd 1 21 22 23 999999 (sU u 0 (λe g=>pG 0 e g))=j4;rw[sU,b7,cz,bA,bc,pG,bJ,ei,aq];exact b6
 rw[xk,ep];rw[FO,b3,bn,aH,av,aL,e4,cd,bA,bc,JY,fu,cd,bM,bw,PL,b8,g5,bn,aH,av,aL,p];exact F _ inferInstance inferInstance;obtain⟨r,K,L,M⟩:=aqH (u:=u) A H l.length 0 1000000 (z-1) ((bN 0 .nil).cB 0 2 44 t) (by omega) (by omega) (by omega) (by omega) inferInstance inferInstance;refine⟨r,K,L,?_⟩;rw[xk,ep];rw[FO,b3,bn,aH,av,aL,e4,cd,bA,bc,JY,fu,cd,bM,bw,PL,b8,g5,bn,aH,av,aL,p];rw[b7];exact M
theorem am7:∀n:Nat,bV λu=>∀m t,m<=n->cq m t->Eh u t:=by
 have step:∀(n:Nat) z,(∀o c,gH 3 c o->∃w:Int,1<=w/\w<=15/\bf (bR bX z) 123 [.agg o] (aA w))->(∀m t,m<n->cq m t->Eh (bR bX z) t)->∀m t,m<=n->cq m t->Eh (bR bX (z+1)) t:=by
  intro n z e H m t a g w i j;obtain⟨k,E,c1,F,G,o,I,l,p,q,x,y⟩:=g.C8;obtain⟨r,A,B,eE⟩:=aln (u:=bR bX z) p q x e (λt h=>by obtain⟨C,J,d⟩:=y t h;exact⟨d.p,H C t (by omega) d⟩) i j
  exact⟨r,A,B,eO xk eE⟩
 intro n;induction n with
 |zero=>exact ZF.up λz h=>step 0 z h λm t a=>absurd a (by omega)
 |succ n D=>exact(ZF.and D).up λz h=>step (n+1) z h.1 λm t a=>h.2 m t (by omega)
theorem amX:bV λu=>∀t,cq n t->∃r:Int,0<=r/\r<=3001/\bf u 31 [.agg t] (aA r):=(am7 n).up λz H t a=>by obtain⟨c,d⟩:=a.p;obtain⟨r,e,g,v⟩:=H n t (dn _) a 3001 (by omega) (by omega);rw[<-LI]at v;refine⟨3001-max 0 r,by omega,by omega,eO JI ?_⟩;rw[JI,jp,Xd,b3,av ec,aU c,a6 d,aq,a0 v,b7,Ln (by omega) (by omega),LI,g5 (by omega) (by omega) (by omega) (by omega),adA,bJ,ei,aq];exact b6
end
end
section
variable{g d:Nat}{cN:dE}{cs:az}
section
variable[Tok] {u:Fn}{b:Nat}
def D4(es:bg):Prop:=∀e∈es,∃n,e=[.ag .u8 n]/\18446744073709551616<=n/\n<=18446744073709551871
def D2(ob:dE)(q g L:Nat)(B:ao):Prop:=B= .ba\/∃a c es,B= .aV a c 0 es.length/\a<g/\a≠q/\ob a= .aV c 5 1 es false/\es.length<=L/\D4 es/\es≠[]
def T2(q s:Nat)(P:ao):Prop:=(P= .bo (.pointer none)/\s%65536=183)\/P= .aQ q s 0
def lz(ob:dE)(q s g L:Nat):Prop:=∃P B,ob q= .box s [P,B]/\T2 q s P/\D2 ob q g L B
def hI(ob:dE)(q k:Nat):Prop:=∃s P a n,ob q= .box s [P,.aV k a 0 n]
def oH(a:ay)(b:Nat)(aC:cD)(q s L:Nat):Prop:=∃r c e d,a= .ok r c e d/\b<=c/\lz (b9 c e) q s c L/\(∀k,k<b->k≠q->¬hI (b9 b aC) q k->b9 c e k=b9 b aC k)/\
 (∀k,hI (b9 c e) q k->hI (b9 b aC) q k\/(b<=k/\q∈d))/\(∀k∈d,k=q\/hI (b9 b aC) q k)/\∃k,hI (b9 c e) q k
def jo(u:Fn)(f:Nat)(args:az)(D:Nat):Prop:=∀(b:Nat) (aC:cD) (q s L:Nat),q<b->lz (b9 b aC) q s b L->L+D<=100000000000->oH (u f (.aQ q s 0::args) b aC) b aC q s (L+D)
structure D3 (b:Nat) (aC:cD) (q s L:Nat) (h:aO):Prop where
 lt:q<b
 ax:b+4096<=h.ax
 mH:lz h.am q s h.ax L
 ed:∀k,k<b->k≠q->¬hI (b9 b aC) q k->h.am k=b9 b aC k
 om:∀k,hI h.am q k->hI (b9 b aC) q k\/(b<=k/\q∈h.ck)
 ck:∀k∈h.ck,k=q\/hI (b9 b aC) q k
 bZ:∀k,hI (b9 b aC) q k->k<b/\k≠q
structure hW (b:Nat) (aC:cD) (q s L:Nat) (h:aO):Prop where
 ab:D3 b aC q s L h
 uE:∀k,hI h.am q k->k<b\/b+4096<=k
section
variable{aC:cD}{q s L:Nat}{h:aO}
theorem lz.CM{ob:dE}(H:lz ob q s g L):∀k,hI ob q k->k<g/\k≠q:=by rintro k ⟨l,o,p,n,e⟩;obtain⟨P,B,c,_,a⟩:=H;rw[e]at c;simp only[eQ.box.injEq,jQ,and_true]at c;obtain⟨_,_,rfl⟩:=c;rcases a with a|⟨r,t,es,a,i,j,_⟩;cases a;simp only[ao.aV.injEq]at a;obtain⟨rfl,_⟩:=a;exact⟨i,j⟩
theorem lz.le{ob:dE}{a:Nat}(H:lz ob q s g L)(t:L<=a):lz ob q s g a:=by obtain⟨P,B,c,e,i⟩:=H;exact⟨P,B,c,e,i.imp id λ⟨j,k,es,l,n,o,p,w,r⟩=>⟨j,k,es,l,n,o,p,by omega,r⟩⟩
theorem lz.am{ob:dE}{a:Nat}(H:lz ob q s g L)(y:g<=a)(l:cN q=ob q)(n:∀k,hI ob q k->cN k=ob k):lz cN q s a L:=by obtain⟨P,B,c,o,p⟩:=H;refine⟨P,B,l.trans c,o,p.imp id λ⟨e,i,es,j,z,r,t,w,x⟩=>⟨e,i,es,j,by omega,r,(n e ⟨s,P,i,es.length,by rw[c,j]⟩).trans t,w,x⟩⟩
theorem hI.hE{ob:dE}(a:cN q=ob q){k:Nat}(h:hI cN q k):hI ob q k:=by obtain⟨c,i,j,n,e⟩:=h;exact⟨c,i,j,n,a.symm.trans e⟩
theorem hW.aK(H:hW b aC q s L h):cp h b:=⟨H.ab.ax⟩
theorem hW.start(i:q<b)(c:lz (b9 b aC) q s b L):hW b aC q s L (bN b aC):=by have ho:∀k,k<b->(bN b aC).am k=b9 b aC k:=λk a=>r3 aC a;have e:∀k,hI (bN b aC).am q k->hI (b9 b aC) q k:=λk a=>a.hE (ho q i);refine⟨⟨i,dn _,c.am (Nat.le_add_right b 4096) (ho q i) λk a=>ho k (c.CM k a).1,λk a _ _=>ho k a,λk a=> .inl (e k a),(λk a=>by cases a),c.CM⟩,λk a=> .inl (c.CM k (e k a)).1⟩
theorem hW.dP(H:hW b aC q s L h){d:Nat}{o:fb}(hd:d<4096:=by decide):hW b aC q s L (h.dP b d o):=by
 haveI:=H.aK
 have l:=H.ab.lt;have ho:∀k,k≠b+d->(h.dP b d o).am k=h.am k:=λk a=>(n6 (cp.lt hd)).am _ λc i=>by simp at i;rw[i];exact a
 have e:∀k,hI (h.dP b d o).am q k->hI h.am q k:=λk a=>a.hE (ho q (by omega));have j:(h.dP b d o).ck=h.ck:=(n6 (o:=o) (cp.lt hd)).ck;refine⟨⟨l,by rw[lC];exact H.ab.ax,H.ab.mH.am (by rw[lC];exact dn _) (ho q (by omega)) λk a=>ho k (by have:=H.uE k a;omega),λk a n p=>(ho k (by omega)).trans (H.ab.ed k a n p),λk a=>?_,λk a=>H.ab.ck k (by rw[<-j];exact a),H.ab.bZ⟩,λk a=>H.uE k (e k a)⟩;rw[j];exact H.ab.om k (e k a)
theorem hW.cB{t:Nat}(H:hW b aC q s L h)(hd:d<4096:=by decide):hW b aC q s L (h.cB b d t cs):=H.dP hd
theorem hW.dp(H:hW b aC q s L h)(hd:d<4096:=by decide):hW b aC q s L (h.dp b d cs):=H.dP hd
theorem hW.le{a:Nat}(H:hW b aC q s L h)(c:L<=a):hW b aC q s a h:=⟨⟨H.ab.lt,H.ab.ax,H.ab.mH.le c,H.ab.ed,H.ab.om,H.ab.ck,H.ab.bZ⟩,H.uE⟩
theorem hW.go{f D:Nat}{args:az}(H:hW b aC q s L h)(C:jo u f args D)(F:L+D<=100000000000):∃r h',hW b aC q s (L+D) h'/\(∀d,d<4096->h'.am (b+d)=h.am (b+d))/\(∀k:dv,dC u b f (.aQ q s 0::args) [] h k=k r h')/\∃k,hI h'.am q k:=by
 have G:=H.ab.mH;have p:=H.uE;have y:=H.ab.lt;have z:=H.ab.ax;have I:=H.ab.ed;have n:=H.ab.om;have J:=H.ab.ck;obtain⟨ub,bj,dd⟩:=h;have z:b+4096<=ub:=z;have n:∀k,hI (b9 ub bj) q k->hI (b9 b aC) q k\/(b<=k/\q∈dd):=n;have p:∀k,hI (b9 ub bj) q k->k<b\/b+4096<=k:=p;obtain⟨r,j,t,d,K,M,N,O,A,P,Q⟩:=C ub bj q s L (by omega) G F;have R:∀k∈d,k<b->k=q\/hI (b9 b aC) q k:=λk a w=>by rcases P k a with h|h;exact .inl h;rcases n k h with h|h;exact .inr h;omega
 have S:∀(l:List Nat) (k:Nat),k∈fA b l->k<b:=by
  intro l;induction l with
  |nil=>intro k a;cases a
  |cons x l o=>intro k a;have e:fA b (x::l)= @Bool.rec (λ_=>List Nat) (fA b l) (x::fA b l) (Nat.blt x b):=rfl;rw[e,m9]at a;by_cases i:x<b;rw[bM i]at a;rcases e9.1 a with rfl|a;exact i;exact o k a;rw[gy i]at a;exact o k a
 have T:∀(l:List Nat) (k:Nat),k∈l->k<b->k∈fA b l:=by
  intro l;induction l with
  |nil=>intro k a;cases a
  |cons x l o=>intro k a w;have e:fA b (x::l)= @Bool.rec (λ_=>List Nat) (fA b l) (x::fA b l) (Nat.blt x b):=rfl;rw[e,m9];by_cases i:x<b;rw[bM i];rcases e9.1 a with rfl|a;exact fQ;exact ii _ (o k a w);rw[gy i];rcases e9.1 a with rfl|a;exact absurd w i;exact o k a w
 have el:∀k,k<ub->k≠q->¬hI (b9 ub bj) q k->b9 j t k=b9 ub bj k:=O;refine⟨r,.mk j t (aZ (fA b d) dd),⟨⟨y,?_,N,λk a B E=>?_,λk a=>?_,λk a=>?_,H.ab.bZ⟩,λk a=>?_⟩,λc V=>?_,λk=>?_,Q⟩;show b+4096<=j;omega;exact(el k (by omega) B λhi=>by rcases n k hi with h|h;exact E h;omega).trans (I k a B E)
 show hI (b9 b aC) q k\/(b<=k/\q∈aZ (fA b d) dd);rw[kU];rcases A k a with h|h;rcases n k h with h|h;exact .inl h;exact .inr ⟨h.1,AW _ h.2⟩;exact .inr ⟨by omega,qt _ (T d q h.2 y)⟩;have a:k∈aZ (fA b d) dd:=a;rw[kU,fq]at a;exact a.elim (λh=>R k (xI h) (S d k h)) (J k);rcases A k a with h|h;exact p k h;right;omega;exact el (b+c) (by omega) (by omega) λhi=>by have:=p _ hi;omega
 have f1:dC u b f (.aQ q s 0::args) [] (.mk ub bj dd) k=js b ub dd k (u f (.aQ q s 0::args) ub bj):=rfl;rw[f1,K];have f2:js b ub dd k (.ok r j t d)=bB (Nat.ble ub j) (k r (.mk j t (aZ (fA b d) dd))) .aF:=rfl;rw[f2,eT,dJ M,da]
theorem RY{bj:cD}:∀d:List Nat,(kr b bj d=true)->∀k∈d,uF b (bj.get k).aj=true
 |[],_,k,a=>by cases a
 |x::d,h,k,a=>by have c:kr b bj (x::d)=c7 (uF b (bj.get x).aj) (kr b bj d):=rfl;rw[c,hY,cC]at h;rcases e9.1 a with rfl|a;exact h.1;exact RY d h.2 k a
theorem D3.ret(H:D3 b aC q s L h)(c:∃k,hI h.am q k)(v:ao):oH (im b v [] h) b aC q s L:=by
 obtain⟨p,y,j,l,i,o,E⟩:=H;obtain⟨ub,bj,d⟩:=h;have y:b+4096<=ub:=y;have c:∃k,hI (b9 ub bj) q k:=c;have j:lz (b9 ub bj) q s ub L:=j;have l:∀k,k<b->k≠q->¬hI (b9 b aC) q k->b9 ub bj k=b9 b aC k:=l;have i:∀k,hI (b9 ub bj) q k->hI (b9 b aC) q k\/(b<=k/\q∈d):=i;have o:∀k∈d,k=q\/hI (b9 b aC) q k:=o;have F:im b v [] (.mk ub bj d)= @Bool.rec (λ_=>ay) (.ok v ub bj d) (.ok v b (bj.drop b) d) (kr b bj d):=rfl;rw[F];cases G:kr b bj d with
 |false=>exact⟨v,ub,bj,d,rfl,by omega,j,l,i,o,c⟩
 |true=>
  have lo:∀k,hI (b9 ub bj) q k->k<b:=λk a=>by rcases i k a with h|⟨r,t⟩;exact(E k h).1;have e:=RY d G q t;obtain⟨z,P,w,n,A⟩:=a;rw[h7]at A;rw[A]at e;have e:oj b [P,.aV k w 0 n]=true:=e;have:=(x6 e).1 k (by simp[ao.key,ao.cJ]);exact this
  have ho:∀k,k<b->b9 b (bj.drop b) k=b9 ub bj k:=λk a=>by rw[h7 a,cD.uq b bj k a,h7]
  refine⟨v,b,bj.drop b,d,rfl,dn _,?_,λk a I c=>(ho k a).trans (l k a I c),λk a=>i k (a.hE (ho q p)),o,?_⟩
  rotate_left 1
  obtain⟨k,z,P,w,n,e⟩:=c;exact⟨k,z,P,w,n,(ho q p).trans e⟩;obtain⟨P,B,r,t,J⟩:=j;refine⟨P,B,(ho q p).trans r,t,J.imp id λ⟨x,C,es,D,Q,K,M,N,O⟩=>?_⟩;have:=lo x ⟨s,P,C,es.length,by rw[r,D]⟩;exact⟨x,C,es,D,this,K,(ho x this).trans M,N,O⟩
theorem hW.ret(H:hW b aC q s L h)(a:∃k,hI h.am q k)(v:ao):oH (im b v [] h) b aC q s L:=H.ab.ret a v
end
end
end
section
variable[Tok] {u:Fn}{b:Nat}
def Iq(u:Fn):Prop:=∀(b:Nat) (aC:cD) (q s:Nat) (P B:ao),q<b->b9 b aC q= .box s [P,B]->T2 q s P->∃a d,u 205 [.aQ q s 0] b aC= .ok (.bD []) b a d/\b9 b a q= .box s [.aQ q s 0,B]/\(∀k,k≠q->b9 b a k=b9 b aC k)/\∀k∈d,k=q
theorem ZK:bV Iq:=bV.lL.up λn _ b aC q s P B c ho g=>by
 rw[bZ 205 (Gy 183) n];have e0:Gy 183 (bR bX n) [.aQ q s 0] b aC=bB (Nat.ble (Nat.succ q) b) (mS (aC.get q).aj λi cs=>bB (Nat.beq s i) (QA q s b aC (Cp 183 q s cs)) .aF) .aF:=rfl;have j:(aC.get q).aj= .box s [P,B]:=by rw[<-ho,h7 c]
 have l:∀f:Nat->az->ay,mS (.box s [P,B]) f=f s [P,B]:=λf=>rfl;rw[e0,eT,dJ (show Nat.succ q<=b from c),da,j,l,fI,da];rcases g with⟨rfl,p⟩|rfl;have d:Cp 183 q s [.bo (.pointer none),B]=bif Nat.beq (Nat.mod s 65536) 183 then some (some [.aQ q s 0,B]) else none:=rfl;have r:Nat.mod s 65536=183:=p;rw[d,r];refine⟨aC.set q (.ae (.box s [.aQ q s 0,B])),[q],rfl,?_,λk a=>?_,λk a=>by simpa using a⟩;rw[h7 c,cD.CF,dr rfl];rfl;by_cases e:k<b;rw[h7 e,cD.CF,dU a,h7 e];rw[mh,mh];have d:Cp 183 q s [.aQ q s 0,B]=bif Nat.beq q q&&Nat.beq s s then some none else none:=rfl;rw[d,fI,fI];exact⟨aC,[],rfl,ho,λ_ _=>rfl,λk a=>by cases a⟩
section
variable{aC:cD}{q s L:Nat}{h:aO}
theorem hW.YZ(H:hW b aC q s L h)(C:Iq u):∃r B h',hW b aC q s L h'/\h'.am q= .box s [.aQ q s 0,B]/\D2 h'.am q h'.ax L B/\(∀d,d<4096->h'.am (b+d)=h.am (b+d))/\∀k:dv,dC u b 205 [.aQ q s 0] [] h k=k r h':=by
 obtain⟨⟨D,i,j,E,l,F,G⟩,I⟩:=H;obtain⟨ub,bj,dd⟩:=h;have i:b+4096<=ub:=i;have j:lz (b9 ub bj) q s ub L:=j;obtain⟨P,B,t,J,K⟩:=j;obtain⟨g,d,M,o,p,N⟩:=C ub bj q s P B (by omega) t J;have w:∀k,hI (b9 ub g) q k->hI (b9 ub bj) q k:=by rintro k ⟨Y,Z,O,n,e⟩;rw[o]at e;simp only[eQ.box.injEq,jQ,and_true]at e;exact⟨s,P,O,n,by rw[t,e.2.2]⟩
 have x:D2 (b9 ub g) q ub L B:=K.imp id λ⟨y,Q,es,R,S,z,T,V,W⟩=>⟨y,Q,es,R,S,z,(p y z).trans T,V,W⟩;have l:∀k,hI (b9 ub bj) q k->hI (b9 b aC) q k\/(b<=k/\q∈dd):=l;refine⟨.bD [],B,.mk ub g (aZ (fA b d) dd),⟨⟨D,i,⟨_,B,o,.inr rfl,x⟩,λk a A X=>(p k A).trans (E k a A X),λk a=>?_,λk a=>?_,G⟩,λk a=>I k (w k a)⟩,o,x,λc hc=>p _ (by omega),λk=>?_⟩;show hI (b9 b aC) q k\/(b<=k/\q∈aZ (fA b d) dd);rw[kU];exact(l k (w k a)).imp id λh=>⟨h.1,AW _ h.2⟩;have a:k∈aZ (fA b d) dd:=a;rw[kU,fq]at a;exact a.elim (λh=> .inl (N k (xI h))) (F k);have f1:dC u b 205 [.aQ q s 0] [] (.mk ub bj dd) k=js b ub dd k (u 205 [.aQ q s 0] ub bj):=rfl;rw[f1,M];have f2:js b ub dd k (.ok (.bD []) ub g d)=bB (Nat.ble ub ub) (k (.bD []) (.mk ub g (aZ (fA b d) dd))) .aF:=rfl;rw[f2,eT,dJ (dn ub),da]
theorem rl{a:Nat}{o:fb}:(h.g1 b a o).ck=if a<b then a::h.ck else h.ck:=by obtain⟨ub,bj,dd⟩:=h;show @Bool.rec (λ_=>List Nat) dd (a::dd) (Nat.blt a b)=_;rw[m9];by_cases c:a<b;rw[bM c,dr c];rfl;rw[gy c,dU c];rfl
theorem hW.g3(H:hW b aC q s L h){B y:ao}{ys:bg}(ho:h.am q= .box s [.aQ q s 0,B])(V:D2 h.am q h.ax L B)(N:∀f:bg->ay,i0 h.am 1 y f=f ys)(O:D4 ys)(p:ys≠[])(cn:L+ys.length<=100000000000):
 ∃v h',(∀k:dv,fW b 2062 none 5 1 1 B y false h k=k v h')/\(∃C,h'.am q= .box s [.aQ q s 0,C])/\h'.ax=h.ax/\∃l,D3 b aC q s (L+ys.length) l/\(∃k,hI l.am q k)/\∀k:dv,bl b none 1 (.aQ q s (0+1)) v h' k=k .undef l:=by
 haveI:=H.aK
 have D:=H.ab.lt;have W:=H.ab.ax;have X:=H.ab.bZ;have Y:=H.ab.om;have cs:=H.uE;have cu:1<=ys.length:=by
  cases ys with
  |nil=>exact absurd rfl p
  |cons _ _=>simp
 have P:∀(d g:Nat) (es:bg) (o:fb) (h':aO),d<h.ax->d≠q->(hI (b9 b aC) q d\/b<=d)->h'=h.g1 b d o->o.aj= .aV g 5 1 es false->es.length<=L+ys.length->D4 es->es≠[]->(∀k,hI h.am q k->k=d)->
  (∃C,h'.am q= .box s [.aQ q s 0,C])/\h'.ax=h.ax/\∃l,D3 b aC q s (L+ys.length) l/\(∃k,hI l.am q k)/\∀k:dv,bl b none 1 (.aQ q s (0+1)) (.aV d g 0 es.length) h' k=k .undef l:=by
  intro d g es o h' E G I t Z hl al ar cY;have cN:∀k,k≠d->h'.am k=h.am k:=λk w=>by rw[t,aO.mu E];simp[Go.Hf.dk,w]
  have bd:h'.am d= .aV g 5 1 es false:=by rw[t];exact(nv E).trans Z
  have j:h'.ax=h.ax:=by rw[t,aO.lY]
  have Q:h'.am q= .box s [.aQ q s 0,B]:=(cN q (Ne.symm G)).trans ho;have bs:h'.ck=if d<b then d::h.ck else h.ck:=by rw[t];exact rl
  clear t;refine⟨⟨B,Q⟩,j,⟨h'.g1 b q (.ae (.box s [.aQ q s 0,.aV d g 0 es.length])),⟨D,by rw[aO.lY,j];exact W,?_,λc i R S=>?_,λc i=>?_,λc i=>?_,X⟩,⟨d,s,_,g,es.length,nv (by rw[j];omega)⟩,λk=>?_⟩⟩;refine⟨_,.aV d g 0 es.length,nv (by rw[j];omega),.inr rfl,.inr ⟨d,g,es,rfl,by rw[aO.lY,j];exact E,G,?_,hl,al,ar⟩⟩;rw[aO.mu (by rw[j];omega)];simp[Go.Hf.dk,G];exact bd;rw[aO.mu (by rw[j];omega)];simp[Go.Hf.dk,R];refine(cN c λe=>?_).trans (H.ab.ed c i R S);subst e;rcases I with h|h;exact S h;omega;obtain⟨J,K,M,n,e⟩:=i;rw[nv (by rw[j];omega)]at e;have e:eQ.box s [.aQ q s 0,.aV d g 0 es.length]= .box J [K,.aV c M 0 n]:=e;simp only[eQ.box.injEq,jQ,and_true,ao.aV.injEq]at e;obtain⟨_,_,rfl,_⟩:=e;refine I.imp id λh=>⟨h,?_⟩;rw[rl,dr D];exact fQ;rw[rl,dr D]at i;rcases e9.1 i with rfl|i;exact .inl rfl;rw[bs]at i;split at i;rcases e9.1 i with rfl|i;rcases I with h|h;exact .inr h;omega;exact H.ab.ck c i;exact H.ab.ck c i;have bx:bl b none 1 (.aQ q s (0+1)) (.aV d g 0 es.length) h' k=bl b none 1 (.aQ q s (0+1)) (.agg [.aV d g 0 es.length]) h' k:=rfl;rw[bx,z1 (b:=b) (n:=1) (off:=0+1) (wk:=none) Q rfl (by simp) (λo=>kC b _) (by rw[j];omega)];rfl
 rcases V with rfl|⟨d,g,es,rfl,T,a2,a3,a4,a5,c0⟩;obtain⟨z,A,rfl⟩:∃z A,ys=z::A:=by
  cases ys with
  |nil=>exact absurd rfl p
  |cons a r=>exact⟨a,r,rfl⟩
 have F:=P (b+2062) (Nat.add (ns (h.am (b+2062))) 1) (z::A) (nr (Nat.add (ns (h.am (b+2062))) 1) 5 1 (z::A) false) _ (cp.lt (by omega)) (by omega) (.inr (by omega)) rfl (yv _ _ _ _ _) (by omega) O p (λk w=>by obtain⟨J,K,M,n,e⟩:=w;rw[ho]at e;simp at e)
 refine⟨_,_,λk=>?_,F.1,F.2.1,F.2.2⟩;exact zW N p (λo=>kC b _) (by omega) (by omega) k;have b1:hI h.am q d:=⟨s,_,g,es.length,ho⟩;have F:=P d (Nat.add g 1) (es++ys) (nr (Nat.add g 1) 5 1 (es++ys) false) _ T a2 ((Y d b1).imp id And.left) rfl (yv _ _ _ _ _) (by simp;omega) (λe he=>(fq.1 he).elim (a5 e) (O e)) (by simp[p]) (λk w=>by obtain⟨J,K,M,n,e⟩:=w;rw[ho]at e;simp only[eQ.box.injEq,jQ,and_true,ao.aV.injEq]at e;exact e.2.2.1.symm)
 refine⟨_,_,λk=>?_,F.1,F.2.1,F.2.2⟩;have e0:fW b 2062 none 5 1 1 (.aV d g 0 es.length) y false h k=i0 h.am 1 y λys=>mr ys λys=>gc (eJ ys) λn=>
  bB (Nat.beq 0 0) (uP (h.yA d) λb2 e' cc rs r=>bB (Nat.beq g b2) (bB (Nat.beq e' 5) (bB (Nat.beq cc 1)
   (@Bool.rec (λ_=>ay) (bB r (bB (Nat.ble es.length (eJ rs)) (jr b none 1 d g 5 1 (mb (Nat.sub (eJ rs) es.length) rs) n ys r es.length h k) .aF) .aF) (jr b none 1 d g 5 1 rs n ys r es.length h k) (Nat.beq es.length (eJ rs))) .aF) .aF) .aF) .aF:=rfl
 rw[e0,N,ms,fN,gV,fI,da,Dg (by rw[aO.AB];exact a3),fI,da,fI,da,fI,da,gV,u6,fI];show jr b none 1 d g 5 1 es.reverse ys.length ys false es.length h k=_;unfold jr;rw[fN,eT,dJ (by rw[tE,h5];omega),da,eT,dJ (by rw[h5];omega),da,fN,sp,uC (kC b _) T];unfold nr;rw[List.reverse_append,List.length_append];rfl
end
end
section
variable{q s L:Nat}{aC:cD}
section
variable[Tok] {u:Fn}{b:Nat}
theorem lz.Qi{ob:dE}{c:Nat}{P B:ao}(H:lz ob q s c L)(ho:ob q= .box s [P,B]):D2 ob q c L B:=by obtain⟨e,g,a,_,d⟩:=H;rw[ho]at a;simp only[eQ.box.injEq,jQ,and_true]at a;obtain⟨_,_,rfl⟩:=a;exact d
theorem oH.up{a:ay}{c:Nat}(h:oH a b aC q s L)(e:L<=c):oH a b aC q s c:=by obtain⟨r,g,i,d,j,k,l,n⟩:=h;exact⟨r,g,i,d,j,k,l.le e,n⟩
theorem hW.box(aC:cD){d:Nat}{o:fb}{h:aO}{z:eQ}(H:hW b aC q s L h)(a:h.am q=z)(hd:d<4096:=by decide):(h.dP b d o).am q=z:=by
 haveI:=H.aK
 have:=H.ab.lt;rw[(n6 (cp.lt hd)).am _ λc e=>by simp at e;omega];exact a
theorem akm{n:Nat}(C:Iq u)(g:18446744073709551616<=n)(h:n<=18446744073709551871)(j:q<b)(k:lz (b9 b aC) q s b L)(l:L+1<=100000000000):oH (EN u [.aQ q s 0,.ag .u8 n] b aC) b aC q s (L+1):=by
 have o:=hW.start j k;obtain⟨r,B,h',a,o',_,_,p⟩:=o.YZ C;have e0:EN u [.aQ q s 0,.ag .u8 n] b aC=Ob u b (.aQ q s 0) (.ag .u8 n) (bN b aC):=rfl
 haveI:=a.aK
 have t:∀f:bg->fk->ay,eo h'.am 1 0 (.ag .u8 n) (eF 1 [tA]) f=f [[.ag .u8 n]] []:=λf=>rfl;have c:hW b aC q s L (h'.fc b 2061 5 1 [[.ag .u8 n]] false):=a.dP;have d:(h'.fc b 2061 5 1 [[.ag .u8 n]] false).am q= .box s [.aQ q s 0,B]:=a.box aC o';obtain⟨v,D,w,⟨E,F⟩,G,H,x,og,z⟩:=c.g3 (y:= .aV (b+2061) (ie h' b 2061) 0 1) (ys:=[[.ag .u8 n]]) d (c.ab.mH.Qi d) (λf=>pt hX (by rfl) f) (λe A=>⟨n,List.mem_singleton.1 A,g,h⟩) (by simp) (by simpa using l);rw[e0,Ob,p,i3,bn,aH,av o',aL,t,aq,iR,w,i3,aH,z,adp,bJ];exact x.ret og _
theorem ael(n:Nat):∀l,(pJ l n).length=l
 |0=>rfl
 |l+1=>by show(pJ l n).length+1=l+1;rw[ael n l]
theorem aek(n:Nat):∀l,D4 (pJ l n)
 |0=>λe a=>by cases a
 |l+1=>λe a=>by have a:e∈[ao.ag .u8 (Nat.add 18446744073709551616 (Nat.mod (Nat.div n (Nat.pow 256 l)) 256))]::pJ l n:=a;rcases e9.1 a with rfl|a;have:Nat.mod (Nat.div n (Nat.pow 256 l)) 256<256:=u5 _ (by omega);exact⟨_,rfl,Nat.le_add_right _ _,by rw[h5];omega⟩;exact aek n l e a
theorem akH{a c:Nat}(C:Iq u)(x:1<=a)(i:q<b)(j:lz (b9 b aC) q s b L)(k:L+a<=100000000000):oH (E0 u [.aQ q s 0,.s a c] b aC) b aC q s (L+a):=by
 have l:=hW.start i j;obtain⟨r,B,h',d,o',_,_,n⟩:=l.YZ C;have e0:E0 u [.aQ q s 0,.s a c] b aC=OA u b (.aQ q s 0) (.s a c) (bN b aC):=rfl
 haveI:=d.aK
 have g:=ael c a;obtain⟨v,z,o,⟨A,D⟩,E,F,h,og,p⟩:=d.g3 (y:= .aN 1 (pJ a c)) (ys:=pJ a c) o' (d.ab.mH.Qi o') (λf=>CR _ _ _ f) (aek c a) (λe=>by rw[e]at g;simp at g;omega) (by rw[g];exact k);rw[g]at h;have t:∀a:ay,LQ B a=a:=λa=>by rcases d.ab.mH.Qi o' with rfl|⟨G,H,es,rfl,_⟩<;>rfl
 have w:∀K:dv,CP b 2062 none 5 1 B (.s a c) false h' K=fW b 2062 none 5 1 1 B (.aN 1 (pJ a c)) false h' K:=λK=>t _;rw[e0,OA,n,i3,bn,aH,av o',aL,w,o,i3,aH,p];exact h.ret og _
end
end
section
variable{aC:cD}{q s L D:Nat}
section
variable[Tok] {u:Fn}{b:Nat}
def A9(u:Fn)(a c:Nat):Prop:=∃d c',1<=d/\d<=100/\bf u 207 [.s a c] (.s d c')
def wM(u:Fn):Prop:=∀n,18446744073709551616<=n->n<=18446744073709551871->jo u 157 [.ag .u8 n] 1
def IV(u:Fn):Prop:=∀a c,1<=a->jo u 206 [.s a c] a
theorem zZ(ob:dE)(a c:Nat)(f:gI):bi ob (.s a c) f=f (.s a c) []:=rfl
theorem akn{a c1 c d:Nat}(bH:IV u)(h:A9 u a c1)(e:A9 u c d)(i:q<b)(j:lz (b9 b aC) q s b L)(H:L+200<=100000000000):oH (EO u [.aQ q s 0,.agg [.s a c1,.s c d]] b aC) b aC q s (L+200):=by
 obtain⟨k,l,n,ll,o⟩:=h;obtain⟨p,t,w,I,x⟩:=e;have g:=hW.start i j;have e0:EO u [.aQ q s 0,.agg [.s a c1,.s c d]] b aC=Oc u b (.agg [.s a c1,.s c d]) (.aQ q s 0) (bN b aC):=rfl
 haveI:=g.aK
 have y:hW b aC q s L ((bN b aC).cB b 3 39 [.s a c1,.s c d]):=g.cB;obtain⟨r,h',z,A,B,g'⟩:=y.go (bH k l n) (by omega);have C:=(A 3 (by omega)).trans ec;obtain⟨J,e,E,K,F,G⟩:=z.go (bH p t w) (by omega);have dB:([.s a c1,.s c d]:az)[0+0]? =some (.s a c1):=rfl;have c8:([.s a c1,.s c d]:az)[0+1]? =some (.s c d):=rfl;rw[e0,Oc,b3,bn,aH,av ec,aL dB,Vh,bE,zZ,aq,a0 o,zZ,aq,B,bn,aH,av C,aL c8,bE,zZ,aq,a0 x,zZ,aq,F,adq];exact(E.ret G _).up (by omega)
def Uc(u:Fn)(o:az):Prop:=∃k a c1 c l d e g h i j,l4 o k a c1 c l d e g h i j .ba/\((k=1/\a<=10/\c<=10)\/(k=2/\jo u 158 [.agg [.s d e,.s g h]] 200)\/(k=3/\A9 u i j))
theorem K8{a c d c':Nat}(h:a+d<=1000)(k:ao->ay):dT (.s a c) (.s d c') k=k (.s (a+d) (Nat.add (Nat.mul c (Nat.pow 256 d)) (Nat.mod c' (Nat.pow 256 d)))):=by have e:dT (.s a c) (.s d c') k=bB (Nat.ble (Nat.add a d) 9223372036854775807) (gc (Nat.add a d) λg=>gc (Nat.add (Nat.mul c (Nat.pow 256 d)) (Nat.mod c' (Nat.pow 256 d))) λdM=>k (.s g dM)) .aF:=rfl;rw[e,eT,dJ (by rw[h5];omega),da,fN,fN];rfl
theorem akp{o:az}(bH:wM u)(V:IV u)(ho:Uc u o)(w:q<b)(x:lz (b9 b aC) q s b L)(Q:L+300<=100000000000):oH (wZ u [.aQ q s 0,.agg o] b aC) b aC q s (L+300):=by
 obtain⟨k,y,c1,z,R,A,B,C,E,S,T,c,F⟩:=ho;have t:=hW.start w x;have e0:wZ u [.aQ q s 0,.agg o] b aC=ze u b (.agg o) (.aQ q s 0) (bN b aC):=rfl
 haveI:=t.aK
 have g:hW b aC q s L ((bN b aC).cB b 3 42 o):=t.cB;have dB:=c.dB;rcases F with⟨rfl,X,Y⟩|⟨rfl,G⟩|⟨rfl,H⟩;have c8:=c.c8;have cX:=c.cX;obtain⟨r,h',d,e,a,g'⟩:=g.go (V (1+y+1+z+1) _ (by omega)) (by omega);rw[e0,ze,b3,bn,aH,av ec,aL dB,b8,cd,bM,bw,Vi,bn,aH,av ec,aL c8,K8 (by omega),K8 (by omega),bn,aH,av ec,aL cX,K8 (by omega),K8 (by omega),zZ,aq,a,tt];exact(d.ret g' _).up (by omega);have ih:(o.drop (0+3)).take 2=[.s A B,.s C E]:=c.t3;have gD:=c.gD;have h:aeF= .ag .u8 (18446744073709551616+115):=rfl;obtain⟨r,h',d,e,a,g'⟩:=g.go (bH (18446744073709551616+115) (by omega) (by omega)) (by omega);rw[<-h]at a;have j:=(e 3 (by omega)).trans ec;obtain⟨I,J,l,K,n,p⟩:=d.go G (by omega);rw[e0,ze,b3,bn,aH,av ec,aL dB,b8,cd,bA,bc,Je,e4,cd,bM,bw,Vj,a,aH,av j,dG gD,ih,a6 rfl,aq,n,tt];exact(l.ret p _).up (by omega);obtain⟨M,N,O,ll,P⟩:=H;have nc:=c.nc;have h:aeG= .ag .u8 (18446744073709551616+116):=rfl;obtain⟨r,h',d,e,a,g'⟩:=g.go (bH (18446744073709551616+116) (by omega) (by omega)) (by omega);rw[<-h]at a;have j:=(e 3 (by omega)).trans ec
 haveI:=d.aK
 obtain⟨I,J,l,K,n,p⟩:=d.go (V M N O) (by omega);rw[e0,ze,b3,bn,aH,av ec,aL dB,b8,cd,bA,bc,Je,e4,cd,bA,bc,Od,fu,cd,bM,bw,Vk,a,bn,aH,av j,aL nc,bE,zZ,aq,a0 P,zZ,aq,n,tt];exact(l.ret p _).up (by omega)
theorem aqq{l:bg}{L0:Nat}(bH:wM u)(j:l.length<=2)(H:∀o∈l,o.length=7/\cg o=true/\jo u 159 [.agg o] D)(J:L0+D+D+1<=100000000000):∀(n i N:Nat) (h:aO),n+i=l.length->n<N->hW b aC q s (L0+i*D) h->
 oH (gd 0 11 12 13 N (Bx u b (λk l=>dC u b 157 [k,HZ] [] l λ_ m=>tt b m)) (.aQ q s 0) (.aN 7 l) (aA l.length) (aA ((i:Nat):Int)) h) b aC q s (L0+l.length*D+1):=by
 intro n;induction n with
 |zero=>
  intro i N h p t c;obtain⟨N,rfl⟩:=eC N;have hi:i=l.length:=by omega
  subst hi;have w:HZ= .ag .u8 (18446744073709551616+93):=rfl;have x:l.length*D<=2*D:=jP D j;obtain⟨r,h',e,y,d,g'⟩:=c.go (bH (18446744073709551616+93) (by omega) (by omega)) (by omega);rw[<-w]at d;rw[jt];generalize gd 0 11 12 13 N (Bx u b (λk l=>dC u b 157 [k,HZ] [] l λ_ m=>tt b m))=z;rw[Bx,cz,bA,bc,d,tt];exact e.ret g' _
 |succ n A=>
  intro i N h p t c;obtain⟨N,rfl⟩:=eC N
  haveI:=c.aK
  obtain⟨a,B⟩:∃a,l[i]? =some a:=⟨_,fo (by omega)⟩;obtain⟨g,C,E⟩:=H a (eH B);have x:i*D<=1*D:=jP D (by omega);have G:hW b aC q s (L0+i*D) ((h.cB b 5 42 dD).dp b 5 a):=c.cB.dp;obtain⟨r,h',e,y,d,g'⟩:=G.go E (by omega);have F:=A (i+1) N h' (by omega) (by omega) (by rw[iT,ov,<-rp];exact e);have I:((i+1:Nat):Int)=(i:Int)+1:=by omega
  rw[I]at F;rw[jt];generalize gd 0 11 12 13 N (Bx u b (λk l=>dC u b 157 [k,HZ] [] l λ_ m=>tt b m))=z at F ⊢;rw[Bx,cz,bM,bw,Vl,fH ‹_›,cI,aU g,cF,cM g,av (gn ec),aU g,a6 C,aq,d,b8,fV];exact F
theorem ako{a d:az}(bH:wM u)(c:a.length=7/\cg a=true)(hd:d.length=7/\cg d=true)(k:jo u 159 [.agg a] D)(n:jo u 159 [.agg d] D)(p:q<b)(t:lz (b9 b aC) q s b L)(B:L+(D+D+2)<=100000000000):
 oH (wZ u [.aQ q s 0,.agg [aA 4,.s 0 0,.s 0 0,.s 0 0,.s 0 0,.s 0 0,.aN 7 [a,d]]] b aC) b aC q s (L+(D+D+2)):=by
 obtain⟨o,e⟩:∃o:az,o=[aA 4,.s 0 0,.s 0 0,.s 0 0,.s 0 0,.s 0 0,.aN 7 [a,d]]:=⟨_,rfl⟩;have g:l4 o 4 0 0 0 0 0 0 0 0 0 0 (.aN 7 [a,d]):=e▸ug;rw[<-e];have h:=hW.start p t;have e0:wZ u [.aQ q s 0,.agg o] b aC=ze u b (.agg o) (.aQ q s 0) (bN b aC):=rfl
 haveI:=h.aK
 have w:hW b aC q s L ((bN b aC).cB b 3 42 o):=h.cB;have dB:=g.dB;have iH:=g.iH;have x:aeK= .ag .u8 (18446744073709551616+91):=rfl;obtain⟨r,h',y,z,j,g'⟩:=w.go (bH (18446744073709551616+91) (by omega) (by omega)) (by omega);rw[<-x]at j;have A:=(z 3 (by omega)).trans ec;have F:=aqq (l:=[a,d]) (D:=D) (L0:=L+1) bH (by simp) (λo ho=>by rcases e9.1 ho with rfl|ho;exact⟨c.1,c.2,k⟩;rw[List.mem_singleton.1 ho];exact⟨hd.1,hd.2,n⟩) (by omega) 2 0 1000000 h' rfl (by omega) (by rw[Nat.zero_mul];exact y)
 rw[e0,ze,b3,bn,aH,av ec,aL dB,b8,cd,bA,bc,Je,e4,cd,bA,bc,Od,fu,cd,bA,bc,Vm,j,bn,aH,av A,aL iH,gC,b7];refine oH.up F ?_;show L+1+2*D+1<=_;omega
end
end
section
variable{o:az}{D q s L0:Nat}{aC:cD}
section
variable[Tok] {u:Fn}{b:Nat}
def ot:List (Nat×Nat):=[(0,0),(4,0x6c697370),(4,0x75736572),(3,0x6e696c),(1,0x74),(1,0x61),(1,0x62),(1,0x63),(1,0x70),(2,0x7071),(1,0x78),(1,0x79),(1,0x7a)]++oS.map λh=>(h.2.2.1,h.2.2.2.1)
def RA(r:ao):Bool:=match r with
 | .s a _=>c7 (Nat.ble 1 a) (Nat.ble a 100)
 |_=>false
def kq(a:ay):Bool:= @ay.rec (λ_=>Bool) false (λr ub _ _=>c7 (Nat.beq ub 0) (RA r)) a
theorem aoy{a:ay}(h:kq a=true):∃e c',1<=e/\e<=100/\∃bj d,a= .ok (.s e c') 0 bj d:=by
 cases a with
 |aF=>cases h
 |ok r ub bj d=>have h':c7 (Nat.beq ub 0) (RA r)=true:=h;rw[hY,cC]at h';obtain⟨g,c⟩:=h';have:=e8 g;subst this;unfold RA at c;clear h;split at c;rw[hY,cC]at c;exact⟨_,_,dX c.1,dX c.2,bj,d,rfl⟩;cases c
theorem aoQ(n:Nat):(ot.all λp=>kq (bR bX (n+2) 207 [.s p.1 p.2] 0 .nil))=true:=by kernel_rfl
theorem ZM:bV λu=>∀p∈ot,A9 u p.1 p.2:=bV.hE 2 λn p a=>aoy (gp (aoQ n) a)
def GH(a c:Nat):Bool:=ot.any λp=>Nat.beq p.1 a&&Nat.beq p.2 c
theorem K3{a c:Nat}(h:GH a c=true):(a,c)∈ot:=by obtain⟨p,d,e⟩:=nC.1 h;rw[cC]at e;obtain⟨x,y⟩:=p;obtain rfl:x=a:=e8 e.1;obtain rfl:y=c:=e8 e.2;exact d
def RS(o:az):Bool:=match o with
 |[.ag .i64 k,.s a _,.s c _,.s d e,.s g h,.s j l,.ba]=>(Nat.beq k 18446744073709551617&&(Nat.ble a 10&&Nat.ble c 10))||((Nat.beq k 18446744073709551618&&(GH d e&&GH g h))||(Nat.beq k 18446744073709551619&&GH j l))
 |_=>false
theorem aqR:(nf.all RS)=true:=by decide+kernel
theorem aqS(Q:∀p∈ot,A9 u p.1 p.2)(N:∀p∈ot,∀x∈ot,jo u 158 [.agg [.s p.1 p.2,.s x.1 x.2]] 200)(h:RS o=true):Uc u o:=by unfold RS at h;split at h;rename_i k d c1 e g i j l n r t;simp only[oA,cC]at h;rcases h with⟨a,c,w⟩|⟨a,c,w⟩|⟨a,c⟩;have:=e8 a;subst this;exact⟨1,d,c1,e,g,i,j,l,n,r,t,⟨by rw[db];rfl,rfl⟩,.inl ⟨rfl,dX c,dX w⟩⟩;have:=e8 a;subst this;exact⟨2,d,c1,e,g,i,j,l,n,r,t,⟨by rw[db];rfl,rfl⟩,.inr (.inl ⟨rfl,N _ (K3 c) _ (K3 w)⟩)⟩;have:=e8 a;subst this;exact⟨3,d,c1,e,g,i,j,l,n,r,t,⟨by rw[db];rfl,rfl⟩,.inr (.inr ⟨rfl,Q _ (K3 c)⟩)⟩;cases h
theorem ZI:bV wM:=ZK.up λz h n a c b aC q s i d e g=>by rw[bZ 157 EN z];exact akm h a c d e g
theorem ZL:bV IV:=ZK.up λz h a c d b aC q s j e g i=>by rw[bZ 206 E0 z];exact akH h d e g i
theorem ZJ:bV λu=>∀p∈ot,∀a∈ot,jo u 158 [.agg [.s p.1 p.2,.s a.1 a.2]] 200:=(ZL.and ZM).up λz h p c a d b aC q s j e g i=>by rw[bZ 158 EO z];exact akn h.1 (h.2 p c) (h.2 a d) e g i
def pV(n:Nat):Nat:=400*3^n
theorem Y3(n:Nat):pV (n+1)=3*pV n/\400<=pV n:=by unfold pV;have:=Nat.one_le_pow n 3 (by omega);exact⟨by rw[m1];omega,by omega⟩
theorem Y2{n:Nat}(a:n<=3):pV n<=20000:=by have:3^n<=3^3:=Nat.pow_le_pow_right (by omega) a;unfold pV;omega
theorem jo.le{f D':Nat}{args:az}(h:jo u f args D)(e:D<=D'):jo u f args D':=λb aC q s a c d g=>(h b aC q s a c d (by omega)).up (by omega)
theorem amJ:∀n:Nat,n<=3->bV λu=>∀m c o,m<=n->kh m c o->jo u 159 [.agg o] (pV n):=by
 have k:∀(n z:Nat),wM (bR bX z)->IV (bR bX z)->(∀p∈ot,A9 (bR bX z) p.1 p.2)->(∀p∈ot,∀l∈ot,jo (bR bX z) 158 [.agg [.s p.1 p.2,.s l.1 l.2]] 200)->∀o∈nf,jo (bR bX (z+1)) 159 [.agg o] (pV n):=by
  intro n z w v x ye o ho;have h:jo (bR bX (z+1)) 159 [.agg o] 300:=λb aC q s y g i j=>by rw[bZ 159 wZ z];exact akp w v (aqS x ye (gp aqR ho)) g i j
  exact h.le (by have:=(Y3 n).2;omega)
 have r:=(ZI.and ZL).and (ZM.and ZJ);intro n;induction n with
 |zero=>
  intro _;refine r.up λz h m c o A ho=>?_;cases ho with
  |leaf ho=>exact k 0 z h.1.1 h.1.2 h.2.1 h.2.2 o ho
  |cons _ _=>omega
 |succ n B=>
  intro E;refine(r.and (B (by omega))).up λz h m c o A ho=>?_;cases ho with
  |leaf ho=>exact k (n+1) z h.1.1.1 h.1.1.2 h.1.2.1 h.1.2.2 o ho
  | @cons F _ _ a d t hd=>
    have e:=Y3 n;have G:=Y2 (n:=n) (by omega);have pa:=gH.p (kh.q6 t);have C:=gH.p (kh.q6 hd);have H:jo (bR bX (z+1)) 159 [.agg [aA 4,.s 0 0,.s 0 0,.s 0 0,.s 0 0,.s 0 0,.aN 7 [a,d]]] (pV n+pV n+2):=λb aC q s y g i j=>by rw[bZ 159 wZ z];exact ako h.1.1.1 pa C (h.2 _ _ a (by omega) t) (h.2 _ _ d (by omega) hd) g i j
    exact H.le (by omega)
theorem aql{l:bg}(bH:wM u)(j:l.length<=3)(H:∀t∈l,fR t/\jo u 118 [.agg t] D)(K:L0+D+D+D+1<=100000000000):∀(n i N:Nat) (h:aO),n+i=l.length->n<N->hW b aC q s (L0+i*D) h->
 oH (gd 0 15 16 17 N (Bn u b (λo p=>dC u b 157 [o,HX] [] p λ_ q=>v9 b q)) (.aQ q s 0) (.aN 11 l) (aA l.length) (aA ((i:Nat):Int)) h) b aC q s (L0+l.length*D+1):=by
 intro n;induction n with
 |zero=>
  intro i N h k w c;obtain⟨N,rfl⟩:=eC N;have hi:i=l.length:=by omega
  subst hi;have x:HX= .ag .u8 (18446744073709551616+41):=rfl;have y:l.length*D<=3*D:=jP D j;obtain⟨r,h',e,z,d,g'⟩:=c.go (bH (18446744073709551616+41) (by omega) (by omega)) (by omega);rw[<-x]at d;rw[jt];generalize gd 0 15 16 17 N (Bn u b (λo p=>dC u b 157 [o,HX] [] p λ_ q=>v9 b q))=A;rw[Bn,cz,bA,bc,d,v9];exact e.ret g' _
 |succ n B=>
  intro i N h k w c;obtain⟨N,rfl⟩:=eC N
  haveI:=c.aK
  obtain⟨a,C⟩:∃a,l[i]? =some a:=⟨_,fo (by omega)⟩;obtain⟨⟨g,E⟩,G⟩:=H a (eH C);have y:i*D<=2*D:=jP D (by omega);have I:hW b aC q s (L0+i*D) ((h.cB b 5 44 cW).dp b 5 a):=c.cB.dp;obtain⟨r,h',e,z,d,g'⟩:=I.go G (by omega);have F:=B (i+1) N h' (by omega) (by omega) (by rw[iT,ov,<-rp];exact e);have J:((i+1:Nat):Int)=(i:Int)+1:=by omega
  rw[J]at F;rw[jt];generalize gd 0 15 16 17 N (Bn u b (λo p=>dC u b 157 [o,HX] [] p λ_ q=>v9 b q))=A at F ⊢;rw[Bn,cz,bM,bw,UU,fH ‹_›,cI,aU g,cF,cM g,av (gn ec),aU g,a6 E,aq,d,b8,fV];exact F
theorem Qk{t:az}{k:Int}{w c1 x y:Nat}{E:ao}(c:lh t k (.s w c1) (.s x y) o E)(ho:o.length=7/\cg o=true)(bH:wM u)
 (K:(k=1/\jo u 158 [.agg [.s w c1,.s x y]] 200)\/(k=2/\jo u 159 [.agg o] D)\/(k=3/\jo u 158 [.agg [.s w c1,.s x y]] 200/\∃l,E= .aN 11 l/\l.length<=3/\∀t∈l,fR t/\jo u 118 [.agg t] D))(L:q<b)(M:lz (b9 b aC) q s b L0)(R:L0+(D+D+D+300)<=100000000000):
 oH (y7 u [.aQ q s 0,.agg t] b aC) b aC q s (L0+(D+D+D+300)):=by
 obtain⟨fP,N⟩:=ho;have G:=hW.start L M;have e0:y7 u [.aQ q s 0,.agg t] b aC=Ew u b (.agg t) (.aQ q s 0) (bN b aC):=rfl
 haveI:=G.aK
 have z:hW b aC q s L0 ((bN b aC).cB b 3 44 t):=G.cB;have dB:=c.dB;have H:=c.fC;have t1:=c.t1;have gD:=c.gD;have t3:=c.t3;have iM:=c.iM;rcases K with⟨rfl,A⟩|⟨rfl,O⟩|⟨rfl,A,l,rfl,I,P⟩;have e:aeH= .ag .u8 (18446744073709551616+118):=rfl;obtain⟨r,h',g,h,a,g'⟩:=z.go (bH (18446744073709551616+118) (by omega) (by omega)) (by omega);rw[<-e]at a;have d:=(h 3 (by omega)).trans ec;obtain⟨J,B,j,C,n,p⟩:=g.go A (by omega);rw[e0,Ew,b3,bn,aH,av ec,aL dB,b8,cd,bM,bw,US,a,aH,av d,dG H,t1,a6 rfl,aq,n,v9];exact(j.ret p _).up (by omega);have e:aeL= .ag .u8 (18446744073709551616+99):=rfl;obtain⟨r,h',g,h,a,g'⟩:=z.go (bH (18446744073709551616+99) (by omega) (by omega)) (by omega);rw[<-e]at a;have d:=(h 3 (by omega)).trans ec;obtain⟨J,B,j,C,n,p⟩:=g.go O (by omega);rw[e0,Ew,b3,bn,aH,av ec,aL dB,b8,cd,bA,bc,NT,e4,cd,bM,bw,UT,a,aH,av d,dG gD,t3,a6 N,aq,n,v9];exact(j.ret p _).up (by omega);have e:aeI= .ag .u8 (18446744073709551616+40):=rfl;obtain⟨r,h',g,h,a,g'⟩:=z.go (bH (18446744073709551616+40) (by omega) (by omega)) (by omega);rw[<-e]at a;have d:=(h 3 (by omega)).trans ec;obtain⟨J,B,j,C,n,p⟩:=g.go A (by omega);have Q:=(C 3 (by omega)).trans d;have F:=aql (L0:=L0+1+200) bH I P (by omega) l.length 0 1000000 B rfl (by omega) (by rw[Nat.zero_mul];exact j);rw[e0,Ew,b3,bn,aH,av ec,aL dB,b8,cd,bA,bc,NT,e4,cd,bA,bc,a,aH,UV,av d,dG H,t1,a6 rfl,aq,n,bn,aH,av Q,aL iM,gC,b7];refine oH.up F ?_;have S:l.length*D<=3*D:=jP D I;omega
def qK(n:Nat):Nat:=100000*4^n
theorem Y4(n:Nat):qK (n+1)=4*qK n/\100000<=qK n:=by unfold qK;have:=Nat.one_le_pow n 4 (by omega);exact⟨by rw[m1];omega,by omega⟩
theorem amD:∀n:Nat,bV λu=>∀m t,m<=n->cq m t->jo u 118 [.agg t] (qK n):=by
 have E:∀(n z:Nat),wM (bR bX z)->(∀p∈ot,∀F∈ot,jo (bR bX z) 158 [.agg [.s p.1 p.2,.s F.1 F.2]] 200)->(∀m c o,m<=3->kh m c o->jo (bR bX z) 159 [.agg o] (pV 3))->((∀i,i<3->jo (bR bX (z+1)) 118 [.agg (gS i)] (qK n))/\∀o,m2 o->jo (bR bX (z+1)) 118 [.agg (fg o)] (qK n)):=by
  intro n z w K L;have e:=(Y4 n).2;refine⟨λi hi=>?_,λo ho=>?_⟩;have A:((1,0x78+i):Nat×Nat)∈ot:=by
   have:i=0\/i=1\/i=2:=by omega
   rcases this with rfl|rfl|rfl<;>decide
  have H:jo (bR bX (z+1)) 118 [.agg (gS i)] (0+0+0+300):=λb aC q s y a d j=>by rw[bZ 118 y7 z];exact Qk (D:=0) (uZ rfl) ⟨rfl,rfl⟩ w (.inl ⟨rfl,K (4,0x75736572) (by decide) _ A⟩) a d j
  exact H.le (by omega);obtain⟨m,c,B,G⟩:=ho.am;have r:=gH.p (kh.q6 G);have P:=Y2 (n:=3) (by omega);have H:jo (bR bX (z+1)) 118 [.agg (fg o)] (pV 3+pV 3+pV 3+300):=λb aC q s y a d j=>by rw[bZ 118 y7 z];exact Qk (qm r.1 r.2) r w (.inr (.inl ⟨rfl,L m c o B G⟩)) a d j
  exact H.le (by omega)
 have I:=ZI.and (ZJ.and (amJ 3 (by omega)));intro n;induction n with
 |zero=>
  refine I.up λz h m t B k=>?_;have x:=E 0 z h.1 h.2.1 h.2.2;cases k with
  |var _ i hi=>exact x.1 i hi
  |gT _ o ho=>exact x.2 o ho
  |g3 _ _ _ _ _ _=>omega
 |succ n M=>
  refine(I.and M).up λz h m t B k=>?_;have x:=E (n+1) z h.1.1 h.1.2.1 h.1.2.2;have e:=Y4 n;cases k with
  |var _ i hi=>exact x.1 i hi
  |gT _ o ho=>exact x.2 o ho
  |g3 N g C l Q k=>
   have J:=gp Rr C;rw[cC]at J;have R:=dX J.2;have A:((g.2.2.1,g.2.2.2.1):Nat×Nat)∈ot:=AW _ (ia.2 ⟨g,C,rfl⟩);have r:((g.1,g.2.1):Nat×Nat)∈ot:=by
    have O:(oS.all λh=>GH h.1 h.2.1)=true:=by decide+kernel
    exact K3 (gp O C)
   intro b aC q s y a d j;have H:jo (bR bX (z+1)) 118 [.agg (eG g l)] (qK n+qK n+qK n+300):=λb aC q s y a d j=>by rw[bZ 118 y7 z];exact Qk (pK g l) ⟨rfl,rfl⟩ h.1.1 (.inr (.inr ⟨rfl,h.1.2.1 _ r _ A,l,rfl,by omega,λt h'=>⟨(k t h').p,h.2 N t (by omega) (k t h')⟩⟩)) a d j
   exact(H.le (D':=qK (n+1)) (by omega)) b aC q s y a d j
end
end
section
variable[Tok] {u:Fn}{b:Nat}
theorem Yw:∀{es:bg},D4 es->∃l,ue es=some l/\l.length=es.length
 |[],_=>⟨[],rfl,rfl⟩
 |e::r,h=>by obtain⟨n,rfl,a,c⟩:=h e fQ;obtain⟨l,d,g⟩:=Yw λx j=>h x (ii _ j);refine⟨UInt8.ofNat (Nat.sub n 18446744073709551616)::l,?_,?_⟩;have e:ue ([.ag .u8 n]::r)=bif Nat.ble 18446744073709551616 n&&Nat.ble n 18446744073709551871 then(match ue r with|some l=>some (UInt8.ofNat (Nat.sub n 18446744073709551616)::l)|none=>none) else none:=rfl;rw[e,eT,dJ a,eT,dJ c,d];rfl;simp[g]
def Ui(u:Fn):Prop:=∀(ub:Nat) (aC:cD) (q s e:Nat),q<ub->lz (b9 ub aC) q s ub e->(∃k,hI (b9 ub aC) q k)->∃a c g d,u 119 [.aQ q s 0] ub aC= .ok (.s a c) ub g d
theorem amE:bV Ui:=bV.lL.up λn _ ub aC q s Q j C D=>by
 rw[bZ 119 (GA 5) n];obtain⟨k,R,S,g,m,e⟩:=D;obtain⟨P,B,t,T,h⟩:=C;rw[t]at e;simp only[eQ.box.injEq,jQ,and_true]at e;obtain⟨_,_,rfl⟩:=e;rcases h with h|⟨V,w,es,y,z,W,E,X,F,G⟩;cases h;simp only[ao.aV.injEq,true_and]at y;obtain⟨rfl,rfl,rfl⟩:=y;obtain⟨l,H,A⟩:=Yw F;have e0:GA 5 (bR bX n) [.aQ q s 0] ub aC=bB (Nat.ble (Nat.succ q) ub) (mS (aC.get q).aj λw cs=>bB (Nat.beq s w) (MH 5 ub aC cs) .aF) .aF:=rfl;have I:(aC.get q).aj= .box s [P,.aV k g 0 es.length]:=by rw[<-t,h7 j]
 have J:(aC.get k).aj= .aV g 5 1 es false:=by rw[<-E,h7 z]
 have L:∀f:Nat->az->ay,mS (.box s [P,.aV k g 0 es.length]) f=f s [P,.aV k g 0 es.length]:=λf=>rfl;rw[e0,eT,dJ (show Nat.succ q<=ub from j),da,I,L,fI,da];obtain⟨x,l,rfl⟩:∃x r,l=x::r:=by
  cases l with
  |nil=>
   cases es with
   |nil=>exact absurd rfl G
   |cons _ _=>simp at A
  |cons x r=>exact⟨x,r,rfl⟩
 have M:MH 5 ub aC [P,.aV k g 0 es.length]= @Option.rec (Nat×List UInt8×Nat) (λ_=>ay) .aF (λp=>uQ p.2.1 λr=> .ok r ub (aC.set p.1 (.ae (.aF p.2.2))) [p.1])
  (match(aC.get k).aj with
   | .aV i e' 1 ea _=>(match ue ea with
     |some (c::l)=>bif Nat.beq g i&&Nat.beq e' 5&&Nat.beq es.length (List.length (c::l))&&Nat.ble (Nat.succ k) ub then some (k,c::l,g) else none
     |_=>none)
   |_=>none):=rfl
 rw[M,J];have N:(match eQ.aV g 5 1 es false with
  | .aV i e' 1 ea _=>(match ue ea with
    |some (c::l)=>bif Nat.beq g i&&Nat.beq e' 5&&Nat.beq es.length (List.length (c::l))&&Nat.ble (Nat.succ k) ub then some (k,c::l,g) else none
    |_=>none)
  |_=>none)=some (k,x::l,g):=by
  simp only[H,A,fI,eT,dJ (show Nat.succ k<=ub from z),m0,e6]
 rw[N];have O:∀K:ao->ay,uQ (x::l) K=K (.s (x::l).length (nk (x::l))):=λK=>by unfold uQ;rw[fN,fN]
 show∃a c Y d,uQ (x::l) _=_;rw[O];exact⟨_,_,_,_,rfl⟩
theorem f0:∀l:List Nat,fA 0 l=[]:=λl=>by
 induction l with
 |nil=>rfl
 |cons y r a=>exact a
theorem awK(x:Nat):kP x 183%65536=183:=by show(Nat.add (Nat.mul (Nat.add (Nat.div x 65536) 1) 65536) 183) %65536=183;rw[h5,tE];omega
theorem aqg{t:az}(p:fR t){D:Nat}(H:D<=10000000000)(bH:jo u 118 [.agg t] D)(V:Ui u):∃a c bj d,B9 u [.agg t] 0 .nil= .ok (.s a c) 0 bj d:=by
 obtain⟨t1,t2⟩:=p;obtain⟨h,i⟩:∃h,h=((bN 0 .nil).cB 0 1 44 t).cB 0 3 183 [.bo (.pointer none),.ba]:=⟨_,rfl⟩;obtain⟨s,es⟩:∃s,s=fK ((bN 0 .nil).cB 0 1 44 t) 0 3 183:=⟨_,rfl⟩;have q:h.am (0+1)= .box (fK (bN 0 .nil) 0 1 44) t:=by rw[i];exact fZ ec
 have j:h.am (0+3)= .box s [.bo (.pointer none),.ba]:=by rw[i,es];exact ec
 have w:h.ax=0+4096:=by rw[i];exact(lC _ _ _ _).trans (lC _ _ _ _)
 have x:h.ck=[]:=by rw[i];exact dS.eq
 have y:s%65536=183:=by rw[es];exact awK _
 have l:B9 u [.agg t] 0 .nil=dC u 0 118 [.aQ (0+3) s 0,.agg t] [] h λ_ m=>dC u 0 119 [.aQ (0+3) s 0] [] m λn o=>adF 0 n o:=by have e0:B9 u [.agg t] 0 .nil=PJ u 0 (.agg t) (bN 0 .nil):=rfl;rw[e0,PJ,b3,cF,<-i,<-es,av q,aU t1,a6 t2,aq]
 rw[l];clear l i es;obtain⟨ub,bj,dd⟩:=h;obtain rfl:ub=0+4096:=w;obtain rfl:dd=[]:=x;have j:b9 (0+4096) bj (0+3)= .box s [.bo (.pointer none),.ba]:=j;obtain⟨r,e,g,d,z,A,B,_,_,_,C⟩:=bH (0+4096) bj (0+3) s 0 (by omega) ⟨_,_,j,.inl ⟨rfl,y⟩,.inl rfl⟩ (by omega);have E:∀K:dv,dC u 0 118 [.aQ (0+3) s 0,.agg t] [] (.mk (0+4096) bj []) K=K r (.mk e g []):=λK=>by have f1:dC u 0 118 [.aQ (0+3) s 0,.agg t] [] (.mk (0+4096) bj []) K=js 0 (0+4096) [] K (u 118 [.aQ (0+3) s 0,.agg t] (0+4096) bj):=rfl;rw[f1,z];have f2:js 0 (0+4096) [] K (.ok r e g d)=bB (Nat.ble (0+4096) e) (K r (.mk e g (aZ (fA 0 d) []))) .aF:=rfl;rw[f2,eT,dJ A,da,f0];rfl
 rw[E];obtain⟨a,c,k,d2,F⟩:=V e g (0+3) s _ (by omega) B C;have G:∀K:dv,dC u 0 119 [.aQ (0+3) s 0] [] (.mk e g []) K=K (.s a c) (.mk e k []):=λK=>by have f1:dC u 0 119 [.aQ (0+3) s 0] [] (.mk e g []) K=js 0 e [] K (u 119 [.aQ (0+3) s 0] e g):=rfl;rw[f1,F];have f2:js 0 e [] K (.ok (.s a c) e k d2)=bB (Nat.ble e e) (K (.s a c) (.mk e k (aZ (fA 0 d2) []))) .aF:=rfl;rw[f2,eT,dJ (dn _),da,f0];rfl
 rw[G];exact⟨a,c,_,_,rfl⟩
theorem ZS{n:Nat}(i:n<=8):bV λu=>∀t,cq n t->∃a c,bf u 81 [.agg t] (.s a c):=((amD n).and amE).up λz h t g=>by
 have j:qK n<=10000000000:=by have:4^n<=4^8:=Nat.pow_le_pow_right (by omega) i;unfold qK;omega
 obtain⟨a,c,bj,d,e⟩:=aqg (u:=bR bX z) g.p j (h.1 n t (dn _) g) h.2;exact⟨a,c,eO B9 ⟨bj,d,e⟩⟩
end
section
variable{m:List (Value×Value)}{ob cN:dE}{g d:Nat}{cs:az}
section
variable[Tok] {u:Fn}{b:Nat}
def tP(m:List (Value×Value)):Prop:=∀e∈m,(∃x,e.1= .string x)/\∃y,e.2= .bool y
theorem tP.put(h:tP m)(x:ByteArray)(y:Bool):tP (mg m (.string x) (.bool y)):=by
 induction m with
 |nil=>intro e a;rw[List.mem_singleton.1 a];exact⟨⟨_,rfl⟩,_,rfl⟩
 |cons p r i=>obtain⟨k,v⟩:=p;have c:tP r:=λe a=>h e (ii _ a);intro e a;rw[mg]at a;split at a;rcases e9.1 a with rfl|a;exact⟨⟨_,rfl⟩,_,rfl⟩;exact c e a;rcases e9.1 a with rfl|a;exact h _ fQ;exact i c e a
theorem tP.get(h:tP m)(x:Value):sd m x=none\/∃y,sd m x=some (.bool y):=by
 induction m with
 |nil=>exact .inl rfl
 |cons p r a=>obtain⟨k,v⟩:=p;have c:tP r:=λe i=>h e (ii _ i);rw[sd];split;obtain⟨_,y,e⟩:=h _ fQ;have e:v= .bool y:=e;exact .inr ⟨y,by rw[e]⟩;exact a c
theorem tP.same(h:tP m)(x:ByteArray):(m.all λe=>k6 (.string x) e.1)=true:=by rw[kg];intro e a;obtain⟨⟨y,c⟩,_⟩:=h e a;rw[c];rfl
structure m6 (Q:az->Prop) (ob:dE) (s3 s4 s5 sm g L:Nat):Prop where
 gv:ob 4= .box s4 [.fX 8 sm]
 kw:∃m,ob 8= .map sm m/\tP m
 kM:ob 5= .box s5 [.ey 80 [.aQ 4 s4 0,.aQ 3 s3 0,.aQ 5 s5 0]]
 fL:∃V,ob 3= .box s3 [V]/\(V= .ba\/∃q' s' es,V= .aV q' s' 0 es.length/\4096<=q'/\q'<g/\q'%4096=2067/\ob q'= .aV s' 44 11 es true/\es.length<=L/\∀e∈es,Q e)
def iK(ob:dE)(k:Nat):Prop:=∃s a n,ob 3= .box s [.aV k a 0 n]
def vk(Q:az->Prop)(a:ay)(b:Nat)(aC:cD)(s3 s4 s5 sm L:Nat):Prop:=∃r c e d,a= .ok r c e d/\b<=c/\c%4096=0/\m6 Q (b9 c e) s3 s4 s5 sm c L/\
 (∀k,k<b->k≠3->k≠8->¬iK (b9 b aC) k->b9 c e k=b9 b aC k)/\(∀k,iK (b9 c e) k->iK (b9 b aC) k\/(b<=k/\3∈d))/\∀k∈d,k=3\/k=8\/iK (b9 b aC) k
def vj(Q:az->Prop)(u:Fn)(t:az)(D:Nat):Prop:=∀(b:Nat) (aC:cD) (s3 s4 s5 sm L:Nat),4096<=b->b%4096=0->m6 Q (b9 b aC) s3 s4 s5 sm b L->L+D<=100000->vk Q (u 80 [.agg t,.aQ 4 s4 0,.aQ 3 s3 0,.aQ 5 s5 0] b aC) b aC s3 s4 s5 sm (L+D)
structure ND (Q:az->Prop) (b:Nat) (aC:cD) (s3 s4 s5 sm L:Nat) (h:aO):Prop where
 ge:4096<=b/\b%4096=0
 ax:b+4096<=h.ax/\h.ax%4096=0
 am:m6 Q h.am s3 s4 s5 sm h.ax L
 ed:∀k,k<b->k≠3->k≠8->¬iK (b9 b aC) k->h.am k=b9 b aC k
 om:∀k,iK h.am k->iK (b9 b aC) k\/(b<=k/\3∈h.ck)
 ck:∀k∈h.ck,k=3\/k=8\/iK (b9 b aC) k
 bZ:∀k,iK (b9 b aC) k->k<b/\4096<=k/\k%4096=2067
structure jd (Q:az->Prop) (b:Nat) (aC:cD) (s3 s4 s5 sm L:Nat) (h:aO):Prop where
 ab:ND Q b aC s3 s4 s5 sm L h
 uE:∀k,iK h.am k->k<b\/b+4096<=k\/k=b+2067
section
variable{Q:az->Prop}{aC:cD}{s3 s4 s5 sm L:Nat}{h:aO}
theorem m6.zT(H:m6 Q ob s3 s4 s5 sm g L):∀k,iK ob k->k<g/\4096<=k/\k%4096=2067:=by rintro k ⟨o,p,n,e⟩;obtain⟨V,c,a⟩:=H.fL;rw[e]at c;simp only[eQ.box.injEq,jQ,and_true]at c;obtain⟨_,rfl⟩:=c;rcases a with a|⟨q,r,es,a,i,j,l,_⟩;cases a;simp only[ao.aV.injEq]at a;obtain⟨rfl,_⟩:=a;exact⟨j,i,l⟩
theorem m6.Qs{a:Nat}(H:m6 Q ob s3 s4 s5 sm g L)(B:g<=a)(l:cN 3=ob 3)(n:cN 4=ob 4)(o:cN 5=ob 5)(p:cN 8=ob 8)(q:∀k,iK ob k->cN k=ob k):m6 Q cN s3 s4 s5 sm a L:=by obtain⟨V,c,r⟩:=H.fL;refine⟨n.trans H.gv,?_,o.trans H.kM,V,l.trans c,r.imp id λ⟨e,i,es,j,t,C,w,x,y⟩=>⟨e,i,es,j,t,by omega,w,(q e ⟨s3,i,es.length,by rw[c,j]⟩).trans x,y⟩⟩;obtain⟨m,z,A⟩:=H.kw;exact⟨m,p.trans z,A⟩
theorem m6.le{a:Nat}(H:m6 Q ob s3 s4 s5 sm g L)(r:L<=a):m6 Q ob s3 s4 s5 sm g a:=by obtain⟨V,c,e⟩:=H.fL;exact⟨H.gv,H.kw,H.kM,V,c,e.imp id λ⟨i,j,es,k,l,n,o,p,t,q⟩=>⟨i,j,es,k,l,n,o,p,by omega,q⟩⟩
theorem iK.hE(a:cN 3=ob 3){k:Nat}(h:iK cN k):iK ob k:=by obtain⟨c,i,n,e⟩:=h;exact⟨c,i,n,a.symm.trans e⟩
theorem jd.aK(H:jd Q b aC s3 s4 s5 sm L h):cp h b:=⟨H.ab.ax.1⟩
theorem jd.start(i:4096<=b)(j:b%4096=0)(c:m6 Q (b9 b aC) s3 s4 s5 sm b L):jd Q b aC s3 s4 s5 sm L (bN b aC):=by have ho:∀k,k<b->(bN b aC).am k=b9 b aC k:=λk a=>r3 aC a;have e:∀k,iK (bN b aC).am k->iK (b9 b aC) k:=λk a=>a.hE (ho 3 (by omega));refine⟨⟨⟨i,j⟩,⟨dn _,by show(b+4096) %4096=0;omega⟩,c.Qs (Nat.le_add_right b 4096) (ho 3 (by omega)) (ho 4 (by omega)) (ho 5 (by omega)) (ho 8 (by omega)) λk a=>ho k (c.zT k a).1,λk a _ _ _=>ho k a,λk a=> .inl (e k a),(λk a=>by cases a),c.zT⟩,λk a=> .inl (c.zT k (e k a)).1⟩
theorem jd.dP(H:jd Q b aC s3 s4 s5 sm L h){d:Nat}{o:fb}(hd:d<4096:=by decide)(q:d≠2067:=by decide):jd Q b aC s3 s4 s5 sm L (h.dP b d o):=by
 haveI:=H.aK
 obtain⟨c8,cX⟩:=H.ab.ge;have ho:∀k,k≠b+d->(h.dP b d o).am k=h.am k:=λk a=>(n6 (cp.lt hd)).am _ λc i=>by simp at i;rw[i];exact a
 have e:∀k,iK (h.dP b d o).am k->iK h.am k:=λk a=>a.hE (ho 3 (by omega));have j:(h.dP b d o).ck=h.ck:=(n6 (o:=o) (cp.lt hd)).ck;refine⟨⟨⟨c8,cX⟩,by rw[lC];exact H.ab.ax,H.ab.am.Qs (by rw[lC];exact dn _) (ho 3 (by omega)) (ho 4 (by omega)) (ho 5 (by omega)) (ho 8 (by omega)) λk a=>ho k (by have:=H.uE k a;omega),λk a l n p=>(ho k (by omega)).trans (H.ab.ed k a l n p),λk a=>?_,λk a=>H.ab.ck k (by rw[<-j];exact a),H.ab.bZ⟩,λk a=>H.uE k (e k a)⟩;rw[j];exact H.ab.om k (e k a)
theorem jd.cB{t:Nat}(H:jd Q b aC s3 s4 s5 sm L h)(hd:d<4096:=by decide)(a:d≠2067:=by decide):jd Q b aC s3 s4 s5 sm L (h.cB b d t cs):=H.dP hd a
theorem jd.dp(H:jd Q b aC s3 s4 s5 sm L h)(hd:d<4096:=by decide)(a:d≠2067:=by decide):jd Q b aC s3 s4 s5 sm L (h.dp b d cs):=H.dP hd a
theorem KQ{b k:Nat}:∀(l:List Nat),k∈fA b l↔k∈l/\k<b
 |[]=>by simp[fA]
 |x::l=>by have e:fA b (x::l)= @Bool.rec (λ_=>List Nat) (fA b l) (x::fA b l) (Nat.blt x b):=rfl;rw[e,m9];by_cases c:x<b;rw[bM c];show k∈x::fA b l↔_;rw[e9,e9,KQ l];constructor;rintro(rfl|h);exact⟨.inl rfl,c⟩;exact⟨.inr h.1,h.2⟩;rintro⟨rfl|h,a⟩;exact .inl rfl;exact .inr ⟨h,a⟩;rw[gy c];show k∈fA b l↔_;rw[e9,KQ l];constructor;rintro⟨h,a⟩;exact⟨.inr h,a⟩;rintro⟨rfl|h,a⟩;exact absurd a c;exact⟨h,a⟩
theorem jd.go{D:Nat}{t:az}(H:jd Q b aC s3 s4 s5 sm L h)(E:cg t=true)(C:vj Q u t D)(F:L+D<=100000):∃r h',jd Q b aC s3 s4 s5 sm (L+D) h'/\(∀d,d<4096->d≠2067->h'.am (b+d)=h.am (b+d))/\∀k:dv,nd u b (.ey 80 [.aQ 4 s4 0,.aQ 3 s3 0,.aQ 5 s5 0]) [.agg t] [] h k=k r h':=by
 obtain⟨⟨⟨c8,cX⟩,⟨q,l⟩,n,G,e,I,J⟩,j⟩:=H;have e0:∀k:dv,nd u b (.ey 80 [.aQ 4 s4 0,.aQ 3 s3 0,.aQ 5 s5 0]) [.agg t] [] h k=dC u b 80 [.agg t,.aQ 4 s4 0,.aQ 3 s3 0,.aQ 5 s5 0] [] h k:=λk=>by have o:nd u b (.ey 80 [.aQ 4 s4 0,.aQ 3 s3 0,.aQ 5 s5 0]) [.agg t] [] h k=bi h.am (.agg t) λx us=>dC u b 80 (aZ (aZ [x] []) [.aQ 4 s4 0,.aQ 3 s3 0,.aQ 5 s5 0]) (aZ us []) h k:=rfl;rw[o,a6 E,aq];rfl
 obtain⟨ub,bj,dd⟩:=h;have q:b+4096<=ub:=q;have l:ub%4096=0:=l;have n:m6 Q (b9 ub bj) s3 s4 s5 sm ub L:=n;have e:∀k,iK (b9 ub bj) k->iK (b9 b aC) k\/(b<=k/\3∈dd):=e;have j:∀k,iK (b9 ub bj) k->k<b\/b+4096<=k\/k=b+2067:=j;obtain⟨r,i,p,d,o,K,M,N,w,y,O⟩:=C ub bj s3 s4 s5 sm L (by omega) l n F;refine⟨r,.mk i p (aZ (fA b d) dd),⟨⟨⟨c8,cX⟩,⟨?_,M⟩,N,λk a z A B=>?_,λk a=>?_,λk a=>?_,J⟩,λk a=>?_⟩,λc P R=>?_,λk=>?_⟩;show b+4096<=i;omega;exact(w k (by omega) z A λhi=>by rcases e k hi with h|h;exact B h;omega).trans (G k a z A B)
 show iK (b9 b aC) k\/(b<=k/\3∈aZ (fA b d) dd);rw[kU];rcases y k a with h|h;rcases e k h with h|h;exact .inl h;exact .inr ⟨h.1,AW _ h.2⟩;exact .inr ⟨by omega,qt _ ((KQ d).2 ⟨h.2,by omega⟩)⟩;have a:k∈aZ (fA b d) dd:=a;rw[kU,fq]at a;rcases a with a|a;obtain⟨a,S⟩:=(KQ d).1 a;rcases O k a with h|h|h;exact .inl h;exact .inr (.inl h);rcases e k h with h|h;exact .inr (.inr h);omega;exact I k a;rcases y k a with h|h;exact j k h;right;left;omega;exact w (b+c) (by omega) (by omega) (by omega) λhi=>by have:=j _ hi;omega
 rw[e0];have f1:dC u b 80 [.agg t,.aQ 4 s4 0,.aQ 3 s3 0,.aQ 5 s5 0] [] (.mk ub bj dd) k=js b ub dd k (u 80 [.agg t,.aQ 4 s4 0,.aQ 3 s3 0,.aQ 5 s5 0] ub bj):=rfl;rw[f1,o];have f2:js b ub dd k (.ok r i p d)=bB (Nat.ble ub i) (k r (.mk i p (aZ (fA b d) dd))) .aF:=rfl;rw[f2,eT,dJ K,da]
theorem ND.ret(H:ND Q b aC s3 s4 s5 sm L h)(v:ao):vk Q (im b v [] h) b aC s3 s4 s5 sm L:=by
 obtain⟨⟨c8,cX⟩,⟨t,p⟩,c,j,i,l,y⟩:=H;obtain⟨ub,bj,d⟩:=h;have t:b+4096<=ub:=t;have p:ub%4096=0:=p;have c:m6 Q (b9 ub bj) s3 s4 s5 sm ub L:=c;have j:∀k,k<b->k≠3->k≠8->¬iK (b9 b aC) k->b9 ub bj k=b9 b aC k:=j;have i:∀k,iK (b9 ub bj) k->iK (b9 b aC) k\/(b<=k/\3∈d):=i;have l:∀k∈d,k=3\/k=8\/iK (b9 b aC) k:=l;have z:im b v [] (.mk ub bj d)= @Bool.rec (λ_=>ay) (.ok v ub bj d) (.ok v b (bj.drop b) d) (kr b bj d):=rfl;rw[z];cases A:kr b bj d with
 |false=>exact⟨v,ub,bj,d,rfl,by omega,p,c,j,i,l⟩
 |true=>
  have lo:∀k,iK (b9 ub bj) k->k<b:=λk a=>by rcases i k a with h|⟨J,B⟩;exact(y k h).1;have e:=RY d A 3 B;obtain⟨K,C,n,w⟩:=a;rw[h7]at w;rw[w]at e;have e:oj b [.aV k C 0 n]=true:=e;exact(x6 e).1 k (by simp[ao.key,ao.cJ])
  have ho:∀k,k<b->b9 b (bj.drop b) k=b9 ub bj k:=λk a=>by rw[h7 a,cD.uq b bj k a,h7]
  refine⟨v,b,bj.drop b,d,rfl,dn _,cX,?_,λk a o q D=>(ho k a).trans (j k a o q D),λk a=>i k (a.hE (ho 3 (by omega))),l⟩;obtain⟨V,f1,E⟩:=c.fL;obtain⟨m,f2,f3⟩:=c.kw;refine⟨(ho 4 (by omega)).trans c.gv,⟨m,(ho 8 (by omega)).trans f2,f3⟩,(ho 5 (by omega)).trans c.kM,V,(ho 3 (by omega)).trans f1,E.imp id λ⟨r,x,es,o,q,M,F,G,I⟩=>?_⟩;have:=lo r ⟨s3,x,es.length,by rw[f1,o]⟩;exact⟨r,x,es,o,q,this,F,(ho r this).trans G,I⟩
theorem jd.ret(H:jd Q b aC s3 s4 s5 sm L h)(v:ao):vk Q (im b v [] h) b aC s3 s4 s5 sm L:=H.ab.ret v
end
end
end
end Go.Hf

import Derived.Test.YteehpeajjbkjnaaGreatDoorAu
import Derived.Test.YteehpeajjbkjnaaGreatDoorAm
import Derived.Test.YteehpeajjbkjnaaGreatDoorAq
import Derived.Test.YteehpeajjbkjnaaGreatDoorAp
set_option maxRecDepth 1000000
set_option linter.all false
noncomputable section
namespace Go.Hf
open Go.RowKit
section
variable{d:Nat}{cs:az}
section
variable[Tok] {u:Fn}{b:Nat}
structure yY (u:Fn):Prop where
 Rm:∀p∈qf,∀t,ib t->(∃y,cq 3 y/\t=ej p.1 p.2.1 y/\bf u 27 [.agg (ej p.1 p.2.1 (hR p.2.2)),.agg t,.ba] (.bD [.aN 13 [kV p.2.2 y],.U true]))\/bf u 27 [.agg (ej p.1 p.2.1 (hR p.2.2)),.agg t,.ba] (.bD [.ba,.U false])
 Rn:∀v es,cE 11 v es->∀l,bf u 28 [v,.ba,.aN 13 l] (.bD [.aN 13 l,.U true])
 jA:∀p∈GF,∀v es y,cE 11 v es->es.length<=900->(∀a∈es,cq 5 a)->cq 5 (ej p.1 p.2 y)->cq 5 y->
  (wA (λa s=>nD (ej p.1 p.2 y) a s) es False (ej p.1 p.2 y) 1/\bf u 28 [v,.aN 11 [ej p.1 p.2 (hR 0x6e)],.aN 13 [kV 0x6e y]] (.bD [.aN 13 [kV 0x6e y],.U true]))\/bf u 28 [v,.aN 11 [ej p.1 p.2 (hR 0x6e)],.aN 13 [kV 0x6e y]] (.bD [.ba,.U false])
 nL:∀p∈pH,∀n y,cq n y->bf u 29 [.agg (p.2 (hR p.1)),.aN 13 [kV p.1 y]] (.U false)
 uu:∀p∈pH,∀n y,cq n y->bf u 30 [.agg (p.2 (hR p.1)),.aN 13 [kV p.1 y]] (.agg (p.2 y))
 Ro:∀t,cq 5 t->∃r:Int,0<=r/\r<=3001/\bf u 31 [.agg t] (aA r)
 xN:∀p∈rV,∀v es y,cE 11 v es->es.length<=900->(∀a∈es,cq 5 a)->cq 5 (ej p.1 p.2 y)->cq 5 y->T5 u v es (ej p.1 p.2 y)
theorem cq.af8{n a c:Nat}{y:az}(h:cq n (ej a c y)):∃m,n=m+1/\cq m y:=by
 have v:=Cq a c y;have e:=v.dB;have l:=v.iM;generalize ej a c y=t at h e l;cases h with
 |var _ i hi=>have k:=(uZ (p:=kD) (n:=DD i) rfl).dB;have:=e.symm.trans k;simp only[dN]at this;exact absurd (pe this (by omega) (by omega)) (by omega)
 |gT _ o ho=>have k:=(qm ho.mi.pp.v.1 ho.mi.pp.v.2).dB;have:=e.symm.trans k;simp only[dN]at this;exact absurd (pe this (by omega) (by omega)) (by omega)
 |g3 m g x l' z r=>have q:=l.symm.trans (pK g l').iM;simp only[dN,ao.aN.injEq,true_and]at q;exact⟨m,rfl,r y (by rw[<-q];exact fQ)⟩
theorem anb:bV λu=>yY u:=by
 refine((amU.and amW).and (((amV (n:=5)).and (ZO.and ZP)).and ((amX (n:=5)).and (ZQ (n:=5))))).imp λz h=>?_;obtain⟨⟨g,i⟩,⟨k,l,o⟩,q,r⟩:=h;refine⟨λp c t a=>?_,i,k,l,o,q,r⟩;rcases g p c 5 t a.pL with⟨y,n,rfl,B,C,e⟩|e;left;rcases a with a|⟨D,E,e'⟩;obtain⟨m,F,x⟩:=a.af8;obtain rfl:m=3:=by omega
 exact⟨y,x,rfl,e⟩;have:=aaZ e';exfalso;simp only[qf,e9,iV,iU]at c;rcases c with rfl|rfl|rfl<;>simp at this;exact .inr e
structure Bc (P:az->Prop):Prop where
 len:∀y,cq 3 y->P (ej 8 0x696e746567657270 (ej 3 0x6c656e y))
 di:∀es y,cq 3 y->(∀a∈es,ib a/\P a)->wA (λa s=>nD (ej 4 0x706f7370 y) a s) es False (ej 4 0x706f7370 y) 1->P (ej 4 0x6e617470 y)
 G2:∀es y,cq 3 y->(∀a∈es,ib a/\P a)->wA (λa s=>nD (ej 4 0x6e617470 y) a s) es False (ej 4 0x6e617470 y) 1->P (ej 8 0x696e746567657270 y)
structure IQ (P:az->Prop) (r:az) (p:Nat×Nat×Nat) (q:Nat×(az->az)) (d:Nat×Nat) (z:az->az) (hy:ao):Prop where
 ad:r.length=34
 ja:cg r=true
 aw:p∈qf
 aW:q∈pH
 aM:q.1=p.2.2
 aD:d∈rV
 ab:∀y,q.2 y=ej d.1 d.2 (z y)
 aa:∀y,cq 3 y->ib (q.2 y)/\cq 5 (z y)
 ct:∃a1 c1 a2 c2,(r.drop 0).take 2=[.s a1 c1,.s a2 c2]
 aG:r[0+3]? =some hy
 bq:∀(ob:dE) (f:gI),bi ob hy f=f hy []
 kJ:(r.drop (0+17)).take 11=q.2 (hR q.1)
 jA:r[0+28]? =some (.aN 11 [ej p.1 p.2.1 (hR p.2.2)])
 auQ:∀u,yY u->∀v es y,cE 11 v es->es.length<=900->(∀a∈es,ib a/\P a)->cq 3 y->(P (q.2 y)/\bf u 28 [v,hy,.aN 13 [kV q.1 y]] (.bD [.aN 13 [kV q.1 y],.U true]))\/bf u 28 [v,hy,.aN 13 [kV q.1 y]] (.bD [.ba,.U false])
theorem avr{P:az->Prop}(T:Bc P){r:az}(l:r.length=34)(E:cg r=true)(h:y0 r):∃p q d z c,IQ P r p q d z c:=by
 cases h with
 |len g c1 i k n e o t B=>refine⟨(3,0x6c656e,0x78),(0x78,λx=>ej 8 0x696e746567657270 (ej 3 0x6c656e x)),(8,0x696e746567657270),ej 3 0x6c656e,.ba,l,E,by simp[qf],by simp[pH],rfl,by decide,λy=>rfl,λy c=>⟨.inr ⟨y,c,rfl⟩,(cq.one Ly c).le (by omega)⟩,⟨g,c1,i,k,n⟩,o,λ_ _=>rfl,t,B,λu O v es y C _ _ c=> .inl ⟨T.len y c,O.Rn v es C _⟩⟩
 |di g c1 i k n e o t B=>refine⟨(4,0x706f7370,0x6e),(0x6e,ej 4 0x6e617470),(4,0x6e617470),id,_,l,E,by simp[qf],by simp[pH],rfl,by decide,λy=>rfl,λy c=>⟨.inl (cq.one R7 c),c.le (by omega)⟩,⟨g,c1,i,k,n⟩,o,λ_ _=>rfl,t,B,λu O v es y C F D c=>?_⟩;rcases O.jA (4,0x706f7370) (by decide) v es y C F (λa G=>(D a G).1.pL) ((cq.one ab1 c).le (by omega)) (c.le (by omega)) with⟨H,e⟩|h;exact .inl ⟨T.di es y c D H,e⟩;exact .inr h
 |G2 g c1 i k n e o t B=>refine⟨(4,0x6e617470,0x6e),(0x6e,ej 8 0x696e746567657270),(8,0x696e746567657270),id,_,l,E,by simp[qf],by simp[pH],rfl,by decide,λy=>rfl,λy c=>⟨.inl (cq.one ab0 c),c.le (by omega)⟩,⟨g,c1,i,k,n⟩,o,λ_ _=>rfl,t,B,λu O v es y C F D c=>?_⟩;rcases O.jA (4,0x6e617470) (by decide) v es y C F (λa G=>(D a G).1.pL) ((cq.one R7 c).le (by omega)) (c.le (by omega)) with⟨H,e⟩|h;exact .inl ⟨T.G2 es y c D H,e⟩;exact .inr h
def IF(P:az->Prop)(f:az):Prop:=f.length=14/\cg f=true/\ib ((f.drop (0+3)).take 11)/\P ((f.drop (0+3)).take 11)
def oD(P:az->Prop)(a:ay):Prop:=∃v j,cE 14 v j/\j.length<=30/\(∀f∈j,IF P f)/\∃s d,a= .ok v 0 s d
def tN(h:aO)(x:ao)(es:bg):Prop:=gm 0 2188 44 11 h x es\/(es≠[]/\gm 0 2104 44 11 h x es)
theorem tN.fh{h:aO}{x:ao}{es:bg}(H:tN h x es):∃v,cE 11 v es/\∀f:ao->fk->ay,bi h.am x f=f v []:=H.elim gm.fh λh=>h.2.fh
theorem tN.dP{h:aO}{x:ao}{es:bg}{o:fb}[cp h 0](H:tN h x es)(a:d≠2104:=by decide)(c:d≠2188:=by decide)(hd:d<4096:=by decide):tN (h.dP 0 d o) x es:=
 H.imp (λH=>H.am (oI rfl c hd)) λH=>⟨H.1,H.2.am (oI rfl a hd)⟩
structure jl (P:az->Prop) (m:Nat) (ix:eQ) (h:aO) (A:ao) (j:bg) (dj:ao) (w:bg):Prop where
 ax:cp h 0
 b5:dS h
 f:gm 0 2184 49 14 h A j
 aa:tN h dj w
 bY:∀f∈j,IF P f
 ap:∀t∈w,ib t/\P t
 nS:j.length<=30
 e2:w.length=m+j.length
 ak:h.am (0+2097)=ix
section
variable{P:az->Prop}{m:Nat}{ix:eQ}{h:aO}{A dj:ao}{j w:bg}
theorem jl.dP(a:jl P m ix h A j dj w){d:Nat}{o:fb}(c:d≠2104:=by decide)(e:d≠2188:=by decide)(g:d≠2184:=by decide)(i:d≠2097:=by decide)(hd:d<4096:=by decide):jl P m ix (h.dP 0 d o) A j dj w:=by
 haveI:=a.ax
 haveI:=a.b5
 exact⟨inferInstance,inferInstance,a.f.am (oI rfl g hd),a.aa.dP c e hd,a.bY,a.ap,a.nS,a.e2,oI a.ak i hd⟩
theorem jl.cB(a:jl P m ix h A j dj w){t:Nat}(c:d≠2104:=by decide)(e:d≠2188:=by decide)(g:d≠2184:=by decide)(i:d≠2097:=by decide)(hd:d<4096:=by decide):jl P m ix (h.cB 0 d t cs) A j dj w:=a.dP c e g i hd
theorem jl.dp(a:jl P m ix h A j dj w)(c:d≠2104:=by decide)(e:d≠2188:=by decide)(g:d≠2184:=by decide)(i:d≠2097:=by decide)(hd:d<4096:=by decide):jl P m ix (h.dp 0 d cs) A j dj w:=a.dP c e g i hd
theorem jl.ret(a:jl P m ix h A j dj w):oD P (tu 0 A h):=by
 haveI:=a.ax
 haveI:=a.b5
 obtain⟨v,c,e⟩:=a.f.fh;rw[tu,bJ,e,aq];exact⟨v,j,c,a.nS,a.bY,b6⟩
end
end
end
section
variable{t:az}{mZ:Nat}{a b' c' e' f' g' i' l':ao}{l:sE}
section
variable[Tok] {u:Fn}{b:Nat}
def Up:az:=[.s 0 0,.s 0 0,.ba,bt,.s 0 0,.s 0 0,bt,.s 0 0,.s 0 0,.s 0 0,.s 0 0,.s 0 0,.ba,.ba]
def Q1(e c1 j k:Nat)(o:bg)(t:az):az:=[.s e c1,.s j k,.aN 13 o]++t
theorem ant{e c1 j o:Nat}{w:bg}(H:t.length=11)(k:ao->ay):
 (eu 0 2 (.agg [.s e c1,.s j o]) Up λx=>eu 2 1 (.aN 13 w) x λy=>eu 3 11 (.agg t) y λz=>fO z k)=k (.agg (Q1 e c1 j o w t)):=by
 obtain⟨t0,t1,t2,t3,t4,t5,t6,t7,t8,t9,t10,rfl⟩:∃A B C gD D r9 E F py G tg,t=[A,B,C,gD,D,r9,E,F,py,G,tg]:=by
  match t,H with
  |[A,B,C,gD,D,r9,E,F,py,G,tg],_=>exact⟨_,_,_,_,_,_,_,_,_,_,_,rfl⟩
 rfl
section
variable{P:az->Prop}{m:Nat}{ix:eQ}{h:aO}{i dj:ao}{c g:bg}{r:az}{p:Nat×Nat×Nat}{q:Nat×(az->az)}{d:Nat×Nat}{z:az->az}{n:ao}
theorem jl.add(w:jl P m ix h i c dj g)(hl:c.length<30)(hm:m<=6)(A:ib t/\P t)(R:IQ P r p q d z n){B:Nat}(L:h.am (0+18)= .box mZ r)(M:h.am (0+23)= .box B t){y:az}{N o' Q:ao}{S:ay->Prop}
 (K:∀(h':aO) (T:ao) (cn:bg) (V:ao) (cs:bg),jl P m ix h' T cn V cs->h'.am (0+18)= .box mZ r->S (l a b' T V c' e' f' (.aQ (0+18) mZ 0) g' i' l' N o' Q h')):
 S (J7 u 0 l a b' i dj c' e' f' (.aQ (0+18) mZ 0) (.aN 13 [kV q.1 y]) (.aQ (0+23) B 0) g' i' l' N o' Q h):=by
 haveI:=w.ax
 haveI:=w.b5
 obtain⟨t1,t2⟩:=A.1.pL.p;obtain⟨W,c1,X,Y,hn⟩:=R.ct;have ds:=R.ad;have cu:0+0+2<=r.length:=by omega
 have cY:(r.drop (0+0)).take 2=[.s W c1,.s X Y]:=hn;obtain⟨F,nK⟩:∃F,F=Q1 W c1 X Y [kV q.1 y] t:=⟨_,rfl⟩;have Z:F.length=14:=by rw[nK];simp[Q1,t1]
 have al:cg F=true:=by rw[nK];exact t2
 have ar:(F.drop (0+3)).take 11=t:=by rw[nK];show t.take 11=t;rw[<-t1,vd]
 have c0:([.s 0 0,.s 0 0,.ba,bt,.s 0 0,.s 0 0,bt,.s 0 0,.s 0 0,.s 0 0,.s 0 0,.s 0 0,.ba,.ba]:az)=Up:=rfl;rw[J7,aH,av L,dG cu,cY,av M,aU t1,Yh,c0,ant t1,<-nK,jB al Z,aq,iR];clear nK;have x:jl P m ix (h.fc 0 2183 49 14 [F] false) i c dj g:=w.dP;have E:∀f:bg->ay,i0 (h.fc 0 2183 49 14 [F] false).am 14 (.aV (0+2183) (ie h 0 2183) 0 1) f=f [F]:=λf=>pt hX (by rfl) f;have a3:(h.fc 0 2183 49 14 [F] false).am (0+18)= .box mZ r:=fJ L;have a4:(h.fc 0 2183 49 14 [F] false).am (0+23)= .box B t:=fJ M;generalize h.fc 0 2183 49 14 [F] false=o at x E a3 a4 ⊢;generalize ie h 0 2183=dt at E ⊢
 haveI:=x.ax
 haveI:=x.b5
 obtain⟨j,c3⟩:=x.f.g3 (d':=2184) (bytes:=232) E (by omega) (by omega);have e2:=w.e2;have a5:∀f∈c++[F],IF P f:=λf hf=>(fq.1 hf).elim (w.bY f) λh=>by rw[List.mem_singleton.1 h];exact⟨Z,al,by rw[ar];exact A.1,by rw[ar];exact A.2⟩
 have bd:∀C∈g++[t],ib C/\P C:=λC h'=>(fq.1 h').elim (w.ap C) λh=>by rw[List.mem_singleton.1 h];exact A
 have bs:gm 0 2184 49 14 (o.je 0 2184 j 49 14 (c++[F]) false) (.aV (0+2184) j 0 (c++[F]).length) (c++[F]):=gm.new;have bx:tN (o.je 0 2184 j 49 14 (c++[F]) false) dj g:=x.aa.dP;have b1:(o.je 0 2184 j 49 14 (c++[F]) false).am (0+18)= .box mZ r:=ic a3;have b2:(o.je 0 2184 j 49 14 (c++[F]) false).am (0+23)= .box B t:=ic a4;have cc:(o.je 0 2184 j 49 14 (c++[F]) false).am (0+2097)=ix:=ic x.ak;have c4:cp (o.je 0 2184 j 49 14 (c++[F]) false) 0:=inferInstance;have c5:dS (o.je 0 2184 j 49 14 (c++[F]) false):=inferInstance;rw[c3];generalize o.je 0 2184 j 49 14 (c++[F]) false=k at bs bx b1 b2 cc c4 c5 ⊢;rw[av b2,aU t1,jB t2 t1,aq,iR];have K7:tN (k.fc 0 2187 44 11 [t] false) dj g:=bx.dP;have G:gm 0 2184 49 14 (k.fc 0 2187 44 11 [t] false) (.aV (0+2184) j 0 (c++[F]).length) (c++[F]):=bs.am (fJ rfl);have H:(k.fc 0 2187 44 11 [t] false).am (0+18)= .box mZ r:=fJ b1;have I:(k.fc 0 2187 44 11 [t] false).am (0+2097)=ix:=fJ cc;have D:∀f:bg->ay,i0 (k.fc 0 2187 44 11 [t] false).am 11 (.aV (0+2187) (ie k 0 2187) 0 1) f=f [t]:=λf=>pt hX (by rfl) f;have j1:cp (k.fc 0 2187 44 11 [t] false) 0:=inferInstance;have j2:dS (k.fc 0 2187 44 11 [t] false):=inferInstance;generalize k.fc 0 2187 44 11 [t] false=h3 at K7 G H I D j1 j2 ⊢;generalize ie k 0 2187=dz at D ⊢;rcases K7 with O|⟨dd,O⟩;obtain⟨s2,J⟩:=O.g3 (d':=2188) (bytes:=176) D (by omega) (by omega);rw[J];refine K _ _ _ _ _ ⟨inferInstance,inferInstance,G.am (ic (d:=2188) rfl),.inl gm.new,a5,bd,by simp;omega,by simp;omega,ic I⟩ (ic H);obtain⟨s2,J⟩:=O.g3 (d':=2188) (bytes:=176) D (by omega) (by omega) (by decide) (λe=>absurd e dd);rw[J];refine K _ _ _ _ _ ⟨inferInstance,inferInstance,G.am (ic (d:=2104) rfl),.inr ⟨by simp,gm.new⟩,a5,bd,by simp;omega,by simp;omega,ic I⟩ (ic H)
theorem jl.try(O:yY u)(I:jl P m ix h i c dj g)(hm:m<=6)(R:IQ P r p q d z n)(ht:ib t)(cs:h.am (0+18)= .box mZ r){J:bg}{j:Nat}(cu:J[j]? =some t)(ex:j<1000000){V:ao}
 (K:∀(h':aO) (o:ao) (L:bg) (w:ao) (S:bg),jl P m ix h' o L w S->h'.am (0+18)= .box mZ r->oD P (l a b' o w c' e' f' (.aQ (0+18) mZ 0) g' i' l' (.aN 11 J) V (aA (((j+1:Nat)):Int)) h')):
 oD P (P5 u 0 l a b' i dj c' e' f' (.aQ (0+18) mZ 0) g' i' l' (.aN 11 J) V (aA ((j:Nat):Int)) h):=by
 haveI:=I.ax
 haveI:=I.b5
 obtain⟨t1,t2⟩:=ht.pL.p;have cY:((j+1:Nat):Int)=(j:Int)+1:=by omega
 rw[cY]at K;obtain⟨Z,al⟩:∃Z:sE,Z= λc0 B C D c1 G H c2 K c3 M N O P Q=>dT P br λR=>l c0 B C D c1 G H c2 K c3 M N O R Q:=⟨_,rfl⟩;have T:∀(h':aO) (o:ao) (L:bg) (w:ao) (S:bg),jl P m ix h' o L w S->h'.am (0+18)= .box mZ r->oD P (Z a b' o w c' e' f' (.aQ (0+18) mZ 0) g' i' l' (.aN 11 J) V (aA ((j:Nat):Int)) h'):=λh' o L w S S' o'=>by have:=K h' o L w S S' o';rw[al];show oD P (dT (aA ((j:Nat):Int)) br λR=>l a b' o w c' e' f' (.aQ (0+18) mZ 0) g' i' l' (.aN 11 J) V R h');rw[b8,fV];exact this
 have e:jl P m ix ((h.cB 0 20 44 cW).dp 0 20 t) i c dj g:=I.cB.dp;have x:((h.cB 0 20 44 cW).dp 0 20 t).am (0+18)= .box mZ r:=fS (fZ cs);have ar:((h.cB 0 20 44 cW).dp 0 20 t).am (0+20)= .box (fK h 0 20 44) t:=gn ec;have fl:∀k:ao->ay,cv false i k=k (aA (c.length:Nat)):=λk=>by rcases I.f with⟨rfl,rfl⟩|⟨s,rfl,_⟩;exact li k;exact z0 _ _ _ _ k
 have n30:(n30:ao)=aA 30:=by rw[db];rfl
 have lf:=I.nS;rw[P5,fH cu,cI,aU t1,cF,cM t1,fl,n30,lR,<-al];generalize fK h 0 20 44=e0 at ar ⊢;generalize (h.cB 0 20 44 cW).dp 0 20 t=E at e x ar ⊢;clear al K;by_cases a5:(30:Int)<=(c.length:Int);rw[dJ a5,bw];exact e.ret;rw[gy a5,bc,Yd]
 haveI:=e.ax
 haveI:=e.b5
 have fn:=R.ad;have CE:=R.jA;have ih:=R.aG;have Gx:=R.kJ;have bd:0+17+11<=r.length:=by omega
 have c4:(ej p.1 p.2.1 (hR p.2.2)).length=11:=rfl;have bs:cg (ej p.1 p.2.1 (hR p.2.2))=true:=rfl;have fp:e3 [20] 20=true:=rfl;have c5:([ej p.1 p.2.1 (hR p.2.2)]:bg)[0]? =some (ej p.1 p.2.1 (hR p.2.2)):=rfl;have bx:=S4 R.aW (hR q.1);rw[aH,aS,bO,aP,av x,aL CE,be,aP,b7,gQ c5,aS,be,aP,cI,aU c4,aS,bO,aP,av ar,aU t1,Yc,be (Sb bs),be (Sb t2),aP,a6 bs,a6 t2,aq,aq];rcases O.Rm p R.aw t ht with⟨y,W,rfl,a1⟩|a1
 rotate_left 1
 rw[a0 a1,ez _ _,eA _ _,e1,jI,bw];exact T _ _ _ _ _ e x;rw[a0 a1,ez _ _,eA _ _,e1,gX,bc,Yb,bn,aH,av x,aL ih];obtain⟨v,hv,dd⟩:=e.aa.fh;have e2:=e.e2;have ds:kV p.2.2 y=kV q.1 y:=by rw[R.aM]
 rw[ds,dd,R.bq,i2,aq,aq,aq];rcases R.auQ u O v g y hv (by omega) e.ap W with⟨dt,a2⟩|a2
 rotate_left 1
 rw[a0 a2,ez _ _,P9,eA _ _,e1,jI,gf,J9,cf,cA,bw];exact T _ _ _ _ _ e x;have dz:=O.nL q R.aW 3 y W;have ee:=O.uu q R.aW 3 y W;obtain⟨X,em⟩:=R.aa y W;obtain⟨a3,b1⟩:=X.pL.p;obtain⟨en,fr,ft,eq⟩:=O.Ro _ X.pL;have dB:(q.2 y)[0+0]? =some (aA 3):=by rw[R.ab];exact(Cq _ _ _).dB
 rw[a0 a2,ez _ _,P9,eA _ _,e1,gX,cV,aH,av x,dG bd,Gx,b4,a6 bx.2,i2,aq,aq,a0 dz,J9,cf,ch,bc,Yl,aH,av x,dG bd,Gx,b4,a6 bx.2,i2,aq,aq,a0 ee,cF,cM a3];have A:jl P m ix ((E.cB 0 23 44 cW).dp 0 23 (q.2 y)) i c dj g:=e.cB.dp;have Y:((E.cB 0 23 44 cW).dp 0 23 (q.2 y)).am (0+18)= .box mZ r:=fS (fZ x);have F:((E.cB 0 23 44 cW).dp 0 23 (q.2 y)).am (0+23)= .box (fK E 0 23 44) (q.2 y):=gn ec;generalize fK E 0 23 44=ge at F ⊢;generalize (E.cB 0 23 44 cW).dp 0 23 (q.2 y)=h2 at A Y F ⊢
 haveI:=A.ax
 haveI:=A.b5
 obtain⟨er,es,ev⟩:=A.aa.fh;obtain⟨kN,a4,b2⟩:=O.xN d R.aD er g (z y) es (by omega) (λa ha=>(e.ap a ha).1.pL) (by rw[<-R.ab];exact X.pL) em;rw[<-R.ab]at b2 a4;have gl:=a4.1;have go:=a4.2.1;have G1:(G1:ao)=aA 200:=by rw[db];rfl
 rw[Yk,bn,aH,av F,aL dB,e4,cd,bA,cV,av F,aU a3,bE,a6 b1,aq,a0 eq,G1,i1,P8];by_cases cc:(200:Int)<en;rw[dJ cc,ch,gf,J8,cf,cA,bw];exact T _ _ _ _ _ A Y;rw[gy cc,ch,cV,av F,aU a3,b4,ev,a6 b1,aq,aq,a0 b2,b8,cd,J8,ch];by_cases cn:kN=1;rw[dJ cn,bw];exact T _ _ _ _ _ A Y;rw[gy cn,bc];exact A.add (by omega) hm ⟨X,dt⟩ R Y F T
end
end
end
section
variable{c a c' e' x:ao}{all rs es:bg}{g sz:Nat}{h:aO}{t:az}
section
variable[Tok] {u:Fn}{b:Nat}
theorem abT(e i k l o w y A B C n:Nat)(f:rA->rA):z3 e i k l o w y A B C (n+1) f=f (z3 e i k l o w y A B C n f):=rfl
theorem abU(e i k l o w y A B C D E F G n:Nat)(f:sE->sE):C1 e i k l o w y A B C D E F G (n+1) f=f (C1 e i k l o w y A B C D E F G n f):=rfl
section
variable{P:az->Prop}{m:Nat}{ix:eQ}{r:az}{p:Nat×Nat×Nat}{q:Nat×(az->az)}{d:Nat×Nat}{z:az->az}{j:ao}
theorem aqp(O:yY u)(D:m<=6)(R:IQ P r p q d z j)(E:cE 11 c all)(F:∀t∈all,ib t)(S:all.length<900000){b' f' g' i' l':ao}{mZ:Nat}{kE:rA}
 (K:∀(h':aO) (y:ao) (G:bg) (A:ao) (H:bg),jl P m ix h' y G A H->oD P (kE a b' y A c' e' f' g' i' l' h')):
 ∀(n i N:Nat) (h:aO) (e:ao) (k:bg) (dj:ao) (l:bg),n+i=all.length->n<N->jl P m ix h e k dj l->h.am (0+18)= .box mZ r->
 oD P (C1 3 9 12 13 14 15 16 18 68 69 70 74 75 76 N (Ci u 0 kE) a b' e dj c' e' f' (.aQ (0+18) mZ 0) g' i' l' c (aA all.length) (aA ((i:Nat):Int)) h):=by
 intro n;induction n with
 |zero=>
  intro i N h e k dj l I J w B;obtain⟨N,rfl⟩:=eC N;have hi:i=all.length:=by omega
  subst hi;rw[abU];generalize C1 3 9 12 13 14 15 16 18 68 69 70 74 75 76 N (Ci u 0 kE)=L;rw[Ci,cz,bA,bc];exact K _ _ _ _ _ w
 |succ n M=>intro i N h e k dj l I J w B;obtain⟨N,rfl⟩:=eC N;obtain⟨t,o⟩:∃t,all[i]? =some t:=⟨_,fo (by omega)⟩;have Q:c= .aN 11 all:=E.elim (λh=>by rw[h.2]at o;cases o) id;have C:=λh e k dj l=>M (i+1) N h e k dj l (by omega) (by omega);subst Q;rw[abU];generalize C1 3 9 12 13 14 15 16 18 68 69 70 74 75 76 N (Ci u 0 kE)=L at C ⊢;rw[Ci,cz,bM,bw];exact w.try O D R (F t (eH o)) B o (by omega) C
theorem tg(O:yY u)(hm:m<=6)(T:Bc P)(ho:ix= .aV g 81 34 rs false)(ar:∀r∈rs,r.length=34/\cg r=true/\y0 r)(c0:rs.length<=900)(W:cE 11 c all)(a1:∀t∈all,ib t)(a2:all.length<900000){j6:rB}
 (K:∀(h':aO) (I:ao) (L:bg) (J:ao) (M:bg),jl P m ix h' I L J M->oD P (j6 a (.aV (0+2097) g 0 rs.length) I J c' e' h')):
 ∀(n i N:Nat) (h:aO) (e:ao) (l:bg) (dj:ao) (o:bg),n+i=rs.length->n<N->jl P m ix h e l dj o->
 oD P (z3 3 9 12 13 14 15 16 68 69 70 N (Cj u 0 j6) a (.aV (0+2097) g 0 rs.length) e dj c' e' c (.aV (0+2097) g 0 rs.length) (aA rs.length) (aA ((i:Nat):Int)) h):=by
 intro n;induction n with
 |zero=>
  intro i N h e l dj o hn a3 E;obtain⟨N,rfl⟩:=eC N;have hi:i=rs.length:=by omega
  subst hi;rw[abT];generalize z3 3 9 12 13 14 15 16 68 69 70 N (Cj u 0 j6)=kE;rw[Cj,cz,bA,bc];exact K _ _ _ _ _ E
 |succ n a4=>
  intro i N h e l dj o hn a3 E;obtain⟨N,rfl⟩:=eC N;obtain⟨r,X⟩:∃r,rs[i]? =some r:=⟨_,fo (by omega)⟩;obtain⟨Q,a5,eE⟩:=ar r (eH X);obtain⟨p,q,d,z,j,R⟩:=avr T Q a5 eE
  haveI:=E.ax
  haveI:=E.b5
  have S:=λh e l dj o=>a4 (i+1) N h e l dj o (by omega) (by omega);have bd:((i+1:Nat):Int)=(i:Int)+1:=by omega
  rw[bd]at S;have Y:h.am (0+2097)= .aV g 81 34 rs false:=E.ak.trans ho;obtain⟨A,Z⟩:∃A:az,A=hG:=⟨_,rfl⟩;have bs:A.length=34:=by rw[Z];rfl
  rw[abT];generalize z3 3 9 12 13 14 15 16 68 69 70 N (Cj u 0 j6)=kE at S ⊢;have bx:jl P m ix ((h.cB 0 18 81 A).dp 0 18 r) e l dj o:=E.cB.dp;have b1:((h.cB 0 18 81 A).dp 0 18 r).am (0+18)= .box (fK h 0 18 81) r:=gn ec;have b2:(h.cB 0 18 81 A).am (0+18)= .box (fK h 0 18 81) A:=ec;have lv:=cE.len W;obtain⟨V,al⟩:∃V:rA,V= λv w x y z cc B C D cn G=>dT cn br λH=>kE v w x y z cc B C D H G:=⟨_,rfl⟩;have F:=aqp (ix:=ix) O hm R W a1 a2 (a:=a) (b':= .aV (0+2097) g 0 rs.length) (c':=c') (e':=e') (f':=c) (g':= .aV (0+2097) g 0 rs.length) (i':=aA rs.length) (l':=aA ((i:Nat):Int)) (mZ:=fK h 0 18 81) (kE:=V) (λh' I L J M S'=>by rw[al];show oD P (dT (aA ((i:Nat):Int)) br λH=>kE a (.aV (0+2097) g 0 rs.length) I J c' e' c (.aV (0+2097) g 0 rs.length) (aA rs.length) H h');rw[b8,fV];exact S h' I L J M S') all.length 0 1000000 _ e l dj o rfl (by omega) bx b1
  have cu:∀k:ao->ay,bh h.am true 34 (.eP (0+2097) g i 0) k=k (.agg r):=λk=>by have cY:bh h.am true 34 (.eP (0+2097) g i 0) k=lq (h.am (0+2097)) λs' _ _ ea _=>bB (Nat.beq g s') (qb i ea λcs=>me true 34 cs 0 k) .aF:=rfl;rw[cY,Y,uO,fI,da,G6 X,aU Q]
  rw[Cj,cz,bM,bw,Ye,GR Y (by omega),cu,<-Z,cF,cM (ho:=b2) Q bs,lv,b7,<-al];exact F
theorem abm{v:ao}(h:cE sz v es)(ob:dE)(f:bg->ay):i0 ob sz v f=f es:=by rcases h with⟨rfl,rfl⟩|rfl;rfl;exact CR _ _ _ f
theorem tN.mK(H:tN h x es)(f:bg->ay):i0 h.am 11 x f=f es:=by
 have e:∀d,gm 0 d 44 11 h x es->i0 h.am 11 x f=f es:=λd O=>by rcases O with⟨rfl,rfl⟩|⟨s,rfl,ho⟩;rfl;exact abl ho f
 exact H.elim (e _) λh=>e _ h.2
theorem abg{d e bytes:Nat}{y:ao}(j:∀f:bg->ay,i0 h.am sz y f=f [])(k:dv):fW 0 d none e sz bytes .ba y false h k=k .ba h:=by
 have e0:fW 0 d none e sz bytes .ba y false h k=i0 h.am sz y λys=>mr ys λys=>gc (eJ ys) λn=>
  (bB (Nat.ble (Nat.mul n bytes) 1099511627776) (bB (Nat.ble n 1099511627776)
   (@List.rec az (λ_=>ay) (px 0 none [] h λh'=>k .ba h') (λ_ _ _=>gc (Nat.add 0 d) λq=>gc (Nat.add (ns (h.am q)) 1) λbZ=>tv ys [] λrs=>nP 0 none q (.o6 bZ e sz rs false) h λh'=>k (.aV q bZ 0 n) h') ys) .aF) .aF):=rfl
 rw[e0,j,ms,fN,gV,eT,dJ (by simp),da,eT,dJ (by simp),da];rfl
theorem jl.round{A dj:ao}{B i:bg}(w:jl P m ix h A B dj i)(N:m<=6)(G:ib t)(H:∀l:bg,l.length<=60->(∀t∈l,ib t)->∃v es,cE 11 v es/\(∀e∈es,ib e)/\es.length<=60*364/\bf u 26 [.aN 11 l] v):
 ∃v es h',jl P m ix h' A B dj i/\cE 11 v es/\(∀e∈es,ib e)/\es.length<=60*364/\∀k:dv,(fW 0 2112 none 44 11 176 .ba dj false h λI l=>fW 0 2114 none 44 11 176 I (.aN 11 [t]) false l λm n=>bE u 0 26 m n k)=k v h':=by
 haveI:=w.ax
 haveI:=w.b5
 obtain⟨v,es,C,D,E,y⟩:=H (i++[t]) (by have:=w.e2;have:=w.nS;simp;omega) λJ K=>(fq.1 K).elim (λh=>(w.ap J h).1) λh=>by rw[List.mem_singleton.1 h];exact G
 by_cases F:i=[];subst F;refine⟨v,es,_,w.dP (d:=2114) (o:=nr (ie h 0 2114) 44 11 [t] false),C,D,E,λk=>?_⟩;have y:bf u 26 [.aN 11 [t]] v:=y;rw[abg w.aa.mK,zW (ys:=[t]) (λf=>CR _ _ _ f) (by simp) (λo=>kC 0 _) (by simp) (by simp),bE,jY (es:=[t]) (kk (h:=h) (d:=2114)) rfl,aq,a0 y];rfl;have O:i.length<=40:=by have:=w.e2;have:=w.nS;omega
 refine⟨v,es,_,(w.dP (d:=2112) (o:=nr (ie h 0 2112) 44 11 i false)).dP (d:=2112) (o:=nr (Nat.add (ie h 0 2112) 1) 44 11 (i++[t]) false),C,D,E,λk=>?_⟩;have L:(h.je 0 2112 (ie h 0 2112) 44 11 i false).am (0+2112)= .aV (ie h 0 2112) 44 11 i false:=kk;have M:i.length+[t].length=(i++[t]).length:=by simp
 rw[zW (ys:=i) w.aa.mK F (λo=>kC 0 _) (by omega) (by omega),K9 (d:=2112) (ys:=[t]) L (λf=>CR _ _ _ f) rfl (λo=>kC 0 _) (by simp;omega) (by simp;omega),bE,jY (es:=i++[t]) (kk (h:=h.je 0 2112 (ie h 0 2112) 44 11 i false) (d:=2112)) M,aq,a0 y];rfl
theorem r9(O:yY u)(J:∀l:bg,l.length<=60->(∀t∈l,ib t)->∃v es,cE 11 v es/\(∀e∈es,ib e)/\es.length<=60*364/\bf u 26 [.aN 11 l] v)(G:m<=6)(T:Bc P)(ho:ix= .aV g 81 34 rs false)(K:∀r∈rs,r.length=34/\cg r=true/\y0 r)(L:rs.length<=900)(M:ib t):
 ∀(n i N:Nat) (h:aO) (A:ao) (o:bg) (dj:ao) (B:bg),n+i=3->n<N->jl P m ix h A o dj B->
 oD P (fm 3 9 12 13 14 N (Ck u 0 (λk l=>tu 0 k l)) (.aN 11 [t]) (.aV (0+2097) g 0 rs.length) A dj (aA ((i:Nat):Int)) h):=by
 intro n;induction n with
 |zero=>
  intro i N h A o dj B Q R C;obtain⟨N,rfl⟩:=eC N;have hi:i=3:=by omega
  subst hi;rw[iz];generalize fm 3 9 12 13 14 N (Ck u 0 (λk l=>tu 0 k l))=H;rw[Ck,fu,cz,bA,bc];exact C.ret
 |succ n S=>
  intro i N h A o dj B Q R C;obtain⟨N,rfl⟩:=eC N;have E:=λh A o dj B=>S (i+1) N h A o dj B (by omega) (by omega);have V:((i+1:Nat):Int)=(i:Int)+1:=by omega
  rw[V]at E;rw[iz];generalize fm 3 9 12 13 14 N (Ck u 0 (λk l=>tu 0 k l))=H at E ⊢;have I:∀{h:aO}{A:ao}{o:bg}{dj:ao}{B:bg},jl P m ix h A o dj B->∀k:ao->ay,cv false A k=k (aA (o.length:Nat)):=λC k=>by rcases C.f with⟨rfl,rfl⟩|⟨s,rfl,_⟩;exact li k;exact z0 _ _ _ _ k
  have W:∀k:ao->ay,cv false (.aV (0+2097) g 0 rs.length) k=k (aA (rs.length:Nat)):=λk=>z0 _ _ _ _ k;obtain⟨c,all,h',X,Y,Z,a1,er⟩:=C.round G M J;have F:=tg (ix:=ix) O G T ho K L Y Z (by omega) (a:= .aN 11 [t]) (c':=aA ((i:Nat):Int)) (e':=aA ((o.length:Nat):Int)) (j6:=P4 u 0 (λk l=>tu 0 k l) (λt v w x y z=>dT y br λal=>H t v w x al z)) (λh2 a2 ar a3 a4 D=>by have a5:=D.nS;have lf:=C.nS;rw[P4,I D,cd];by_cases e:(ar.length:Int)=(o.length:Int);rw[dJ e,bw];exact D.ret;rw[gy e,bc,b8,fV];exact E _ _ _ _ _ D) rs.length 0 1000000 h' A o dj B rfl (by omega) X
  rw[Ck,fu,cz,bM,bw,Yf,I C,er,W,b7];exact F
theorem alz(O:yY u)(y:∀l:bg,l.length<=60->(∀t∈l,ib t)->∃v es,cE 11 v es/\(∀e∈es,ib e)/\es.length<=60*364/\bf u 26 [.aN 11 l] v)(T:Bc P)(A:∀r∈rs,r.length=34/\cg r=true/\y0 r)(B:rs.length<=900)(C:ib t){i:bg}(D:cE 11 c i)(E:∀a∈i,ib a/\P a)(F:i.length<=6)
 [cp h 0][dS h](G:gm 0 2097 81 34 h x rs):oD P (xo u 0 c (.aN 11 [t]) x h):=by
 rcases G with⟨rfl,rfl⟩|⟨g,rfl,ix⟩;have H:∀k:ao->ay,cv false .ba k=k (aA ((0:Nat):Int)):=λk=>li k;rw[xo,H,b7,cd,bM,bw,tu,bJ,uz];exact⟨.ba,[],.inl ⟨rfl,rfl⟩,by simp,(λf n=>by cases n),b6⟩;have I:∀k:ao->ay,cv false (.aV (0+2097) g 0 rs.length) k=k (aA (rs.length:Nat)):=λk=>z0 _ _ _ _ k;rw[xo,I,b7,cd];by_cases e:(rs.length:Int)=0;rw[dJ e,bw,tu,bJ,uz];exact⟨.ba,[],.inl ⟨rfl,rfl⟩,by simp,(λf n=>by cases n),b6⟩;rw[gy e,bc,Yg];by_cases w:i=[];subst w;rw[abg (abm D _),b7];exact r9 O y (m:=0) (by omega) T rfl A B C 3 0 1000000 h .ba [] .ba [] rfl (by omega) ⟨inferInstance,inferInstance,.inl ⟨rfl,rfl⟩,.inl (.inl ⟨rfl,rfl⟩),(λf n=>by cases n),(λf n=>by cases n),by simp,rfl,ix⟩;rw[zW (ys:=i) (abm D _) w (λo=>kC 0 _) (by omega) (by omega),b7];exact r9 O y (m:=i.length) F T rfl A B C 3 0 1000000 (h.je 0 2104 (ie h 0 2104) 44 11 i false) .ba [] (.aV (0+2104) (ie h 0 2104) 0 i.length) i rfl (by omega) ⟨inferInstance,inferInstance,.inl ⟨rfl,rfl⟩,.inr ⟨w,gm.new⟩,(λf n=>by cases n),E,by simp,by simp,ic ix⟩
theorem aqE(a3:∀r∈all,wI r)(cn:all.length<=900)(K:∀(h:aO) (x:ao) (rs:bg),cp h 0->dS h->(∀r∈rs,r.length=34/\cg r=true/\y0 r)->rs.length<=900->gm 0 2097 81 34 h x rs->oD P (xo u 0 c (.aN 11 [t]) x h)):
 ∀(n i N:Nat) (h:aO) (x:ao) (rs:bg),n+i=all.length->n<N->cp h 0->dS h->(∀r∈rs,r.length=34/\cg r=true/\y0 r)->rs.length<=i->gm 0 2097 81 34 h x rs->
 oD P (k1 2 3 9 26 27 28 N (Cl u 0 (xo u 0)) c (.aN 11 [t]) x (.aN 34 all) (aA all.length) (aA ((i:Nat):Int)) h):=by
 intro n;induction n with
 |zero=>
  intro i N h x rs hn a4 ub b5 G O I;obtain⟨N,rfl⟩:=eC N;have hi:i=all.length:=by omega
  subst hi;rw[ti];generalize k1 2 3 9 26 27 28 N (Cl u 0 (xo u 0))=j6;rw[Cl,cz,bA,bc];exact K h x rs ub b5 G (by omega) I
 |succ n a5=>
  intro i N h x rs hn a4 ub b5 G O I;obtain⟨N,rfl⟩:=eC N;obtain⟨r,Q⟩:∃r,all[i]? =some r:=⟨_,fo (by omega)⟩;obtain⟨C,R,eE⟩:=a3 r (eH Q);have H:=λh x rs=>a5 (i+1) N h x rs (by omega) (by omega);have bd:((i+1:Nat):Int)=(i:Int)+1:=by omega
  rw[bd]at H;obtain⟨l,J⟩:∃l:az,l=hG:=⟨_,rfl⟩;have bs:l.length=34:=by rw[J];rfl
  rw[ti];generalize k1 2 3 9 26 27 28 N (Cl u 0 (xo u 0))=j6 at H ⊢;have S:(h.cB 0 11 81 l).am (0+11)= .box (fK h 0 11 81) l:=ec;have A:((h.cB 0 11 81 l).dp 0 11 r).am (0+11)= .box (fK h 0 11 81) r:=gn S;have L:gm 0 2097 81 34 ((h.cB 0 11 81 l).dp 0 11 r) x rs:=I.am (fS (fZ rfl));have T:cp ((h.cB 0 11 81 l).dp 0 11 r) 0:=inferInstance;have V:dS ((h.cB 0 11 81 l).dp 0 11 r):=inferInstance;rw[Cl,cz,bM,bw,Yj,fH Q,cI,aU C,<-J,cF,Yi,cM (ho:=S) C bs];generalize fK h 0 11 81=bx at A ⊢;generalize (h.cB 0 11 81 l).dp 0 11 r=B at A L T V ⊢;have cs:=O;rcases eE with⟨k,k0,cu,k2,b1,cX⟩|eE;have F:=H B x rs T V G (by omega) L;rw[bn,aH,av A,aL cX,fu,cd,gy b1,cV,aH,av A,aL cX,e4,cd,gy k2,F5,ch,gB,F4,ch,cl,bc,b8,fV];exact F;obtain⟨k,M,cX,hk,CE⟩:∃(k:Int) (M:az),r[0+2]? =some (aA k)/\(k=2\/k=3)/\r[0+28]? =some (.aN 11 [M]):=by
   cases eE with
   |len W c1 X Y Z D h3 al E=>exact⟨2,_,D,.inl rfl,E⟩
   |di W c1 X Y Z D h3 al E=>exact⟨3,_,D,.inr rfl,E⟩
   |G2 W c1 X Y Z D h3 al E=>exact⟨3,_,D,.inr rfl,E⟩
  have ar:∀k:ao->ay,cv false (.aN 11 [M]) k=k (aA 1):=λk=>gC _ _ k;have cY:cp (B.fc 0 2096 81 34 [r] false) 0:=inferInstance;have b2:gm 0 2097 81 34 (B.fc 0 2096 81 34 [r] false) x rs:=L.am (fJ rfl);obtain⟨s',cc⟩:=b2.g3 (d':=2097) (bytes:=544) (y:= .aV (0+2096) (ie B 0 2096) 0 1) (r:=r) (λf=>pt hX (by rfl) f) (by omega) (by omega);have F:=H _ _ (rs++[r]) inferInstance inferInstance (λr' h'=>(fq.1 h').elim (G r') λh=>by rw[List.mem_singleton.1 h];exact⟨C,R,eE⟩) (by simp;omega) (gm.new (h:=B.fc 0 2096 81 34 [r] false) (d:=2097) (e:=81) (sz:=34) (s:=s'));have tail:oD P (P6 u 0 (λo p q r s t v=>dT t br λw=>j6 o p q r s w v) (.aQ (0+11) bx 0) x c (.aN 11 [t]) (.aN 34 all) (aA all.length) (aA ((i:Nat):Int)) B):=by rw[P6,<-J,av A,aU C,jB R C,aq,iR,cc,b8,fV];exact F
  rcases hk with rfl|rfl;rw[bn,aH,av A,aL cX,fu,cd,bA,cV,aH,av A,aL cX,e4,cd,bM,F5,ch,dR,aH,av A,aL CE,ar,b7,i1,bM,F4,cA,bw];exact tail;rw[bn,aH,av A,aL cX,fu,cd,bM,gf,F5,cf,cA,dR,aH,av A,aL CE,ar,b7,i1,bM,F4,cA,bw];exact tail
end
theorem am8:bV λu=>∀P:az->Prop,Bc P->∀(w:bg) (c:ao) (k:bg) (t:az),w.length<=300->(∀e∈w,wE e)->cE 11 c k->(∀a∈k,ib a/\P a)->k.length<=6->ib t->
 ∃v i,cE 14 v i/\i.length<=30/\(∀f∈i,IF P f)/\bf u 9 [.aN 32 w,.ba,c,.aN 11 [t]] v:=by
 refine((amR.and amS).and anb).up λz h P T w c k t l n o y A B=>?_;obtain⟨⟨C,D⟩,O⟩:=h;obtain⟨all,E,G,H⟩:=C w l n;have F:oD P (FR (bR bX z) [.aN 32 w,.ba,c,.aN 11 [t]] 0 .nil):=by have e0:FR (bR bX z) [.aN 32 w,.ba,c,.aN 11 [t]] 0 .nil=P7 (bR bX z) 0 (.aN 32 w) .ba c (.aN 11 [t]) (bN 0 .nil):=rfl;rw[e0,P7,b4,i2,uz,aq,aq,a0 H,gC,b7];exact aqE G E (λh x rs ub b5 I J K=>alz O D T I J B o y A K) all.length 0 1000000 (bN 0 .nil) .ba [] rfl (by omega) inferInstance inferInstance (λr L=>by cases L) (by simp) (.inl ⟨rfl,rfl⟩)
 obtain⟨v,i,M,N,Q,R⟩:=F;exact⟨v,i,M,N,Q,eO FR R⟩
end
end
section
open Go.Proofs
section
variable[Tok]
def bo(x:ao):Nat:=match x with| .s _ c=>c|_=>0
def t0:az:=[bt,.s 0 0,.s 0 0,bt,.s 0 0,.s 0 0,.s 0 0,.s 0 0,.s 0 0,.ba,.ba]
end
end
section
variable[Tok]
def yn(F:az):bg:=vY F[2]?
def xp(F:az):az:=(F.drop (0+15)).take 11
def Qc(mk:az->az)(F:az):Bool:=match yn F with
 |[[.s a b,.s c d]]=>kI (mk (kQ (.s a b) (.s c d))) (xp F)
 |_=>false
def CC(h:eZ)(a c:ay):Bool:=K4 c&&(Nat.beq (mc c).length 37&&(cg (mc c)&&(([aA 0,aA 1,aA 2,aA 3].any λk=>kI [k] (((mc c).drop 3).take 1))&&
 (!(ko.any λg=>of g h)||(K4 a&&(kI (((mc c).drop 2).take 2) [.aN 2 (yn (mc a)),aA 1]&&(kI (xp (mc a)) (xp (mc c))&&(MJ (yn (mc a))&&(Nat.beq (yn (mc a)).length h.2.2.2.2&&(MN hT 40 (xp (mc a))&&ud.all λp=> !of p.1 h||Qc p.2 (mc a)))))))))))
def nh(n:Nat)(w:ao)(h:eZ):ay:=bR bX n 69 [w,.agg (cw (km h))] 0 .nil
end
section
variable{h:eZ}{w:ao}
section
variable[Tok]
theorem abc(n:Nat):(hT.all λh=>iu (bR bX (n+30) 96 [.agg (cw (km h))] 0 .nil) (.bD [bif ko.any (λg=>of g h) then aA 0 else aA h.2.2.2.2,.U (!ko.any λg=>of g h)]))=true:=by kernel_rfl
theorem apb(n:Nat)(l:bg):((lW++ko).all λh=>iu (bR bX (n+9) 60 [.agg (eG h l),.s 2 0x6966,aA 3] 0 .nil) (.U false))=true:=by kernel_rfl
theorem apa(n:Nat)(a c d:az):iu (bR bX (n+9) 60 [.agg (eG i5 [a,c,d]),.s 2 0x6966,aA 3] 0 .nil) (.U true)=true:=by kernel_rfl
theorem amw{g:eZ}(c:g∈hT)(d:h∈hT)(a:of g h=true):g=h:=by have b:=gp (gp aaU c) d;rw[a]at b;have e:=e8 (show Nat.beq g.2.2.2.2 h.2.2.2.2=true from b);simp only[of,cC]at a;exact Prod.ext (e8 a.1) (Prod.ext (e8 a.2.1) (Prod.ext (e8 a.2.2.1) (Prod.ext (e8 a.2.2.2) e)))
theorem Uw{l:List eZ}(c:∀h∈l,h∈hT)(d:h∈hT):(l.any λg=>of g h)=decide (h∈l):=by
 by_cases a:h∈l;rw[dJ a];exact nC.2 ⟨h,a,Gq h⟩;rw[gy a];cases e:l.any λg=>of g h with
 |false=>rfl
 |true=>obtain⟨g,b,i⟩:=nC.1 e;exact absurd (amw (c g b) d i▸b) a
theorem aaV:∀h∈ko,h∈hT:=λh=>uI
theorem Kd:∀p∈ud,p.1∈ko:=by decide+kernel
def Is(w:ao)(h:eZ)(ps:List dc)(a:az):Prop:=yn (mc (nh 60 w h))=ps.map cw/\xp (mc (nh 60 w h))=a
theorem To:∀{l m:List dc},l.map cw=m.map cw->l=m
 |[],[],_=>rfl
 |[],_::_,h=>by simp at h
 |_::_,[],h=>by simp at h
 |a::l,c::m,h=>by simp only[hN,jQ]at h;have b:=h.1;unfold cw at b;simp only[jQ,ao.s.injEq,and_true]at b;rw[To h.2,Prod.ext b.1.1 (Prod.ext b.1.2 (Prod.ext b.2.1 b.2.2))]
structure Nu (u:Fn) (w w0:ao) (h:eZ):Prop where
 lD:bf u 37 [w,.agg (cw (km h))] (.bD [aA h.2.2.2.2,.U true])
 fn:∃F e,bf u 69 [w,.agg (cw (km h))] (.bD [.agg F,.U e])/\F.length=37/\cg F=true/\(∃k:Int,-100<k/\k<100/\F[0+3]? =some (aA k))/\(h∈ko->∃ps bd,Ns F ps bd/\Is w0 h ps bd/\n5 40 bd/\ps.length=h.2.2.2.2)
theorem Bi{l:az}{i:Nat}{x:ao}{m:az}(h:(l.drop i).take (m.length+1)=x::m):l[i]? =some x:=by have:=oy (λl=>l[0]?) h;simpa[nz] using this
theorem ajT{mk:az->az}{F:az}(h:Qc mk F=true):∃s:dc,yn F=[s].map cw/\xp F=mk (H2 s):=by unfold Qc at h;split at h;rename_i a b c d e;exact⟨(a,b,c,d),e,(na h).symm⟩;cases h
theorem Q6{n:Nat}(a:h∈hT)(H:c7 (iu (bR bX (n+60) 37 [w,.agg (cw (km h))] 0 .nil) (.bD [aA h.2.2.2.2,.U true])) (CC h (nh 60 w h) (nh (n+60) w h))=true):Nu (bR bX (n+60)) w w h/\∀p∈ud,h=p.1->∃s:dc,yn (mc (nh 60 w h))=[s].map cw/\xp (mc (nh 60 w h))=p.2 (H2 s):=by
 obtain⟨t,o⟩:=sH H;simp only[CC,cC,Uw aaV a]at o;obtain⟨f1,f2,f3,f4,f5⟩:=o;obtain⟨e,s,d,u⟩:=aov f1;have x:∃k:Int,-100<k/\k<100/\(mc (nh (n+60) w h))[0+3]? =some (aA k):=by
  obtain⟨k,y,e⟩:=nC.1 f4;have e:=Bi (m:=[]) (na e).symm;have:k=aA 0\/k=aA 1\/k=aA 2\/k=aA 3:=by simpa using y
  rcases this with rfl|rfl|rfl|rfl<;>exact⟨_,by omega,by omega,e⟩
 have g:h∈ko->_:=λc=>by rw[dJ c]at f5;simp only[gX,Ic,cC]at f5;exact f5
 refine⟨⟨hF t,mc (nh (n+60) w h),e,⟨s,d,u⟩,e8 f2,f3,x,λc=>?_⟩,λp q i=>?_⟩;obtain⟨c8,cX,ih,og,nc,iH,KT⟩:=g c;have r:=(na cX);have j:=(aeo og);have e0:=Bi (m:=[aA 1]) r;have z:(mc (nh (n+60) w h))[0+3]? =some (aA 1):=by have:=oy (λl=>l[1]?) r;simpa[nz] using this
 refine⟨HP (yn (mc (nh 60 w h))),xp (mc (nh 60 w h)),⟨⟨_,e0,.inr (by rw[j])⟩,z,(na ih).symm⟩,⟨j.symm,rfl⟩,aet (λh a=>a) iH,?_⟩;have:=oy List.length j;rw[mw]at this;rw[this];exact e8 nc;obtain⟨c8,cX,ih,og,nc,iH,KT⟩:=g (i▸Kd p q);have KU:=gp KT q;rw[i,Gq]at KU;rw[i];exact ajT KU
theorem amk(H:∀h∈hT,c7 (iu (bR bX (0+60) 37 [w,.agg (cw (km h))] 0 .nil) (.bD [aA h.2.2.2.2,.U true])) (CC h (nh 60 w h) (nh (0+60) w h))=true):sC (Is w) where
 fn:=λh ps j k l a g=>⟨To (a.1.symm.trans g.1),a.2.symm.trans g.2⟩
 gz:=λp c ps j a=>by have d:p.1∈hT:=uI (Kd p c);obtain⟨s,e,i⟩:=(Q6 d (H _ d)).2 p c rfl;exact⟨s,To (a.1.symm.trans e),a.2.symm.trans i⟩
 dm:=λp c=>by have d:p.1∈hT:=uI (Kd p c);obtain⟨s,e,i⟩:=(Q6 d (H _ d)).2 p c rfl;exact⟨[s],_,e,rfl⟩
theorem anp{w0:ao}(A:∃n l,w= .aN n l)(H:∀n,∀h∈hT,c7 (iu (bR bX (n+60) 37 [w0,.agg (cw (km h))] 0 .nil) (.bD [aA h.2.2.2.2,.U true])) (CC h (nh 60 w0 h) (nh (n+60) w0 h))=true)
 (gx:bV λu=>∀h∈hT,(∀r,bf u 37 [w0,.agg (cw (km h))] r->bf u 37 [w,.agg (cw (km h))] r)/\∀r,bf u 69 [w0,.agg (cw (km h))] r->bf u 69 [w,.agg (cw (km h))] r):bV λu=>wN (Is w0) 40 u w:=by
 have B:bV λu=>∀h∈hT,Nu u w w0 h:=((bV.hE (C:=λu=>∀h∈hT,Nu u w0 w0 h) 60 λn h i=>(Q6 i (H n h i)).1).and gx).imp λn H h i=>by obtain⟨F,e,f1,f2⟩:=(H.1 h i).fn;exact⟨(H.2 h i).1 _ (H.1 h i).lD,F,e,(H.2 h i).2 _ f1,f2⟩
 have D:bV λu=>∀h∈hT,∃k:Int,bf u 96 [.agg (cw (km h))] (.bD [aA k,.U (decide (h∉ko))]):=bV.hE 30 λn h i=>by have:=hF (gp (abc n) i);rw[Uw aaV i]at this;by_cases j:h∈ko;rw[dJ j]at this;rw[gy (λh=>h j)];exact⟨_,this⟩;rw[gy j]at this;rw[dJ j];exact⟨_,this⟩
 have E:bV λu=>∀h∈hT,∀l:bg,l.length=h.2.2.2.2->bf u 60 [.agg (eG h l),.s 2 0x6966,aA 3] (.U (decide (h=i5))):=bV.hE 9 λn h i l G=>by
  rcases e9.1 i with rfl|i
  match l,G with
  |[a,c,d],_=>rw[dJ rfl];exact hF (apa n a c d)
  have I:h≠i5:=(fq.1 i).elim (λh=>(Am h).1) KR;rw[gy I];exact hF (gp (apb n l) i)
 have J:bV λu=>∀(t:dc) v p,cE 9 v (p.map gi)->oC p->bf u 134 [v,.agg (cw t)] (TG (nT t p)):=bV.lL.up λn _ t v p q y=>eO EB (akz q y);have K:bV λu=>∀v x (ps:List dc) (xs:bg),cE 2 v (ps.map cw)->cE 7 x xs->ps.length=xs.length->(∀o∈xs,dL o)->xs.length<=10->∃w,cE 9 w ((kX ps xs).map Go.Hf.gi)/\bf u 137 [v,x] w:=bV.lL.up λn _ v x ps xs q y L M N=>by obtain⟨w,O,P⟩:=akD (u:=bR bX n) q y L M N;exact⟨w,O,eO EG P⟩
 exact(((B.and D).and (E.and ane)).and (J.and K)).imp λn h=>⟨A,λg z=>(h.1.1.1 g z).lD,h.1.1.2,λg z=>(h.1.1.1 g z).fn,h.1.2.1,h.1.2.2,h.2.1,h.2.2⟩
end
end
section
variable[Tok]
theorem ao7(n:Nat):iu (bR bX (n+30) 40 [.agg dD,.agg e5] 0 .nil) (.U false)=true:=by kernel_rfl
theorem am3:bV λu=>∀o,dL o\/o=dD->∃x,bf u 40 [.agg o,.agg e5] (.U x)/\(dL o->(x=true↔o=e5)):=by have c:bV λu=>bf u 40 [.agg dD,.agg e5] (.U false):=bV.hE 30 λn=>hF (ao7 n);refine(c.and QY).imp λn h o ho=>?_;by_cases a:dL o;obtain⟨x,d,e⟩:=h.2.Gt o e5 a (pZ false);exact⟨x,d,λ_=>e⟩;obtain rfl:o=dD:=ho.resolve_left a;exact⟨false,h.1,λh=>absurd h a⟩
section
variable{D:eZ->List dc->az->Prop}{M:Nat}{w:ao}
end
section
variable{D:eZ->List dc->az->Prop}{w:ao}{u:Fn}
end
end
section
variable{h:eZ}{t x o:az}
section
variable[Tok] {D:eZ->List dc->az->Prop}{e:List (dc×az)}
theorem H4(c:h∈lW)(V:eD D e t x)(R:lg h.2.2.2.1 [x] o):eD D e (eG h [t]) o:= .Aj e h c [t] [x] o rfl (λi d x' a b=>by
 match i,a,b with
 |0,a,b=>simp at a b;subst a b;exact V
 |_+1,a,b=>simp at a) R
theorem DF(d:h∈lW){c x':az}(V:eD D e t x)(g:eD D e c x')(R:lg h.2.2.2.1 [x,x'] o):eD D e (eG h [t,c]) o:= .Aj e h d [t,c] [x,x'] o rfl (λi c x' a b=>by
 match i,a,b with
 |0,a,b=>simp at a b;subst a b;exact V
 |1,a,b=>simp at a b;subst a b;exact g
 |_+2,a,b=>simp at a) R
theorem H5{p:eZ×(az->az)}(c:p∈ud)(H:sC D)(V:eD D e t x)(B:∀s:dc,eD D (kX [s] [x]) (p.2 (H2 s)) o):eD D e (eG p.1 [t]) o:=by
 obtain⟨ps,g,d⟩:=H.dm p c;obtain⟨s,rfl,rfl⟩:=H.gz p c ps g d;exact .fn e p.1 (Kd p c) [s] _ d [t] [x] o rfl (λi j x' a b=>by
  match i,a,b with
  |0,a,b=>simp at a b;subst a b;exact V
  |_+1,a,b=>simp at a) (B s)
theorem u1(s:dc)(x:az):eD D (kX [s] [x]) (H2 s) x:= .var _ s x (by simp[nT,kX,awS])
open Classical in
theorem ac1(x:az):lg 0x696e746567657270 [x] (gW (decide (oU x))):=by constructor<;>first|(intro h;simp at h;done)|exactλ_=>⟨_,rfl,by simp⟩
open Classical in
theorem aui(x:az):lg 0x73796d626f6c70 [x] (gW (decide (x[0+0]? =some (aA 2)))):=by constructor<;>first|(intro h;simp at h;done)|exactλ_=>⟨_,rfl,by simp⟩
open Classical in
theorem auh(x:az):lg 0x726174696f6e616c70 [x] (gW (decide (x[0+0]? =some (aA 1)))):=by constructor<;>first|(intro h;simp at h;done)|exactλ_=>⟨_,rfl,by simp⟩
theorem aug(x:az):lg 0x636f6e7370 [x] (gW (qJ x)):=by constructor<;>first|(intro h;simp at h;done)|exactλ_=>rfl
theorem Ma(x y:az):lg 0x3c [x,y] (gW (decide (dY x<dY y))):=by constructor<;>first|(intro h;simp at h;done)|exactλ_=>rfl
open Classical in
theorem ac0(x y:az):lg 0x657175616c [x,y] (gW (decide (x=y))):=by constructor<;>first|(intro h;simp at h;done)|exactλ_=>⟨_,rfl,by simp⟩
end
end
section
variable{a o t:az}{s:Nat}{h:eZ}{l:bg}
section
variable[Tok] {D:eZ->List dc->az->Prop}{e:List (dc×az)}
theorem Sj:e5[0+0]? =some (aA 2):=rfl
theorem acx(r:Rat):e5≠eK r:=λh=>by have c:(eK r)[0+0]? =some (aA 1):=rfl;have b:=Sj;rw[h]at b;exact absurd (pe (l2 (c.symm.trans b)) (by omega) (by omega)) (by omega)
theorem adJ:dY e5=0:=Mr acx
theorem Hz(z:Int):dY (fw z 1)=z:=by rw[<-G8];exact Ms _
theorem auN{a c:Nat}(h:ql a c=some s):(a=5/\c=0x636f6e7370/\s=1536)\/(a=7/\c=0x73796d626f6c70/\s=224)\/(a=9/\c=0x726174696f6e616c70/\s=31)\/(a=8/\c=0x696e746567657270/\s=7):=by
 unfold ql at h;cases e:HA.find? λx=>Nat.beq x.1 a&&Nat.beq x.2.1 c with
 |none=>rw[e]at h;cases h
 |some x=>rw[e]at h;have i:=List.mem_of_find?_eq_some e;have g:=List.find?_some e;rw[cC]at g;have b:=e8 g.1;have d:=e8 g.2;simp only[jH,dN]at h;simp only[HA,e9,iV,iU]at i;rcases i with rfl|rfl|rfl|rfl;exact .inl ⟨b.symm,d.symm,h.symm⟩;exact .inr (.inl ⟨b.symm,d.symm,h.symm⟩);exact .inr (.inr (.inl ⟨b.symm,d.symm,h.symm⟩));exact .inr (.inr (.inr ⟨b.symm,d.symm,h.symm⟩))
theorem ack:((4,0x6c697370,5,0x657175616c,2):eZ)∈lW:=by decide
theorem LC:((4,0x6c697370,1,0x3c,2):eZ)∈lW:=by decide
theorem ad9(h:(o,s)∈o9):(o=e5/\s=32)\/(o≠e5/\kK s=false):=by simp only[o9,e9,h4,iV,iU]at h;rcases h with⟨rfl,rfl⟩|⟨rfl,rfl⟩|⟨rfl,rfl⟩;exact .inl ⟨rfl,rfl⟩;refine .inr ⟨λh=>?_,by decide⟩;have:gW true=gW false:=h;cases Tt this;refine .inr ⟨λh=>acx 0 ?_,by decide⟩;rw[<-h];rfl
open Classical in
theorem Yq(V:eD D e t e5)(h:jR t a s):(kK s=false->eD D e a e5)/\(kK s=true->∃x,x≠e5/\eD D e a x):=by
 have b:gW true≠e5:=λh=>by have:gW true=gW false:=h;cases Tt this
 have i:¬((e5[0+0]? :Option ao)=some (aA 1)):=λh=>by rw[Sj]at h;exact absurd (pe (l2 h) (by omega) (by omega)) (by omega)
 cases h with
 |adK a c s h=>rcases auN h with⟨rfl,rfl,rfl⟩|⟨rfl,rfl,rfl⟩|⟨rfl,rfl,rfl⟩|⟨rfl,rfl,rfl⟩;refine⟨λ_=>?_,λh=>absurd h (by decide)⟩;exact H4 (h:=(4,0x6c697370,5,0x636f6e7370,1)) (by decide) V (aug e5);refine⟨λh=>absurd h (by decide),λ_=>⟨gW true,b,?_⟩⟩;have:=H4 (h:=(4,0x6c697370,7,0x73796d626f6c70,1)) (by decide) V (aui e5);rw[dJ Sj]at this;exact this;refine⟨λ_=>?_,λh=>absurd h (by decide)⟩;have:=H4 (h:=(4,0x6c697370,9,0x726174696f6e616c70,1)) (by decide) V (auh e5);rw[gy i]at this;exact this;refine⟨λ_=>?_,λh=>absurd h (by decide)⟩;have:=H4 (h:=(4,0x6c697370,8,0x696e746567657270,1)) (by decide) V (ac1 e5);rw[gy λh=>i h.1]at this;exact this
 |LP=>refine⟨λ_=>?_,λh=>absurd h (by decide)⟩;have:=DF LC V (eD.gT (D:=D) e (fw 0 1)) (Ma e5 (fw 0 1));rw[adJ,Hz,gy (by simp)]at this;exact this
 |a9=>refine⟨λ_=>?_,λh=>absurd h (by decide)⟩;have:=DF LC (eD.gT (D:=D) e (fw 0 1)) V (Ma (fw 0 1) e5);rw[adJ,Hz,gy (by simp)]at this;exact this
 |Cz o s h=>have bH:=DF ack V (eD.gT (D:=D) e o) (ac0 e5 o);rcases ad9 h with⟨rfl,rfl⟩|⟨d,g⟩;rw[dJ rfl]at bH;exact⟨λh=>absurd h (by decide),λ_=>⟨_,b,bH⟩⟩;rw[gy (Ne.symm d)]at bH;exact⟨λ_=>bH,λh=>absurd h (by rw[g];decide)⟩
 |el o s h=>have bH:=DF ack (eD.gT (D:=D) e o) V (ac0 o e5);rcases ad9 h with⟨rfl,rfl⟩|⟨d,g⟩;rw[dJ rfl]at bH;exact⟨λh=>absurd h (by decide),λ_=>⟨_,b,bH⟩⟩;rw[gy d]at bH;exact⟨λ_=>bH,λh=>absurd h (by rw[g];decide)⟩
theorem aeU(H:sC D){x:az}(V:eD D e t x)(b:x≠e5):eD D e (dI dH (.s 3 0x6e6f74) [t]) e5:=
 H5 (p:=(CK,Kb)) fQ H V λs=> .vQ _ _ _ _ x _ (u1 s x) b (.gT _ _)
theorem afQ(H:sC D)(V:eD D e t e5)(h:nD t a s)(b:kK s=false):eD D e a e5:=by
 cases h with
 |self=>exact V
 |Yp a s h=>exact(Yq V h).1 b
 |neg=>exact absurd b (by decide)
 |act a s h c=>rw[afZ s c]at b;obtain⟨x,d,bH⟩:=(Yq V h).2 (by cases e:kK s<;>simp_all);exact aeU H bH d
def D8(o:az):Prop:=∃z:Int,o=eK z
theorem aoB:Lib.itoa 1=[0x31]:=by decide+kernel
theorem D8.int(h:D8 o):oU o:=by
 obtain⟨z,rfl⟩:=h;rw[G8];have b:dQ 1= .s 1 0x31:=by unfold dQ;rw[aoB];rfl
 refine⟨rfl,1,0x31,?_,rfl⟩;show some (dQ 1)=_;rw[b]
theorem Sh:fg o≠eG h l:=λb=>by unfold fg eG dI at b;rw[e4,fu]at b;exact absurd b (Aa (a:=2) (c:=3) (by omega) (by omega) (by omega))
theorem Si{p n:ao}:kQ p n≠eG h l:=λb=>by unfold kQ eG dI at b;rw[b8,fu]at b;exact absurd b (Aa (a:=1) (c:=3) (by omega) (by omega) (by omega))
theorem axo(H:sC D)(V:eD D e t o):(∀y,t=eG xR [y]->D8 o)/\(∀v,t=Qa v->D8 o)/\∀y,t=eG GC [fg (fw 1 1),eG xR [y]]->D8 o:=by
 have z5:xR∈hT:=uI (by decide);have j:GC∈hT:=z6 (by decide);have i:i5∈hT:=fQ;have p:xR≠i5:=by decide
 have q:GC≠i5:=by decide
 induction V with
 |var e s o h=>exact⟨λy b=>absurd b Si,λv b=>absurd b Si,λy b=>absurd b Si⟩
 |gT e o=>exact⟨λy b=>absurd b Sh,λv b=>absurd b Sh,λy b=>absurd b Sh⟩
 |vQ e a c d x y u K L w A=>refine⟨λy b=>absurd (pb i z5 b).1.symm p,λv b=>?_,λy b=>absurd (pb i j b).1.symm q⟩;have:=(pb i i b).2;simp only[jQ,and_true]at this;exact A.2.2 _ this.2.1
 |xU e a c d y u hd w M=>refine⟨λy b=>absurd (pb i z5 b).1.symm p,λv b=>?_,λy b=>absurd (pb i j b).1.symm q⟩;have:=(pb i i b).2;simp only[jQ,and_true]at this;rw[this.2.2]at hd;exact⟨0,(AI hd).2.1 _ rfl⟩
 |Aj e h g l xs o r k ho n=>
  refine⟨λy b=>?_,λv b=>absurd (pb (z6 g) i b).1 (Am g).1,λy b=>?_⟩;have:=(pb (z6 g) z5 b).1;exact absurd (this▸(by decide:xR∈ko)) (Am g).2;obtain⟨rfl,rfl⟩:=pb (z6 g) j b
  match xs,r,k,ho,n with
  |[B,C],_,k,ho,n=>have E:=(AI (k 0 _ B rfl rfl)).2.1 _ rfl;obtain⟨z,F⟩:=(n 1 _ C rfl rfl).1 y rfl;subst E F;have ho:=ho.add rfl;refine⟨1+z,ho.trans ?_⟩;show eK (dY (fw 1 1)+dY (eK (z:Rat)))=_;rw[Hz,Ms,<-Rat.intCast_add]
 |fn e h g ps G I l xs o r k N n J=>refine⟨λy b=>?_,λv b=>absurd (pb (uI g) i b).1 (KR g),λy b=>?_⟩;obtain⟨rfl,rfl⟩:=pb (uI g) z5 b;obtain⟨s,rfl,rfl⟩:=H.gz (xR,Qa) (by simp[ud]) ps G I;exact J.2.1 _ rfl;have:=(pb (uI g) j b).1;exact absurd g (this▸(Am (by decide:GC∈lW)).2)
end
end
section
variable[Tok] {D:eZ->List dc->az->Prop}{e:List (dc×az)}
def II(D:eZ->List dc->az->Prop)(e:List (dc×az))(t:az):Prop:=∀o,eD D e t o->o≠e5
theorem Se:CJ∈lW:=by decide
theorem AG:gW true≠e5:=λh=>by have:gW true=gW false:=h;cases Tt this
theorem Y5(H:sC D){t:az}{es:bg}(b:∀a∈es,ib a/\II D e a)(hd:wA (λa s=>nD t a s) es False t 1)(V:eD D e t e5):False:=by rcases hd.2.2 rfl with h|h|⟨a,c,s,_,d,g⟩;exact(b t h).2 _ V rfl;exact h;exact(b a c).2 _ (afQ H V d g) rfl
open Classical in
theorem HV(H:sC D):Bc (II D e):=by
 have u:∀(a:List (dc×az)) (t x:az),eD D a t x->eD D a (eG CJ [t]) (gW (decide (oU x))):=λa t x V=>H4 Se V (ac1 x);have w:∀(a:List (dc×az)),eD D a (fg (fw 0 1)) (fw 0 1):=λa=> .gT _ _;have z:∀(a:List (dc×az)) (t x:az),eD D a t x->eD D a (eG KZ [t,fg (fw 0 1)]) (gW (decide (dY x<0))):=λa t x V=>by have:=DF LC V (w a) (Ma x (fw 0 1));rwa [Hz]at this
 have C:∀(a:List (dc×az)) (t x:az),eD D a t x->eD D a (eG KZ [fg (fw 0 1),t]) (gW (decide (0<dY x))):=λa t x V=>by have:=DF LC (w a) V (Ma (fw 0 1) x);rwa [Hz]at this
 have A:∀(a:List (dc×az)) (t x:az),eD D a t x->¬oU x->eD D a (eG CJ [t]) e5:=λa t x V h=>by have:=u a t x V;rw[gy h]at this;exact this
 have n:∀(a:List (dc×az)) (t x:az),eD D a t x->oU x->eD D a (eG CJ [t]) (gW true):=λa t x V h=>by have:=u a t x V;rw[dJ h]at this;exact this
 have du:∀y x,eD D e y x->¬(oU x/\0<dY x)->eD D e (ej 4 0x706f7370 y) e5:=λy x V h=>by refine H5 (p:=(aaR,Ym)) (by simp[ud]) H V λs=>?_;by_cases d:oU x;have:=C _ _ _ (u1 (D:=D) s x);rw[gy λg=>h ⟨d,g⟩]at this;exact .vQ _ _ _ _ _ _ (n _ _ _ (u1 s x) d) AG this;exact .xU _ _ _ _ _ (A _ _ _ (u1 s x) d) (.gT _ _)
 have E:∀y x,eD D e y x->¬(oU x/\¬dY x<0)->eD D e (ej 4 0x6e617470 y) e5:=λy x V h=>by refine H5 (p:=(K0,Qb)) (by simp[ud]) H V λs=>?_;by_cases d:oU x;have g:dY x<0:=Decidable.not_not.1 λg=>h ⟨d,g⟩;have:=z _ _ _ (u1 (D:=D) s x);rw[dJ g]at this;exact .vQ _ _ _ _ _ _ (n _ _ _ (u1 s x) d) AG (aeU H this AG);exact .xU _ _ _ _ _ (A _ _ _ (u1 s x) d) (.gT _ _)
 have F:∀y x,eD D e y x->oU x->¬dY x<0->eD D e (ej 4 0x6e617470 y) (gW true):=λy x V d g=>by refine H5 (p:=(K0,Qb)) (by simp[ud]) H V λs=>?_;have:=z _ _ _ (u1 (D:=D) s x);rw[gy g]at this;refine .vQ _ _ _ _ _ _ (n _ _ _ (u1 s x) d) AG ?_;exact H5 (p:=(CK,Kb)) fQ H this λs=> .xU _ _ _ _ _ (u1 s e5) (.gT _ _)
 have arg:∀{h:eZ},h∈ko->∀y o,eD D e (eG h [y]) o->∃x,eD D e y x:=λG y o V=>by
  obtain⟨ps,I,xs,_,j,c,_⟩:=aeS G V
  match xs,j,c with
  |[x],_,c=>exact⟨x,c 0 y x rfl rfl⟩
 refine⟨λy B o V=>?_,λes y B q hd o V=>?_,λes y B q hd o V=>?_⟩;obtain⟨xs,j,c,i⟩:=TH Se (l:=[ej 3 0x6c656e y]) V
 match xs,j,c,i with
 |[x],_,c,i=>obtain⟨b,rfl,r⟩:=i.int rfl;have:=r.2 ((axo H (c 0 _ x rfl rfl)).1 y rfl).int;subst this;exact AG
 obtain⟨x,k⟩:=arg (h:=K0) (by decide) y o V;by_cases h:oU x/\0<dY x;have:=aeR H V _ (F y x k h.1 (by have:=h.2;grind));rw[this];exact AG;exact(Y5 H q hd (du y x k h)).elim;obtain⟨xs,j,c,i⟩:=TH Se (l:=[y]) V
 match xs,j,c,i with
 |[x],_,c,i=>have k:=c 0 y x rfl rfl;by_cases h:oU x/\¬dY x<0;obtain⟨b,rfl,r⟩:=i.int rfl;have:=r.2 h.1;subst this;exact AG;exact(Y5 H q hd (E y x k h)).elim
end
section
variable{i j:Nat}{e:List (dc×az)}
section
variable[Tok] {u:Fn}{b:Nat}{D:eZ->List dc->az->Prop}{M N:Nat}{w:ao}{aC:cD}{q s:Nat}
def p5:dc:=(4,0x75736572,6,0x6c696e6b6564)
theorem aly(C:∃n l,w= .aN n l){k:Int}(S:bf u 37 [w,.agg (cw p5)] (.bD [aA k,.U false])){v:ao}(E:ly w){z:Nat}(F:q<b)(p:q%4096<2048)(x:z<=N)(T:N<=10000)(G:b9 b aC q= .box s [w,aA z]):
 gY (pT u [.aQ q s 0,.agg (pz i j),v] b aC) b aC q s w N (ry D e (pz i j)):=by
 have y:=eI.start F p x G E
 haveI:=y.aK
 have a:lh (pz i j) 3 kD (.s 6 0x6c696e6b6564) dD (.aN 11 [gS i,gS j]):=yB rfl;have tl:=a.ad;have V:=a.ja;have dB:=a.dB;have H:=a.fC;have t1:((pz i j).drop (0+1)).take 2=cw p5:=a.t1;obtain⟨W,X⟩:=mv;have c:eI b aC q s w N (((bN b aC).cB b 4 44 (pz i j)).cB b 6 42 dD):=y.cB.cB;obtain⟨z,x,ho⟩:=c.am;have f1:([w,aA z]:az)[0+1]? =some (aA z):=rfl;generalize pz i j=t at*;by_cases I:z=0;subst I;rw[pT,iY];have J:([w,aA ((0:Nat):Int)]:az)[0+1]? =some (aA 0):=rfl;rw[ua,b3,cF,bn,aH,av,aL,b8,cd,bA,bc,xn,e4,cd,bA,bc,zy,i3,bn,aH,av ho,aL J,b8,cz,bM,bw,iZ,cM,k5,eU,aU,a6,LN,ei,aq,aq];exact mo (c.dp) ⟨dD,9,rfl,mv,by omega,.inr (by omega)⟩;obtain⟨n,rfl⟩:∃n,N=n+1:=⟨N-1,by omega⟩;obtain⟨p,g,A,K,L⟩:=aeg (N':=n) (z:=z-1) c (by omega) (by omega)
 haveI:=g.aK
 have Y:=(A 4).trans (fZ ec);have Z:=(A 6).trans (ec (h:=(bN b aC).cB b 4 44 t) (d:=6) (t:=42) (cs:=dD));have f0:([w,aA ((z-1:Nat):Int)]:az)[0+0]? =some w:=rfl;have O:((z:Nat):Int)-1=((z-1:Nat):Int):=by omega
 obtain⟨nw,al,B⟩:=C;have ar:(aA k:ao)≠ .undef:=by rw[db];simp
 have s2:(cw p5).length=2:=rfl;have a1:cg (cw p5)=true:=rfl;have P:∀(r:List Nat) (xs:az) (z:ay),met b r (w::xs) z=met b r xs z:=λr xs z=>by rw[B];exact be (Sc _ _ _ _) xs z
 have Q:∀(ob:dE) (f:gI),bi ob w f=f w []:=λob f=>by rw[B];exact i2 ob _ _ f
 have R:=λ(o:Nat) (z:ay)=>x9 g o z;have C7:(yd:ao)=aA 7:=by rw[db];rfl
 refine gY.mono (N:=n) ?_ (by omega);rw[pT,iY];rw[ua,b3,cF,bn,aH,av,aL,b8,cd,bA,bc,xn,e4,cd,bA,bc,zy,i3,bn,aH,av ho,aL,b8,cz,bA,bc,F3,i3,bn,aH,av ho,aL,b8,g5,O,F2,i3,aH,L,i3,aH,aS,R,av K,aL,aH,aS,bO,aP,av,dG H,t1,F1,P,be,aP,Q,a6,aq,aq,a0,ez _ _,eA _ _,e1,jI,bw,iZ,cM,k5,eU,aU,a6,C7,ei,aq,aq];exact mo (g.dp) ⟨dD,7,rfl,mv,by omega,.inr (by omega)⟩
theorem arW{o:az}(V:eD D e (pz i j) o):False:=by
 have r:∀{h:eZ}{l:bg},h∈hT->pz i j≠eG h l:=λ{h l} k A=>by
  have z:dI kD (.s 6 0x6c696e6b6564) [gS i,gS j]=dI (.s h.1 h.2.1) (.s h.2.2.1 h.2.2.2.1) l:=A;unfold dI kD at z;simp only[jQ,ao.s.injEq,ao.aN.injEq,and_true,true_and]at z;obtain⟨⟨B,C⟩,⟨E,F⟩,I⟩:=z;have G:(hT.all λh=> !(Nat.beq h.1 4&&(Nat.beq h.2.1 0x75736572&&(Nat.beq h.2.2.1 6&&Nat.beq h.2.2.2.1 0x6c696e6b6564))))=true:=by decide+kernel
  have:=gp G k;rw[<-B,<-C,<-E,<-F]at this;revert this;decide
 have H:∀{p n:ao},kQ p n≠pz i j:=λh=>by unfold kQ pz dI at h;rw[b8,fu]at h;exact Aa (a:=1) (c:=3) (by omega) (by omega) (by omega) h
 have jx:∀{x:az},fg x≠pz i j:=λh=>by unfold fg pz dI at h;rw[e4,fu]at h;exact Aa (a:=2) (c:=3) (by omega) (by omega) (by omega) h
 generalize g:pz i j=t at V;cases V with
 |var _ s _ h=>exact H g.symm
 |gT _ o=>exact jx g.symm
 |vQ _ a c d x y _ _ _=>exact r (h:=i5) fQ g
 |xU _ a c d y _ _=>exact r (h:=i5) fQ g
 |Aj _ h k _ _ _ _ _ _=>exact r (z6 k) g
 |fn _ h k _ _ _ _ _ _ _ _ _=>exact r (uI k) g
theorem cq.MM{n:Nat}{t:az}(h:cq n t):n5 n t:=by
 induction h with
 |var n i hi=>exact .var n (4,0x75736572,1,0x78+i)
 |gT n o ho=>exact .gT n o ho.mi.pp
 |g3 n h a l c g d=>exact .g3 n h (aaW h a) l c d
theorem ib.MM{t:az}(h:ib t):n5 5 t:=h.pL.MM
def Nf(t:az):Prop:=vl t\/ib t
theorem ZD(bH:bV λu=>wN D M u w)(y:bV λu=>∃p:Int,bf u 37 [w,.agg (cw p5)] (.bD [aA p,.U false])):bV λu=>∀t,Nf t->∀e v,oC e->cE 9 v (e.map gi)->∃r,IT D e t r/\bf u 11 [w,.agg t,v] r:=by
 have x:bV λu=>∀t,Nf t->fR t/\qC D u w 2000 t:=by
  have k:bV λu=>∀i j,qC D u w 2000 (pz i j):=(bH.and y).up λn h i j e v g c=>qN pT λz _ _ _ _ _ k d l A=>by obtain⟨p,B⟩:=h.2;exact aly h.1.bv B z k d l (by omega) A
  refine(k.and (amH bH)).imp λn h t a=>?_;rcases a with(a|⟨i,j,_,_,rfl⟩)|a;exact⟨a.p,h.2 4 t (by omega) a.MM⟩;exact⟨⟨rfl,rfl⟩,h.1 i j⟩;exact⟨a.pL.p,h.2 5 t (by omega) a.MM⟩
 have C:bV λu=>∀t,Nf t->∀e v,oC e->cE 9 v (e.map gi)->∃r,Nq D e t r/\bf u 39 [w,.agg t,v,aA 2000] r:=(x.and bH).up λn h t a e v g c=>by obtain⟨r,o,d⟩:=alg (h.1 t a).1 (h.1 t a).2 h.2.bv g c;exact⟨r,o,eO FB d⟩
 exact((C.and x).and (bH.and (QY.and am3))).up λn h t a e v g c=>by obtain⟨r,o,d⟩:=h.1.1 t a e v g c;obtain⟨E,F,l⟩:=akG (h.1.2 t a).1 h.2.1.bv c o d h.2.2.1.nil h.2.2.2;exact⟨E,F,eO Et l⟩
end
end
section
variable{w q v x:ao}{l:bg}{N:Nat}
section
variable[Tok] {u:Fn}{b:Nat}{D:eZ->List dc->az->Prop}{e:List (dc×az)}
def Ul(D:eZ->List dc->az->Prop)(e:List (dc×az))(t:az):Prop:=∃o,eD D e t o/\o≠e5
def Nv(D:eZ->List dc->az->Prop)(e:List (dc×az))(l:bg)(r:ao):Prop:=∃x c,r= .bD [.U x,.U c]/\(x=true->c=true->∀a∈l,Ul D e a)
theorem py(I:∃n l,w= .aN n l)(G:cE 11 q l)(J:cE 9 v (e.map gi))(X:l.length<=900)(K:∀t∈l,fR t/\∃r,IT D e t r/\bf u 11 [w,.agg t,v] r):∀(n i N:Nat) (h:aO) (x:Bool),n+i=l.length->n<N->cp h 0->dS h->(x=true->∀a∈l.take i,Ul D e a)->
 ∃r,Nv D e l r/\∃s d,fm 0 1 2 8 9 N (xm u 0 (λf g=>mn 0 f dx g)) w q v (.U x) (aA ((i:Nat):Int)) h= .ok r 0 s d:=by
 have z:∀(ob:dE) (f:gI),bi ob w f=f w []:=λob f=>by obtain⟨n,l,rfl⟩:=I;exact i2 ob _ _ f
 have A:=cE.fh J;have p:=cE.len G;intro n;induction n with
 |zero=>
  intro i N h x L M ub b5 j;obtain⟨N,rfl⟩:=eC N;have hi:i=l.length:=by omega
  subst hi;rw[vd]at j;refine⟨.bD [.U x,.U true],⟨x,true,rfl,λh _=>j h⟩,?_⟩;rw[iz];generalize fm 0 1 2 8 9 N (xm u 0 (λf g=>mn 0 f dx g))=O;rw[xm,p,cz,bA,bc,mn,dh,cf,dh,aq,aq];exact b6
 |succ n P=>
  intro i N h x L M ub b5 j;obtain⟨N,rfl⟩:=eC N;obtain⟨t,c⟩:∃t,l[i]? =some t:=⟨_,fo (by omega)⟩;obtain⟨⟨t1,t2⟩,r,⟨y,Q,rfl,R⟩,B⟩:=K t (eH c);have k:q= .aN 11 l:=G.elim (λh=>by rw[h.2]at c;cases c) id;have S:l.take (i+1)=l.take i++[t]:=by rw[List.take_add_one,c];rfl
  have C:=λx j=>P (i+1) N h x (by omega) (by omega) ub b5 j;have T:((i+1:Nat):Int)=(i:Int)+1:=by omega
  rw[T]at C;rw[iz];generalize fm 0 1 2 8 9 N (xm u 0 (λf g=>mn 0 f dx g))=O at C ⊢;have Y:(ao.U y:ao)≠ .undef:=by simp
  cases Q;refine⟨.bD [.U false,.U false],⟨false,false,rfl,λh=>(by cases h)⟩,?_⟩;rw[xm,p,cz,bM,bw,J0,k,fH c,cI,aU t1,JZ,z,a6 t2,A,aq,aq,aq,a0 B,ez _ _,eA _ _,e1,jI,bw,mn,cl,dh,dh,aq,aq];exact b6;obtain⟨r,W,F⟩:=C (x&&y) (λE a H=>by rw[cC]at E;rw[S]at H;rcases fq.1 H with h|h;exact j E.1 a h;obtain⟨o,_,V,ho⟩:=R rfl;rw[List.mem_singleton.1 h];exact⟨o,V,ho.1 E.2⟩)
  refine⟨r,W,?_⟩;cases x;rw[Bool.false_and]at F;rw[xm,p,cz,bM,bw,J0,k,fH c,cI,aU t1,JZ,z,a6 t2,A,aq,aq,aq,a0 B,ez _ _,eA _ _,e1,gX,bc,PM,gB,ch,cl,b8,fV];rw[<-k];exact F;rw[yI]at F;rw[xm,p,cz,bM,bw,J0,k,fH c,cI,aU t1,JZ,z,a6 t2,A,aq,aq,aq,a0 B,ez _ _,eA _ _,e1,gX,bc,PM,dR,cA,b8,fV];rw[<-k];exact F
theorem Qm(c:∃n l,w= .aN n l)(g:cE 11 q l)(h:cE 9 v (e.map gi))(i:l.length<=900)(j:∀t∈l,fR t/\∃r,IT D e t r/\bf u 11 [w,.agg t,v] r):∃r,Nv D e l r/\∃s d,FM u [w,q,v] 0 .nil= .ok r 0 s d:=by obtain⟨r,k,F⟩:=py c g h i j l.length 0 1000000 (bN 0 .nil) true rfl (by omega) inferInstance inferInstance (λ_ a o=>by simp at o);refine⟨r,k,?_⟩;have e0:FM u [w,q,v] 0 .nil=PN u 0 w q v (bN 0 .nil):=rfl;rw[e0,PN,b7];exact F
theorem aqx{a:bg}(E:∃n l,w= .aN n l)(y:cE 14 q a)(F:cE 9 v (e.map gi))(O:a.length<=900)(G:∀f∈a,f.length=14/\fR ((f.drop (0+3)).take 11)/\∃r,(∃x g,r= .bD [.U x,.U g]/\(g=true->x=true))/\bf u 11 [w,.agg ((f.drop (0+3)).take 11),v] r):∀(n i N:Nat) (h:aO),n+i=a.length->n<N->cp h 0->dS h->
 ∃s d,gd 7 10 13 14 N (zq u 0 (λz=>eE 0 dx z)) w v q (aA ((i:Nat):Int)) h= .ok (.U true) 0 s d:=by
 have A:∀(ob:dE) (f:gI),bi ob w f=f w []:=λob f=>by obtain⟨n,l,rfl⟩:=E;exact i2 ob _ _ f
 have B:=cE.fh F;have o:=cE.len y;intro n;induction n with
 |zero=>intro i N h H I ub b5;obtain⟨N,rfl⟩:=eC N;rw[jt];generalize gd 7 10 13 14 N (zq u 0 (λz=>eE 0 dx z))=J;rw[zq,o,cz,bA,bc,eE,bJ,cf,dh,aq];exact b6
 |succ n K=>
  intro i N h H I ub b5;obtain⟨N,rfl⟩:=eC N;obtain⟨f,c⟩:∃f,a[i]? =some f:=⟨_,fo (by omega)⟩;obtain⟨f1,⟨t1,t2⟩,r,⟨x,g,rfl,L⟩,p⟩:=G f (eH c);have j:q= .aN 14 a:=y.elim (λh=>by rw[h.2]at c;cases c) id;have gD:0+3+11<=f.length:=by omega
  have k:=K (i+1) N h (by omega) (by omega) ub b5;have M:((i+1:Nat):Int)=(i:Int)+1:=by omega
  rw[M]at k;rw[jt];generalize gd 7 10 13 14 N (zq u 0 (λz=>eE 0 dx z))=J at k ⊢;have P:(ao.U x:ao)≠ .undef:=by simp
  generalize C:(f.drop (0+3)).take 11=t at t1 t2 p;cases g;rw[zq,o,cz,bM,bw,Pb,j,fH c,iQ,cI,dG gD,C,Pa,A,a6 t2,B,aq,aq,aq,a0 p,ez _ _,eA _ _,gB,JO,cl,ch,bc,b8,fV];rw[<-j];exact k;obtain rfl:=L rfl;rw[zq,o,cz,bM,bw,Pb,j,fH c,iQ,cI,dG gD,C,Pa,A,a6 t2,B,aq,aq,aq,a0 p,ez _ _,eA _ _,dR,e1,gX,JO,cl,cA,bc,b8,fV];rw[<-j];exact k
structure Un (w:bg) (D:eZ->List dc->az->Prop):Prop where
 TM:bV λu=>wN D 40 u (.aN 32 w)
 Lv:bV λu=>∃ka:Int,bf u 37 [.aN 32 w,.agg (cw p5)] (.bD [aA ka,.U false])
 Zr:sC D
 ad:w.length<=300
 oc:∀e∈w,wE e
def qA(x:ao)(N:Nat):Prop:=(x= .ba/\N=0)\/∃l,x= .aN 1 l/\l.length=N/\∀r∈l,∃c:Nat,c<256/\r=[.ag .u8 (18446744073709551616+c)]
theorem qA.fh(h:qA x N)(ob:dE)(f:gI):bi ob x f=f x []:=by rcases h with⟨rfl,_⟩|⟨l,rfl,_⟩<;>rfl
theorem qA.len(h:qA x N)(k:ao->ay):cv false x k=k (aA N):=by rcases h with⟨rfl,rfl⟩|⟨l,rfl,a,_⟩;exact li k;rw[<-a];exact gC _ _ k
theorem qA.part(h:qA x N)(f:az->ay):eu 0 1 x [.ba,bt] f=f [x,aA (0:Nat)]:=by rw[b7];rcases h with⟨rfl,_⟩|⟨l,rfl,_⟩<;>rfl
theorem LK:(n40:ao)=aA 40:=by rw[db];rfl
theorem aqN{w:bg}(bH:Un w D){m:Nat}:bV λu'=>∀u:Fn,(∀f,f≠4->f≠5->u f=u' f)->bf u 4 [] (.U true)->bf u 5 [.ag .u32 m] (.aN 32 w)->∀x y N N',qA x N->qA y N'->∃s d,ik u [.ag .u32 m,x,y] 0 .nil= .ok (.U true) 0 s d:=by
 have P:∃n l,(ao.aN 32 w)= .aN n l:=⟨_,_,rfl⟩;have bd:bV λu=>Be u (.aN 32 w):=bH.TM.imp λn h=>⟨λhd J=>h.lD hd (aaW hd J),P⟩;have Q:bV λu=>∀l:bg,l.length<=900->(∀t∈l,vl t)->∀q e v,cE 11 q l->oC e->cE 9 v (e.map gi)->∃r,Nv D e l r/\bf u 8 [.aN 32 w,q,v] r:=(ZD bH.TM bH.Lv).up λn h l S z q e v cc K g=>by obtain⟨r,hr,F⟩:=Qm (u:=bR bX n) P cc g S λt J=>⟨(z t J).p,h t (.inl (z t J)) e v K g⟩;exact⟨r,hr,eO FM F⟩
 refine(((am1 bd).and amN).and ((Gw bd 3 (by omega)).and ((am8.and Q).and (ZD bH.TM bH.Lv)))).imp λn H u bs A T x y N N' X Y=>?_;obtain⟨⟨cn,cs⟩,cY,⟨S,Q⟩,c0⟩:=H;have B:=X.len;have L:=Y.len;have c:∀(ob:dE) (f:gI),bi ob (.aN 32 w) f=f (.aN 32 w) []:=λob f=>i2 ob _ _ f;have Z:∀(ob:dE) (f:gI),bi ob (.ag .u32 m) f=f (.ag .u32 m) []:=λob f=>rfl;by_cases E:100<(N:Int);rw[ik,iY,B2,a0 A,e1,gX,bc,B1,B,uJ,i1,dJ E,gf,zr,cf,cA,bw,eE,bJ,dh,aq];exact b6;by_cases M:40<(N':Int);rw[ik,iY,B2,a0 A,e1,gX,bc,B1,B,uJ,i1,gy E,cV,L,LK,i1,dJ M,zr,cf,ch,bw,eE,bJ,dh,aq];exact b6;have O:oB x N:=⟨by omega,X⟩;have bx:oB y N':=⟨by omega,Y⟩;have al:=X.part;have ar:=Y.part;have cu:∀{f:Nat}{args:az}{BX:ao}{N:Nat}{R:ao->Prop},f≠4->f≠5->gG (bR bX n) f args BX N R->gG u f args BX N R:=λG k C=>by unfold gG at C ⊢;rw[bs _ G k];exact C
 have a1:∀{f:Nat}{args:az}{r:ao},f≠4->f≠5->bf (bR bX n) f args r->bf u f args r:=λG k C=>by unfold bf at C ⊢;rw[bs _ G k];exact C
 obtain⟨r,G,⟨a2,a3,c1,hA⟩,es,ev,fP,⟨c2,c3,b1⟩,c8⟩:=Lk (u:=u) (N:=N) (h:=(bN 0 .nil).cB 0 31 29 [x,aA (0:Nat)]) (d:=31) ec (by omega) (by omega) O.ad (cu (by decide) (by decide) (cn x N O));obtain⟨r',k,⟨e,K,g⟩,ex,e0,c4,⟨fl,fn,b2⟩,cX⟩:=Lk (u:=u) (N:=N') (h:=G.cB 0 37 29 [y,aA (0:Nat)]) (d:=37) ec (by omega) (by omega) bx.ad (cu (by decide) (by decide) (cs y N' bx));obtain⟨ro,c5,I⟩:=Q a2 (by omega) hA r e r' a3 K g;obtain⟨sm,ok,rfl,dd⟩:=c5;have I:=a1 (by decide) (by decide) I;have a4:=cE.fh g;have ph:=cE.fh a3;have fp:=λx:Bool=>(by simp:(ao.U x:ao)≠ .undef);have ds:k.am (0+31)= .box (fK (bN 0 .nil) 0 31 29) [x,aA (c2:Nat)]:=(c4 (0+31) (by omega)).trans (fZ b1);cases sm;rw[ik,iY,B2,a0 A,e1,gX,bc,B1,B,uJ,i1,gy E,cV,L,LK,i1,gy M,zr,cf,ch,bc,FD,bE,Z,aq,a0 T,al,iZ,b3,c,aq,c8,ar,iZ,b3,cX,JP,c,ph,a4,aq,aq,aq,a0 I,ez _ _,eA _ _,e1,jI,gf,FC,cf,cA,bw,eE,bJ,dh,aq];exact b6;cases ok;rw[ik,iY,B2,a0 A,e1,gX,bc,B1,B,uJ,i1,gy E,cV,L,LK,i1,gy M,zr,cf,ch,bc,FD,bE,Z,aq,a0 T,al,iZ,b3,c,aq,c8,ar,iZ,b3,cX,JP,c,ph,a4,aq,aq,aq,a0 I,ez _ _,eA _ _,e1,gX,cV,e1,jI,FC,cf,ch,bw,eE,bJ,dh,aq];exact b6;have aaS:=dd rfl rfl;have dt:∀a∈a2,ib a/\II D e a:=λa ha=>by obtain⟨o,V,ho⟩:=aaS a ha;refine⟨?_,λo' V'=>by rw[<-aeR bH.Zr V _ V'];exact ho⟩;rcases hA a ha with h|⟨i,j,_,_,rfl⟩;exact .inl h;exact(arW V).elim
 obtain⟨fr,h3,⟨t,rfl,z⟩,ft,fv,o3,⟨ge,gl,go⟩,ih⟩:=Lk (u:=u) (N:=N) (h:=k) (d:=31) ds c3 (by omega) O.ad (show gG u 10 [.aN 32 w,aA 3] x N (nG 3) from cu (by decide) (by decide) (cY x N O));obtain⟨t1,t2⟩:=z.p;obtain⟨gt,fs,dz,gw,ee,a5⟩:=S (II D e) (HV bH.Zr) w r a2 t bH.ad bH.oc a3 dt c1 (.inl (z.le (by omega)));have a5:=a1 (by decide) (by decide) a5;have F:=aqx (u:=u) (w:= .aN 32 w) (v:=r') (e:=e) P dz g (by omega) (λf hf=>by obtain⟨f1,f2,f3,f4⟩:=ee f hf;obtain⟨hb,⟨em,en,rfl,eq⟩,er⟩:=c0 _ (.inr f3) e r' K g;refine⟨f1,f3.pL.p,_,⟨em,en,rfl,λh=>?_⟩,a1 (by decide) (by decide) er⟩;obtain⟨o,_,V,ho⟩:=eq h;exact ho.2 (f4 o V)) fs.length 0 1000000
 rw[ik,iY,B2,a0 A,e1,gX,bc,B1,B,uJ,i1,gy E,cV,L,LK,i1,gy M,zr,cf,ch,bc,FD,bE,Z,aq,a0 T,al,iZ,b3,c,aq,c8,ar,iZ,b3,cX,JP,c,ph,a4,aq,aq,aq,a0 I,ez _ _,eA _ _,e1,gX,cV,e1,gX,FC,cf,ch,bc,Pc,c,aq,fu,ih,jB t2 t1,aq,iR,c,ph,jY (hX (h:=h3)) (by rfl),aq,aq,aq,a0 a5,b7];exact F _ rfl (by omega) inferInstance inferInstance
end
end
section
variable{e:az}
section
variable[Tok] {u:Fn}{b:Nat}
def q4(s t:dc):Bool:=c7 (eN s.2.2.1 s.2.2.2 t.2.2.1 t.2.2.2) (eN s.1 s.2.1 t.1 t.2.1)
def gs(F:az):dc:=match F with
 | .s a c:: .s x y::_=>(a,c,x,y)
 |_=>(0,0,0,0)
def Nt(F:az):Prop:=F.length=37/\cg F=true/\(F.drop (0+0)).take 2=cw (gs F)
def Q8(F:az):Bool:=Nat.beq F.length 37&&(cg F&&kI ((F.drop (0+0)).take 2) (cw (gs F)))
theorem anB{F:az}(h:Q8 F=true):Nt F:=by simp only[Q8,cC]at h;exact⟨e8 h.1,h.2.1,na h.2.2⟩
def uA:List Int:=[0,1,2,3,4,5,6,7,8,9]
def K1(e:az):Bool:=[(3:Int),5,6,7].any λk=>kI [aA k] (e.take 1)
def jM(e:az):bg:=bif K1 e then vY e[0+20]? else[]
structure A1 (e:az):Prop where
 len:e.length=32
 ja:cg e=true
 dV:∃k:Int,k∈uA/\e[0+0]? =some (aA k)/\((k=3\/k=5\/k=6\/k=7)->∃v,e[0+20]? =some v/\cE 37 v (jM e))/\(¬(k=3\/k=5\/k=6\/k=7)->jM e=[])
 row:∀F∈jM e,Nt F
def Tb(x:Option ao):Bool:=match x with
 |some .ba=>true
 |some (.aN n _)=>Nat.beq n 37
 |_=>false
def QM(e:az):Bool:=Nat.beq e.length 32&&(cg e&&((uA.any λk=>kI [aA k] (e.take 1))&&(Tb e[0+20]? &&(jM e).all Q8)))
theorem avF{x:Option ao}(h:Tb x=true):∃v,x=some v/\cE 37 v (vY x):=by unfold Tb at h;split at h;exact⟨_,rfl,.inl ⟨rfl,rfl⟩⟩;rename_i n l;have:=e8 h;subst this;exact⟨_,rfl,.inr rfl⟩;cases h
theorem aoj:uA.all (λk=>([(3:Int),5,6,7].any λj=>kI [aA j] [aA k])==decide (k=3\/k=5\/k=6\/k=7))=true:=by kernel_rfl
theorem amr(h:QM e=true):A1 e:=by
 simp only[QM,cC]at h;obtain⟨g,j,l,n,o⟩:=h;obtain⟨k,a,c⟩:=nC.1 l;have c:=na c;have e0:e[0+0]? =some (aA k):=Bi (m:=[]) (i:=0) c.symm;have d:K1 e=decide (k=3\/k=5\/k=6\/k=7):=by have:=gp aoj a;unfold K1;rw[<-c];exact eq_of_beq this
 obtain⟨v,p,q⟩:=avF n;refine⟨e8 g,j,⟨k,a,e0,λa=>⟨v,p,?_⟩,λa=>?_⟩,λF r=>anB (gp o r)⟩;unfold jM;rw[d,decide_eq_true a];exact q;unfold jM;rw[d,decide_eq_false a];rfl
theorem akc(c:A1 e):∃v,cE 37 v (jM e)/\∃s d,vp u [.agg e] 0 .nil= .ok v 0 s d:=by
 obtain⟨k,i,e0,j,l⟩:=c.dV;have el:=c.len;have n:=c.ja;by_cases g:k=3\/k=5\/k=6\/k=7;obtain⟨v,o,h⟩:=j g;have a:=cE.fh h;refine⟨v,h,?_⟩;rcases g with rfl|rfl|rfl|rfl;rw[vp,jp,Bm];rw[b3,bn,aH,av,aL,fu,cd,bM,bw,y6,bw,bn,aH,av,aL,yp,bJ,a,aq];exact b6;rw[vp,jp,Bm];rw[b3,bn,aH,av,aL,fu,cd,bA,bc,Eu,z9,cd,bM,bw,y6,bw,bn,aH,av,aL,yp,bJ,a,aq];exact b6;rw[vp,jp,Bm];rw[b3,bn,aH,av,aL,fu,cd,bA,bc,Eu,z9,cd,bA,bc,I3,uM,cd,bM,bw,y6,bw,bn,aH,av,aL,yp,bJ,a,aq];exact b6;rw[vp,jp,Bm];rw[b3,bn,aH,av,aL,fu,cd,bA,bc,Eu,z9,cd,bA,bc,I3,uM,cd,bA,bc,C7,cd,y6,bM,bw,bn,aH,av,aL,yp,bJ,a,aq];exact b6;refine⟨.ba,.inl ⟨rfl,l g⟩,?_⟩;have p: -100<k/\k<100:=by simp only[uA,e9,iV,iU]at i;omega
 have q:¬k=3:=by omega
 have r:¬k=5:=by omega
 have t:¬k=6:=by omega
 have w:¬k=7:=by omega
 rw[vp,jp,Bm];rw[b3,bn,aH,av,aL,fu,cd,bA,bc,Eu,z9,cd,bA,bc,I3,uM,cd,bA,bc,C7,cd,y6,bA,bc,yp,bJ,uz,aq];exact b6
end
end
section
variable{w:bg}{t:dc}{h:aO}{i:Nat}
section
variable[Tok] {u:Fn}
def qF(w:bg):Prop:=w.length<=900/\∀e∈w,A1 e/\(jM e).length<=900
theorem aeu{F:az}(h:F.length=37):0+0+2<=F.length:=by omega
theorem aqk{w e:ao}[cp h 0][dS h](ho:h.am (0+3)= .box (fK (bN 0 .nil) 0 3 39) (cw t))(C:e= .aQ (0+3) (fK (bN 0 .nil) 0 3 39) 0)(hi:i<=900){v:ao}{l:bg}(y:cE 37 v l)(L:l.length<=900)(o:∀F∈l,Nt F)(a:n1):
 ∀(n j N:Nat),n+j=l.length->n<N->
 (∀F,(l.drop j).find? (λF=>q4 (gs F) t)=some F->∃m,m<900/\l[m]? =some F/\∃s d,fm 0 3 7 8 9 N (tS u 0 a) w e (aA ((i:Nat):Int)) v (aA ((j:Nat):Int)) h= .ok (.bD [aA ((i:Nat):Int),aA ((m:Nat):Int),.U true]) 0 s d)/\
 ((l.drop j).find? (λF=>q4 (gs F) t)=none->fm 0 3 7 8 9 N (tS u 0 a) w e (aA ((i:Nat):Int)) v (aA ((j:Nat):Int)) h=a w e (aA ((i:Nat):Int)) h):=by
 have p:=cE.len y;intro n;induction n with
 |zero=>
  intro j N D E;obtain⟨N,rfl⟩:=eC N;have G:j=l.length:=by omega
  subst G;rw[List.drop_length];refine⟨λF o=>(by cases o),λ_=>?_⟩;rw[iz];generalize fm 0 3 7 8 9 N (tS u 0 a)=q;rw[tS,p,cz,bA,bc]
 |succ n H=>
  intro j N D E;obtain⟨N,rfl⟩:=eC N;obtain⟨F,c⟩:∃F,l[j]? =some F:=⟨_,fo (by omega)⟩;obtain⟨f1,f2,f3⟩:=o F (eH c);have z:v= .aN 37 l:=y.elim (λh=>by rw[h.2]at c;cases c) id;have I:l.drop j=F::l.drop (j+1):=by rw[sy (by omega)];congr 1;have:=fo (l:=l) (i:=j) (by omega);rw[c]at this;exact(l2 this).symm
  have A:=aeu f1;have g:=H (j+1) N (by omega) (by omega);have J:((j+1:Nat):Int)=(j:Int)+1:=by omega
  rw[J]at g;rw[I,List.find?_cons];rw[iz];generalize fm 0 3 7 8 9 N (tS u 0 a)=q at g ⊢;have es:∀k:ao->ay,iP false (.agg (cw (gs F))) (.agg (cw t)) k=k (.U (q4 (gs F) t)):=λk=>rfl;subst C;cases B:q4 (gs F) t with
  |true=>
   rw[B]at es;refine⟨λr x=>?_,λh=>by simp at h⟩;obtain rfl:F=r:=by simpa using x
   refine⟨j,by omega,c,?_⟩;rw[tS,p,cz,bM,bw,NS,z];rw[dW,be,be,aP,fH,iQ,aS,be,aP,cI,dG A,f3,aS,bO,aP,av,aU (by rfl),es,bw,uT,ei,ei,cf,dh,aq,aq,aq];exact b6
  |false=>
   rw[B]at es;have K:tS u 0 a q w (.aQ (0+3) (fK (bN 0 .nil) 0 3 39) 0) (aA ((i:Nat):Int)) v (aA ((j:Nat):Int)) h=q w (.aQ (0+3) (fK (bN 0 .nil) 0 3 39) 0) (aA ((i:Nat):Int)) v (aA ((j:Int)+1)) h:=by rw[tS,p,cz,bM,bw,NS,z];rw[dW,be,be,aP,fH,iQ,aS,be,aP,cI,dG A,f3,aS,bO,aP,av,aU (by rfl),es,bc,b8,fV]
   rw[K];exact⟨λr x=>g.1 r (by simpa using x),λh=>g.2 (by simpa using h)⟩
theorem ae0(bH:qF w){e:az}(h:w[i]? =some e):A1 e/\(jM e).length<=900:=bH.2 e (eH h)
theorem aqj(bH:qF w)[cp h 0][dS h](ho:h.am (0+3)= .box (fK (bN 0 .nil) 0 3 39) (cw t))(D:∀e∈w,∃v,cE 37 v (jM e)/\bf u 113 [.agg e] v):
 ∀(n i N:Nat),n+i=w.length->n<N->
 (∀F,((w.drop i).flatMap jM).find? (λF=>q4 (gs F) t)=some F->∃i' e m,w[i']? =some e/\m<900/\(jM e)[m]? =some F/\∃s d,ji 0 3 7 N (vo u 0 (λg=>uT 0 bt bt cQ g)) (.aN 32 w) (.aQ (0+3) (fK (bN 0 .nil) 0 3 39) 0) (aA ((i:Nat):Int)) h= .ok (.bD [aA ((i':Nat):Int),aA ((m:Nat):Int),.U true]) 0 s d)/\
 (((w.drop i).flatMap jM).find? (λF=>q4 (gs F) t)=none->∃s d,ji 0 3 7 N (vo u 0 (λg=>uT 0 bt bt cQ g)) (.aN 32 w) (.aQ (0+3) (fK (bN 0 .nil) 0 3 39) 0) (aA ((i:Nat):Int)) h= .ok (.bD [aA 0,aA 0,.U false]) 0 s d):=by
 intro n;have T:=bH.1;induction n with
 |zero=>
  intro i N E G;obtain⟨N,rfl⟩:=eC N;have H:i=w.length:=by omega
  subst H;rw[List.drop_length];refine⟨λF I=>(by cases I),λ_=>?_⟩;rw[oW];generalize ji 0 3 7 N (vo u 0 (λg=>uT 0 bt bt cQ g))=a;rw[vo,gC,cz,bA,bc];rw[uT,b7,ei,ei,cl,dh,aq,aq,aq];exact b6
 |succ n J=>
  intro i N E G;obtain⟨N,rfl⟩:=eC N;obtain⟨e,c⟩:∃e,w[i]? =some e:=⟨_,fo (by omega)⟩;obtain⟨k,K⟩:=ae0 bH c;have el:=k.len;have V:=k.ja;obtain⟨v,L,X⟩:=D e (eH c);have M:w.drop i=e::w.drop (i+1):=by rw[sy (by omega)];congr 1;have:=fo (l:=w) (i:=i) (by omega);rw[c]at this;exact(l2 this).symm
  have j:=J (i+1) N (by omega) (by omega);have O:((i+1:Nat):Int)=(i:Int)+1:=by omega
  rw[O]at j;rw[M,lb,List.find?_append];rw[oW];generalize ji 0 3 7 N (vo u 0 (λg=>uT 0 bt bt cQ g))=a at j ⊢;have B:=aqk (u:=u) (w:= .aN 32 w) (t:=t) (h:=h) ho rfl (i:=i) (by omega) L K k.row (λn o p q=>dT p br λr=>a n o r q) (jM e).length 0 1000000 rfl (by omega);have P:vo u 0 (λg=>uT 0 bt bt cQ g) a (.aN 32 w) (.aQ (0+3) (fK (bN 0 .nil) 0 3 39) 0) (aA ((i:Nat):Int)) h=fm 0 3 7 8 9 1000000 (tS u 0 (λn o p q=>dT p br λr=>a n o r q)) (.aN 32 w) (.aQ (0+3) (fK (bN 0 .nil) 0 3 39) 0) (aA ((i:Nat):Int)) v (aA ((0:Nat):Int)) h:=by rw[vo,gC,cz,bM,bw];rw[UM,fH,cI,aU,bE,a6,aq,a0];rw[b7];rfl
  rw[P];rw[sA]at B;cases C:(jM e).find? (λF=>q4 (gs F) t) with
  |some F=>
   refine⟨λz A=>?_,λh=>(by simp at h)⟩;obtain rfl:F=z:=by simpa using A
   obtain⟨m,ll,Q,R⟩:=B.1 F C;exact⟨i,e,m,c,ll,Q,R⟩
  |none=>
   rw[B.2 C];have S:∀x y,dT (aA ((i:Nat):Int)) br (λr=>a x y r h)=a x y (aA ((i:Int)+1)) h:=λx y=>by rw[b8,fV]
   simp only[S];exact⟨λz A=>j.1 z (by simpa using A),λh=>j.2 (by simpa using h)⟩
def pX(w:bg)(t:dc):Option az:=(w.flatMap jM).find? λF=>q4 (gs F) t
theorem aj9(bH:qF w)(c:∀e∈w,∃v,cE 37 v (jM e)/\bf u 113 [.agg e] v):
 (∀F,pX w t=some F->∃i' e m,w[i']? =some e/\m<900/\(jM e)[m]? =some F/\∃s d,wW u [.aN 32 w,.agg (cw t)] 0 .nil= .ok (.bD [aA ((i':Nat):Int),aA ((m:Nat):Int),.U true]) 0 s d)/\
 (pX w t=none->∃s d,wW u [.aN 32 w,.agg (cw t)] 0 .nil= .ok (.bD [aA 0,aA 0,.U false]) 0 s d):=by
 have a:=aqj (u:=u) bH (t:=t) (h:=(bN 0 .nil).cB 0 3 39 (cw t)) ec c w.length 0 1000000 rfl (by have:=bH.1;omega);rw[sA]at a;have j:wW u [.aN 32 w,.agg (cw t)] 0 .nil=ji 0 3 7 1000000 (vo u 0 (λg=>uT 0 bt bt cQ g)) (.aN 32 w) (.aQ (0+3) (fK (bN 0 .nil) 0 3 39) 0) (aA ((0:Nat):Int)) ((bN 0 .nil).cB 0 3 39 (cw t)):=by rw[wW,ep,UN];rw[b3];rw[b7];rfl
 rw[j];exact a
end
end
section
variable{t:dc}{r:ao}
section
variable[Tok] {u:Fn}
def Mq(x:Option az):ao:=match x with
 |some F=> .bD [.agg F,.U true]
 |none=> .bD [.agg nZ,.U false]
theorem alh{w:bg}(bH:qF w)(l:∀e∈w,∃v,cE 37 v (jM e)/\bf u 113 [.agg e] v)
 (g:(∀F,pX w t=some F->∃i' e m,w[i']? =some e/\m<900/\(jM e)[m]? =some F/\bf u 112 [.aN 32 w,.agg (cw t)] (.bD [aA ((i':Nat):Int),aA ((m:Nat):Int),.U true]))/\
  (pX w t=none->bf u 112 [.aN 32 w,.agg (cw t)] (.bD [aA 0,aA 0,.U false]))):∃s d,xh u [.aN 32 w,.agg (cw t)] 0 .nil= .ok (Mq (pX w t)) 0 s d:=by
 have x:nZ.length=37:=rfl;cases j:pX w t with
 |some F=>
  obtain⟨i,e,m,k,y,a,n⟩:=g.1 F j;obtain⟨c,z⟩:=ae0 bH k;have el:=c.len;have A:=c.ja;obtain⟨f1,f2,f3⟩:=c.row F (eH a);obtain⟨v,o,B⟩:=l e (eH k);have p:v= .aN 37 (jM e):=o.elim (λh=>by rw[h.2]at a;cases a) id;subst p;have q:(aA ((i:Nat):Int):ao)≠ .undef:=by rw[db];simp
  show∃s d,xh u [.aN 32 w,.agg (cw t)] 0 .nil= .ok (.bD [.agg F,.U true]) 0 s d;rw[xh,ep,Pr];rw[b3,cF,av,aU (by rfl),b4,i2,a6,aq,aq,a0,Pq,uw _ _ _,ux _ _ _,uy _ _ _,e1,gX,bc,Xr,fH,cI,aU,bE,a6,aq,a0,fH,cI,aU,cM,Mn,eU,aU,a6,cf,dh,aq,aq];exact b6
 |none=>
  have n:=g.2 j;have q:(aA 0:ao)≠ .undef:=by rw[db];simp
  show∃s d,xh u [.aN 32 w,.agg (cw t)] 0 .nil= .ok (.bD [.agg nZ,.U false]) 0 s d;rw[xh,ep,Pr];rw[b3,cF,av,aU (by rfl),b4,i2,a6,aq,aq,a0,Pq,uw _ _ _,ux _ _ _,uy _ _ _,e1,jI,bw,iZ,cM,Mn,eU,aU (by rfl),a6,cl,dh,aq,aq];exact b6
theorem ZE:bV λu=>∀w:bg,qF w->∀e∈w,∃v,cE 37 v (jM e)/\bf u 113 [.agg e] v:=bV.lL.up λn _ w bH e a=>by obtain⟨v,b,F⟩:=akc (u:=bR bX n) (bH.2 e a).1;exact⟨v,b,eO vp F⟩
theorem amC:bV λu=>∀w:bg,qF w->∀t:dc,(∀F,pX w t=some F->∃i' e m,w[i']? =some e/\m<900/\(jM e)[m]? =some F/\bf u 112 [.aN 32 w,.agg (cw t)] (.bD [aA ((i':Nat):Int),aA ((m:Nat):Int),.U true]))/\
 (pX w t=none->bf u 112 [.aN 32 w,.agg (cw t)] (.bD [aA 0,aA 0,.U false])):=ZE.up λn h w bH t=>by
 obtain⟨c,d⟩:=aj9 (u:=bR bX n) bH (t:=t) (h w bH);refine⟨λF a=>?_,λa=>eO wW (d a)⟩;obtain⟨i,e,m,g,j,k,l⟩:=c F a;exact⟨i,e,m,g,j,k,eO wW l⟩
theorem QU:bV λu=>∀w:bg,qF w->∀t:dc,bf u 69 [.aN 32 w,.agg (cw t)] (Mq (pX w t)):=(ZE.and amC).up λn h w bH t=>eO xh (alh bH (h.1 w bH) (h.2 w bH t))
theorem amA{f:Nat}{a:az}{b:ao}(h:bf u f a r)(h':bf u f a b):r=b:=by obtain⟨s,d,e⟩:=h;obtain⟨c,d',e'⟩:=h';rw[e]at e';cases e';rfl
theorem ak9{k:Int}{c:Bool}{x x':ao}(p:bf u 96 [.agg (cw t)] (.bD [aA k,.U c]))(h:∀(ob:dE) (f:gI),bi ob x f=f x [])(i:∀(ob:dE) (f:gI),bi ob x' f=f x' [])
 (j:c=false->∃F e,r= .bD [.agg F,.U e]/\F.length=37)(l:c=false->bf u 69 [x,.agg (cw t)] r)(n:c=false->bf u 69 [x',.agg (cw t)] r):vA u [x,.agg (cw t)] 0 .nil=vA u [x',.agg (cw t)] 0 .nil:=by
 have q:(aA k:ao)≠ .undef:=by rw[db];simp
 cases c
 ·obtain⟨F,e,rfl,f1⟩:=j rfl;have c8:=l rfl;have cX:=n rfl;have g:∃a:ay,∀y,(∀(ob:dE) (f:gI),bi ob y f=f y [])->bf u 69 [y,.agg (cw t)] (.bD [.agg F,.U e])->vA u [y,.agg (cw t)] 0 .nil=a:=by
   refine⟨?_,λy o w=>?_⟩
   rotate_left
   rw[vA,ep,O8];rw[b3,O7,av,aU (by rfl),bE,a6,aq,a0,ez _ _,eA _ _,bc,av,aU (by rfl),Xh,b4,o,a6,aq,aq,a0]
  obtain⟨a,d⟩:=g;rw[d x h c8,d x' i cX]
 ·have g:∃a:ay,∀y,vA u [y,.agg (cw t)] 0 .nil=a:=by
   refine⟨?_,λy=>?_⟩
   rotate_left
   rw[vA,ep,O8];rw[b3,O7,av,aU (by rfl),bE,a6,aq,a0,ez _ _,eA _ _,bw]
  obtain⟨a,d⟩:=g;rw[d x,d x']
end
end
end Go.Hf

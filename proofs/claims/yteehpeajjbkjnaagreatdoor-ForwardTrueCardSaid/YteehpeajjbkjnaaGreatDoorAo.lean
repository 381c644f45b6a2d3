import Derived.Test.YteehpeajjbkjnaaGreatDoorAn
import Derived.Test.YteehpeajjbkjnaaGreatDoorAm
set_option maxRecDepth 100000
set_option linter.all false
noncomputable section
namespace Go.Hf
open Go.RowKit
section
variable{c:Nat}{o:az}
section
variable[Tok] {u:Fn}{b:Nat}
theorem YE{m:Nat}(H:∀n c o,n<m->ki n c o->∀l:Int,1<=l->l<100000->bf u 177 [.agg o,aA l] (aA (min c l)))(ho:ki m c o){l:Int}(p:1<=l)(q:l<100000):∃s d,vu u [.agg o,aA l] 0 .nil= .ok (aA (min c l)) 0 s d:=by
 obtain⟨fP,i⟩:=ho.v th;cases ho with
 |leaf ho=>obtain⟨k,r,c1,t,w,x,y,z,A,B,C,D,E,j⟩:=th _ ho;have iH:=j.iH;rw[show min ((1:Nat):Int) l=1 by omega,vu,ep];rw[BF,b3,BE,bn,aH,av,aL,li,e4,eL,bM,gf,zg,cf,cA,bw,yr,bJ,b8,ei,aq];exact b6
 | @cons n c c' a d e hd=>have F:=e.di;have G:=hd.di;obtain⟨I,J⟩:=e.v th;obtain⟨K,L⟩:=hd.v th;have iH:=(ug (a:=a) (d:=d)).iH;have g:∀k:ao->ay,cv false (.aN 7 [a,d]) k=k (aA 2):=λk=>gC _ _ k;have M:([a,d]:bg)[0]? =some a:=rfl;have N:([a,d]:bg)[1]? =some d:=rfl;generalize ([aA 4,.s 0 0,.s 0 0,.s 0 0,.s 0 0,.s 0 0,.aN 7 [a,d]]:az)=o at fP i iH;rw[vu,ep];by_cases O:l=1;rw[show min ((1+c+c':Nat):Int) l=1 by omega];rw[BF,b3,BE,bn,aH,av,aL,g,e4,eL,bA,cV,b8,p1,zg,cf,ch,bM,bw,yr,bJ,b8,ei,aq];exact b6;have h:=H n c a (by omega) e (l-1) (by omega) (by omega);by_cases P:l<=1+(c:Int);rw[show min ((1+c+c':Nat):Int) l=l by omega];rw[show min (c:Int) (l-1)=l-1 by omega]at h;rw[BF,b3,BE,bn,aH,av,aL,g,e4,eL,bA,cV,b8,p1,zg,cf,ch,bA,bc,Jl,bn,aH,av,aL,b7,gQ,cI,aU,Om,b8,g5,b4,a6,ei,aq,aq,a0,fV,lR,bM,bw,yr,bJ,ei,aq];exact b6;have Q:=H n c' d (by omega) hd (l-(1+(c:Int))) (by omega) (by omega);rw[show min (c:Int) (l-1)=c by omega]at h;rw[show min ((1+c+c':Nat):Int) l=1+(c:Int)+min (c':Int) (l-(1+(c:Int))) by omega];rw[BF,b3,BE,bn,aH,av,aL,g,e4,eL,bA,cV,b8,p1,zg,cf,ch,bA,bc,Jl,bn,aH,av,aL,b7,gQ,cI,aU,Om,b8,g5,b4,a6,ei,aq,aq,a0,fV,lR,bA,bc,VP,bn,aH,av,aL,b8,jC,cI,aU,g5,b4,a6,ei,aq,aq,a0,fV,yr,bJ,ei,aq];exact b6
theorem YB(a:o.length=7/\cg o=true)(H:bf u 177 [.agg o,aA 3001] (aA (min c 3001))):∃s d,Bt u [.agg o] 0 .nil= .ok (aA (min c 3001)) 0 s d:=by obtain⟨fP,e⟩:=a;rw[Bt,jp];rw[U8,b3,av,aU,a6,LI,aq,a0,ado,bJ,ei,aq];exact b6
theorem uJ:(LF:ao)=aA 100:=by rw[db];rfl
theorem apt(n:Int)(k:ao->ay):cj (dQ n) (dQ n) k=k (.U true):=by have:=abo (Lib.itoa n) (Lib.itoa n) k;rw[dJ rfl]at this;exact this
theorem aj6(N:yX u){r:Rat}(q:b5 r.num<=300)(t:b5 r.den<=300):∃s d,xa u [.agg (eK r)] 0 .nil= .ok (.U (decide (b5 r.num<=100/\b5 r.den<=100))) 0 s d:=by
 have R:=N.adM r.num r.den r.den_nz (by omega) (by omega);rw[Rat.mkRat_self]at R;have d1:=N.Zm r.num (by omega);have d2:=N.Zm r.den (by omega);have g:l4 (eK r) 1 _ _ _ _ _ _ _ _ _ _ .ba:=⟨rfl,rfl⟩;have dB:=g.dB;have c8:(eK r)[0+1]? =some (dQ r.num):=rfl;have cX:(eK r)[0+2]? =some (dQ r.den):=rfl;have nc:=g.nc;have iH:=g.iH;have gD:=g.gD;have t3:=g.t3;have es:∀k:ao->ay,cj (.s 0 0) (.s 0 0) k=k (.U true):=λk=>rfl;have i:∀k:ao->ay,iP false (.agg [.s 0 0,.s 0 0]) (.agg [.s 0 0,.s 0 0]) k=k (.U true):=λk=>rfl;have p:∀z:Int,dQ z≠ao.undef:=λz=>by unfold dQ;simp
 have a:=p r.num;have e:=λ(n:Int) (k:ao->ay)=>apt n k;generalize eK r=o at*;rw[xa,jp];by_cases j:b5 r.num<=100;by_cases l:b5 r.den<=100;rw[dJ ⟨j,l⟩];rw[Fc,b3,aH,Fb,av,dG gD,t3,iZ,i,bn,aH,av,aL,b8,cd,bM,bw,JA,bn,aH,av,aL,bn,aH,av,aL,Jz,b4,fx,fx,aq,aq,a0,ez _ _ a,eA _ _ a,dR,aH,av,aL,es,Fg,cl,cA,dR,aH,av,aL,li,b7,cd,Ff,cl,cA,bM,dR,aH,av,aL,e,Fe,cl,cA,dR,aH,av,aL,e,Fa,cl,cA,dR,bE,fx,aq,a0,uJ,p1,E9,cl,cA,bM,dR,bE,fx,aq,a0,uJ,p1,cA,ra,bJ,dh,aq];rw[bM];exact b6;rw[gy (λh=>l h.2)];rw[Fc,b3,aH,Fb,av,dG gD,t3,iZ,i,bn,aH,av,aL,b8,cd,bM,bw,JA,bn,aH,av,aL,bn,aH,av,aL,Jz,b4,fx,fx,aq,aq,a0,ez _ _ a,eA _ _ a,dR,aH,av,aL,es,Fg,cl,cA,dR,aH,av,aL,li,b7,cd,Ff,cl,cA,bM,dR,aH,av,aL,e,Fe,cl,cA,dR,aH,av,aL,e,Fa,cl,cA,dR,bE,fx,aq,a0,uJ,p1,E9,cl,cA,bM,dR,bE,fx,aq,a0,uJ,p1,cA,ra,bJ,dh,aq];rw[bA];exact b6;rw[gy (λh=>j h.1)];rw[Fc,b3,aH,Fb,av,dG gD,t3,iZ,i,bn,aH,av,aL,b8,cd,bM,bw,JA,bn,aH,av,aL,bn,aH,av,aL,Jz,b4,fx,fx,aq,aq,a0,ez _ _ a,eA _ _ a,dR,aH,av,aL,es,Fg,cl,cA,dR,aH,av,aL,li,b7,cd,Ff,cl,cA,bM,dR,aH,av,aL,e,Fe,cl,cA,dR,aH,av,aL,e,Fa,cl,cA,dR,bE,fx,aq,a0,uJ,p1,E9,cl,cA,bA,gB,ch,ra,bJ,dh,aq];exact b6
theorem YF(g:o.length=7/\cg o=true){e:Bool}(H:bf u 141 [.agg o] (aA (min c 3001)))(h:bf u 225 [.agg o] (.U e)):∃s d,BD u [.agg o] 0 .nil= .ok (.U (decide (c<=3000)&&e)) 0 s d:=by obtain⟨fP,i⟩:=g;rw[BD,jp];by_cases a:c<=3000;rw[dJ a,yI];rw[Ol,b3,av,aU,Ok,bE,a6,aq,a0,acp,p1,cl,bM,dR,av,aU,bE,a6,aq,a0,cA,Mi,bJ,dh,aq];exact b6;rw[gy a,Bool.false_and];rw[Ol,b3,av,aU,Ok,bE,a6,aq,a0,acp,p1,cl,bA,gB,ch,Mi,bJ,dh,aq];exact b6
structure IU (u:Fn):Prop where
 num:∀r:Rat,b5 r.num<=300->b5 r.den<=300->bf u 172 [.agg (eK r)] (.U (decide (b5 r.num<=100/\b5 r.den<=100)))
 am:∀n c o,n<=7000->ki n c o->bf u 172 [.agg o] (.U (decide (c<=3000)))
theorem amL:∀m,bV λu=>∀n c o,n<=m->ki n c o->∀l:Int,1<=l->l<100000->bf u 177 [.agg o,aA l] (aA (min c l)):=by
 intro m;induction m with
 |zero=>exact bV.lL.up λN _ n c o g ho l a d=>eO vu (YE (m:=n) (λe c' o' h=>by omega) ho a d)
 |succ m i=>exact i.up λN H n c o g ho l a d=>eO vu (YE (m:=n) (λe c' o' h j=>H e c' o' (by omega) j) ho a d)
theorem ano:bV IU:=by
 have e:bV λu=>∀r:Rat,b5 r.num<=300->b5 r.den<=300->bf u 225 [.agg (eK r)] (.U (decide (b5 r.num<=100/\b5 r.den<=100))):=Gv.up λn N r g i=>eO xa (aj6 N g i);have k:bV λu=>∀o,yT o->bf u 225 [.agg o] (.U true):=(e.and (bV.hE (C:=λu=>∀o∈nf,bf u 225 [.agg o] (.U true)) 40 λn o ho=>hF (gp (aoC n) ho))).imp λn h o ho=>by rcases ho with ho|⟨r,rfl,g,i⟩;exact h.2 o (qt _ ho);have:=h.1 r (by omega) (by omega);rwa [dJ ⟨g,i⟩]at this
 have ho:∀m,bV λu=>∀n c o,n<=m->ki n c o->bf u 225 [.agg o] (.U true):=by
  intro m;induction m with
  |zero=>
   exact k.imp λN H n c o e h=>by
    cases h with
    |leaf h=>exact H _ h
    |cons j hd=>omega
  |succ m l=>
   exact(k.and (l.up (C:=λu=>∀n c c' a d,n<=m->ki n c a->ki n c' d->bf u 225 [.agg (il a d)] (.U true)) λN H n c c' a d e j hd=>eO xa (aj5 (j.v th) (hd.v th) (H n c a e j) (H n c' d e hd)))).imp λN H n c o e h=>by
    cases h with
    |leaf h=>exact H.1 _ h
    |cons j hd=>exact H.2 _ _ _ _ _ (by omega) j hd
 have p:bV λu=>∀n c o,n<=7000->ki n c o->bf u 141 [.agg o] (aA (min c 3001)):=(amL 7000).up λN H n c o e h=>eO Bt (YB (h.v th) (H n c o e h 3001 (by omega) (by omega)));have q:bV λu=>∀r:Rat,bf u 141 [.agg (eK r)] (aA (min (1:Nat) 3001)):=bV.lL.up (C:=λu=>∀r:Rat,bf u 177 [.agg (eK r),aA 3001] (aA 1)) (λN _ r=>by refine eO vu ?_;have iH:(eK r)[0+6]? =some .ba:=rfl;have t:=oY r;have w:=nV r;generalize eK r=o at*;rw[vu,ep];rw[BF,b3,BE,bn,aH,av,aL,li,e4,eL,bM,gf,zg,cf,cA,bw,yr,bJ,b8,ei,aq];exact b6)|>.up λN H r=>eO Bt (YB ⟨oY r,nV r⟩ (H r))
 refine(((e.and (ho 7000)).and (p.and q))).up λN H=>⟨λr g i=>?_,λn c o e h=>?_⟩;exact eO BD (YF (c:=1) ⟨oY r,nV r⟩ (H.2.2 r) (H.1.1 r g i));have:=YF (h.v th) (H.2.1 n c o e h) (H.1.2 n c o e h);rw[Bool.and_true]at this;exact eO BD this
end
end
section
variable{a c g c':Nat}{o x y:az}
def Gc(x:az):az:=match x with
 |[_,_,_,_,_,_,.aN 7 [a,_]]=>a
 |_=>iD 4 0x6c697370 3 0x6e696c
def Gd(x:az):az:=match x with
 |[_,_,_,_,_,_,.aN 7 [_,d]]=>d
 |_=>iD 4 0x6c697370 3 0x6e696c
def qJ(x:az):Bool:=match x with
 |[_,_,_,_,_,_,.aN 7 [_,_]]=>true
 |_=>false
section
variable[Tok] {u:Fn}{b:Nat}
theorem iO(h:eN a c g c'=false:=by rfl)(k:ao->ay):cj (.s a c) (.s g c') k=k (.U false):=by rw[<-h];rfl
theorem pw(h:eN a c g c'=true:=by rfl)(k:ao->ay):cj (.s a c) (.s g c') k=k (.U true):=by rw[<-h];rfl
theorem DA(x:Bool):(gW x).length=7/\cg (gW x)=true:=by cases x<;>exact(Rg (by simp[jZ,gW])).v
theorem pZ(x:Bool):dL (gW x):=by cases x<;>exact Rg (by simp[jZ,gW])
def oU(o:az):Prop:=o[0+0]? =some (aA 1)/\∃a c,o[0+2]? =some (.s a c)/\eN a c 1 0x31=true
structure Ny (u:Fn):Prop where
 HV:∀x:Bool,bf u 213 [.U x] (.agg (gW x))
 gT:∀o,dL o->bf u 142 [.agg o] (.U (qJ o))
 int:∀o,dL o->∃e,bf u 214 [.agg o] (.U e)/\(e=true↔oU o)
 nil:bf u 41 [] (.agg e5)
 anv:D7 u
 Gt:∀x y,dL x->dL y->∃e,bf u 40 [.agg x,.agg y] (.U e)/\(e=true↔x=y)
 Km:∀x y,dL x->dL y->bf u 77 [.agg x,.agg y] (.agg (il x y))
 add:∀x y,dL x->dL y->bf u 220 [.agg x,.agg y] (.agg (eK (dY x+dY y)))
 mul:∀x y,dL x->dL y->bf u 221 [.agg x,.agg y] (.agg (eK (dY x*dY y)))
 Lt:∀x y,dL x->dL y->bf u 222 [.agg x,.agg y] (.U (decide (dY x<dY y)))
 neg:∀x,dL x->bf u 215 [.agg x] (.agg (eK (-dY x)))
theorem akE(h:dL o):∃s d,EH u [.agg o] 0 .nil= .ok (.U (qJ o)) 0 s d:=by
 obtain⟨k,n,c1,p,q,r,t,w,z,A,B,C,D,E,i,-,j⟩:=h.kind;have dB:=i.dB;have iH:=i.iH;have F:=i.ad;rw[EH,jp];rcases j with⟨rfl,a,d,rfl,G,hd,rfl⟩|⟨H,rfl⟩;have l:∀k:ao->ay,cv false (.aN 7 [a,d]) k=k (aA 2):=λk=>gC _ _ k;have e:qJ (il a d)=true:=rfl;rw[e];generalize il a d=o at*;rw[N9,b3,aH,N8,av,aL,nU,cd,cl,bM,dR,bn,aH,av,aL,l,e4,cd,cA,Mg,bJ,dh,aq];rw[bM];exact b6;have e:qJ o=false:=by rw[i.eq];rfl
 rw[e];rw[N9,b3,aH,N8,av,aL,nU,cd,cl,bA,gB,ch,Mg,bJ,dh,aq];exact b6
theorem ak2(h:dL o):∃e,(e=true↔oU o)/\∃s d,E3 u [.agg o] 0 .nil= .ok (.U e) 0 s d:=by obtain⟨k,t,c1,j,l,w,z,A,B,C,D,E,F,G,n,-,H⟩:=h.kind;have dB:=n.dB;have cX:=n.cX;have q:∀k:ao->ay,cj (.s j l) (.s 1 0x31) k=k (.U (eN j l 1 0x31)):=λk=>rfl;rw[E3,jp];by_cases p:k=1;refine⟨eN j l 1 0x31,⟨λe=>⟨p▸dB,_,_,cX,e⟩,λ⟨_,a,c,i,r⟩=>?_⟩,?_⟩;rw[cX]at i;simp only[dN,ao.s.injEq]at i;rw[i.1,i.2];exact r;rw[OJ,b3,OI,bn,aH,av,aL,b8,cd,cl,bM,dR,bn,aH,av,aL,q,cA,Ml,bJ,dh,aq];exact b6;refine⟨false,⟨λe=>(by cases e),λ⟨i,_⟩=>?_⟩,?_⟩;rw[dB]at i;exact absurd (pe (l2 i) (by omega) (by omega)) p;rw[OJ,b3,OI,bn,aH,av,aL,b8,cd,cl,bA,gB,ch,Ml,bJ,dh,aq];exact b6
theorem akA(h:dL o):∃e,((e=true/\o=e5)\/(e=false/\o≠e5))/\∃s d,wX u [.agg o] 0 .nil= .ok (.U e) 0 s d:=by
 have J:∀x:az,(∃i c1 j l,x=iD i c1 j l)->x∈jZ->∃e,((e=true/\x=e5)\/(e=false/\x≠e5))/\∃s d,wX u [.agg x] 0 .nil= .ok (.U e) 0 s d:=by
  rintro x ⟨i,c1,j,l,rfl⟩ C;have dB:(iD i c1 j l)[0+0]? =some (aA 2):=rfl;have ih:(iD i c1 j l)[0+3+0]? =some (.s i c1):=rfl;have og:(iD i c1 j l)[0+3+1]? =some (.s j l):=rfl;have z:∀k:ao->ay,cj (.s i c1) (.s 4 0x6c697370) k=k (.U (eN i c1 4 0x6c697370)):=λk=>rfl;have A:∀k:ao->ay,cj (.s j l) (.s 3 0x6e696c) k=k (.U (eN j l 3 0x6e696c)):=λk=>rfl;have K:(iD i c1 j l=e5/\eN i c1 4 0x6c697370=true/\eN j l 3 0x6e696c=true)\/(iD i c1 j l≠e5/\(eN i c1 4 0x6c697370=false\/(eN i c1 4 0x6c697370=true/\eN j l 3 0x6e696c=false))):=by
   have D:∀{p q r s E F G H:Nat},iD p q r s=iD E F G H->p=E/\q=F/\r=G/\s=H:=λh=>by unfold iD at h;simp at h;exact⟨h.1.1,h.1.2,h.2.1,h.2.2⟩
   have L:∀{a:Nat}{c:Nat},iD i c1 j l≠pM a c:=λh=>by unfold iD pM at h;exact AK (c:=2) (d:=3) (by omega) (by omega) (by omega) h
   simp only[jZ,e9,iV,iU]at C;rcases C with h|h|h|h|h|h|h|h<;>first|exact absurd h L|skip
   all_goals obtain⟨rfl,rfl,rfl,rfl⟩:=D h
   exact .inl ⟨rfl,rfl,rfl⟩
   all_goals refine .inr ⟨λh=>?_,?_⟩
   all_goals first|(have:=D h;omega)|skip
   exact .inr ⟨rfl,rfl⟩;exact .inl rfl;exact .inl rfl;exact .inl rfl
  generalize iD i c1 j l=o at*;rw[wX,jp];rcases K with⟨t,n,B⟩|⟨t,n|⟨n,B⟩⟩;refine⟨true,.inl ⟨rfl,t⟩,?_⟩;rw[Bq,b3,Bp,bn,aH,av,aL,e4,cd,bM,dR,aH,aH,av,aL,z,n,zc,cl,cA,dR,aH,bn,aH,av,aL,A,B,cA,Ap,bJ,dh,aq];exact b6;refine⟨false,.inr ⟨rfl,t⟩,?_⟩;rw[Bq,b3,Bp,bn,aH,av,aL,e4,cd,bM,dR,aH,aH,av,aL,z,n,zc,cl,cA,gB,ch,Ap,bJ,dh,aq];exact b6;refine⟨false,.inr ⟨rfl,t⟩,?_⟩;rw[Bq,b3,Bp,bn,aH,av,aL,e4,cd,bM,dR,aH,aH,av,aL,z,n,zc,cl,cA,dR,aH,bn,aH,av,aL,A,B,cA,Ap,bJ,dh,aq];exact b6
 rcases h.cases with I|n;rcases abM I with t|⟨a,c,rfl⟩;exact J o t I;have dB:(pM a c)[0+0]? =some (aA 3):=rfl;have w:pM a c≠e5:=λe=>by unfold pM e5 iD at e;exact AK (c:=3) (d:=2) (by omega) (by omega) (by omega) e
 generalize pM a c=o at*;refine⟨false,.inr ⟨rfl,w⟩,?_⟩;rw[wX,jp];rw[Bq,b3,Bp,bn,aH,av,aL,e4,cd,bA,gB,zc,cl,ch,gB,ch,Ap,bJ,dh,aq];exact b6;have w:∃k,1<=k/\k≠2/\o[0+0]? =some (aA k)/\o≠e5:=by rcases n with⟨r,rfl,_⟩|⟨a,d,rfl,_⟩;exact⟨1,by omega,by omega,rfl,λe=>by unfold eK fw e5 iD at e;exact AK (c:=1) (d:=2) (by omega) (by omega) (by omega) e⟩;exact⟨4,by omega,by omega,rfl,λe=>by unfold il e5 iD at e;exact AK (c:=4) (d:=2) (by omega) (by omega) (by omega) e⟩
 obtain⟨k,z,A,dB,w⟩:=w;refine⟨false,.inr ⟨rfl,w⟩,?_⟩;rw[wX,jp];rw[Bq,b3,Bp,bn,aH,av,aL,e4,cd,bA,gB,zc,cl,ch,gB,ch,Ap,bJ,dh,aq];exact b6
structure lg (c:Nat) (xs:bg) (o:az):Prop where
 add:c=0x62696e6172792d2b->o=eK (dY (xs.getD 0 [])+dY (xs.getD 1 []))
 mul:c=0x62696e6172792d2a->o=eK (dY (xs.getD 0 [])*dY (xs.getD 1 []))
 Lt:c=0x3c->o=gW (decide (dY (xs.getD 0 [])<dY (xs.getD 1 [])))
 YU:c=0x636f6e7370->o=gW (qJ (xs.getD 0 []))
 Gb:c=0x636172->o=Gc (xs.getD 0 [])
 YO:c=0x636472->o=Gd (xs.getD 0 [])
 Km:c=0x636f6e73->o=il (xs.getD 0 []) (xs.getD 1 [])
 neg:c=0x756e6172792d2d->o=eK (-dY (xs.getD 0 []))
 sym:c=0x73796d626f6c70->∃e,o=gW e/\(e=true↔(xs.getD 0 [])[0+0]? =some (aA 2))
 adI:c=0x726174696f6e616c70->∃e,o=gW e/\(e=true↔(xs.getD 0 [])[0+0]? =some (aA 1))
 int:c=0x696e746567657270->∃e,o=gW e/\(e=true↔oU (xs.getD 0 []))
 Gt:c=0x657175616c->∃e,o=gW e/\(e=true↔xs.getD 0 []=xs.getD 1 [])
def pk(o:az):Prop:=(∃n c,n<=7000/\ki n c o)\/∃r:Rat,o=eK r/\b5 r.num<=300/\b5 r.den<=300
theorem dL.fF(h:dL o):pk o:=by obtain⟨c,_,h⟩:=h;exact .inl ⟨3000,c,by omega,h⟩
theorem pk.v{o:az}(h:pk o):o.length=7/\cg o=true:=by rcases h with⟨n,c,_,h⟩|⟨r,rfl,_⟩;exact h.v th;exact⟨oY r,nV r⟩
theorem dL.Gb(h:dL o):dL (Gc o)/\dL (Gd o):=by obtain⟨k,j,c1,l,n,p,q,r,t,w,z,A,B,C,e,-,⟨rfl,a,d,rfl,i,hd,rfl⟩|⟨D,rfl⟩⟩:=h.kind;exact⟨i,hd⟩;rw[e.eq];exact⟨pZ false,pZ false⟩
theorem acv(p:Int){q:Nat}(d:q≠0):b5 (mkRat p q).num<=b5 p/\b5 (mkRat p q).den<=b5 q:=by
 rw[(LB p d).1,(LB p d).2];have e:∀(neg:Bool) (m:Nat),(bj neg m).natAbs=m:=λneg m=>by cases neg<;>simp[Go.Hf.bj]
 unfold b5;rw[e];exact⟨sY (Nat.div_le_self _ _),sY (Nat.div_le_self _ _)⟩
theorem aeP(l:dL x)(p:dL y):pk (eK (dY x+dY y))/\pk (eK (dY x*dY y)):=by obtain⟨h,d⟩:=uV l;obtain⟨i,e⟩:=uV p;have j:=(dY x).den_nz;have k:=(dY y).den_nz;refine⟨.inr ⟨_,rfl,?_⟩,.inr ⟨_,rfl,?_⟩⟩;rw[Rat.add_def'];generalize dY x=r at*;generalize dY y=s at*;have n:=acv (r.num*s.den+s.num*r.den) (Nat.mul_ne_zero j k);have br:=acu (q1 h e) (q1 i d);have eB:=q1 d e;rw[<-wy]at eB;omega;rw[Rat.mul_def'];generalize dY x=r at*;generalize dY y=s at*;have n:=acv (r.num*s.num) (Nat.mul_ne_zero j k);have br:=q1 h i;have eB:=q1 d e;rw[<-wy]at eB;omega
theorem axn(d:dL x):pk (eK (-dY x)):=by
 obtain⟨h,i⟩:=uV d;refine .inr ⟨_,rfl,?_,by show b5 (dY x).den<=300;omega⟩;have e:b5 (-(dY x).num)=b5 (dY x).num:=by unfold b5;rw[Int.natAbs_neg]
 rw[Rat.neg_num,e];omega
theorem akW(P:Ny u)(i:dL x)(j:dL y)(h:(a,c)∈[(5,0x657175616c),(4,0x636f6e73),(8,0x62696e6172792d2b),(8,0x62696e6172792d2a),(1,0x3c)]):∃o,pk o/\lg c [x,y] o/\∃s d,vt u [.s a c,.agg x,.agg y] 0 .nil= .ok (.agg o) 0 s d:=by
 obtain⟨w,z⟩:=i.v;obtain⟨A,B⟩:=j.v;simp only[e9,iV,iU,h4]at h;rcases h with⟨rfl,rfl⟩|⟨rfl,rfl⟩|⟨rfl,rfl⟩|⟨rfl,rfl⟩|⟨rfl,rfl⟩
 ·obtain⟨e,l,p⟩:=P.Gt x y i j;have q:=P.HV e;obtain⟨tl,n⟩:=DA e;refine⟨gW e,(pZ e).fF,by constructor<;>first|(intro h;simp at h;done)|exactλ_=>⟨e,rfl,p⟩,?_⟩;rw[vt,iY];rw[BC,b3,b3,cF,pw,bw,VG,av,aU,av,aU,b4,a6,a6,aq,aq,a0,bE,dh,aq,a0,cM,o2,eU,aU,bJ,a6,aq];exact b6
 ·have l:=P.Km x y i j;obtain⟨C,D,r⟩:=i;obtain⟨E,F,t⟩:=j;have k:pk (il x y):= .inl ⟨3001,_,by omega,.cons r t⟩;obtain⟨tl,n⟩:=k.v;refine⟨il x y,k,by constructor<;>first|(intro h;simp at h;done)|exactλ_=>rfl,?_⟩;rw[vt,iY];rw[BC,b3,b3,cF,iO,bc,ES,pw,bw,VI,av,aU,av,aU,b4,a6,a6,aq,aq,a0,cM,o2,eU,aU,bJ,a6,aq];exact b6
 have l:=P.add x y i j;have k:=(aeP i j).1;obtain⟨tl,n⟩:=k.v;refine⟨_,k,by constructor<;>first|(intro _;rfl)|(intro h;simp at h),?_⟩;rw[vt,iY];rw[BC,b3,b3,cF,iO,bc,ES,iO,bc,Jk,pw,bw,VJ,av,aU,av,aU,b4,a6,a6,aq,aq,a0,cM,o2,eU,aU,bJ,a6,aq];exact b6;have l:=P.mul x y i j;have k:=(aeP i j).2;obtain⟨tl,n⟩:=k.v;refine⟨_,k,by constructor<;>first|(intro _;rfl)|(intro h;simp at h),?_⟩;rw[vt,iY];rw[BC,b3,b3,cF,iO,bc,ES,iO,bc,Jk,iO,bc,Oj,pw,bw,VK,av,aU,av,aU,b4,a6,a6,aq,aq,a0,cM,o2,eU,aU,bJ,a6,aq];exact b6;have l:=P.Lt x y i j;have q:=P.HV (decide (dY x<dY y));obtain⟨tl,n⟩:=DA (decide (dY x<dY y));refine⟨_,(pZ _).fF,by constructor<;>first|(intro _;rfl)|(intro h;simp at h),?_⟩;rw[vt,iY];rw[BC,b3,b3,cF,iO,bc,ES,iO,bc,Jk,iO,bc,Oj,iO,bc,VH,pw,bw,VL,av,aU,av,aU,b4,a6,a6,aq,aq,a0,bE,dh,aq,a0,cM,o2,eU,aU,bJ,a6,aq];exact b6
theorem akV(P:Ny u)(n:dL x)(h:(a,c)∈[(3,0x636172),(3,0x636472),(5,0x636f6e7370),(7,0x73796d626f6c70),(9,0x726174696f6e616c70),(8,0x696e746567657270),(7,0x756e6172792d2d)]):∃o,pk o/\lg c [x] o/\∃s d,sQ u [.s a c,.agg x] 0 .nil= .ok (.agg o) 0 s d:=by
 obtain⟨K,L⟩:=n.v;have M:=P.anv x n;have N:=oY (dY x);have np:=nV (dY x);obtain⟨k,O,c1,Q,R,S,T,V,W,X,Y,Z,al,k2,i,-,B⟩:=n.kind;have dB:=i.dB;have iH:=i.iH;have F:∀j:Int,0<=j/\j<=4->(decide (k=j)=true↔([x].getD 0 [])[0+0]? =some (aA j)):=λj ar=>by rw[nB];exact⟨λe=>e▸dB,λe=>pe (l2 (dB.symm.trans e)) (by omega) (by omega)⟩
 have t:=P.gT x n;have bd:=P.nil;obtain⟨bs,bx⟩:e5.length=7/\cg e5=true:=(pZ false).v;have w:=P.HV;simp only[e9,iV,iU,h4]at h;rcases h with⟨rfl,rfl⟩|⟨rfl,rfl⟩|⟨rfl,rfl⟩|⟨rfl,rfl⟩|⟨rfl,rfl⟩|⟨rfl,rfl⟩|⟨rfl,rfl⟩;refine⟨Gc x,n.Gb.1.fF,by constructor<;>first|(intro _;rfl)|(intro h;simp at h),?_⟩;rw[sQ,ep];rcases B with⟨rfl,p,q,rfl,C,D,rfl⟩|⟨E,rfl⟩;have b1:([p,q]:bg)[0]? =some p:=rfl;obtain⟨G,H⟩:=C.v;have l:qJ (il p q)=true:=rfl;have r:Gc (il p q)=p:=rfl;rw[l]at t;rw[r];generalize il p q=o at*;rw[tW,b3,cF,av,aU,bE,a6,aq,a0,cF,cM,tV,pw,bw,bw,BB,av,aU,bE,a6,aq,a0,e1,gX,bc,Oi,pw,bw,VA,bn,aH,av,aL,b7,gQ,cI,aU,cM,jL,eU,aU,bJ,a6,aq];exact b6;have l:qJ x=false:=by rw[i.eq];rfl
 have r:Gc x=e5:=by rw[i.eq];rfl
 rw[l]at t;rw[r];rw[tW,b3,cF,av,aU,bE,a6,aq,a0,cF,cM,tV,pw,bw,bw,BB,av,aU,bE,a6,aq,a0,e1,jI,bw,a0,cM,jL,eU,aU,bJ,a6,aq];exact b6;refine⟨Gd x,n.Gb.2.fF,by constructor<;>first|(intro _;rfl)|(intro h;simp at h),?_⟩;rw[sQ,ep];rcases B with⟨rfl,p,q,rfl,C,D,rfl⟩|⟨E,rfl⟩;have b2:([p,q]:bg)[1]? =some q:=rfl;obtain⟨G,H⟩:=D.v;have l:qJ (il p q)=true:=rfl;have r:Gd (il p q)=q:=rfl;rw[l]at t;rw[r];generalize il p q=o at*;rw[tW,b3,cF,av,aU,bE,a6,aq,a0,cF,cM,tV,iO,bc,pw,bw,BB,av,aU,bE,a6,aq,a0,e1,gX,bc,Oi,iO,bc,Vy,bn,aH,av,aL,b8,jC,cI,aU,cM,jL,eU,aU,bJ,a6,aq];exact b6;have l:qJ x=false:=by rw[i.eq];rfl
 have r:Gd x=e5:=by rw[i.eq];rfl
 rw[l]at t;rw[r];rw[tW,b3,cF,av,aU,bE,a6,aq,a0,cF,cM,tV,iO,bc,pw,bw,BB,av,aU,bE,a6,aq,a0,e1,jI,bw,a0,cM,jL,eU,aU,bJ,a6,aq];exact b6;have l:decide (k=4)=qJ x:=by rcases B with⟨rfl,p,q,rfl,C,D,rfl⟩|⟨E,rfl⟩;rfl;rw[gy E,i.eq];rfl
 have z:=w (qJ x);rw[<-l]at z;obtain⟨tl,A⟩:=DA (decide (k=4));refine⟨gW (decide (k=4)),(pZ _).fF,by constructor<;>first|(intro _;rw[l];rfl)|(intro h;simp at h),?_⟩;rw[sQ,ep];rw[tW,b3,cF,av,aU,bE,a6,aq,a0,cF,cM,tV,iO,bc,iO,bc,zf,pw,bw,VC,bn,aH,av,aL,nU,cd,bE,dh,aq,a0,cM,jL,eU,aU,bJ,a6,aq];exact b6
 ·have z:=w (decide (k=2));obtain⟨tl,A⟩:=DA (decide (k=2));refine⟨gW (decide (k=2)),(pZ _).fF,by constructor<;>first|(intro h;simp at h;done)|exactλ_=>⟨_,rfl,F 2 (by omega)⟩,?_⟩;rw[sQ,ep];rw[tW,b3,cF,av,aU,bE,a6,aq,a0,cF,cM,tV,iO,bc,iO,bc,zf,iO,bc,ER,pw,bw,VD,bn,aH,av,aL,e4,cd,bE,dh,aq,a0,cM,jL,eU,aU,bJ,a6,aq];exact b6
 ·have z:=w (decide (k=1));obtain⟨tl,A⟩:=DA (decide (k=1));refine⟨gW (decide (k=1)),(pZ _).fF,by constructor<;>first|(intro h;simp at h;done)|exactλ_=>⟨_,rfl,F 1 (by omega)⟩,?_⟩;rw[sQ,ep];rw[tW,b3,cF,av,aU,bE,a6,aq,a0,cF,cM,tV,iO,bc,iO,bc,zf,iO,bc,ER,iO,bc,Jj,iO,bc,Ji,pw,bw,VE,bn,aH,av,aL,b8,cd,bE,dh,aq,a0,cM,jL,eU,aU,bJ,a6,aq];exact b6
 ·obtain⟨e,I,J⟩:=P.int x n;have z:=w e;obtain⟨tl,A⟩:=DA e;refine⟨gW e,(pZ _).fF,by constructor<;>first|(intro h;simp at h;done)|exactλ_=>⟨e,rfl,J⟩,?_⟩;rw[sQ,ep];rw[tW,b3,cF,av,aU,bE,a6,aq,a0,cF,cM,tV,iO,bc,iO,bc,zf,iO,bc,ER,iO,bc,Jj,iO,bc,Ji,iO,bc,Oh,pw,bw,VF,av,aU,bE,a6,aq,a0,bE,dh,aq,a0,cM,jL,eU,aU,bJ,a6,aq];exact b6
 ·have I:=P.neg x n;have i:=axn n;obtain⟨tl,A⟩:=i.v;refine⟨_,i,by constructor<;>first|(intro h;simp at h;done)|exactλ_=>rfl,?_⟩;rw[sQ,ep];rw[tW,b3,cF,av,aU,bE,a6,aq,a0,cF,cM,tV,iO,bc,iO,bc,zf,iO,bc,ER,iO,bc,Jj,iO,bc,Ji,iO,bc,Oh,iO,bc,VB,pw,bw,Vz,av,aU,bE,a6,aq,a0,cM,jL,eU,aU,bJ,a6,aq];exact b6
def Ak:List (Nat×Nat):=[(3,0x636172),(3,0x636472),(5,0x636f6e7370),(7,0x73796d626f6c70),(9,0x726174696f6e616c70),(8,0x696e746567657270),(7,0x756e6172792d2d)]
def Al:List (Nat×Nat):=[(5,0x657175616c),(4,0x636f6e73),(8,0x62696e6172792d2b),(8,0x62696e6172792d2a),(1,0x3c)]
def T0(u:Fn)(a c:Nat)(xs:bg):Prop:=∃o k,bf u 136 [.agg [dH,.s a c],.aN 7 xs] (.bD [.agg o,aA k])/\(o.length=7/\cg o=true)/\((k=0/\dL o/\lg c xs o)\/k=2)
theorem pk.pp(h:pk o)(V:IU u):∃e,bf u 172 [.agg o] (.U e)/\(e=true->dL o):=by rcases h with⟨n,c,d,h⟩|⟨r,rfl,i,j⟩;exact⟨_,V.am n c o d h,λe=>uo h (qv e)⟩;exact⟨_,V.num r i j,λe=>an1 (qv e).1 (qv e).2⟩
theorem mv:dD.length=7/\cg dD=true:=by exact⟨rfl,rfl⟩
theorem akB(V:IU u)(l:dL x)(r:bf u 96 [.agg [dH,.s a c]] (.bD [aA 1,.U true]))(h:pk o)(n:lg c [x] o)(H:bf u 170 [.s a c,.agg x] (.agg o)):∃o k,(o.length=7/\cg o=true)/\((k=0/\dL o/\lg c [x] o)\/k=2)/\∃s d,tU u [.agg [dH,.s a c],.aN 7 [x]] 0 .nil= .ok (.bD [.agg o,aA k]) 0 s d:=by
 obtain⟨e,t,p⟩:=h.pp V;obtain⟨w,A⟩:=l.v;obtain⟨B,C⟩:=h.v;obtain⟨D,E⟩:=mv;have F:([x]:bg)[0]? =some x:=rfl;have i:∀k:ao->ay,cv false (.aN 7 [x]) k=k (aA 1):=λk=>gC _ _ k;have c8:([dH,.s a c]:az)[0+1]? =some (.s a c):=rfl;have q:∀z:Int,(aA z:ao)≠ .undef:=λz=>by rw[db];simp
 have G:=q 1;have I:([dH,.s a c]:az).length=2:=rfl;have J:cg ([dH,.s a c]:az)=true:=rfl;have j:∀(a c:Nat) (xs:az) (z:ay),met 0 [] (.s a c::xs) z=met 0 [] xs z:=λa c xs z=>be (by rfl) xs z;generalize ([dH,.s a c]:az)=y at*;cases e;refine⟨dD,2,mv,.inr rfl,?_⟩;rw[tU,ep];rw[EE,b3,cF,av,aU,ED,bE,a6,aq,a0,ez _ _,eA _ _,e1,gX,bc,EC,i,eL,bA,bc,EF,cF,b8,cd,bM,bw,N3,aH,aS,bO,aP,av,aL,N2,be,aP,b7,gQ,aS,be,aP,cI,aU,j,be,aP,qV,a6,aq,aq,a0,bO,aP,eS,Br,av,aU,bE,a6,aq,a0,e1,jI,bw,iZ,cM,yq,eU,aU,a6,e4,ei,aq,aq];exact b6;refine⟨o,0,h.v,.inl ⟨rfl,p rfl,n⟩,?_⟩;rw[tU,ep];rw[EE,b3,cF,av,aU,ED,bE,a6,aq,a0,ez _ _,eA _ _,e1,gX,bc,EC,i,eL,bA,bc,EF,cF,b8,cd,bM,bw,N3,aH,aS,bO,aP,av,aL,N2,be,aP,b7,gQ,aS,be,aP,cI,aU,j,be,aP,qV,a6,aq,aq,a0,bO,aP,eS,Br,av,aU,bE,a6,aq,a0,e1,gX,bc,av,aU,cM,yq,eU,aU,a6,b7,ei,aq,aq];exact b6
theorem akC(V:IU u)(l:dL x)(n:dL y)(w:bf u 96 [.agg [dH,.s a c]] (.bD [aA 2,.U true]))(h:pk o)(p:lg c [x,y] o)(H:bf u 171 [.s a c,.agg x,.agg y] (.agg o)):∃o k,(o.length=7/\cg o=true)/\((k=0/\dL o/\lg c [x,y] o)\/k=2)/\∃s d,tU u [.agg [dH,.s a c],.aN 7 [x,y]] 0 .nil= .ok (.bD [.agg o,aA k]) 0 s d:=by
 obtain⟨e,A,r⟩:=h.pp V;obtain⟨B,C⟩:=l.v;obtain⟨D,E⟩:=n.v;obtain⟨F,G⟩:=h.v;obtain⟨I,J⟩:=mv;have K:([x,y]:bg)[0]? =some x:=rfl;have L:([x,y]:bg)[1]? =some y:=rfl;have i:∀k:ao->ay,cv false (.aN 7 [x,y]) k=k (aA 2):=λk=>gC _ _ k;have c8:([dH,.s a c]:az)[0+1]? =some (.s a c):=rfl;have t:∀z:Int,(aA z:ao)≠ .undef:=λz=>by rw[db];simp
 have M:=t 2;have N:([dH,.s a c]:az).length=2:=rfl;have O:cg ([dH,.s a c]:az)=true:=rfl;have j:∀(a c:Nat) (xs:az) (z:ay),met 0 [] (.s a c::xs) z=met 0 [] xs z:=λa c xs z=>be (by rfl) xs z;generalize ([dH,.s a c]:az)=q at*;cases e;refine⟨dD,2,mv,.inr rfl,?_⟩;rw[tU,ep];rw[EE,b3,cF,av,aU,ED,bE,a6,aq,a0,ez _ _,eA _ _,e1,gX,bc,EC,i,eL,bA,bc,EF,cF,b8,cd,bA,bc,N6,e4,cd,bM,bw,N5,aH,aS,bO,aP,av,aL,be,aP,b7,gQ,aS,be,aP,cI,aU,N4,be,aP,b8,jC,aS,be,aP,cI,aU,j,be,be,aP,qV,a6,a6,aq,aq,aq,a0,bO,aP,eS,Br,av,aU,bE,a6,aq,a0,e1,jI,bw,iZ,cM,yq,eU,aU,a6,e4,ei,aq,aq];exact b6;refine⟨o,0,h.v,.inl ⟨rfl,r rfl,p⟩,?_⟩;rw[tU,ep];rw[EE,b3,cF,av,aU,ED,bE,a6,aq,a0,ez _ _,eA _ _,e1,gX,bc,EC,i,eL,bA,bc,EF,cF,b8,cd,bA,bc,N6,e4,cd,bM,bw,N5,aH,aS,bO,aP,av,aL,be,aP,b7,gQ,aS,be,aP,cI,aU,N4,be,aP,b8,jC,aS,be,aP,cI,aU,j,be,be,aP,qV,a6,a6,aq,aq,aq,a0,bO,aP,eS,Br,av,aU,bE,a6,aq,a0,e1,gX,bc,av,aU,cM,yq,eU,aU,a6,b7,ei,aq,aq];exact b6
end
end
section
variable{c n:Nat}{x o y:az}
section
variable[Tok] {u:Fn}{b:Nat}
theorem oe{a d c':Nat}(i:c<256^a)(j:c'<256^d)(h:eN a c d c'=true):a=d/\c=c':=by unfold eN at h;rw[hY,cC]at h;have e:=e8 h.1;subst e;have k:=e8 h.2;have g:c%256^a=c'%256^a:=k;rw[qx i,qx j]at g;exact⟨rfl,g⟩
theorem yh{x:Bool}(h:gu x=false):x=true:=by cases x<;>first|rfl|cases h
structure A4 (o:az) (aa:Int) (a1 c1 a2 c2 a3 c3 a4 c4 a5 c5:Nat) (L:ao):Prop where
 v:l4 o aa a1 c1 a2 c2 a3 c3 a4 c4 a5 c5 L
 aa: -1000<aa/\aa<1000
 fD:c1<256^a1
 cy:c2<256^a2
 bP:c3<256^a3
 cG:c4<256^a4
 cU:c5<256^a5
def Ub(o:az):Prop:=∃k a c1 d e g h i j l p,A4 o k a c1 d e g h i j l p .ba
def Qo(o:az):Bool:=o.all λx=>match x with
 | .s a c=>Nat.blt c (256^a)
 |_=>true
theorem Qp:((dD::nf).all Qo)=true:=by decide+kernel
theorem RT(h:Eb o)(a:Qo o=true):Ub o:=by
 obtain⟨k,i,c1,j,l,p,q,r,t,w,z,A,B,g⟩:=h;have e:=g.eq;rw[e]at a;simp only[Qo,u4,List.all_nil,cC]at a;have d:∀{x y:Nat},Nat.blt x y=true->x<y:=λh=>by rw[m9]at h;exact qv h
 exact⟨k,i,c1,j,l,p,q,r,t,w,z,g,⟨A,B⟩,d a.2.1,d a.2.2.1,d a.2.2.2.1,d a.2.2.2.2.1,d a.2.2.2.2.2.1⟩
abbrev gH (n c:Nat) (o:az):Prop:=rF Ub n c o
theorem LS:gH 0 1 dD:= .leaf (RT abO (gp Qp fQ))
theorem kh.q6(h:kh n c o):gH n c o:=by
 induction h with
 |leaf h=>exact .leaf (RT (RU _ h) (gp Qp (ii _ h)))
 |cons _ _ a d=>exact .cons a d
theorem gH.mono(h:gH n c o):gH (n+1) c o:=by
 induction h with
 |leaf h=>exact .leaf h
 |cons _ _ a d=>exact .cons a d
theorem gH.aa{n c:Nat}{o:az}(h:gH n c o):∃k g c1 i e j l p q r t w,A4 o k g c1 i e j l p q r t w/\((w= .ba)\/∃m c1 e a d,n=m+1/\w= .aN 7 [a,d]/\gH m c1 a/\gH m e d):=by
 cases h with
 |leaf h=>obtain⟨k,g,c1,i,e,j,l,p,q,r,t,h⟩:=h;exact⟨k,g,c1,i,e,j,l,p,q,r,t,.ba,h,.inl rfl⟩
 |cons z hd=>exact⟨4,0,0,0,0,0,0,0,0,0,0,_,⟨ug,by omega,by omega,by omega,by omega,by omega,by omega⟩,.inr ⟨_,_,_,_,_,rfl,rfl,z,hd⟩⟩
theorem gH.p(h:gH n c o):o.length=7/\cg o=true:=by obtain⟨k,a,c1,d,e,g,i,j,l,p,q,r,h,_⟩:=h.aa;exact⟨h.v.ad,h.v.pure⟩
theorem ki.q6(h:ki n c o):gH n c o:=by
 induction h with
 |leaf h=>refine .leaf ?_;rcases h with h|⟨r,rfl,_⟩;exact RT (RU _ (qt _ h)) (gp Qp (ii _ (qt _ h)));exact⟨1,_,_,_,_,0,0,0,0,0,0,⟨rfl,rfl⟩,by omega,Dd _,Dd _,by omega,by omega,by omega⟩
 |cons _ _ a d=>exact .cons a d
def sD(u:Fn)(f:Nat)(x y:az):Prop:=∃e,(e=true->x=y)/\bf u f [.agg x,.agg y] (.U e)
def qB(a:ay)(x y:az):Prop:=∃e,(e=true->x=y)/\∃s d,a= .ok (.U e) 0 s d
theorem qB.aF{a:ay}(h:∃s d,a= .ok (.U false) 0 s d):qB a x y:=⟨false,λe=>(by cases e),h⟩
theorem ala{k:Int}{R c1 S T V W X Y Z c5:Nat}{J:ao}{k':Int}{al ar bd bs bx b1 b2 cc cn cs:Nat}{K:ao}(i:A4 x k R c1 S T V W X Y Z c5 J)(j:A4 y k' al ar bd bs bx b1 b2 cc cn cs K)
 (cY:J= .ba\/∃a d,J= .aN 7 [a,d])(c0:K= .ba\/∃a d,K= .aN 7 [a,d])(H:∀a d A d',J= .aN 7 [a,d]->K= .aN 7 [A,d']->((a.length=7/\cg a=true)/\(d.length=7/\cg d=true)/\(A.length=7/\cg A=true)/\(d'.length=7/\cg d'=true))/\sD u 40 a A/\sD u 40 d d'):
 qB (kW u [.agg x,.agg y] 0 .nil) x y:=by
 have ex:=i.v.dB;have fl:=i.v.c8;have fn:=i.v.cX;have fp:=i.v.nc;have fr:=i.v.iH;have C:=i.v.gD;have fs:=j.v.dB;have ft:=j.v.c8;have fv:=j.v.cX;have ge:=j.v.nc;have gl:=j.v.iH;have D:=j.v.gD;have go:=i.aa;have gt:=j.aa;have E:=i.v.t3;have G:=j.v.t3;have gw:=i.v.ad;have ha:=i.v.pure;have hb:=j.v.ad;have hd:=j.v.pure;have l:∀(p q:az) (k:ao->ay),cv false (.aN 7 [p,q]) k=k (aA 2):=λp q k=>gC _ _ k;have L:∀k:ao->ay,cv false .ba k=k (aA 0):=λk=>li k;by_cases e0:k=k'
 rotate_left 1
 refine .aF ?_;rw[kW,ep];rw[m8,b3,b3,bn,aH,av,aL,aH,m7,av,aL,eL,bM,gf,mB,cf,cA,gf,mF,cf,cA,gf,mE,cf,cA,gf,mD,cf,cA,gf,mC,cf,cA,bw,iI,bJ,cl,dh,aq];exact b6;cases r:gu (eN R c1 al ar)
 rotate_left 1
 refine .aF ?_;rw[kW,ep];rw[m8,b3,b3,bn,aH,av,aL,aH,m7,av,aL,eL,bA,cV,aH,av,aL,aH,av,aL,gq,r,mB,cf,ch,gf,mF,cf,cA,gf,mE,cf,cA,gf,mD,cf,cA,gf,mC,cf,cA,bw,iI,bJ,cl,dh,aq];exact b6;cases z:gu (eN S T bd bs)
 rotate_left 1
 refine .aF ?_;rw[kW,ep];rw[m8,b3,b3,bn,aH,av,aL,aH,m7,av,aL,eL,bA,cV,aH,av,aL,aH,av,aL,gq,r,mB,cf,ch,cV,aH,av,aL,aH,av,aL,gq,z,mF,cf,ch,gf,mE,cf,cA,gf,mD,cf,cA,gf,mC,cf,cA,bw,iI,bJ,cl,dh,aq];exact b6;cases B:gu (c7 (eN X Y b2 cc) (eN V W bx b1))
 rotate_left 1
 refine .aF ?_;rw[kW,ep];rw[m8,b3,b3,bn,aH,av,aL,aH,m7,av,aL,eL,bA,cV,aH,av,aL,aH,av,aL,gq,r,mB,cf,ch,cV,aH,av,aL,aH,av,aL,gq,z,mF,cf,ch,cV,aH,av,dG C,E,aH,av,dG D,G,nO,B,mE,cf,ch,gf,mD,cf,cA,gf,mC,cf,cA,bw,iI,bJ,cl,dh,aq];exact b6;cases I:gu (eN Z c5 cn cs)
 rotate_left 1
 refine .aF ?_;rw[kW,ep];rw[m8,b3,b3,bn,aH,av,aL,aH,m7,av,aL,eL,bA,cV,aH,av,aL,aH,av,aL,gq,r,mB,cf,ch,cV,aH,av,aL,aH,av,aL,gq,z,mF,cf,ch,cV,aH,av,dG C,E,aH,av,dG D,G,nO,B,mE,cf,ch,cV,aH,av,aL,aH,av,aL,gq,I,mD,cf,ch,gf,mC,cf,cA,bw,iI,bJ,cl,dh,aq];exact b6;have cu:J=K->x=y:=by rintro rfl;have f1:=oe i.fD j.fD (yh r);have f2:=oe i.cy j.cy (yh z);have f34:=yh B;rw[hY,cC]at f34;have f4:=oe i.cG j.cG f34.1;have f3:=oe i.bP j.bP f34.2;have f5:=oe i.cU j.cU (yh I);rw[i.v.eq,j.v.eq,e0,f1.1,f1.2,f2.1,f2.2,f3.1,f3.2,f4.1,f4.2,f5.1,f5.2]
 rcases cY with rfl|⟨a,d,rfl⟩<;>rcases c0 with rfl|⟨A,d',rfl⟩
 ·refine⟨true,λ_=>cu rfl,?_⟩;have dd:∀(h:aO) (t:cp h 0) (w:dS h) (g s3:Nat),h.am (0+2)= .box g x->h.am (0+3)= .box s3 y->∃s d,ji 2 3 5 1000000 (lF u 0 (λe=>iI 0 dx e)) (.aQ (0+2) g 0) (.aQ (0+3) s3 0) bt h= .ok (.U true) 0 s d:=λh t w g s3 M N=>by rw[p7,oW];generalize ji 2 3 5 999999 (lF u 0 (λe=>iI 0 dx e))=O;rw[lF,bn,aH,av,aL,L,b7,cz,bA,bc,iI,bJ,cf,dh,aq];exact b6
  rw[kW,ep];rw[m8,b3,b3,bn,aH,av,aL,aH,m7,av,aL,eL,bA,cV,aH,av,aL,aH,av,aL,gq,r,mB,cf,ch,cV,aH,av,aL,aH,av,aL,gq,z,mF,cf,ch,cV,aH,av,dG C,E,aH,av,dG D,G,nO,B,mE,cf,ch,cV,aH,av,aL,aH,av,aL,gq,I,mD,cf,ch,cV,vB,aH,av,aL,L,aH,av,aL,L,eL,mC,cf,ch,bA,bc,B3];refine dd _ inferInstance inferInstance _ _ ?_ ?_<;>(repeat first|assumption|with_reducible first|exact ec|exact hX|exact kk|exact ds|apply gn|refine fZ ?_|refine fS ?_|refine fJ ?_|refine ic ?_|refine kT ?_|refine lB ?_|refine dt ?_|refine dz ?_|decide)
 refine .aF ?_;rw[kW,ep];rw[m8,b3,b3,bn,aH,av,aL,aH,m7,av,aL,eL,bA,cV,aH,av,aL,aH,av,aL,gq,r,mB,cf,ch,cV,aH,av,aL,aH,av,aL,gq,z,mF,cf,ch,cV,aH,av,dG C,E,aH,av,dG D,G,nO,B,mE,cf,ch,cV,aH,av,aL,aH,av,aL,gq,I,mD,cf,ch,cV,vB,aH,av,aL,L,aH,av,aL,l,eL,mC,cf,ch,bM,bw,iI,bJ,cl,dh,aq];exact b6;refine .aF ?_;rw[kW,ep];rw[m8,b3,b3,bn,aH,av,aL,aH,m7,av,aL,eL,bA,cV,aH,av,aL,aH,av,aL,gq,r,mB,cf,ch,cV,aH,av,aL,aH,av,aL,gq,z,mF,cf,ch,cV,aH,av,dG C,E,aH,av,dG D,G,nO,B,mE,cf,ch,cV,aH,av,aL,aH,av,aL,gq,I,mD,cf,ch,cV,vB,aH,av,aL,l,aH,av,aL,L,eL,mC,cf,ch,bM,bw,iI,bJ,cl,dh,aq];exact b6
 ·obtain⟨⟨⟨he,hf⟩,⟨hg,hh⟩,⟨hi,hk⟩,⟨hl,hm⟩⟩,⟨f1,P,hn⟩,⟨f2,Q,ho⟩⟩:=H a d A d' rfl rfl;have ee:(999999:Nat)=999998+1:=rfl;have em:(999998:Nat)=999997+1:=rfl;have en:(0:Int)+1=1:=rfl;have eq:(1:Int)+1=2:=rfl;have hc:d=d'->a=A->x=y:=λP Q=>cu (by rw[P,Q]);have er:∀(h:aO) (t:cp h 0) (w:dS h) (g s3:Nat),h.am (0+2)= .box g x->h.am (0+3)= .box s3 y->∃s d,ji 2 3 5 999998 (lF u 0 (λe=>iI 0 dx e)) (.aQ (0+2) g 0) (.aQ (0+3) s3 0) (aA 2) h= .ok (.U true) 0 s d:=λh t w g s3 M N=>by rw[em,oW];generalize ji 2 3 5 999997 (lF u 0 (λe=>iI 0 dx e))=O;rw[lF,bn,aH,av,aL,l,cz,bA,bc,iI,bJ,cf,dh,aq];exact b6
  have es:∀(h:aO) (t:cp h 0) (w:dS h) (g s3:Nat),h.am (0+2)= .box g x->h.am (0+3)= .box s3 y->∃s d,ji 2 3 5 999999 (lF u 0 (λe=>iI 0 dx e)) (.aQ (0+2) g 0) (.aQ (0+3) s3 0) (aA 1) h= .ok (.U f2) 0 s d:=λh t w g s3 M N=>by have F:=er h t w g s3 M N;rw[ee,oW];generalize ji 2 3 5 999998 (lF u 0 (λe=>iI 0 dx e))=O at F ⊢;cases f2;rw[lF,bn,aH,av,aL,l,cz,bM,bw,zt,aH,aS,bO,aP,av,aL,dW,be,be,aP,jC,aS,be,aP,cI,aU,aH,aS,bO,aP,av,aL,zs,dW,be,be,aP,jC,aS,be,aP,cI,aU,be,be,aP,a6,a6,aq,aq,a0,e1,jI,bw,iI,bJ,cl,dh,aq];exact b6;rw[lF,bn,aH,av,aL,l,cz,bM,bw,zt,aH,aS,bO,aP,av,aL,dW,be,be,aP,jC,aS,be,aP,cI,aU,aH,aS,bO,aP,av,aL,zs,dW,be,be,aP,jC,aS,be,aP,cI,aU,be,be,aP,a6,a6,aq,aq,a0,e1,gX,bc,b8,fV];rw[eq];exact F
  have ev:∀(h:aO) (t:cp h 0) (w:dS h) (g s3:Nat),h.am (0+2)= .box g x->h.am (0+3)= .box s3 y->qB (ji 2 3 5 1000000 (lF u 0 (λe=>iI 0 dx e)) (.aQ (0+2) g 0) (.aQ (0+3) s3 0) bt h) x y:=λh t w g s3 M N=>by have F:=es h t w g s3 M N;rw[p7,oW];generalize ji 2 3 5 999999 (lF u 0 (λe=>iI 0 dx e))=O at F ⊢;cases f1;refine .aF ?_;rw[lF,bn,aH,av,aL,l,b7,cz,bM,bw,zt,aH,aS,bO,aP,av,aL,dW,be,be,aP,gQ,aS,be,aP,cI,aU,aH,aS,bO,aP,av,aL,zs,dW,be,be,aP,gQ,aS,be,aP,cI,aU,be,be,aP,a6,a6,aq,aq,a0,e1,jI,bw,iI,bJ,cl,dh,aq];exact b6;refine⟨f2,λh=>hc (Q h) (P rfl),?_⟩;rw[lF,bn,aH,av,aL,l,b7,cz,bM,bw,zt,aH,aS,bO,aP,av,aL,dW,be,be,aP,gQ,aS,be,aP,cI,aU,aH,aS,bO,aP,av,aL,zs,dW,be,be,aP,gQ,aS,be,aP,cI,aU,be,be,aP,a6,a6,aq,aq,a0,e1,gX,bc,b8,fV];rw[en];exact F
  rw[kW,ep];rw[m8,b3,b3,bn,aH,av,aL,aH,m7,av,aL,eL,bA,cV,aH,av,aL,aH,av,aL,gq,r,mB,cf,ch,cV,aH,av,aL,aH,av,aL,gq,z,mF,cf,ch,cV,aH,av,dG C,E,aH,av,dG D,G,nO,B,mE,cf,ch,cV,aH,av,aL,aH,av,aL,gq,I,mD,cf,ch,cV,vB,aH,av,aL,l,aH,av,aL,l,eL,mC,cf,ch,bA,bc,B3];refine ev _ inferInstance inferInstance _ _ ?_ ?_<;>(repeat first|assumption|with_reducible first|exact ec|exact hX|exact kk|exact ds|apply gn|refine fZ ?_|refine fS ?_|refine fJ ?_|refine ic ?_|refine kT ?_|refine lB ?_|refine dt ?_|refine dz ?_|decide)
theorem amY:∀n:Nat,bV λu=>∀m c x k c' y,m<=n->gH m c x->gH k c' y->sD u 40 x y:=by
 have step:∀(n z:Nat),(∀m c x k c' y,m<n->gH m c x->gH k c' y->sD (bR bX z) 40 x y)->∀m c x k c' y,m<=n->gH m c x->gH k c' y->sD (bR bX (z+1)) 40 x y:=by
  intro n z i m c x k c' y w A B;obtain⟨J,K,c1,L,j,M,N,O,P,Q,R,S,C,Ad⟩:=A.aa;obtain⟨T,V,W,X,Y,Z,al,ar,bd,bs,bx,L',D,l⟩:=B.aa;obtain⟨e,E,F⟩:=ala (u:=bR bX z) C D (Ad.imp id λ⟨m,c1,j,a,d,_,h,_⟩=>⟨a,d,h⟩) (l.imp id λ⟨m,c1,j,a,d,_,h,_⟩=>⟨a,d,h⟩) λa d a' d' h h'=>by obtain⟨ll,cc,cn,b1,b2,en,G,p,q⟩:=Ad.elim (λg=>by rw[g]at h;cases h) id;obtain⟨cs,cu,cY,c0,dd,ds,H,r,t⟩:=l.elim (λg=>by rw[g]at h';cases h') id;rw[G]at h;rw[H]at h';simp only[ao.aN.injEq,jQ,and_true,true_and]at h h';obtain⟨rfl,rfl⟩:=h;obtain⟨rfl,rfl⟩:=h';exact⟨⟨gH.p p,gH.p q,gH.p r,gH.p t⟩,i _ _ _ _ _ _ (by omega) p r,i _ _ _ _ _ _ (by omega) q t⟩
  exact⟨e,E,eO kW F⟩
 intro n;induction n with
 |zero=>exact bV.lL.up λz _=>step 0 z λm c x k c' y h=>absurd h (by omega)
 |succ n I=>exact I.up λz h=>step (n+1) z λm c x k c' y w=>h m c x k c' y (by omega)
end
end
section
variable[Tok]
theorem abd(n:Nat):iu (bR bX (n+20) 213 [.U true] 0 .nil) (.agg (gW true))=true/\iu (bR bX (n+20) 213 [.U false] 0 .nil) (.agg (gW false))=true:=by exact⟨by kernel_rfl,by kernel_rfl⟩
theorem aoT(n a c b c':Nat):nj (bR bX (n+9) 319 [.agg [br,.s a c,.s b c',.s 0 0,.s 0 0,.s 0 0,.ba]] 0 .nil)= .ok br 0 .nil []:=by kernel_rfl
theorem abb(n:Nat):(Ak.all λx=>iu (bR bX (n+30) 96 [.agg [dH,.s x.1 x.2]] 0 .nil) (.bD [aA 1,.U true]))=true/\(Al.all λx=>iu (bR bX (n+30) 96 [.agg [dH,.s x.1 x.2]] 0 .nil) (.bD [aA 2,.U true]))=true:=by exact⟨by kernel_rfl,by kernel_rfl⟩
theorem anm:bV IP:=Gv.up λn N p q a b c=>eO FJ (akd (N.adM p q a b c))
theorem ao6(n:Nat):iu (bR bX (n+20) 72 [aA 0] 0 .nil) (.agg (eK 0))=true:=by kernel_rfl
theorem QX:bV D7:=(bV.hE (C:=λu=>bf u 72 [aA 0] (.agg (eK 0))) 20 λn=>hF (ao6 n)).up λn h o ho=>eO zn (akb ho h)
theorem QY:bV Ny:=by
 have q:bV λu=>∀r:Rat,bf u 319 [.agg (eK r)] (aA 1):=bV.hE 9 λn r=>by unfold eK fw dQ;rw[<-b8];exact lN (aoT n _ _ _ _)
 have t:bV λu=>∀r s:Rat,b5 r.num<=100/\b5 r.den<=100->b5 s.num<=100/\b5 s.den<=100->bf u 273 [.agg (eK r),.agg (eK s)] (aA (iC (r.num*s.den) (s.num*r.den))):=(Gv.and q).up λn h r s j k=>eO Fr (akv h.1 h.2 j k);have w:bV λu=>∀x y,dL x->dL y->bf u 222 [.agg x,.agg y] (.U (decide (dY x<dY y))):=(Gv.and (QX.and t)).up λn h x y a i=>eO E8 (aj8 h.1 a i h.2.1 h.2.2);have z:bV λu=>(∀x y,dL x->dL y->bf u 220 [.agg x,.agg y] (.agg (eK (dY x+dY y))))/\(∀x y,dL x->dL y->bf u 221 [.agg x,.agg y] (.agg (eK (dY x*dY y))))/\∀x,dL x->bf u 215 [.agg x] (.agg (eK (-dY x))):=(Gv.and (anm.and QX)).up λn h=>⟨λx y a i=>eO E6 (aku h.1 h.2.1 h.2.2 a i),λx y a i=>eO E7 (aj7 h.1 h.2.1 h.2.2 a i),λx a=>eO E4 (alb h.1 h.2.1 h.2.2 a)⟩;have A:bV λu=>(∀o,dL o->bf u 142 [.agg o] (.U (qJ o)))/\(∀o,dL o->∃e,bf u 214 [.agg o] (.U e)/\(e=true↔oU o))/\∀x y,dL x->dL y->bf u 77 [.agg x,.agg y] (.agg (il x y)):=bV.lL.up λn _=>⟨λo h=>eO EH (akE h),λo h=>by obtain⟨e,j,l⟩:=ak2 (u:=bR bX n) h;exact⟨e,eO E3 l,j⟩,λx y a i=>eO B7 (YD a.v.1 a.v.2 i.v.1 i.v.2)⟩
 have B:bV λu=>(∀x:Bool,bf u 213 [.U x] (.agg (gW x)))/\bf u 41 [] (.agg e5):=bV.hE 20 λn=>⟨λx=>by cases x;exact hF (abd n).2;exact hF (abd n).1,lN (abe (n+11))⟩;refine((((amz 3000).and (amY 3000)).and (QX.and w)).and (z.and (A.and B))).imp λn h=>?_;obtain⟨⟨⟨l,C⟩,D,j⟩,⟨k,E,F⟩,⟨G,H,I⟩,J,K⟩:=h;exact⟨J,G,H,K,D,λx y a i=>by
  obtain⟨c,_,a⟩:=a;obtain⟨d,_,i⟩:=i;obtain⟨e,h,h'⟩:=l _ _ _ _ x y (dn _) a.Hb i.Hb;obtain⟨L,g',g⟩:=C _ _ x _ _ y (dn _) a.q6 i.q6;have M:e=L:=by obtain⟨P,d1,N⟩:=h;obtain⟨Q,d2,p⟩:=g;rw[N]at p;simp only[ay.ok.injEq,ao.U.injEq]at p;exact p.1
  exact⟨e,h,λO=>g' (M▸O),h'⟩,I,k,E,j,F⟩
structure DZ (u:Fn):Prop where
 a7:∀a c x,(a,c)∈Ak->dL x->T0 u a c [x]
 a8:∀a c x y,(a,c)∈Al->dL x->dL y->T0 u a c [x,y]
 nil:∀o,dL o->∃e,((e=true/\o=e5)\/(e=false/\o≠e5))/\bf u 135 [.agg o] (.U e)
theorem ane:bV DZ:=by
 have t:bV λu=>(∀a c x,(a,c)∈Ak->dL x->∃o,pk o/\lg c [x] o/\bf u 170 [.s a c,.agg x] (.agg o))/\∀a c x y,(a,c)∈Al->dL x->dL y->∃o,pk o/\lg c [x,y] o/\bf u 171 [.s a c,.agg x,.agg y] (.agg o):=QY.up λn P=>⟨λa c x h d=>by
  obtain⟨o,fP,g,i⟩:=akV P d h;exact⟨o,fP,g,eO sQ i⟩,λa c x y h d j=>by
  obtain⟨o,fP,g,i⟩:=akW P d j h;exact⟨o,fP,g,eO vt i⟩⟩
 have w:bV λu=>(∀x∈Ak,bf u 96 [.agg [dH,.s x.1 x.2]] (.bD [aA 1,.U true]))/\∀x∈Al,bf u 96 [.agg [dH,.s x.1 x.2]] (.bD [aA 2,.U true]):=bV.hE 30 λn=>⟨λx d=>hF (gp (abb n).1 d),λx d=>hF (gp (abb n).2 d)⟩;refine((ano.and t).and w).up λn h=>?_;obtain⟨⟨V,z,A⟩,B,C⟩:=h;refine⟨λa c x h d=>?_,λa c x y h d j=>?_,λo ho=>?_⟩;obtain⟨o,fP,g,i⟩:=z a c x h d;obtain⟨p,k,l,q,r⟩:=akB V d (B _ h) fP g i;exact⟨p,k,eO tU r,l,q⟩;obtain⟨o,fP,g,i⟩:=A a c x y h d j;obtain⟨p,k,l,q,r⟩:=akC V d j (C _ h) fP g i;exact⟨p,k,eO tU r,l,q⟩;obtain⟨e,D,E⟩:=akA (u:=bR bX n) ho;exact⟨e,D,eO wX E⟩
end
section
variable{v x:ao}{xs:bg}
abbrev dc:=Nat×Nat×Nat×Nat
def cw(s:dc):az:=[.s s.1 s.2.1,.s s.2.2.1 s.2.2.2]
def gi(p:dc×az):az:=cw p.1++p.2
def HO(s t:dc):Bool:=c7 (eN s.2.2.1 s.2.2.2 t.2.2.1 t.2.2.2) (eN s.1 s.2.1 t.1 t.2.1)
def nT(t:dc):List (dc×az)->Option az
 |[]=>none
 |p::r=>if HO p.1 t then some p.2 else nT t r
section
variable[Tok] {u:Fn}{b:Nat}
def oC(a:List (dc×az)):Prop:=a.length<=20/\∀p∈a,dL p.2
theorem Qf{p:dc×az}(h:dL p.2):(gi p).length=9/\cg (gi p)=true/\(gi p)[0]? =some (.s p.1.1 p.1.2.1)/\((gi p).drop 0).take 2=cw p.1/\((gi p).drop (0+2)).take 7=p.2:=by obtain⟨a,c⟩:=h.v;refine⟨by simp[gi,cw,a],?_,rfl,rfl,?_⟩;exact c;show p.2.take 7=p.2;exact Tp
theorem axq{t:dc}{a:List (dc×az)}(q:cE 9 v (a.map gi))(w:oC a){s3 s4:Nat}:∀(m i N:Nat) (h:aO),m+i=a.length->m<N->cp h 0->dS h->h.am (0+3)= .box s3 (cw t)->h.am (0+4)= .box s4 dD->
 ∃s d,gd 0 3 4 6 N (zb u 0 (λk l=>fO dD λm=>bl 0 none 7 k m l λ_ n=>Ao 0 k cQ n)) v (.aQ (0+3) s3 0) (.aQ (0+4) s4 0) (aA i) h= .ok (match nT t (a.drop i) with|some o=> .bD [.agg o,.U true]|none=> .bD [.agg dD,.U false]) 0 s d:=by
 intro m;induction m with
 |zero=>intro i N h D E ub b5 y z;obtain⟨N,rfl⟩:=eC N;have c:=cE.len q;rw[mw]at c;obtain⟨F,G⟩:=mv;rw[pm];rw[jt];generalize gd 0 3 4 6 N (zb u 0 (λk l=>fO dD λm=>bl 0 none 7 k m l λ_ n=>Ao 0 k cQ n))=H;rw[zb,c,cz,bA,bc,iZ,cM,Ao,eU,aU,a6,cl,dh,aq,aq];exact b6
 |succ m I=>
  intro i N h D E ub b5 y z;obtain⟨N,rfl⟩:=eC N;have c:=cE.len q;rw[mw]at c;obtain⟨p,e⟩:∃p,a[i]? =some p:=⟨_,fo (by omega)⟩;have hi:(a.map gi)[i]? =some (gi p):=by simp[e]
  have A:=w.2 p (eH e);obtain⟨B,O,-,ik,jT⟩:=Qf A;obtain⟨P,Q⟩:=A.v;have J:a.drop i=p::a.drop (i+1):=by rw[sy (by omega),(g8.1 e).2]
  have C:0+2<=(gi p).length:=by rw[B];omega
  have K:0+2+7<=(gi p).length:=by rw[B];omega
  obtain rfl:v= .aN 9 (a.map gi):=q.elim (λh=>by have:=h.2;rw[DQ]at this;subst this;simp at e) id;have L:iP false (.agg (cw p.1)) (.agg (cw t))= λk=>k (.U (HO p.1 t)):=by funext k;exact apu _ _ _ _ _ _ _ _ k
  have g:=λk=>congrFun L k;have R:(cw t).length=2:=rfl;rw[J];rw[jt];have r:=I (i+1) N h (by omega) (by omega) ub b5 y z;have M:((i+1:Nat):Int)=(i:Int)+1:=by omega
  have S:=w.1;rw[M]at r;generalize gd 0 3 4 6 N (zb u 0 (λk l=>fO dD λm=>bl 0 none 7 k m l λ_ n=>Ao 0 k cQ n))=H at r;cases j:HO p.1 t;have e0:nT t (p::a.drop (i+1))=nT t (a.drop (i+1)):=by rw[nT,j];rfl
  rw[e0];rw[j]at g;rw[zb,c,cz,bM,bw,N1,dW,be,be,aP,fH,iQ,aS,be,aP,cI,dG C,ik,aS,bO,aP,av,aU,g,bc,b8,fV];exact r;have e0:nT t (p::a.drop (i+1))=some p.2:=by rw[nT,j];rfl
  obtain⟨F,G⟩:=mv;rw[e0];rw[j]at g;rw[zb,c,cz,bM,bw,N1,dW,be,be,aP,fH,iQ,aS,be,aP,cI,dG C,ik,aS,bO,aP,av,aU,g,bw,U4,fH,iQ,cI,dG K,jT,cM,Ao,eU,aU,a6,cf,dh,aq,aq];exact b6
def TG(o:Option az):ao:=match o with
 |some o=> .bD [.agg o,.U true]
 |none=> .bD [.agg dD,.U false]
theorem akz{t:dc}{a:List (dc×az)}(e:cE 9 v (a.map gi))(c:oC a):∃s d,EB u [v,.agg (cw t)] 0 .nil= .ok (TG (nT t a)) 0 s d:=by have F:=λ(h:aO) (ub:cp h 0) (b5:dS h) (s3 s4:Nat) (g:h.am (0+3)= .box s3 (cw t)) (i:h.am (0+4)= .box s4 dD)=>axq (u:=u) e c (s3:=s3) (s4:=s4) a.length 0 1000000 h rfl (by have:=c.1;omega) ub b5 g i;have e0:(aA ((0:Nat):Int):ao)=bt:=b7.symm;rw[e0]at F;rw[EB,ep];rw[U5,b3,cF];exact F _ inferInstance inferInstance _ _ (fZ ec) ec
def kX(ps:List dc)(xs:bg):List (dc×az):=ps.zip xs
theorem ajV{ps:List dc}(j:cE 2 v (ps.map cw))(y:cE 7 x xs)(D:ps.length=xs.length)(A:∀o∈xs,dL o)(S:xs.length<=10):∀(m i N:Nat) (h:aO) (ca:ao),m+i=xs.length->m<N->cp h 0->dS h->gm 0 2078 91 9 h ca (((kX ps xs).take i).map gi)->
 ∃w s d,cE 9 w ((kX ps xs).map gi)/\gd 0 1 5 6 N (Bs u 0 (λe f=>Hr 0 e f)) v x ca (aA i) h= .ok w 0 s d:=by
 have T:(kX ps xs).length=xs.length:=by unfold kX;rw[List.length_zip];omega
 intro m;induction m with
 |zero=>intro i N h ca E F ub b5 O;obtain⟨N,rfl⟩:=eC N;have a:=cE.len j;rw[mw]at a;rw[Tp]at O;obtain⟨w,l,c⟩:=O.fh;obtain⟨s,d,e⟩:=b6 (r:=w) (h:=h);refine⟨w,s,d,l,?_⟩;rw[jt];generalize gd 0 1 5 6 N (Bs u 0 (λe f=>Hr 0 e f))=G;rw[Bs,a,cz,bA,gB,I7,cl,ch,bc,Hr,bJ,c,aq];exact e
 |succ m H=>
  intro i N h ca E F ub b5 O;obtain⟨N,rfl⟩:=eC N;have a:=cE.len j;have I:=cE.len y;rw[mw]at a;obtain⟨t,n⟩:∃t,ps[i]? =some t:=⟨_,fo (by omega)⟩;obtain⟨o,ho⟩:∃o,xs[i]? =some o:=⟨_,fo (by omega)⟩;have V:(ps.map cw)[i]? =some (cw t):=by simp[n]
  obtain⟨fP,W⟩:=(A o (eH ho)).v;have J:(kX ps xs)[i]? =some (t,o):=by unfold kX;rw[List.getElem?_zip_eq_some];exact⟨n,ho⟩
  have K:((kX ps xs).take (i+1)).map gi=((kX ps xs).take i).map gi++[gi (t,o)]:=by rw[List.take_succ_eq_append_getElem (by omega),(g8.1 J).2,oz];rfl
  obtain⟨X,Y,-,-,-⟩:=Qf (p:=(t,o)) (A o (eH ho));obtain rfl:v= .aN 2 (ps.map cw):=j.elim (λh=>by have:=h.2;rw[DQ]at this;subst this;simp at n) id;obtain rfl:x= .aN 7 xs:=y.elim (λh=>by have:=h.2;subst this;simp at ho) id;have L:∀f:az->ay,eu 0 2 (.agg (cw t)) [.s 0 0,.s 0 0,bt,.s 0 0,.s 0 0,.s 0 0,.s 0 0,.s 0 0,.ba] f=f (cw t++[bt,.s 0 0,.s 0 0,.s 0 0,.s 0 0,.s 0 0,.ba]):=λf=>rfl;have M:∀f:az->ay,eu 2 7 (.agg o) (cw t++[bt,.s 0 0,.s 0 0,.s 0 0,.s 0 0,.s 0 0,.ba]) f=f (gi (t,o)):=λf=>by rw[RH fP (by simp[cw])];congr 1;simp[cw,gi]
  have Z:(cw t).length=2:=rfl;have al:cg (cw t)=true:=rfl;have q:∃g,∀k:dv,fW 0 2078 (some [2078,2078]) 91 9 144 ca (.aV (0+2077) (ie h 0 2077) 0 1) false (h.fc 0 2077 91 9 [gi (t,o)] false) k=k (.aV (0+2078) g 0 (((kX ps xs).take i).map gi++[gi (t,o)]).length) ((h.fc 0 2077 91 9 [gi (t,o)] false).je 0 2078 g 91 9 (((kX ps xs).take i).map gi++[gi (t,o)]) false):=by
   have P:gm 0 2078 91 9 (h.fc 0 2077 91 9 [gi (t,o)] false) ca (((kX ps xs).take i).map gi):=O.am (fJ rfl);have B:∀o,ke 0 (some [2078,2078]) [(0+2078,o)]=true:=λo=>HU (by decide) rfl;have C:∀f:bg->ay,i0 (h.fc 0 2077 91 9 [gi (t,o)] false).am 9 (.aV (0+2077) (ie h 0 2077) 0 1) f=f [gi (t,o)]:=λf=>pt hX rfl f;have D:(((kX ps xs).take i).map gi).length<=10:=by rw[mw,AY];omega
   rcases P with⟨rfl,e⟩|⟨s,rfl,ho⟩;rw[e];exact⟨_,λk=>zW C (by simp) B (by simp) (by simp) k⟩;refine⟨Nat.add s 1,λk=>?_⟩;rw[K9 (d:=2078) ho C rfl B (by simp only[List.length_singleton];omega) (by simp only[List.length_singleton];omega) k,u7]
  obtain⟨g,q⟩:=q;have Q:∀(xs:az) (z:ay),met 0 [2078,2077] (ca::xs) z=met 0 [2078,2077] xs z:=λxs z=>by rcases O with⟨rfl,_⟩|⟨s,rfl,_⟩;exact be (ab7 _ _) xs z;exact x8 _ _ _ _ _
  obtain⟨w,s,d,l,c⟩:=H (i+1) N _ _ (by omega) (by omega) inferInstance inferInstance (by rw[K];exact gm.new (h:=h.fc 0 2077 91 9 [gi (t,o)] false) (s:=g));have R:((i+1:Nat):Int)=(i:Int)+1:=by omega
  rw[R]at c;refine⟨w,s,d,l,?_⟩;rw[jt];generalize gd 0 1 5 6 N (Bs u 0 (λe f=>Hr 0 e f))=G at c;rw[Bs,a,cz,bM,dR,I,cz,I7,cl,cA,bM,bw,N7,dW,be,be,aP,fH,aS,be,aP,cI,aU,dW,be,be,aP,fH,U6,aS,be,aP,cI,aU,L,M,iZ,be,aP,jB,aq,x1,Q,x8,aP,q,b8,fV];exact c
theorem akD{ps:List dc}(c:cE 2 v (ps.map cw))(e:cE 7 x xs)(g:ps.length=xs.length)(h:∀o∈xs,dL o)(i:xs.length<=10):∃w,cE 9 w ((kX ps xs).map gi)/\∃s d,EG u [v,x] 0 .nil= .ok w 0 s d:=by obtain⟨w,s,d,j,a⟩:=ajV (u:=u) c e g h i xs.length 0 1000000 (bN 0 .nil) .ba rfl (by omega) inferInstance inferInstance (.inl ⟨rfl,rfl⟩);have e0:(aA ((0:Nat):Int):ao)=bt:=b7.symm;rw[e0]at a;refine⟨w,j,s,d,?_⟩;rw[EG,ep];rw[U7];exact a
end
end
section
variable{N':Nat}{h:aO}{R:ao->Prop}
abbrev eZ:=Nat×Nat×Nat×Nat×Nat
def km(h:eZ):dc:=(h.1,h.2.1,h.2.2.1,h.2.2.2.1)
def i5:eZ:=(4,0x6c697370,2,0x6966,3)
def lW:List eZ:=Ak.map (λx=>(4,0x6c697370,x.1,x.2,1))++Al.map λx=>(4,0x6c697370,x.1,x.2,2)
def ko:List eZ:=[(4,0x6c697370,3,0x6e6f74,1),(4,0x6c697370,3,0x6c656e,1),(4,0x75736572,4,0x74726565,1),(4,0x6c697370,13,0x62696e6172792d617070656e64,2),(4,0x6c697370,3,0x726576,1),(4,0x6c697370,10,0x747275652d6c69737470,1),(4,0x6c697370,4,0x6e617470,1),(4,0x6c697370,4,0x706f7370,1),(4,0x6c697370,7,0x696d706c696573,2),(4,0x6c697370,3,0x666978,1),(4,0x6c697370,3,0x696666,2),(4,0x6c697370,4,0x6e666978,1),(4,0x6c697370,2,0x7a70,1),
 (4,0x75736572,3,0x647562,1),(4,0x75736572,8,0x73616d652d6c656e,2),(4,0x75736572,5,0x7061697273,2),(4,0x75736572,4,0x64756273,1),(4,0x75736572,5,0x6576656e73,1),(4,0x75736572,4,0x6f646473,1),(4,0x75736572,4,0x786f7232,2)]
def hT:List eZ:=i5::(lW++ko)
section
variable[Tok] {u:Fn}{b:Nat}
inductive n5:Nat->az->Prop
 |var (n:Nat) (s:dc):n5 n (kQ (.s s.1 s.2.1) (.s s.2.2.1 s.2.2.2))
 |gT (n:Nat) (o:az) (h:dL o):n5 n (fg o)
 |g3 (n:Nat) (h:eZ) (hh:h∈hT) (l:bg) (hl:l.length=h.2.2.2.2) (ht:∀t∈l,n5 n t):n5 (n+1) (eG h l)
structure Ns (F:az) (ps:List dc) (gz:az):Prop where
 tr:∃v,F[0+2]? =some v/\cE 2 v (ps.map cw)
 jx:F[0+3]? =some (aA 1)
 gz:(F.drop (0+15)).take 11=gz
inductive eD (D:eZ->List dc->az->Prop):List (dc×az)->az->az->Prop
 |var (e:List (dc×az)) (s:dc) (o:az) (h:nT s e=some o):eD D e (kQ (.s s.1 s.2.1) (.s s.2.2.1 s.2.2.2)) o
 |gT (e:List (dc×az)) (o:az):eD D e (fg o) o
 |vQ (e:List (dc×az)) (a c d x y:az) (ha:eD D e a x) (hx:x≠e5) (hc:eD D e c y):eD D e (eG i5 [a,c,d]) y
 |xU (e:List (dc×az)) (a c d y:az) (ha:eD D e a e5) (hd:eD D e d y):eD D e (eG i5 [a,c,d]) y
 |Aj (e:List (dc×az)) (h:eZ) (hh:h∈lW) (l xs:bg) (o:az) (hl:l.length=xs.length) (hv:∀(i:Nat) (t x:az),l[i]? =some t->xs[i]? =some x->eD D e t x) (ho:lg h.2.2.2.1 xs o):eD D e (eG h l) o
 |fn (e:List (dc×az)) (h:eZ) (hh:h∈ko) (ps:List dc) (bd:az) (hD:D h ps bd) (l xs:bg) (o:az) (hl:l.length=xs.length) (hv:∀(i:Nat) (t x:az),l[i]? =some t->xs[i]? =some x->eD D e t x) (hb:eD D (kX ps xs) bd o):eD D e (eG h l) o
def ry(D:eZ->List dc->az->Prop)(e:List (dc×az))(t:az)(r:ao):Prop:=∃o k,r= .bD [.agg o,aA k]/\(o.length=7/\cg o=true)/\(-100<k/\k<100)/\((k=0/\dL o/\eD D e t o)\/k≠0)
def qC(D:eZ->List dc->az->Prop)(u:Fn)(w:ao)(N:Nat)(t:az):Prop:=∀e v,oC e->cE 9 v (e.map gi)->gG u 97 [.agg t,v] w N (ry D e t)
structure wN (D:eZ->List dc->az->Prop) (M:Nat) (u:Fn) (w:ao):Prop where
 bv:∃n l,w= .aN n l
 lD:∀h∈hT,bf u 37 [w,.agg (cw (km h))] (.bD [aA h.2.2.2.2,.U true])
 v5:∀h∈hT,∃k:Int,bf u 96 [.agg (cw (km h))] (.bD [aA k,.U (decide (h∉ko))])
 fn:∀h∈hT,∃F e,bf u 69 [w,.agg (cw (km h))] (.bD [.agg F,.U e])/\F.length=37/\cg F=true/\(∃k:Int,-100<k/\k<100/\F[0+3]? =some (aA k))/\(h∈ko->∃ps bd,Ns F ps bd/\D h ps bd/\n5 M bd/\ps.length=h.2.2.2.2)
 xW:∀h∈hT,∀l,l.length=h.2.2.2.2->bf u 60 [.agg (eG h l),.s 2 0x6966,aA 3] (.U (decide (h=i5)))
 tR:DZ u
 val:∀(t:dc) v E,cE 9 v (E.map gi)->oC E->bf u 134 [v,.agg (cw t)] (TG (nT t E))
 gi:∀v x (ps:List dc) (xs:bg),cE 2 v (ps.map cw)->cE 7 x xs->ps.length=xs.length->(∀o∈xs,dL o)->xs.length<=10->∃w,cE 9 w ((kX ps xs).map Go.Hf.gi)/\bf u 137 [v,x] w
section
variable{D:eZ->List dc->az->Prop}{M N:Nat}{w:ao}{aC:cD}{q s:Nat}
theorem n5.v{n:Nat}{t:az}(h:n5 n t):fR t:=by
 cases h with
 |var n s=>have:=uZ (p:= .s s.1 s.2.1) (n:= .s s.2.2.1 s.2.2.2) rfl;exact⟨this.ad,this.ja⟩
 |gT n o h=>have:=qm h.v.1 h.v.2;exact⟨this.ad,this.ja⟩
 |g3 n h a l c d=>exact⟨(pK h l).ad,(pK h l).ja⟩
theorem aeg{z:Nat}(a:eI b aC q s w N h)(i:z<=N')(l:0<=N):∃h',eI b aC q s w N' h'/\(∀d,h'.am (b+d)=h.am (b+d))/\h'.am q= .box s [w,aA z]/\∀k:dv,bl b none 1 (.aQ q s (0+1)) (aA z) h k=k .undef h':=by
 obtain⟨j,p,ho⟩:=a.am;have c:q<h.ax:=by have:=a.ax;have:=a.lt;omega
 refine⟨h.g1 b q (.ae (.box s [w,aA z])),⟨a.lt,a.jx,by rw[aO.lY];exact a.ax,⟨z,i,nv c⟩,λk e=>(aO.rl k e).elim (a.ck k) id,λk e g=>?_,a.mH⟩,λd=>?_,nv c,λk=>?_⟩;rw[aO.mu c];simp[Go.Hf.dk,g];exact a.aj k e g;have:=a.lt;rw[aO.mu c];simp[Go.Hf.dk,show b+d≠q by omega];rw[uB,z1 (n:=1) (off:=0+1) (cs:=[w,aA j]) (new:=[aA z]) ho rfl (by simp) (λo=>kC b _) c];rfl
theorem gY.mono{a:ay}(h:gY a b aC q s w N R)(i:N<=N'):gY a b aC q s w N' R:=by obtain⟨r,bj,d,z,c,e,j,g⟩:=h;exact⟨r,bj,d,z,c,e,by omega,g⟩
theorem adn{o z:az}{s6:Nat}{k:Int}(a:eI b aC q s w N h)(c:h.am (b+6)= .box s6 z)(d:z.length=7)(e:o.length=7/\cg o=true)(i:R (.bD [.agg o,aA k])):gY (bl b none 7 (.aQ (b+6) s6 0) (.agg o) h λ_ g=>k5 b (.aQ (b+6) s6 0) (aA k) g) b aC q s w N R:=by
 haveI:=a.aK
 obtain⟨j,l⟩:=e;rw[cM j c d,k5,eU (gn c),aU,a6,ei,aq,aq];exact mo a.dp i
end
end
end
section
variable{e:List (dc×az)}{v:ao}{z:Nat}
section
variable[Tok] {u:Fn}{b:Nat}{D:eZ->List dc->az->Prop}{M N:Nat}{w:ao}{aC:cD}{q s:Nat}
theorem akk(bH:wN D M u w)(j:oC e)(k:cE 9 v (e.map gi))(t:dc)(B:ly w)(C:q<b)(E:q%4096<2048)(F:z<=N)(G:b9 b aC q= .box s [w,aA z]):gY (pT u [.aQ q s 0,.agg (kQ (.s t.1 t.2.1) (.s t.2.2.1 t.2.2.2)),v] b aC) b aC q s w N (ry D e (kQ (.s t.1 t.2.1) (.s t.2.2.1 t.2.2.2))):=by
 have g:=eI.start C E F G B
 haveI:=g.aK
 have a:=uZ (p:= .s t.1 t.2.1) (n:= .s t.2.2.1 t.2.2.2) rfl;have tl:=a.ad;have R:=a.ja;have dB:=a.dB;have l:=a.fC;have t1:((kQ (.s t.1 t.2.1) (.s t.2.2.1 t.2.2.2)).drop (0+1)).take 2=cw t:=a.t1;have S:(cw t).length=2:=rfl;have T:cg (cw t)=true:=rfl;have y:=cE.fh k;have ev:=bH.val t v e k j;have H:=λo (h:nT t e=some o)=>eD.var (D:=D) e t o h;have I:∀o,nT t e=some o->dL o:=by
  have:∀(c:List (dc×az)) o,(∀p∈c,dL p.2)->nT t c=some o->dL o:=by
   intro c;induction c with
   |nil=>intro o _ h;cases h
   |cons p r J=>intro o A h;rw[nT]at h;split at h;cases h;exact A p fQ;exact J o (λx K=>A x (ii _ K)) h
  exactλo h=>this e o j.2 h
 generalize (kQ (.s t.1 t.2.1) (.s t.2.2.1 t.2.2.2))=x at*;rw[pT,iY];cases d:nT t e with
 |none=>
  rw[d]at ev;obtain⟨L,O⟩:=mv;have P:(ao.agg dD:ao)≠ .undef:=by simp
  have Q:bf u 134 [v,.agg (cw t)] (.bD [.agg dD,.U false]):=ev;rw[ua,b3,cF,bn,aH,av,aL,b8,cd,bM,bw,P0,aH,av,dG l,t1,b4,y,a6,aq,aq,a0,ez _ _,eA _ _,cF,PZ,cM,e1,jI,bw,iZ,cM,k5,eU,aU,a6,uM,ei,aq,aq];exact mo (((((g.cB).cB).cB).dp).dp) ⟨dD,6,rfl,mv,by omega,.inr (by omega)⟩
 |some o=>
  rw[d]at ev;have i:=I o d;obtain⟨V,X⟩:=i.v;have P:(ao.agg o:ao)≠ .undef:=by simp
  obtain⟨L,O⟩:=mv;have Q:bf u 134 [v,.agg (cw t)] (.bD [.agg o,.U true]):=ev;rw[ua,b3,cF,bn,aH,av,aL,b8,cd,bM,bw,P0,aH,av,dG l,t1,b4,y,a6,aq,aq,a0,ez _ _,eA _ _,cF,PZ,cM,e1,gX,bc,av,aU,cM,k5,eU,aU,a6,b7,ei,aq,aq];exact mo (((((g.cB).cB).cB).dp).dp) ⟨o,0,rfl,i.v,by omega,.inl ⟨rfl,i,H o d⟩⟩
theorem akj{o:az}(a:dL o)(g:ly w)(h:q<b)(i:q%4096<2048)(j:z<=N)(k:b9 b aC q= .box s [w,aA z]):gY (pT u [.aQ q s 0,.agg (fg o),v] b aC) b aC q s w N (ry D e (fg o)):=by
 have d:=eI.start h i j k g
 haveI:=d.aK
 have c:=qm a.v.1 a.v.2;have tl:=c.ad;have dB:=c.dB;have gD:=c.gD;have t3:=c.t3;obtain⟨n,p⟩:=mv;obtain⟨r,t⟩:=a.v;have l:=eD.gT (D:=D) e o;generalize fg o=x at*;rw[pT,iY];rw[ua,b3,cF,bn,aH,av,aL,b8,cd,bA,bc,xn,e4,cd,bM,bw,X8,aH,av,dG gD,t3,cM,k5,eU,aU,a6,b7,ei,aq,aq];exact mo (((d.cB).cB).dp) ⟨o,0,rfl,a.v,by omega,.inl ⟨rfl,a,l⟩⟩
end
end
section
variable{e:List (dc×az)}{v:ao}{h:aO}{s6:Nat}{z:az}
section
variable[Tok] {u:Fn}{b:Nat}{D:eZ->List dc->az->Prop}{M N:Nat}{w:ao}{aC:cD}{q s:Nat}
theorem wS(o:az):(ao.agg o:ao)≠ .undef:=by simp
theorem Yt{t a:az}(C:qC D u w N a)(d:oC e)(j:cE 9 v (e.map gi))(H:fR a)(l:∀o,eD D e a o->eD D e t o)(n:eI b aC q s w N h)(x:h.am (b+6)= .box s6 z)(y:z.length=7):
 gY (dC u b 97 [.aQ q s 0,.agg a,v] [] h λo p=>cP o 0 λi=>cP o 1 λr=>bl b none 7 (.aQ (b+6) s6 0) i p λ_ g=>k5 b (.aQ (b+6) s6 0) r g) b aC q s w N (ry D e t):=by
 refine kH n (C e v d j) λr h' A c B=>?_;obtain⟨o,k,rfl,ho,E,F⟩:=A
 haveI:=c.aK
 have G:=(B 6).trans x;have I:=wS o;rw[ez _ _,eA _ _];exact adn c G y ho ⟨o,k,rfl,ho,E,F.elim (λh=> .inl ⟨h.1,h.2.1,l o h.2.2⟩) .inr⟩
theorem aor{a c d:az}(p:∀t∈[a,c,d],fR t/\qC D u w N t)(K:DZ u)(A:oC e)(l:cE 9 v (e.map gi))(E:eI b aC q s w N h){s4:Nat}(L:h.am (b+4)= .box s4 (eG i5 [a,c,d]))(O:h.am (b+6)= .box s6 z)(F:z.length=7):
 gY (PX u b (.aQ (b+4) s4 0) v (.aQ q s 0) (.aQ (b+6) s6 0) h) b aC q s w N (ry D e (eG i5 [a,c,d])):=by
 haveI:=E.aK
 have P:=pK i5 [a,c,d];have iM:=P.iM;have a2:([a,c,d]:bg)[0]? =some a:=rfl;have a3:([a,c,d]:bg)[1]? =some c:=rfl;have Q:([a,c,d]:bg)[2]? =some d:=rfl;obtain⟨⟨al,tR⟩,R⟩:=p a (by simp);obtain⟨⟨jx,S⟩,T⟩:=p c (by simp);obtain⟨⟨V,W⟩,X⟩:=p d (by simp);have B:=cE.fh l;have Y:=λx y C j g=>eD.vQ (D:=D) e a c d x y C j g;have Z:=λy C g=>eD.xU (D:=D) e a c d y C g;have k2:∀(ob:dE) (k:ao->ay),de ob 11 (.aN 11 [a,c,d]) (aA 2) k=k (.gk d 0):=λob k=>fH (i:=2) Q k;generalize eG i5 [a,c,d]=t at*;rw[PX,bn,aH,av,aL,b7,gQ,cI,aU,B,aq];refine kH E (R e v A l) λr h' hr n G=>?_;obtain⟨o,k,rfl,ho,hk,hc⟩:=hr
 haveI:=n.aK
 have a4:=(G 4).trans L;have H:=(G 6).trans O;have a5:=wS o;obtain⟨ar,op⟩:=ho;obtain⟨bd,bs⟩:=mv;by_cases I:k=0;obtain⟨-,hg,J⟩:=hc.elim id λh=>absurd I h;obtain⟨b',a1,bx⟩:=K.nil o hg;rcases a1 with⟨rfl,j⟩|⟨rfl,j⟩;rw[ez _ _,J2,eA _ _,cF,cM,b7,eL,bA,bc,PW,av,aU,bE,a6,aq,a0,bw,X7,bn,aH,av,aL,e4,k2,cI,aU,B,aq];exact Yt X A l ⟨V,W⟩ (λy g=>Z y (j▸J) g) (n.cB.dp) (fS (fZ H)) F;rw[ez _ _,J2,eA _ _,cF,cM,b7,eL,bA,bc,PW,av,aU,bE,a6,aq,a0,bc,X6,bn,aH,av,aL,b8,jC,cI,aU,B,aq];exact Yt T A l ⟨jx,S⟩ (λy g=>Y o y J j g) (n.cB.dp) (fS (fZ H)) F;rw[ez _ _,J2,eA _ _,cF,cM,b7,eL,bM,bw,av,aU,cM,k5,eU,aU,a6,ei,aq,aq];exact mo ((n.cB.dp).dp) ⟨o,k,rfl,⟨ar,op⟩,hk,.inr I⟩
end
end
section
variable[Tok] {u:Fn}{b:Nat}{D:eZ->List dc->az->Prop}{M N:Nat}{w:ao}{aC:cD}{q s:Nat}
structure Bd (D:eZ->List dc->az->Prop) (e:List (dc×az)) (l xs:bg):Prop where
 v:∀(i:Nat) (t x:az),l[i]? =some t->xs[i]? =some x->eD D e t x
 g:∀x∈xs,dL x
theorem UA{l:bg}(hl:l.length<=10)(P:∀t∈l,fR t/\qC D u w N t){e:List (dc×az)}{v:ao}(Q:oC e)(H:cE 9 v (e.map gi)){hd:eZ}{s4 s6 pf:Nat}{z F:az}{pr:Bool}(bx:z.length=7)
 (K:∀(h:aO) (ca:ao) (xs:bg),eI b aC q s w N h->h.am (b+4)= .box s4 (eG hd l)->h.am (b+6)= .box s6 z->h.am (b+14)= .box pf F->gm b 2206 42 7 h ca xs->xs.length=l.length->Bd D e l xs->
  gY (zz u b (.aQ q s 0) (.aQ (b+4) s4 0) (.aQ (b+6) s6 0) (.U pr) (.aQ (b+14) pf 0) ca h) b aC q s w N (ry D e (eG hd l))):
 ∀(m i N':Nat) (h:aO) (ca:ao) (xs:bg),m+i=l.length->m<N'->eI b aC q s w N h->h.am (b+4)= .box s4 (eG hd l)->h.am (b+6)= .box s6 z->h.am (b+14)= .box pf F->gm b 2206 42 7 h ca xs->xs.length=i->Bd D e l xs->
  gY (uG 0 2 4 6 13 14 18 19 N' (Ch u b (zz u b)) (.aQ q s 0) v (.aQ (b+4) s4 0) (.aQ (b+6) s6 0) (.U pr) (.aQ (b+14) pf 0) ca (aA i) h) b aC q s w N (ry D e (eG hd l)):=by
 have R:=pK hd l;have iM:=R.iM;generalize eG hd l=t at*;have S:=cE.fh H;have I:∀k:ao->ay,cv false (.aN 11 l) k=k (aA l.length):=λk=>gC _ _ k;intro m;induction m with
 |zero=>
  intro i N' h ca xs T W d p A B O g V;obtain⟨N',rfl⟩:=eC N'
  haveI:=d.aK
  have F:=K h ca xs d p A B O (by omega) V;rw[Lw];generalize uG 0 2 4 6 13 14 18 19 N' (Ch u b (zz u b))=X;rw[Ch,bn,aH,av,aL,I,cz,bA,bc];exact F
 |succ m Y=>
  intro i N' h ca xs T W d p A B O g V;obtain⟨N',rfl⟩:=eC N'
  haveI:=d.aK
  obtain⟨a,J⟩:∃a,l[i]? =some a:=⟨_,fo (by omega)⟩;obtain⟨⟨al,tR⟩,Z⟩:=P a (eH J);have C:=Y (i+1) N';have ar:((i+1:Nat):Int)=(i:Int)+1:=by omega
  rw[ar]at C;rw[Lw];generalize uG 0 2 4 6 13 14 18 19 N' (Ch u b (zz u b))=X at C;rw[Ch,bn,aH,av,aL,I,cz,bM,bw,Ya,bn,aH,av,aL,fH,cI,aU,S,aq];refine kH d (Z e v Q H) λr h' hr E n=>?_;obtain⟨o,k,rfl,ho,hk,hc⟩:=hr
  haveI:=E.aK
  have a1:=(n 4).trans p;have a2:=(n 6).trans A;have a3:=(n 14).trans B;have O':=O.am (n 2206);have b1:=wS o;obtain⟨b2,op⟩:=ho;obtain⟨cc,cn⟩:=mv;by_cases L:k=0;obtain⟨-,hg,a4⟩:=hc.elim id λh=>absurd L h;have a5:Bd D e l (xs++[o]):=⟨λj t x G c=>by
   rw[Ig]at c;split at c;exact V.v j t x G c;rename_i cs;have:j=i:=by apply Classical.byContradiction;intro cu;rw[rt (by simp;omega)]at c;cases c
   subst this;rw[g,Nat.sub_self]at c;rw[J]at G;cases G;cases c;exact a4,λx g=>(fq.1 g).elim (V.g x) λh=>by simp at h;rw[h];exact hg⟩
  have bd:gm b 2206 42 7 (((h'.cB b 20 42 dD).dp b 20 o).fc b 2205 42 7 [o] false) ca xs:=O'.am (fJ (fS (fZ rfl)));obtain⟨s',bs⟩:=bd.g3 (bytes:=112) (y:= .aV (b+2205) (ie ((h'.cB b 20 42 dD).dp b 20 o) b 2205) 0 1) (r:=o) (λf=>pt hX (by rfl) f) (by omega) (by omega);rw[ez _ _,P2,eA _ _,cF,cM,b7,eL,bA,bc,X9,av,aU,jB,aq,iR,bs,b8,fV];exact C _ _ _ (by omega) (by omega) ((E.cB.dp).fc.je) (ic (fJ (fS (fZ a1)))) (ic (fJ (fS (fZ a2)))) (ic (fJ (fS (fZ a3)))) gm.new (by simp[g]) a5;rw[ez _ _,P2,eA _ _,cF,cM,b7,eL,bM,bw,iZ,cM,k5,eU,aU,a6,ei,aq,aq];exact mo ((E.cB.dp).dp) ⟨dD,k,rfl,mv,hk,.inr L⟩
end
section
variable{hd:eZ}{xs l:bg}{e:List (dc×az)}{s6:Nat}{z:az}{h:aO}{ca:ao}
section
variable[Tok] {u:Fn}{b:Nat}{D:eZ->List dc->az->Prop}{M N:Nat}{w:ao}{aC:cD}{q s:Nat}
theorem arp(h:hd∈lW):∃a c n,hd=(4,0x6c697370,a,c,n)/\(((a,c)∈Ak/\n=1)\/((a,c)∈Al/\n=2)):=by unfold lW at h;rcases fq.1 h with h|h;obtain⟨⟨a,c⟩,d,rfl⟩:=ia.1 h;exact⟨a,c,1,rfl,.inl ⟨d,rfl⟩⟩;obtain⟨⟨a,c⟩,d,rfl⟩:=ia.1 h;exact⟨a,c,2,rfl,.inr ⟨d,rfl⟩⟩
theorem af4(i:DZ u)(h:hd∈lW)(j:xs.length=hd.2.2.2.2)(d:∀x∈xs,dL x):(∃o k,bf u 136 [.agg (cw (km hd)),.aN 7 xs] (.bD [.agg o,aA k])/\(o.length=7/\cg o=true)/\((k=0/\dL o/\lg hd.2.2.2.1 xs o)\/k=2))/\xs≠[]:=by
 obtain⟨a,c,n,rfl,⟨g,rfl⟩|⟨g,rfl⟩⟩:=arp h
 match xs,j,d with
 |[x],_,d=>exact⟨i.a7 a c x g (d x (by simp)),by simp⟩
 match xs,j,d with
 |[x,y],_,d=>exact⟨i.a8 a c x y g (d x (by simp)) (d y (by simp)),by simp⟩
theorem auk(i:DZ u)(a:hd∈lW){s4:Nat}(j:z.length=7)(c:eI b aC q s w N h)(G:h.am (b+4)= .box s4 (eG hd l))(n:h.am (b+6)= .box s6 z)(O:gm b 2206 42 7 h ca xs)(d:xs.length=l.length)(p:l.length=hd.2.2.2.2)(V:Bd D e l xs):
 gY (P1 u b (.aQ (b+4) s4 0) ca (.aQ (b+6) s6 0) h) b aC q s w N (ry D e (eG hd l)):=by
 haveI:=c.aK
 have g:=pK hd l;have r:=g.fC;have t1:((eG hd l).drop (0+1)).take 2=cw (km hd):=g.t1;obtain⟨⟨o,k,H,ho,A⟩,B⟩:=af4 i a (d.trans p) V.g;obtain⟨x,C,E⟩:=O.fh;obtain rfl:x= .aN 7 xs:=C.elim (λh=>absurd h.2 B) id;have I:(cw (km hd)).length=2:=rfl;have J:cg (cw (km hd))=true:=rfl;have F:=λo (h:lg hd.2.2.2.1 xs o)=>eD.Aj (D:=D) e hd a l xs o d.symm V.v h;have K:=wS o;generalize eG hd l=t at*;generalize cw (km hd)=y at*;rw[P1,aH,av,dG r,t1,b4,a6,E,aq,aq,a0,ez _ _,eA _ _];exact adn c n j ho ⟨o,k,rfl,ho,by omega,A.elim (λh=> .inl ⟨h.1,h.2.1,F o h.2.2⟩) λh=> .inr (by omega)⟩
theorem anx(bH:wN D M u w)(n:∀t,n5 M t->qC D u w N t)(y:hd∈ko){ps:List dc}{a F:az}(A:Ns F ps a)(B:D hd ps a)(d:n5 M a)(ar:F.length=37)(a1:ps.length=hd.2.2.2.2){s4 pf:Nat}(a2:z.length=7)(g:eI b aC q s w N h)(E:h.am (b+6)= .box s6 z)(a3:h.am (b+14)= .box pf F)(O:gm b 2206 42 7 h ca xs)(G:xs.length=l.length)(hl:l.length=hd.2.2.2.2)(a4:l.length<=10)(V:Bd D e l xs):
 gY (PY u b (.aQ q s 0) (.aQ (b+6) s6 0) (.aQ (b+14) pf 0) ca h) b aC q s w N (ry D e (eG hd l)):=by
 haveI:=g.aK
 obtain⟨x,H,I⟩:=O.fh;obtain⟨⟨pv,a5,c⟩,-,J⟩:=A;obtain⟨aR,i,bs⟩:=bH.gi pv x ps xs c H (by omega) V.g (by omega);have K:oC (kX ps xs):=⟨by unfold kX;rw[List.length_zip];omega,λp L=>V.g _ (List.of_mem_zip L).2⟩;have C:=n a d (kX ps xs) aR K i;have ph:=cE.fh c;have P:=cE.fh i;have Q:0+15+11<=F.length:=by omega
 obtain⟨bx,b1⟩:=d.v;have R:=λo (h:eD D (kX ps xs) a o)=>eD.fn (D:=D) e hd y ps a B l xs o G.symm V.v h;have mp:∀(xs:az) (z:ay),met b [2206] (pv::xs) z=met b [2206] xs z:=λxs z=>be (cE.met c b _) xs z;have S:∀(xs:az) (z:ay),met b [2206] (ca::xs) z=met b [2206] xs z:=λxs z=>by rcases O with⟨rfl,_⟩|⟨s,rfl,_⟩;exact be (ab7 _ _) xs z;exact x8 _ _ _ _ _
 generalize eG hd l=t at*;rw[PY,aH,aS,bO,aP,av,dG Q,J,aH,aS,bO,aP,av,aL,X5,mp,S,aP,ph,I,aq,aq,a0,P];refine Kt g C λr h' T j X=>?_;obtain⟨o,k,rfl,ho,Y,Z⟩:=T
 haveI:=j.aK
 have b2:=(X 6).trans E;have cc:=wS o;obtain⟨al,op⟩:=ho;rw[ez _ _,eA _ _,bO,aP,eS,k5,eU,aU,a6,ei,aq,aq];exact mo j.dp ⟨o,k,rfl,⟨al,op⟩,Y,Z.elim (λh=> .inl ⟨h.1,h.2.1,R o h.2.2⟩) .inr⟩
end
end
section
variable[Tok] {u:Fn}{b:Nat}{D:eZ->List dc->az->Prop}{M N:Nat}{w:ao}{aC:cD}{q s:Nat}
theorem aqO{α:Type}{l:List α}(h:l.length=3):∃a c d,l=[a,c,d]:=by
 match l,h with
 |[a,c,d],_=>exact⟨a,c,d,rfl⟩
theorem aol:∀h∈hT,h=i5\/h∈lW\/h∈ko:=λh a=>by rcases e9.1 a with h|h;exact .inl h;exact .inr (fq.1 h)
theorem aki(bH:wN D M u w){hd:eZ}(I:hd∈hT){l:bg}(J:l.length=hd.2.2.2.2)(Y:l.length<=10)(a5:∀t∈l,fR t/\∀N',N'<N->qC D u w N' t)(cc:∀t,n5 M t->∀N',N'<N->qC D u w N' t){e:List (dc×az)}{v:ao}(Z:oC e)(hv:cE 9 v (e.map gi))(hB:ly w){z:Nat}(cn:q<b)(h2:q%4096<2048)(h3:z<=N)(ds:N<=10000)(cu:b9 b aC q= .box s [w,aA z]):gY (pT u [.aQ q s 0,.agg (eG hd l),v] b aC) b aC q s w N (ry D e (eG hd l)):=by
 have g:=eI.start cn h2 h3 cu hB
 haveI:=g.aK
 have A:=pK hd l;have tl:=A.ad;have dt:=A.ja;have dB:=A.dB;have iM:=A.iM;have y:=A.fC;have t1:((eG hd l).drop (0+1)).take 2=cw (km hd):=A.t1;obtain⟨L,dz⟩:=mv;have al:eI b aC q s w N (((bN b aC).cB b 4 44 (eG hd l)).cB b 6 42 dD):=g.cB.cB;obtain⟨z,h3,ho⟩:=al.am;have f1:([w,aA z]:az)[0+1]? =some (aA z):=rfl;by_cases cY:z=0;subst cY;generalize eG hd l=t at*;rw[pT,iY];have c0:([w,aA ((0:Nat):Int)]:az)[0+1]? =some (aA 0):=rfl;rw[ua,b3,cF,bn,aH,av,aL,b8,cd,bA,bc,xn,e4,cd,bA,bc,zy,i3,bn,aH,av ho,aL c0,b8,cz,bM,bw,iZ,cM,k5,eU,aU,a6,LN,ei,aq,aq];exact mo (al.dp) ⟨dD,9,rfl,mv,by omega,.inr (by omega)⟩;obtain⟨n,rfl⟩:∃n,N=n+1:=⟨N-1,by omega⟩;obtain⟨h2,P,bs,B,a1⟩:=aeg (N':=n) (z:=z-1) al (by omega) (by omega)
 haveI:=P.aK
 have p:=(bs 4).trans (fZ ec);have j:=(bs 6).trans (ec (h:=(bN b aC).cB b 4 44 (eG hd l)) (d:=6) (t:=42) (cs:=dD));have f0:([w,aA ((z-1:Nat):Int)]:az)[0+0]? =some w:=rfl;have a2:((z:Nat):Int)-1=((z-1:Nat):Int):=by omega
 obtain⟨nw,ee,bx⟩:=bH.bv;have ar:=bH.lD hd I;obtain⟨kp,pr⟩:=bH.v5 hd I;obtain⟨F,em,fn,fl,fp,⟨oi,c1,c2,en⟩,c3⟩:=bH.fn hd I;have S:=bH.xW hd I l J;rw[<-fu]at S;have Mq:=wS F;have b1:∀z:Int,(aA z:ao)≠ .undef:=λz=>by rw[db];simp
 have eq:=b1 hd.2.2.2.2;have er:=b1 kp;have s2:(cw (km hd)).length=2:=rfl;have es:cg (cw (km hd))=true:=rfl;have a3:∀k:ao->ay,cv false (.aN 11 l) k=k (aA hd.2.2.2.2):=λk=>by rw[<-J];exact gC _ _ k
 have C:∀(r:List Nat) (xs:az) (z:ay),met b r (w::xs) z=met b r xs z:=λr xs z=>by rw[bx];exact be (Sc _ _ _ _) xs z
 have E:∀(ob:dE) (f:gI),bi ob w f=f w []:=λob f=>by rw[bx];exact i2 ob _ _ f
 have G:=λ(o:Nat) (z:ay)=>x9 P o z;refine gY.mono (N:=n) ?_ (by omega);have a4:∀t∈l,fR t/\qC D u w n t:=λt T=>⟨(a5 t T).1,(a5 t T).2 n (by omega)⟩;have c4:∀t,n5 M t->qC D u w n t:=λt T=>cc t T n (by omega);rw[pT,iY];by_cases H:hd∈ko;obtain⟨ps,bd,b2,hD,c5,dd⟩:=c3 H;have ev:=b2.jx;have hi:hd≠i5:=by rintro rfl;revert H;decide
 rw[gy (λh=>h H)]at pr;rw[gy hi]at S;have K:=λ(pf:Nat) (h:aO) (ca:ao) (xs:bg) (g:eI b aC q s w n h) (p:h.am (b+4)= .box (fK (bN b aC) b 4 44) (eG hd l)) (j:h.am (b+6)= .box (fK ((bN b aC).cB b 4 44 (eG hd l)) b 6 42) dD) (X:h.am (b+14)= .box pf F) (O:gm b 2206 42 7 h ca xs) (Q:xs.length=l.length) (V:Bd D e l xs)=>anx bH c4 H b2 hD c5 fl dd (s4:=fK (bN b aC) b 4 44) (s6:=fK ((bN b aC).cB b 4 44 (eG hd l)) b 6 42) L g j X O Q J Y V;have R:=λ(pf:Nat)=>UA (b:=b) (aC:=aC) (q:=q) (s:=s) (s4:=fK (bN b aC) b 4 44) (s6:=fK ((bN b aC).cB b 4 44 (eG hd l)) b 6 42) (pf:=pf) (z:=dD) (F:=F) (pr:=false) (hd:=hd) Y a4 Z hv L (λh ca xs g p j X O Q V=>by
  haveI:=g.aK
  rw[zz,bc];exact K pf h ca xs g p j X O Q V) l.length 0 1000000
 generalize eG hd l=t at*;rw[ua,b3,cF,bn,aH,av,aL,b8,cd,bA,bc,xn,e4,cd,bA,bc,zy,i3,bn,aH,av ho,aL,b8,cz,bA,bc,F3,i3,bn,aH,av ho,aL,b8,g5,a2,F2,i3,aH,a1,i3,aH,aS,G,av B,aL,aH,aS,bO,aP,av,dG y,t1,F1,C,be,aP,E,a6,aq,aq,a0,ez _ _,eA _ _,e1,gX,bc,J6,bn,aH,av,aL,a3,eL,bA,bc,J5,aH,av,dG y,t1,bE,a6,aq,a0,ez _ _,eA _ _,i3,aH,aS,G,av B,aL,J4,aH,aS,bO,aP,av,dG y,t1,C,be,aP,E,a6,aq,aq,a0,ez _ _,eA _ _,hL,J3,bO,aP,eS,e1,jI,dR,aH,av,aL,b8,eL,F0,cl,cA,bA,bc,FZ,av,aU,a6,aq,a0,bc,P3];have e0:(aA ((0:Nat):Int):ao)=bt:=b7.symm;rw[e0]at R;exact R _ _ .ba [] rfl (by omega) (P.cB.dp) (fS (fZ p)) (fS (fZ j)) (gn ec) (.inl ⟨rfl,rfl⟩) rfl ⟨λi t x _ h=>by simp at h,λx h=>by cases h⟩;rw[dJ H]at pr;have e0:(aA ((0:Nat):Int):ao)=bt:=b7.symm;by_cases hi:hd=i5;subst hi;rw[dJ rfl]at S;obtain⟨a,c,d,rfl⟩:=aqO (l:=l) J;have K:=λ(h:aO) (g:eI b aC q s w n h) (p:h.am (b+4)= .box (fK (bN b aC) b 4 44) (eG i5 [a,c,d])) (j:h.am (b+6)= .box (fK ((bN b aC).cB b 4 44 (eG i5 [a,c,d])) b 6 42) dD)=>aor a4 bH.tR Z hv g p j L;generalize eG i5 [a,c,d]=t at*;rw[ua,b3,cF,bn,aH,av,aL,b8,cd,bA,bc,xn,e4,cd,bA,bc,zy,i3,bn,aH,av ho,aL,b8,cz,bA,bc,F3,i3,bn,aH,av ho,aL,b8,g5,a2,F2,i3,aH,a1,i3,aH,aS,G,av B,aL,aH,aS,bO,aP,av,dG y,t1,F1,C,be,aP,E,a6,aq,aq,a0,ez _ _,eA _ _,e1,gX,bc,J6,bn,aH,av,aL,a3,eL,bA,bc,J5,aH,av,dG y,t1,bE,a6,aq,a0,ez _ _,eA _ _,i3,aH,aS,G,av B,aL,J4,aH,aS,bO,aP,av,dG y,t1,C,be,aP,E,a6,aq,aq,a0,ez _ _,eA _ _,hL,J3,bO,aP,eS,e1,gX,gB,F0,cl,ch,bc,FZ,av,aU,a6,aq,a0,bw];exact K _ (P.cB.dp) (fS (fZ p)) (fS (fZ j));have hp:hd∈lW:=(aol hd I).elim (λh=>absurd h hi) λh=>h.elim id λh=>absurd h H;rw[gy hi]at S;have R:=λ(pf:Nat)=>UA (b:=b) (aC:=aC) (q:=q) (s:=s) (s4:=fK (bN b aC) b 4 44) (s6:=fK ((bN b aC).cB b 4 44 (eG hd l)) b 6 42) (pf:=pf) (z:=dD) (F:=F) (pr:=true) (hd:=hd) Y a4 Z hv L (λh ca xs g p j X O Q V=>by
  haveI:=g.aK
  rw[zz,bw];exact auk bH.tR hp L g p j O Q J V) l.length 0 1000000
 rw[e0]at R;generalize eG hd l=t at*;rw[ua,b3,cF,bn,aH,av,aL,b8,cd,bA,bc,xn,e4,cd,bA,bc,zy,i3,bn,aH,av ho,aL,b8,cz,bA,bc,F3,i3,bn,aH,av ho,aL,b8,g5,a2,F2,i3,aH,a1,i3,aH,aS,G,av B,aL,aH,aS,bO,aP,av,dG y,t1,F1,C,be,aP,E,a6,aq,aq,a0,ez _ _,eA _ _,e1,gX,bc,J6,bn,aH,av,aL,a3,eL,bA,bc,J5,aH,av,dG y,t1,bE,a6,aq,a0,ez _ _,eA _ _,i3,aH,aS,G,av B,aL,J4,aH,aS,bO,aP,av,dG y,t1,C,be,aP,E,a6,aq,aq,a0,ez _ _,eA _ _,hL,J3,bO,aP,eS,e1,gX,gB,F0,cl,ch,bc,FZ,av,aU,a6,aq,a0,bc,P3];exact R _ _ .ba [] rfl (by omega) (P.cB.dp) (fS (fZ p)) (fS (fZ j)) (gn ec) (.inl ⟨rfl,rfl⟩) rfl ⟨λi t x _ h=>by simp at h,λx h=>by cases h⟩
end
section
variable{t:az}{e:List (dc×az)}{v:ao}
section
variable[Tok] {u:Fn}{b:Nat}{D:eZ->List dc->az->Prop}{M N:Nat}{w:ao}
theorem aoo:(hT.all λh=>Nat.ble h.2.2.2.2 3)=true:=by decide+kernel
theorem amB(r:Nat)(bH:∀n,r<=n->wN D M (bR bX n) w):∀(k n N d:Nat) (t:az),r+k<=n->N*(M+2)+d<k->N<=10000->n5 d t->qC D (bR bX n) w N t:=by
 intro k;induction k with
 |zero=>intro n N d t _ h;omega
 |succ k x=>
  intro n N d t H I E a;obtain⟨n,rfl⟩:∃m,n=m+1:=⟨n-1,by omega⟩;have y:=bH n (by omega);intro e v z A;refine qN pT λc _ _ _ _ _ g i j p=>?_;cases a with
  |var _ s=>exact akk y z A s c g i j p
  |gT _ o F=>exact akj F c g i j p
  |g3 d h B l G a=>
   have J:=dX (gp aoo B);have C:∀N',N'<N->N'*(M+2)+(M+2)<=N*(M+2):=λN' h=>by have:=jP (M+2) (show N'+1<=N by omega);rw[iT]at this;omega
   exact aki y B G (by omega) (λt h=>⟨(a t h).v,λN' q=>x n N' d t (by omega) (by have:=C N' q;omega) (by omega) (a t h)⟩) (λt h N' q=>x n N' M t (by omega) (by have:=C N' q;omega) (by omega) h) z A c g i j E p
theorem amH(bH:bV λu=>wN D M u w):bV λu=>∀d t,d<=50->n5 d t->qC D u w 2000 t:=by obtain⟨a,bH⟩:=bH;exact⟨a+(2000*(M+2)+51),λn c d t hd g=>amB a bH (2000*(M+2)+51) n 2000 d t c (by omega) (by omega) g⟩
theorem Lk{f d s z:Nat}{BX:ao}{args:az}{R:ao->Prop}{h:aO}[ub:cp h 0][b5:dS h](ho:h.am (0+d)= .box s [BX,aA z])(g:z<=N)(hd:d<2048)(i:ly BX)(C:gG u f args BX N R):∃r h',R r/\cp h' 0/\dS h'/\(∀k,k≠0+d->h'.am k=h.am k)/\(∃a,a<=N/\h'.am (0+d)= .box s [BX,aA (a:Nat)])/\∀k:dv,dC u 0 f (.aQ (0+d) s 0::args) [] h k=k r h':=by
 obtain⟨q,bj,dd⟩:=h;have j:0+4096<=q:=ub.eq;obtain rfl:dd=[]:=b5.eq;obtain⟨r,c,d',a,l,n,o,p,x,F⟩:= @C i q bj (0+d) s z (by omega) (by omega) g ho;refine⟨r,.mk q c [],n,⟨j⟩,⟨rfl⟩,x,⟨a,o,p⟩,λk=>?_⟩;have y:dC u 0 f (.aQ (0+d) s 0::args) [] (.mk q bj []) k=js 0 q [] k (u f (.aQ (0+d) s 0::args) q bj):=rfl;rw[y,l];have A:js 0 q [] k (.ok r q c d')=bB (Nat.ble q q) (k r (.mk q c (aZ (fA 0 d') []))) .aF:=rfl;have B:∀d:List Nat,fA 0 d=[]:=λd=>by
  induction d with
  |nil=>rfl
  |cons k d E=>exact E
 rw[A,eT,dJ (dn q),da,B];rfl
def Nq(D:eZ->List dc->az->Prop)(e:List (dc×az))(t:az)(r:ao):Prop:=∃o n k,r= .bD [.agg o,aA n,aA k]/\(o.length=7/\cg o=true)/\(-100<k/\k<100)/\((k=0/\dL o/\eD D e t o)\/(k≠0/\o=dD))
theorem alg(j:fR t)(C:qC D u w 2000 t)(c:∃n l,w= .aN n l)(p:oC e)(g:cE 9 v (e.map gi)):∃r,Nq D e t r/\∃s d,FB u [w,.agg t,v,aA 2000] 0 .nil= .ok r 0 s d:=by
 obtain⟨tl,O⟩:=j;obtain⟨P,Q⟩:=mv;have q:=cE.fh g;have x:ly w:=λb=>by obtain⟨n,l,rfl⟩:=c;rfl
 have y:∀f:az->ay,eu 0 1 w [.ba,bt] f=f [w,bt]:=λf=>by obtain⟨n,l,rfl⟩:=c;rfl
 have z:∀f:az->ay,eu 1 1 (aA 2000) [w,bt] f=f [w,aA ((2000:Nat):Int)]:=λf=>apX Dv.cells (by simp) f;have f1:([w,aA ((2000:Nat):Int)]:az)[0+1]? =some (aA 2000):=rfl;have A:max (2000:Int) 0=2000:=by omega
 rw[FB,Ek];rw[Xl,b3,cF,b7,Ln,A,Xk,y,z,iZ,b3,i3,bn,aH,av,aL f1,av,aU,q,aq];obtain⟨r,h',B,S,T,E,⟨a,V,F⟩,G⟩:=Lk (u:=u) (f:=97) (N:=2000) (h:=(((bN 0 .nil).cB 0 5 44 t).cB 0 8 42 dD).cB 0 19 154 [w,aA ((2000:Nat):Int)]) (args:=[.agg t,v]) (R:=ry D e t) (d:=19) ec (dn _) (by decide) x (C e v p g);have W:h'.am (0+8)= .box (fK ((bN 0 .nil).cB 0 5 44 t) 0 8 42) dD:=(E (0+8) (by decide)).trans (fZ ec);obtain⟨o,k,rfl,ho,H,I⟩:=B;have X:=wS o;obtain⟨J,K⟩:=ho;have L:([w,aA a]:az)[0+1]? =some (aA a):=rfl;rw[G];by_cases i:k=0;refine⟨.bD [.agg o,aA (2000-a),aA 0],⟨o,_,0,rfl,⟨J,K⟩,by omega,.inl ⟨rfl,(I.elim id λh=>absurd i h).2⟩⟩,?_⟩;rw[ez _ _,O9,eA _ _,cF,cM,b7,eL,bA,bc,Xj,aS,bO,aP,av,aU,i3,aH,aS,bO,aP,av (fS (fZ F)),aL L,g5,bO,aP,eS,Mm,eU,aU,a6,ei,b7,ei,aq,aq,aq];exact b6;refine⟨.bD [.agg dD,aA 0,aA k],⟨dD,_,k,rfl,mv,H,.inr ⟨i,rfl⟩⟩,?_⟩;rw[ez _ _,O9,eA _ _,cF,cM,b7,eL,bM,bw,iZ,cM,Mm,eU,aU,a6,ei,ei,aq,aq,aq];exact b6
def IT(D:eZ->List dc->az->Prop)(e:List (dc×az))(t:az)(r:ao):Prop:=∃x a,r= .bD [.U x,.U a]/\(a=true->∃o,dL o/\eD D e t o/\(x=true↔o≠e5))
theorem akG(j:fR t)(p:∃n l,w= .aN n l)(q:cE 9 v (e.map gi)){r:ao}(y:Nq D e t r)(H:bf u 39 [w,.agg t,v,aA 2000] r)(G:bf u 41 [] (.agg e5))(z:∀o,dL o\/o=dD->∃x,bf u 40 [.agg o,.agg e5] (.U x)/\(dL o->(x=true↔o=e5))):∃r,IT D e t r/\∃s d,Et u [w,.agg t,v] 0 .nil= .ok r 0 s d:=by
 obtain⟨o,n,k,rfl,ho,a,g⟩:=y;obtain⟨tl,I⟩:=j;obtain⟨J,K⟩:=ho;have A:=cE.fh q;have B:∀(ob:dE) (f:gI),bi ob w f=f w []:=λob f=>by obtain⟨n,l,rfl⟩:=p;exact i2 ob _ _ f
 obtain⟨x,L,C⟩:=z o (g.elim (λh=> .inl h.2.1) λh=> .inr h.2);have c:=wS o;obtain⟨E,np⟩:=(pZ false).v;obtain⟨O,P⟩:=mv;have LG:(LG:ao)=aA 2000:=by rw[db];rfl
 have Q:e5.length=7:=E;have R:cg e5=true:=np;refine⟨.bD [.U (!x),.U (decide (k=0))],⟨_,_,rfl,λa=>?_⟩,?_⟩;have a:=qv a;rcases g with⟨_,i,F⟩|⟨h,_⟩;exact⟨o,i,F,by have:=C i;cases x<;>simp_all⟩;exact absurd a h;rw[Et,iY];rw[UX,b3,av,aU,B,a6,A,LG,aq,aq,aq,a0,uw _ _ _ c,ux _ _ _ c,uy _ _ _ c,cF,UW,cM,aS,bO,aP,av,aU,a0,be,be,aP,a6,a6,aq,aq,a0,e1,b7,cd,adl,dh,dh,aq,aq];exact b6
end
end
section
variable[Tok] {u:Fn}{b:Nat}{D:eZ->List dc->az->Prop}{M N:Nat}{w:ao}
end
end Go.Hf

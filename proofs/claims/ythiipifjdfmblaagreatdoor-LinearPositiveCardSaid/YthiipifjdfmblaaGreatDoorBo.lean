import Derived.Test.YthiipifjdfmblaaGreatDoorBi
import Derived.Test.YthiipifjdfmblaaGreatDoorBm
import Derived.Test.YthiipifjdfmblaaGreatDoorBn
import Derived.Test.YthiipifjdfmblaaGreatDoorBj
import Derived.Test.YthiipifjdfmblaaGreatDoorBk
import Derived.Test.YthiipifjdfmblaaGreatDoorBs
import Derived.Test.YthiipifjdfmblaaGreatDoorBl
set_option linter.all false
set_option maxRecDepth 100000
namespace Go.Hf
open Go.RowKit
section
variable{h:lT} {w:an}
section
variable[Tok]
theorem aBV(n:Nat):(pv.all λh=>dy (bB bD (n+30) 145 [.agg (jF (sV h))] 0 .nil) (.a0 [bif rO.any (λg=>uT g h) then ao 0 else ao h.2.2.2.2,.a9 (!rO.any λg=>uT g h)]))=true:=by kernel_rfl
theorem aEH(n:Nat)(l:aY):((vx++rO).all λh=>dy (bB bD (n+9) 85 [.agg (cO h l),.s 2 0x6966,ao 3] 0 .nil) (.a9 false))=true:=by kernel_rfl
theorem aFo(n:Nat)(a c d:aB):dy (bB bD (n+9) 85 [.agg (cO qi [a,c,d]),.s 2 0x6966,ao 3] 0 .nil) (.a9 true)=true:=by kernel_rfl
theorem aE7{g:lT}(b:g∈pv)(c:h∈pv)(E:uT g h=true):g=h:=by have a:=cB (cB adl b) c;rw[E] at a;have d:=dp (show Nat.beq g.2.2.2.2 h.2.2.2.2=true from a);simp only[uT,Hi] at E;exact Prod.ext (dp E.1) (Prod.ext (dp E.2.1) (Prod.ext (dp E.2.2.1) (Prod.ext (dp E.2.2.2) d)))
theorem Y9{l:List lT}(c:∀h∈l,h∈pv)(d:h∈pv):(l.any λg=>uT g h)=decide (h∈l):=by
 by_cases a:h∈l
 ·rw[pl a];exact pL.2 ⟨h,a,Na h⟩
 ·rw[GG a];cases e:l.any λg=>uT g h with
  |false=>rfl
  |true=>obtain⟨g,b,i⟩:=pL.1 e;exact absurd (aE7 (c g b) d i▸b) a
theorem ajl:∀h∈rO,h∈pv:=λh=>Ff
theorem Vt:∀h∈wM,h∈pv:=λh a=>Ff (RP h a)
def F2(w:an)(h:lT)(a:List ij)(b:aB):Prop:=Fw (tG (tk 60 w h))=a.map jF/\Be (tG (tk 60 w h))=b
theorem X1:∀{l m:List ij},l.map jF=m.map jF->l=m
 |[],[],_=>rfl
 |[],_::_,h=>by simp at h
 |_::_,[],h=>by simp at h
 |a::l,c::m,h=>by simp only[mG,kP] at h;have b:=h.1;unfold jF at b;simp only[kP,an.s.injEq,and_true] at b;rw[X1 h.2,Prod.ext b.1.1 (Prod.ext b.1.2 (Prod.ext b.2.1 b.2.2))]
structure af8 (u:Fn) (w:an) (h:lT):Prop where
 vr:aK u 153 [w,.agg (jF (sV h))] (.a0 [ao h.2.2.2.2,.a9 true])
 fn:∃F e,aK u 94 [w,.agg (jF (sV h))] (.a0 [.agg F,.a9 e])/\F.length=37/\b8 F=true/\(∃k:Int,-100<k/\k<100/\F[0+3]? =some (ao k))/\(h∈rO->∃ps bd,XN F ps bd/\F2 w h ps bd/\mv 40 bd/\ps.length=h.2.2.2.2)
theorem abr{l:aB}{i:Nat}{x:an}{m:aB}(h:(l.drop i).take (m.length+1)=x::m):l[i]? =some x:=by have:=oT (λl=>l[0]?) h;simpa[eS] using this
theorem Yd{n:Nat}(a:h∈pv)(H:cS (dy (bB bD (n+60) 153 [w,.agg (jF (sV h))] 0 .nil) (.a0 [ao h.2.2.2.2,.a9 true])) (CH h (tk 60 w h) (tk (n+60) w h))=true):af8 (bB bD (n+60)) w h/\(h∈wM->wI (Be (tG (tk 60 w h))))/\(h=Bz->R7 (tG (tk 60 w h))=true):=by
 obtain⟨q,o⟩:=sW H;simp only[CH,Hi,Y9 ajl a,Y9 Vt a] at o;obtain⟨f1,f2,f3,f4,f5⟩:=o;obtain⟨e,s,d,r⟩:=atW f1;have t:∃k:Int,-100<k/\k<100/\(tG (tk (n+60) w h))[0+3]? =some (ao k):=by
  obtain⟨k,u,e⟩:=pL.1 f4;have e:=abr (m:=[]) (D9 e).symm;have:k=ao 0\/k=ao 1\/k=ao 2\/k=ao 3:=by simpa using u
  rcases this with rfl|rfl|rfl|rfl<;>exact⟨_,by omega,by omega,e⟩
 have g:h∈rO->_:=λc=>by rw[pl c] at f5;simp only[tF,qq,Hi] at f5;exact f5
 refine⟨⟨eN q,tG (tk (n+60) w h),e,⟨s,d,r⟩,dp f2,f3,t,λc=>?_⟩,λhd=>?_,λi=>?_⟩
 ·obtain⟨dB,cT,n2,acr,mw,l4,gH,ayp⟩:=g c;have p:=(D9 cT);have j:=(aks acr);have x:=abr (m:=[ao 1]) p;have y:(tG (tk (n+60) w h))[0+3]? =some (ao 1):=by have:=oT (λl=>l[1]?) p;simpa[eS] using this
  refine⟨Og (Fw (tG (tk 60 w h))),Be (tG (tk 60 w h)),⟨⟨_,x,.inr (by rw[j])⟩,y,(D9 n2).symm⟩,⟨j.symm,rfl⟩,(Wk (λh a=>a) l4).1,?_⟩;have:=oT List.length j;rw[ER] at this;rw[this];exact dp mw
 ·obtain⟨dB,cT,n2,acr,mw,l4,gH,ayp⟩:=g (RP h hd);rw[pl hd] at gH;exact(Wk (λh a=>aci a) gH).2 λ_ h=>h
 ·obtain⟨dB,cT,n2,acr,mw,l4,gH,ayp⟩:=g (i▸(by decide:Bz∈rO));rw[i,Na] at ayp;rw[i];exact ayp
theorem azm{F:aB}(h:R7 F=true):∃s:ij,Fw F=[s].map jF/\Be F=cO qi [yb (.s s.1 s.2.1) (.s s.2.2.1 s.2.2.2),cW (nb false),cW (nb true)]:=by
 unfold R7 at h;split at h
 ·rename_i a b c d e;exact⟨(a,b,c,d),e,(D9 h).symm⟩
 ·cases h
theorem arW(H:∀h∈pv,cS (dy (bB bD (0+60) 153 [w,.agg (jF (sV h))] 0 .nil) (.a0 [ao h.2.2.2.2,.a9 true])) (CH h (tk 60 w h) (tk (0+60) w h))=true):x0 (F2 w) where
 fn:=λh d e k l a g=>⟨X1 (a.1.symm.trans g.1),a.2.symm.trans g.2⟩
 adQ:=λh c d e a=>by rw[<-a.2];exact(Yd (Vt h c) (H h (Vt h c))).2.1 c
 ax:=λd e a=>by have i:Bz∈pv:=Ff (by decide);obtain⟨s,j,s2⟩:=azm ((Yd i (H _ i)).2.2 rfl);exact⟨s,X1 (a.1.symm.trans j),a.2.symm.trans s2⟩
theorem ap5(y:∃n l,w= .aQ n l)(H:∀n,∀h∈pv,cS (dy (bB bD (n+60) 153 [w,.agg (jF (sV h))] 0 .nil) (.a0 [ao h.2.2.2.2,.a9 true])) (CH h (tk 60 w h) (tk (n+60) w h))=true):bl λu=>CJ (F2 w) 40 u w:=by
 have z:bl λu=>∀h∈pv,af8 u w h:=bl.kQ 60 λn h e=>(Yd e (H n h e)).1;have A:bl λu=>∀h∈pv,∃k:Int,aK u 145 [.agg (jF (sV h))] (.a0 [ao k,.a9 (decide (h∉rO))]):=bl.kQ 30 λn h e=>by
  have:=eN (cB (aBV n) e);rw[Y9 ajl e] at this;by_cases i:h∈rO
  ·rw[pl i] at this;rw[GG (λh=>h i)];exact⟨_,this⟩
  ·rw[GG i] at this;rw[pl i];exact⟨_,this⟩
 have B:bl λu=>∀h∈pv,∀l:aY,l.length=h.2.2.2.2->aK u 85 [.agg (cO h l),.s 2 0x6966,ao 3] (.a9 (decide (h=qi))):=bl.kQ 9 λn h e l C=>by
  rcases pG.1 e with rfl|e
  ·match l,C with
   |[a,c,d],_=>rw[pl rfl];exact eN (aFo n a c d)
  ·have D:h≠qi:=(Ic.1 e).elim (λh=>(En h).1) Te;rw[GG D];exact eN (cB (aEH n l) e)
 have F:bl λu=>∀(t:ij) v E,dw 9 v (E.map l2)->vn E->aK u 189 [v,.agg (jF t)] (ZE (tY t E)):=bl.jr.up λn _ t v E p q=>cI (aM 189 GS n) (aF2 p q);have G:bl λu=>∀v x (j:List ij) (xs:aY),dw 2 v (j.map jF)->dw 7 x xs->j.length=xs.length->(∀o∈xs,fU o)->xs.length<=10->∃w,dw 9 w ((rA j xs).map Go.Hf.l2)/\aK u 192 [v,x] w:=bl.jr.up λn _ v x j xs p q I J K=>by obtain⟨w,L,M⟩:=aEN (u:=bB bD n) p q I J K;exact⟨w,L,cI (aM 192 F1 n) M⟩
 exact(((z.and A).and (B.and aqU)).and (F.and G)).imp λn h=>⟨y,λg r=>(h.1.1.1 g r).vr,h.1.1.2,λg r=>(h.1.1.1 g r).fn,h.1.2.1,h.1.2.2,h.2.1,h.2.2⟩
end
end
section
variable[Tok]
theorem ars(n:Nat):(dy (bB bD (n+30) 65 [.agg (nb true),.agg tu] 0 .nil) (.a9 false)&&(dy (bB bD (n+30) 65 [.agg tu,.agg tu] 0 .nil) (.a9 true)&&dy (bB bD (n+30) 65 [.agg dx,.agg tu] 0 .nil) (.a9 false)))=true:=by kernel_rfl
theorem at6:bl λu=>∀o,fU o\/o=dx->∃x,aK u 65 [.agg o,.agg tu] (.a9 x)/\(o=nb true->x=false)/\(o=nb false->x=true):=by
 have e:bl λu=>aK u 65 [.agg (nb true),.agg tu] (.a9 false)/\aK u 65 [.agg tu,.agg tu] (.a9 true)/\aK u 65 [.agg dx,.agg tu] (.a9 false):=bl.kQ 30 λn=>by have:=ars n;simp only[Hi] at this;exact⟨eN this.1,eN this.2.1,eN this.2.2⟩
 refine(e.and VQ).imp λn h o c=>?_;have g:nb true≠nb false:=λh=>by cases aFU h
 by_cases a:o=nb true
 ·subst a;exact⟨false,h.1.1,λ_=>rfl,λh=>absurd h g⟩
 ·by_cases d:o=nb false
  ·subst d;exact⟨true,h.1.2.1,λh=>absurd h a,λ_=>rfl⟩
  ·rcases c with c|rfl
   ·obtain⟨x,i⟩:=h.2.ajw o tu c (xd false);exact⟨x,i,λh=>absurd h a,λh=>absurd h d⟩
   ·exact⟨false,h.1.2.2,λh=>absurd h a,λh=>absurd h d⟩
section
variable{D:lT->List ij->aB->Prop} {M:Nat} {w:an}
theorem adO(aR:bl λu=>CJ D M u w):bl λu=>∀d t,d<=50->mv d t->∀e v,vn e->dw 9 v (e.map l2)->∃r,Lc D e t r/\aK u 20 [w,.agg t,v] r:=by
 have j:bl λu=>∀d t,d<=50->mv d t->∀e v,vn e->dw 9 v (e.map l2)->∃r,ZV D e t r/\aK u 64 [w,.agg t,v,ao 2000] r:=((aFO aR).and aR).up λn h d t hd a e v c b=>by obtain⟨r,g,i⟩:=aEE a.v (h.1 d t hd a) h.2.bJ c b;exact⟨r,g,cI (aM 64 Jz n) i⟩
 exact((j.and aR).and (VQ.and at6)).up λn h d t hd a e v c b=>by obtain⟨r,g,i⟩:=h.1.1 d t hd a e v c b;obtain⟨k,l,o⟩:=aoA a.v h.1.2.bJ b g i h.2.1.nil h.2.2;exact⟨k,l,cI (aM 20 HB n) o⟩
theorem aDA(aR:bl λu=>CJ D M u w):bl λu=>∀cl:aY,cl.length<=100->(∀t∈cl,mv 50 t)->∀e v,vn e->dw 9 v (e.map l2)->∃x a,(x=false->a=true->∀t∈cl,∃o,iS D e t o/\o≠nb true)/\aK u 19 [w,.aQ 11 cl,v] (.a0 [.a9 x,.a9 a]):=((adO aR).and aR).up λn h cl i c e v j d=>by obtain⟨x,a,k,l⟩:=aDz h.2.bJ d i λt g=>⟨(c t g).v,h.1 50 t (by omega) (c t g) e v j d⟩;exact⟨x,a,k,cI (aM 19 J8 n) l⟩
end
section
variable{D:lT->List ij->aB->Prop} {w:an} {u:Fn}
theorem aqu(z:∃n l,w= .aQ n l){e:List (ij×aB)}{v x:an}{L:aY}(A:dw 9 v (e.map l2))(j:dw 11 x L)(O:L.length<=100)(H:∀t∈L,cq t/\(∀o,iS D e t o->o=nb true)/\∃r,Lc D e t r/\aK u 20 [w,.agg t,v] r):∀(m i N:Nat) (h:aI),m+i=L.length->m<N->da h->
 ∃s d,du 5 8 11 12 N (Av u 0 (λl=>py 0 dh l)) w v x (ao i) h= .ok (.a9 true) 0 s d:=by
 have k:=dw.dU A;have p:∀(ob:ej) (f:jm),aD ob w f=f w []:=λob f=>by obtain⟨n,l,rfl⟩:=z;exact mg ob _ _ f
 have g:=dw.len j;intro m;induction m with
 |zero=>intro i N h B C fc;obtain⟨N,rfl⟩:=cN N;rw[fj];generalize du 5 8 11 12 N (Av u 0 (λl=>py 0 dh l))=j4;rw[Av,g,bO,bk,a6,py,bj,gE,fO,av];exact b9
 |succ m E=>
  intro i N h B C fc;obtain⟨N,rfl⟩:=cN N;obtain⟨a,q⟩:∃a,L[i]? =some a:=⟨_,dC (by omega)⟩;obtain⟨⟨P,uJ⟩,F,r,⟨Q,G,rfl,I⟩,R⟩:=H a (On q);have c:=E (i+1) N h (by omega) (by omega) fc;have J:((i+1:Nat):Int)=(i:Int)+1:=by omega
  rw[J] at c;have S:=λx:Bool=>(by simp:(an.a9 x:an)≠ .undef);rw[fj];rcases j with⟨rfl,rfl⟩|rfl
  ·simp at q
  generalize du 5 8 11 12 N (Av u 0 (λl=>py 0 dh l))=j4 at c;cases G
  ·rw[Av,g,bO,bN,bL,VL,eE,ch,be,WH,p,bm,k,av,av,av,aT,e2 _ _,e3 _ _,iE,Sr,fQ,dO,a6,bK,cK];exact c
  ·obtain⟨o,K,y,-⟩:=I rfl;obtain rfl:=y (F o K);clear y;rw[Av,g,bO,bN,bL,VL,eE,ch,be,WH,p,bm,k,av,av,av,aT,e2 _ _,e3 _ _,fi,hj,tF,Sr,fQ,dR,a6,bK,cK];exact c
end
end
section
variable[Tok]
def Z5(w:an):Prop:=(∃n l,w= .aQ n l)/\aK (bB EQ 300) 8 [.V .u32 18446744073709551616] w/\∀n,∀h∈pv,cS (dy (bB bD (n+60) 153 [w,.agg (jF (sV h))] 0 .nil) (.a0 [ao h.2.2.2.2,.a9 true])) (CH h (tk 60 w h) (tk (n+60) w h))=true
noncomputable def qJ(L a:Nat):Fn:=λf=>if f=7 then bB bD 300 f else if f=8 then bB EQ 300 f else if f=9 then bB bD L f else if f=18 then bB bD L f else bB bD a f
def vP(x:an)(N:Nat):Prop:=(x= .aE/\N=0)\/∃l,x= .aQ 1 l/\l.length=N/\∀r∈l,∃c:Nat,c<256/\r=[.V .u8 (18446744073709551616+c)]
theorem vP.dU{x:an}{N:Nat}(h:vP x N)(ob:ej)(f:jm):aD ob x f=f x []:=by rcases h with⟨rfl,_⟩|⟨l,rfl,_⟩<;>rfl
theorem vP.len{x:an}{N:Nat}(h:vP x N)(k:an->aw):bq false x k=k (ao N):=by
 rcases h with⟨rfl,rfl⟩|⟨l,rfl,a,_⟩
 ·exact hy k
 ·rw[<-a];exact eA _ _ k
theorem vP.part{x:an}{N:Nat}(h:vP x N)(f:aB->aw):cC 0 1 x [.aE,aL] f=f [x,ao (0:Nat)]:=by rw[bF];rcases h with⟨rfl,_⟩|⟨l,rfl,_⟩<;>rfl
section
variable{u:Fn} {x y w:an} {N N':Nat}
theorem Qz:(n40:an)=ao 40:=by rw[cX];rfl
theorem Ws:(jf:an)=ao (4:Nat):=p7
theorem aqa(a:vP x N)(e:60<N)(g:aK u 7 [] (.a9 true)):∃s d,yG u [x,y] 0 .nil= .ok (.a9 true) 0 s d:=by have c:=a.len;rw[yG,dE,JS,aT,hj,tF,a6,Gl,c,Bp,hH,bN,lL,FQ,gE,dR,bL,py,bj,fO,av];exact b9
theorem arq(a:vP x N)(h:N<=60)(c:vP y N')(i:40<N')(j:aK u 7 [] (.a9 true)):∃s d,yG u [x,y] 0 .nil= .ok (.a9 true) 0 s d:=by have e:=a.len;have g:=c.len;rw[yG,dE,JS,aT,hj,tF,a6,Gl,e,Bp,Qz,hH,bk,fZ,g,hH,FQ,gE,dO,bN,bL,py,bj,fO,av];exact b9
theorem aEa(A:vP x N)(G:N<=60)(B:vP y N')(H:N'<=40)(C:∃n l,w= .aQ n l){c g:aI}{cl:aY}{r v:an}{h j:Bool}[b4 c 0][da c][b4 g 0][da g]{e:List (ij×aB)}(D:dw 9 r (e.map l2)){L:aY}(E:dw 11 v L)
 (I:aK u 7 [] (.a9 true))(J:aK u 8 [.V .u32 18446744073709551616] w)(Il:aK u 16 [.aQ 11 cl] v)(K:aK u 19 [w,.aQ 11 cl,r] (.a0 [.a9 h,.a9 j]))
 (dB:∀k:dg,fD u 0 9 [.bn (0+28) (qk (ba 0 .nil) 0 28 29) 0,w,ao (4:Nat)] [] ((ba 0 .nil).fz 0 28 29 [x,ao (0:Nat)]) k=k (.aQ 11 cl) c)
 (cT:∀k:dg,fD u 0 18 [.bn (0+34) (qk c 0 34 29) 0] [] (c.fz 0 34 29 [y,ao (0:Nat)]) k=k r g)
 (F:h=false->j=true->∃s d,du 5 8 11 12 1000000 (Av u 0 (λl=>py 0 dh l)) w r v (ao (0:Nat)) g= .ok (.a9 true) 0 s d):∃s d,yG u [x,y] 0 .nil= .ok (.a9 true) 0 s d:=by
 have o:=A.len;have p:=B.len;have q:=A.part;have t:=B.part;have a:∀(ob:ej) (f:jm),aD ob w f=f w []:=λob f=>by obtain⟨n,l,rfl⟩:=C;exact mg ob _ _ f
 have z:=dw.dU D;have M:=dw.dU E;have O:=λx:Bool=>(by simp:(an.a9 x:an)≠ .undef);cases h
 ·cases j
  ·rw[yG,dE,JS,aT,hj,tF,a6,Gl,o,Bp,Qz,hH,bk,fZ,p,hH,FQ,gE,dO,bk,a6,Mm,aT,q,hL,cy,a,av,Ws,dB,t,hL,cy,cT,R4,a,mg,z,av,av,av,aT,e2 _ _,e3 _ _,fZ,hj,uD,MN,gE,dO,bL,py,bj,fO,av];exact b9
  ·rw[yG,dE,JS,aT,hj,tF,a6,Gl,o,Bp,Qz,hH,bk,fZ,p,hH,FQ,gE,dO,bk,a6,Mm,aT,q,hL,cy,a,av,Ws,dB,t,hL,cy,cT,R4,a,mg,z,av,av,av,aT,e2 _ _,e3 _ _,fZ,hj,tF,MN,gE,dO,a6,Xo,bg,mg,av,aT];rw[show(aL:an)=ao (0:Nat) from bF];exact F rfl rfl
 ·rw[yG,dE,JS,aT,hj,tF,a6,Gl,o,Bp,Qz,hH,bk,fZ,p,hH,FQ,gE,dO,bk,a6,Mm,aT,q,hL,cy,a,av,Ws,dB,t,hL,cy,cT,R4,a,mg,z,av,av,av,aT,e2 _ _,e3 _ _,lL,MN,gE,dR,bL,py,bj,fO,av];exact b9
end
theorem ou(O:∃w,Z5 w){x y:an}{N N':Nat}(g:vP x N)(q:vP y N'):∃L c,∃s d,yG (qJ L c) [x,y] 0 .nil= .ok (.a9 true) 0 s d:=by
 obtain⟨w,k,P,H⟩:=O;have aR:=ap5 k H;have A:=arW (H 0);have Q:bl λu=>Lv u w:=aR.imp λn h=>⟨λhd S=>h.vr hd (aik hd S),k⟩;obtain⟨L,B⟩:=(ahv Q).and awB;have z:∀c,aK (qJ L c) 7 [] (.a9 true):=λc=>eN (a:=bB bD 300 7 [] 0 .nil) aAM;have T:∀c,aK (qJ L c) 8 [.V .u32 18446744073709551616] w:=λc=>P;by_cases X:60<N
 ·exact⟨L,0,aqa g X (z 0)⟩
 ·by_cases Z:40<N'
  ·exact⟨L,0,arq g (by omega) q Z (z 0)⟩
  ·have C:oi x N:=⟨by omega,g⟩;have E:oi y N':=⟨by omega,q⟩;obtain⟨r,h1,⟨cl,rfl,ar,F⟩,cp,cs,eR,⟨c0,c1,c2⟩,dB⟩:=Wd (u:=qJ L 0) (N:=N) (h:=(ba 0 .nil).fz 0 28 29 [x,ao (0:Nat)]) (d:=28) fE (by omega) (by omega) C.aa (show gN (qJ L 0) 9 [w,ao (4:Nat)] x N Dh from(B L (sm _)).1 4 (by omega) x N C);obtain⟨r,G,⟨e,I,p⟩,c3,a1,c4,⟨c5,dd,dq⟩,cT⟩:=Wd (u:=qJ L 0) (N:=N') (h:=h1.fz 0 34 29 [y,ao (0:Nat)]) (d:=34) fE (by omega) (by omega) E.aa (show gN (qJ L 0) 18 [] y N' Uq from(B L (sm _)).2 y N' E);obtain⟨c,hp⟩:=(aoH F ar).and ((aDA aR).and (adO aR));obtain⟨⟨v,R,J,K,Il⟩,a2,a3⟩:=hp c (sm _);obtain⟨a4,ok,a5,bd⟩:=a2 cl (by omega) (λt j=>(F t j).KH.le (by omega)) e r I p;have bs:a4=false->ok=true->∃s d,du 5 8 11 12 1000000 (Av (qJ L c) 0 (λl=>py 0 dh l)) w r v (ao (0:Nat)) G= .ok (.a9 true) 0 s d:=λs1 s2=>by
    have hl:=a5 s1 s2;have hr:∀x∈R,jp x.aq/\(x.aM=false->0<=iV (ln (F2 w) e) x.aq)/\(x.aM=true->0<iV (ln (F2 w) e) x.aq):=λx g=>by obtain⟨⟨_,r1⟩,t,j,pr⟩:=K x g;obtain⟨o,bx,hn⟩:=hl t j;obtain⟨cc,cn⟩:=aFA A pr bx hn;exact⟨r1,λh=>cc (by rw[h];rfl),λh=>cn (by rw[h];rfl)⟩
    refine aqu (D:=F2 w) k p J (by rw[jl];omega) (λt j=>?_) _ 0 1000000 G (gU _) (by rw[jl];omega) a1;have j:=qc j;have M:=amh R (λx g=>(K x g).1.2) t j;exact⟨M.v,aaT A R hr t j,a3 42 t (by omega) M e r I p⟩
   exact⟨L,c,aEa g (by omega) q (by omega) k p J (z c) (T c) Il bd dB cT bs⟩
end
section
variable[Tok]
theorem K2{α:Type}{p:α->Bool}{l:List α}{i:Nat}(h:((l.drop i).take 7).all p=true)(g:∀x∈l.drop (i+7),p x=true):∀x∈l.drop i,p x=true:=λx a=>by rw[<-Bx 7 (l.drop i),List.drop_drop] at a;exact(Ic.1 a).elim (cB h) (g x)
theorem ata:∃w,Z5 w:=by
 unfold Z5 aK;have c:=aAj;have j:=ayR;have k:=azY;have l:=aDG;have o:=awC;cases e:bB EQ 300 8 [.V .u32 18446744073709551616] 0 .nil with
 |ax=>have:=c 0;rw[e] at this;cases this
 |ok w ub s d=>
  rw[e] at c j k l o;have a:∀i n,IX i 7 n (.ok w ub s d)=true->Nat.beq ub 0=true/\Wp w=true/\((pv.drop i).take 7).all (λh=>cS (dy (bB bD (n+60) 153 [w,.agg (jF (sV h))] 0 .nil) (.a0 [ao h.2.2.2.2,.a9 true])) (CH h (tk 60 w h) (tk (n+60) w h)))=true:=λi n h=>by have h:cS (Nat.beq ub 0) (cS (Wp w) (((pv.drop i).take 7).all λh=>cS (dy (bB bD (n+60) 153 [w,.agg (jF (sV h))] 0 .nil) (.a0 [ao h.2.2.2.2,.a9 true])) (CH h (tk 60 w h) (tk (n+60) w h))))=true:=h;exact⟨(sW h).1,(sW (sW h).2).1,(sW (sW h).2).2⟩
  obtain⟨wD,p,_⟩:=a _ _ (c 0);have q:ub=0:=dp wD;subst q;refine⟨w,?_,⟨s,d,rfl⟩,λn=>?_⟩
  ·clear a c j k l o e;cases w<;>first|exact⟨_,_,rfl⟩|cases p
  ·exact K2 (i:=0) (a _ _ (c n)).2.2 (K2 (a _ _ (j n)).2.2 (K2 (a _ _ (k n)).2.2 (K2 (a _ _ (l n)).2.2 (K2 (a _ _ (o n)).2.2 λx g=>by have e:pv.drop 35=[]:=iL (by decide);have g:x∈pv.drop 35:=g;rw[e] at g;cases g))))
end
section
open Go Go.Proofs
section
variable[Tok]
theorem Wm{l:aB}{a:an}{s:b1}{d:List Nat}:∀{K:List (aB×an)},fJ K l= .ok a 0 s d->(l,a)∈K
 |[],h=>by have e:aw.ax= .ok a 0 s d:=h;cases e
 |p::K,h=>by
  have e: @Bool.rec (λ_=>aw) (fJ K l) (.ok p.2 0 .nil []) (vS (.a0 p.1.reverse) (.a0 l.reverse))= .ok a 0 s d:=h;cases b:vS (.a0 p.1.reverse) (.a0 l.reverse) with
  |false=>rw[b] at e;exact .tail _ (Wm e)
  |true=>rw[b] at e;have c:=RA _ _ b;cases p;cases e;cases List.reverse_inj.1 (an.a0.inj c);exact .head _
theorem adz{f:Nat}{K:List (aB×an)}{T:lZ}(a:qf kC Tryz.prog T)(h:∀p∈K,dy (bB T 300 f p.1 0 .nil) p.2=true):i5 kC Tryz.prog f (mY K):=acA λu c args g s d e=>by obtain⟨i,d',b⟩:=eN (h _ (Wm e));exact ayQ a b
theorem acb:i5 kC Tryz.prog 69 (mY QW):=adz Ho λp a=>by obtain rfl:=List.mem_singleton.1 a;exact azu
theorem ao9:qf kC Tryz.prog Mn:=L4 acb Zr
theorem anU:wA Dw=true:=by have h:=CX anT (CX al7 (CX amD (CX ans (CX ansb (CX anP (CX alI (CX alW (CX an4 akZ))))))));rwa [dm] at h
theorem aEC{l:List (aB×an)}(h:wA l=true):∀p∈l,dy (bB Mn 300 70 p.1 0 .nil) p.2=true:=M2.1 h
theorem aqC:qf kC Tryz.prog EQ:=L4 acb (adz ao9 (aEC anU))
theorem asi(L e:Nat):mD kC Tryz.prog (qJ L e):=by
 intro f args ub atf a b c d h;unfold qJ at h;split at h
 ·exact zg Ho 300 f args ub atf a b c d h
 split at h
 ·exact zg aqC 300 f args ub atf a b c d h
 split at h
 ·exact zg Ho L f args ub atf a b c d h
 split at h
 ·exact zg Ho L f args ub atf a b c d h
 ·exact zg Ho e f args ub atf a b c d h
theorem adX{x y:an}{N N':Nat}(g:vP x N)(h:vP y N'):uP kC Tryz.prog 6 [bi x,bi y] (bi (.a9 true)):=by obtain⟨L,a,s,d,e⟩:=ou ata g h;obtain⟨c,_,i⟩:=akK (gl:=kC) (qJ L a) (asi L a) [x,y] 0 .nil (.a9 true) 0 s d e;rw[vD,vD] at c;refine⟨c,?_⟩;rw[pb];rfl
end
@[reducible] def Tw:Tok:=⟨λ_=>i0,λ_=>rfl⟩
end
end Go.Hf

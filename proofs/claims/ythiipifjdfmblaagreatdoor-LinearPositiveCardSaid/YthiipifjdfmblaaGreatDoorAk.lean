import Derived.Test.YthiipifjdfmblaaGreatDoorAj
set_option linter.all false
set_option maxRecDepth 100000
namespace Go.Hf
open Go.RowKit
section
variable{u:Fn} {b f q s e mid en B D a aM m:Nat} {ρ:jS} {es:aY} {h:aI}
section
variable[Tok]
theorem agF(i:zS u f ρ D)(c:eL b h q s e 8 es)(j:iq u f ρ es)(k:B<=es.length)(o:mid<=en)(p:en<=B)(hd:B-mid<=D)(g:fR ρ.ai es mid en)(s2:fR ρ.ai es en B):
 ∃asH h',eL b h' q s e 8 asH/\g6 q h h'/\na es asH mid B/\fR ρ.ai asH mid B/\Cy u b (.az q s 0 es.length) (ao B) (dI f) (ao mid) (ao en) h=qu b h':=by
 have r:=c.le;rw[Cy,bO (a:=(mid:Int)) (b:=(en:Int))];by_cases c1:mid<en
 ·rw[bN,fi,bO (a:=(en:Int)) (b:=(B:Int))];unfold JM;rw[dR];by_cases l:en<B
  ·rw[bN,bL];unfold YG;obtain⟨asH,r1,d,n⟩:=i (a:=mid) (m:=en) (B:=B) c.sub.1 c.ld c.sub.2 c.iJ c.le j hd c1 l k g s2;obtain⟨h',t1,t2,t3⟩:=qm (b:=b) r1;simp only[b7,lY,av,t3];exact⟨asH,h',c.nD t1 t2 (c.iJ.mW d.mW) d.len,t1,d,n,rfl⟩
  ·rw[bk,a6];have:en=B:=by omega
   subst this;exact⟨es,h,c,.refl,.refl,g,rfl⟩
 ·rw[bk,iE];unfold JM;rw[dO,show(bG:an)= .a9 false from rfl,a6];have:en=mid:=by omega
  subst this;exact⟨es,h,c,.refl,.refl,s2,rfl⟩
theorem aDE(t:zS u f ρ D)(c:eL b h q s e 8 es)(w:iq u f ρ es)(C:B<=es.length)(Z:a<=aM)(ar:aM<=mid)(E:mid<=en)(F:en<=B)(hd:B-mid<=D)(G:mid-a<=D)
 (z:fR ρ.ai es a aM)(s2:fR ρ.ai es aM mid)(s3:fR ρ.ai es mid en)(s4:fR ρ.ai es en B)(x:∀x y,a<=x->x<mid->mid<=y->y<B->ρ.ai (el es x)<=ρ.ai (el es y)):
 ∃asH h',eL b h' q s e 8 asH/\g6 q h h'/\na es asH a B/\fR ρ.ai asH a B/\Cx u b (.az q s 0 es.length) (ao a) (ao B) (dI f) (ao mid) (ao aM) (ao en) h=qu b h':=by
 have a1:=c.le;have l:∀(g:aY) (k:aI),eL b k q s e 8 g->g6 q h k->na es g a mid->fR ρ.ai g a mid->
  ∃asH h',eL b h' q s e 8 asH/\g6 q h h'/\na es asH a B/\fR ρ.ai asH a B/\Cy u b (.az q s 0 es.length) (ao B) (dI f) (ao mid) (ao en) k=qu b h':=by
  intro g k H I d J;have K:fR ρ.ai g mid en:=λi j n o p=>by rw[d.kH i (by omega),d.kH j (by omega)];exact s3 i j n o p
  have L:fR ρ.ai g en B:=λi j n o p=>by rw[d.kH i (by omega),d.kH j (by omega)];exact s4 i j n o p
  obtain⟨M,N,O,P,Q,R,A⟩:=agF t H (w.mono d.mW) (by rw[d.len];exact C) E F hd K L;obtain⟨S,T⟩:=agX ρ.ai (by omega) (by omega) x d J Q R;rw[d.len] at A;exact⟨M,N,O,I.trans P,S,T,A⟩
 rw[Cx,bO (a:=(a:Int)) (b:=(aM:Int))];by_cases c1:a<aM
 ·rw[bN,fi,bO (a:=(aM:Int)) (b:=(mid:Int))];unfold HC;rw[dR];by_cases W:aM<mid
  ·rw[bN,bL];unfold abQ;obtain⟨asH,r1,r,X⟩:=t (a:=a) (m:=aM) (B:=mid) c.sub.1 c.ld c.sub.2 c.iJ c.le w G c1 W (by omega) z s2;obtain⟨h',t1,t2,t3⟩:=qm (b:=b) r1;simp only[b7,lY,av,t3];exact l asH h' (c.nD t1 t2 (c.iJ.mW r.mW) r.len) t1 r X
  ·rw[bk,a6];have:aM=mid:=by omega
   subst this;exact l es h c .refl .refl z
 ·rw[bk,iE];unfold HC;rw[dO,show(bG:an)= .a9 false from rfl,a6];have:aM=a:=by omega
  subst this;exact l es h c .refl .refl s2
theorem aCW{n:Nat}(z:Qt u f)(C:zS u f ρ D)(d:eL b h q s e 8 es)(E:iq u f ρ es)(w:B<=es.length)(a5:a<=mid)(bd:mid<=B)(F:aM<=mid)(x:mid<=n-aM)(hn:n=mid+m)
 (c:KF ρ.ai es a m B mid aM (n-aM))(hd:B-mid<=D)(G:mid-a<=D)(H:fR ρ.ai es a m)(I:fR ρ.ai es m B):
 ∃asH h',eL b h' q s e 8 asH/\g6 q h h'/\na es asH a B/\fR ρ.ai asH a B/\Ha u b (.az q s 0 es.length) (ao a) (ao m) (ao B) (dI f) (ao mid) (ao n) (ao aM) h=qu b h':=by
 have bs:=d.le;generalize bx:n-aM=en at c x;have J:=c;obtain⟨K,h2,h3,L,h5,k1,k2⟩:=c;have p:∀(l:aY) (o:aI),eL b o q s e 8 l->g6 q h o->l.Perm es->(∀k,el l k=if aM<=k/\k<mid then el es (k+(m-aM)) else if mid<=k/\k<en then el es (k-(en-m)) else el es k)->
  ∃asH h',eL b h' q s e 8 asH/\g6 q h h'/\na es asH a B/\fR ρ.ai asH a B/\Cx u b (.az q s 0 es.length) (ao a) (ao B) (dI f) (ao mid) (ao aM) (ao en) o=qu b h':=by
  intro l o M N g O;have r:=anI ρ.ai J w H I g O;obtain⟨P,Q,R,S,t,T,y⟩:=aDE C M (E.mono g) (by rw[g.length_eq];exact w) K F x L hd G r.cQ r.cL r.cF r.ed r.ae;rw[g.length_eq] at y;refine⟨P,Q,R,N.trans S,⟨t.mW.trans g,λi hi=>by rw[t.kH i hi,r.kH i hi],λi W X=>?_⟩,T,y⟩;obtain⟨j,Z,j2,j3⟩:=t.xy i W X;obtain⟨j',ar,a3,a4⟩:=r.xy j Z j2;exact⟨j',ar,a3,j3.trans a4⟩
 rw[Ha,e1 (a:=(n:Int)) (b:=(aM:Int)),show(n:Int)-(aM:Int)=(en:Int) by omega,bO (a:=(aM:Int)) (b:=(m:Int))];by_cases c1:aM<m
 ·rw[bN,fi,bO (a:=(m:Int)) (b:=(en:Int))];unfold HM;rw[dR];by_cases c2:m<en
  ·rw[bN,bL];unfold abl;have r1:=z (A:=aM) (m:=m) (B:=en) d.sub.1 d.ld d.sub.2 d.iJ d.le c1 c2 (by omega);obtain⟨h',t1,t2,t3⟩:=qm (b:=b) r1;simp only[b7,lY,av,t3];have g:=My m (en-aM) (m-aM) (en-m) es (by omega) (by omega);refine p _ h' (d.nD t1 t2 (d.iJ.mW g) g.length_eq) t1 g λk=>?_;rw[Mb m (en-aM) (m-aM) (en-m) es (by omega) (by omega) (by omega) (by omega) (by omega) k]
   (repeat' split)<;>first|rfl|(exfalso;omega)|(congr 1;omega)
  ·rw[bk,a6];refine p es h d .refl (Kn es) λk=>?_
   (repeat' split)<;>first|rfl|(exfalso;omega)|(congr 1;omega)
 ·rw[bk,iE];unfold HM;rw[dO,show(bG:an)= .a9 false from rfl,a6];refine p es h d .refl (Kn es) λk=>?_
  (repeat' split)<;>first|rfl|(exfalso;omega)|(congr 1;omega)
theorem auI(M:Qt u f)(N:zS u f ρ D){atf:b1}(w:q<b)(O:2048<=q%4096)(P:cE b atf q= .az s e 8 es true)(Q:Good 8 es)(R:es.length<1000000)(y:iq u f ρ es)
 (dd:B-a<=D+1)(J:a<m)(S:m<B)(C:B<=es.length)(g:fR ρ.ai es a m)(l:fR ρ.ai es m B):
 ∃asH,kA (Fv u [.az q s 0 es.length,ao a,ao m,ao B,dI f] b atf) b atf q s e 8 asH/\na es asH a B/\fR ρ.ai asH a B:=by
 have o:=eL.rF w O P Q R;rw[Fv,Ok,Vy,e1 (a:=(m:Int)) (b:=(a:Int)),bK,dj (a:=(m:Int)-(a:Int)) (b:=1)];by_cases c1:m=a+1
 ·rw[bN,bL,S5];subst c1;obtain⟨i',T,W,F,z,G⟩:=apY (u:=u) (b:=b) (f:=f) (ρ:=ρ) (λX Z ar a4=>fM 0 10 13 1000000 (Ab u b) X ar Z a4) o y J C l (B-(a+1)) 1000000 (a+1) B (by omega) (by omega) (by omega) (by omega) (by omega) (λx r t=>by omega) (λx r t=>by omega);rw[G];obtain⟨h',r1,H,I⟩:=agI (u:=u) (b:=b) (i:=i') (i'-1-a) 1000000 a es (ba b atf) o (by omega) (by omega) (by omega);have E:=ace (i'-1-a) a es (by omega);refine⟨_,by rw[I];exact oL H w r1.aj,⟨T2 _ _ _ (by omega),λi hi=>?_,λi d k=>?_⟩,λi j d k A=>?_⟩
  ·rw[E,cz,cz]
  ·rw[E];split
   ·exact⟨i+1,by omega,by omega,rfl⟩
   ·split
    ·exact⟨a,by omega,by omega,rfl⟩
    ·exact⟨i,d,k,rfl⟩
  ·rw[E,E];by_cases d1:i<i'-1
   ·rw[fS];by_cases d2:j<i'-1
    ·rw[fS];exact l (i+1) (j+1) (by omega) (by omega) (by omega)
    ·rw[cz];have l1:=F (i+1) (by omega) (by omega);by_cases d3:j=i'-1
     ·rw[fS];omega
     ·rw[cz];have dq:=z j (by omega) A;omega
   ·rw[cz,Ca (show¬(a<=j/\j<a+(i'-1-a)) by omega),Ca (show¬j=a+(i'-1-a) by omega)];by_cases d3:i=i'-1
    ·rw[fS];exact z j (by omega) A
    ·rw[cz];exact l i j (by omega) k A
 ·rw[bk,a6,XW,e1 (a:=(B:Int)) (b:=(m:Int)),bK,dj (a:=(B:Int)-(m:Int)) (b:=1)];by_cases K:B=m+1
  ·rw[bN,bL,Xc];subst K;obtain⟨i',T,W,F,z,G⟩:=am8 (u:=u) (b:=b) (f:=f) (ρ:=ρ) (λa5 bd bs bx=>fM 0 14 17 1000000 (AQ u b) a5 bs bd bx) o y (by omega) g (m-a) 1000000 a m (by omega) (by omega) (by omega) (by omega) (by omega) (λx r t=>by omega) (λx r t=>by omega);rw[G];obtain⟨h',r1,H,I⟩:=anE (u:=u) (b:=b) (i:=i') (m-i') 1000000 m es (ba b atf) o (by omega) (by omega) (by omega);have E:=Vz (m-i') m es (by omega) (by omega);refine⟨_,by rw[I];exact oL H w r1.aj,⟨acg _ _ _ (by omega) (by omega),λi hi=>?_,λi d k=>?_⟩,λi j d k A=>?_⟩
   ·rw[E,cz,cz]
   ·rw[E];split
    ·exact⟨i-1,by omega,by omega,rfl⟩
    ·split
     ·exact⟨m,by omega,by omega,rfl⟩
     ·exact⟨i,d,k,rfl⟩
   ·rw[E,E];by_cases d1:j<i'
    ·rw[cz,cz,cz,cz];exact g i j d k (by omega)
    ·by_cases d2:j=i'
     ·rw[Ca (show¬(m-(m-i')<i/\i<=m) by omega),Ca (show¬i=m-(m-i') by omega),Ca (show¬(m-(m-i')<j/\j<=m) by omega),y1 (show j=m-(m-i') by omega)];exact F i d (by omega)
     ·rw[y1 (show m-(m-i')<j/\j<=m by omega)];by_cases d3:i<i'
      ·rw[cz,cz];by_cases d4:i<j-1
       ·exact g i (j-1) d d4 (by omega)
       ·omega
      ·by_cases d4:i=i'
       ·rw[cz,fS];have:=z (j-1) (by omega) (by omega);omega
       ·rw[fS];exact g (i-1) (j-1) (by omega) (by omega) (by omega)
  ·rw[bk,a6,cK (a:=(a:Int)) (b:=(B:Int)),Sk];generalize cc:(a+B)/2=mid;rw[G6,show((a:Int)+(B:Int))/2=(mid:Int) by omega,cK (a:=(mid:Int)) (b:=(m:Int)),show(mid:Int)+(m:Int)=((mid+m:Nat):Int) by omega,hH (a:=(m:Int)) (b:=(mid:Int))];have L:∀s0 r0:Nat,((mid<m/\s0=mid+m-B/\r0=mid)\/(m<=mid/\s0=a/\r0=m))->
    ∃asH,kA (Ix u b (.az q s 0 es.length) (ao a) (ao m) (ao B) (dI f) (ao mid) (ao (mid+m:Nat)) (ao s0) (ao r0) (ba b atf)) b atf q s e 8 asH/\na es asH a B/\fR ρ.ai asH a B:=by
    intro s0 r0 hc;rw[Ix,bK,e1 (a:=((mid+m:Nat):Int)) (b:=1),show((mid+m:Nat):Int)-1=((mid+m-1:Nat):Int) by omega];obtain⟨aM,cl,cn,cp,cs,c0⟩:=aBe (u:=u) (b:=b) (f:=f) (ρ:=ρ) (Ha u b) (q:=q) (s:=s) (e:=e) (a:=a) (m:=m) (B:=B) (mid:=mid) (n:=mid+m) (p:=mid+m-1) (s0:=s0) (r0:=r0) o y C g l (λc c1 K=>by omega) (by omega) (by omega) (by omega) (by omega)
     (r0-s0) 1000000 s0 r0 (by omega) (by omega) (by omega) (by omega) (by omega) (λx r t=>by omega) (λx r t=>by omega)
    rw[c0];have c:=atA ρ.ai J S cc.symm g l hc cl cn cp cs;obtain⟨asH,h',d,tn,c4,ss,c5⟩:=aCW M N o y C (by omega) (by omega) (by omega) (by omega) rfl c (by omega) (by omega) g l;rw[c5];exact⟨asH,oL tn w d.aj,c4,ss⟩
   by_cases c3:mid<m
   ·rw[bN,bL,e1 (a:=((mid+m:Nat):Int)) (b:=(B:Int)),show((mid+m:Nat):Int)-(B:Int)=((mid+m-B:Nat):Int) by omega];exact L _ _ (.inl ⟨c3,rfl,rfl⟩)
   ·rw[bk,a6];exact L _ _ (.inr ⟨by omega,rfl,rfl⟩)
end
end
section
variable{u:Fn} {f b q s e:Nat} {ρ:jS} {es:aY} {atf:b1}
section
variable[Tok]
def OL(u:Fn)(f:Nat)(ρ:jS):Prop:=∀{b:Nat} {atf:b1} {q s e a B:Nat} {es:aY},q<b->2048<=q%4096->cE b atf q= .az s e 8 es true->Good 8 es->es.length<1000000->iq u f ρ es->a<=B->B<=es.length->
 kA (u 335 [.az q s 0 es.length,ao a,ao B,dI f] b atf) b atf q s e 8 (jx ρ.ai a (B-(a+1)) (a+1) es)
theorem JN:(ao 0:an)=ao ((0:Nat):Int):=jL rfl
theorem Bw:(ao 20:an)=ao ((20:Nat):Int):=jL rfl
theorem GI:(n20:an)=ao 20:=by rw[cX];rfl
theorem ais:fA .mul cZ (ao 20)=some (ao 40):=by rw[cX,cX];rfl
theorem aBp:fA .mul (ao 20) cZ=some (ao 40):=by rw[cX,cX];rfl
theorem tH(v:an)(k:an->aw):c8 (some v) k=k v:=jL rfl
theorem ad0(u:Fn)(a c d:an)(b:Nat)(atf:b1):xM u [a,c,d] b atf=ih 0 1 2 6 7 8 1000000 (wG u b (w9 u b)) a c d n20 aL n20 (ba b atf):=by kernel_rfl
theorem ain{α:Type}[Inhabited α](ρ:α->Nat)(a B:Nat)(es:List α)(h:B<=a+1):jx ρ a (B-(a+1)) (a+1) es=es:=by rw[show B-(a+1)=0 by omega];rfl
theorem Lm(n:OL u f ρ){a B:Nat}{h:aI}(d:eL b h q s e 8 es)(o:iq u f ρ es)(p:a<=B)(r:B<=es.length):
 ∃asH h',eL b h' q s e 8 asH/\g6 q h h'/\asH.Perm es/\(∀i,i<a\/B<=i->el asH i=el es i)/\fR ρ.ai asH a B/\∀k:dg,fD u b 335 [.az q s 0 es.length,ao a,ao B,dI f] [] h k=k (.a0 []) h':=by
 obtain⟨h',t1,t2,t3⟩:=qm (b:=b) (n (a:=a) (B:=B) d.sub.1 d.ld d.sub.2 d.iJ d.le o p r);by_cases c:a<B
 ·have g:=YP ρ.ai a (B-(a+1)) (a+1) es (by omega) (by omega);refine⟨_,h',d.nD t1 t2 (d.iJ.mW g) g.length_eq,t1,g,λi hi=>aeq ρ.ai a _ _ es (by omega) (by omega) i (by omega),?_,t3⟩;have:=VK ρ.ai a (B-(a+1)) (a+1) es (by omega) (by omega) (λi j t l w=>absurd l (by omega));rw[show a+1+(B-(a+1))=B by omega] at this;exact this
 ·have x:=ain ρ.ai a B es (by omega);rw[x] at t2;exact⟨es,h',d.nD t1 t2 d.iJ rfl,t1,Kn es,λ_ _=>rfl,λi j t l w=>absurd l (by omega),t3⟩
theorem aAw{D:Nat}(p:OL u f ρ)(F:zS u f ρ D)(Z:39<=D)(r:q<b)(G:2048<=q%4096)(H:cE b atf q= .az s e 8 es true)(I:Good 8 es)(hl:es.length<=39)(n:iq u f ρ es):
 ∃asH,kA (xM u [.az q s 0 es.length,ao es.length,dI f] b atf) b atf q s e 8 asH/\asH.Perm es/\fR ρ.ai asH 0 es.length:=by
 have y:=eL.rF r G H I (by omega);have tail:∀(d:aY) (k:aI),eL b k q s e 8 d->g6 q (ba b atf) k->d.Perm es->(es.length<=20->fR ρ.ai d 0 es.length)->(20<es.length->fR ρ.ai d 0 20/\fR ρ.ai d 20 es.length)->
  ∃asH,kA (du 0 1 2 6 1000000 (ym u b) (.az q s 0 es.length) (ao es.length) (dI f) (ao 20) k) b atf q s e 8 asH/\asH.Perm es/\fR ρ.ai asH 0 es.length:=by
  intro d k g l h J s2;have t:=h.length_eq;rw[hQ,fj];generalize w:du 0 1 2 6 999999 (ym u b)=j4;rw[ym,bO];by_cases c:20<es.length
  ·obtain⟨K,L⟩:=s2 c;rw[bN,bL,adk,ais,tH,hQ,mb];generalize ih 0 1 2 6 7 8 999999 (P8 u b (MP u b j4))=j6;rw[P8,qd (a:=40) (b:=(es.length:Int)),bk,a6];unfold MP;simp only[aJ,bZ,bp,bg,ce,bj,gB,bF,cK (a:=0) (b:=20) (by omega) (by omega) (by omega) (by omega),show(0:Int)+20=20 from rfl,bO (a:=20) (b:=(es.length:Int)) (by omega) (by omega),pl (show(20:Int)<(es.length:Int) by omega),bL];unfold Tc;obtain⟨o,r1,M,N⟩:=F (a:=0) (m:=20) (B:=es.length) g.sub.1 g.ld g.sub.2 g.iJ g.le (n.mono h) (by omega) (by omega) c (by omega) K L;rw[t] at r1;obtain⟨z,t1,t2,t3⟩:=qm (b:=b) r1;simp only[b7,lY,av,JN,Bw,t3];rw[<-Bw,aBp,tH];subst w;rw[show(999999:Nat)=999998+1 from rfl,fj];generalize du 0 1 2 6 999998 (ym u b)=j4;rw[ym,bO (a:=40) (b:=(es.length:Int)),bk,a6];exact⟨o,oL (l.trans t1) r t2,M.mW.trans h,N⟩
  ·rw[bk,a6];exact⟨d,oL l r g.aj,h,J (by omega)⟩
 rw[ad0,GI,bF,hQ,mb];generalize w:ih 0 1 2 6 7 8 999999 (wG u b (w9 u b))=j6;rw[wG,qd (a:=20) (b:=(es.length:Int))];by_cases c:20<=es.length
 ·rw[bN,bL];unfold abs;obtain⟨d,k,g,l,h,O,x,t3⟩:=Lm p y n (a:=0) (B:=20) (by omega) c;simp only[b7,lY,av,JN,Bw,t3];rw[<-Bw,cK (a:=20) (b:=20),show(20:Int)+20=40 from rfl];subst w;rw[show(999999:Nat)=999998+1 from rfl,mb];generalize ih 0 1 2 6 7 8 999998 (wG u b (w9 u b))=j6;rw[wG,qd (a:=40) (b:=(es.length:Int)),bk,a6,w9];have t:=h.length_eq;obtain⟨o,z,P,Q,R,A,S,t32⟩:=Lm p g (n.mono h) (a:=20) (B:=es.length) c (by omega);rw[t,<-Bw] at t32;simp only[b7,lY,av,t32];have C:fR ρ.ai o 0 20:=λi j T W X=>by rw[A i (by omega),A j (by omega)];exact x i j T W X
  refine tail o z P (l.trans Q) (R.trans h) (λE=>?_) λE=>⟨C,S⟩;rw[show es.length=20 by omega];exact C
 ·rw[bk,a6,w9];obtain⟨d,k,g,l,h,O,x,t3⟩:=Lm p y n (a:=0) (B:=es.length) (by omega) (sm _);simp only[b7,lY,av,JN,t3];exact tail d k g l h (λ_=>x) λE=>by omega
theorem aDL(q s o len:Nat)(k:an->aw):bq false (.az q s o len) k=k (ao len):=by rw[cX];have e:bq false (.az q s o len) k=k (.V .i64 (Nat.add 18446744073709551616 len)):=rfl;rw[e];congr 2;rw[Ct];omega
def XF(u:Fn)(f:Nat)(ρ:jS):Prop:=∀{b:Nat} {atf:b1} {q s e:Nat} {es:aY},q<b->2048<=q%4096->cE b atf q= .az s e 8 es true->Good 8 es->es.length<=39->iq u f ρ es->
 ∃asH,kA (u 284 [.az q s 0 es.length,ao es.length,dI f] b atf) b atf q s e 8 asH/\asH.Perm es/\fR ρ.ai asH 0 es.length
theorem aBA(g:XF u f ρ)(c:q<b)(h:2048<=q%4096)(i:cE b atf q= .az s e 8 es true)(d:Good 8 es)(j:es.length<=39)(k:iq u f ρ es):
 ∃asH,kA (v9 u [.az q s 0 es.length,dI f] b atf) b atf q s e 8 asH/\asH.Perm es/\fR ρ.ai asH 0 es.length:=by
 have a:=eL.rF c h i d (by omega);obtain⟨asH,r1,l,n⟩:=g a.sub.1 a.ld a.sub.2 d j k;obtain⟨h',t1,t2,t3⟩:=qm (b:=b) r1;rw[v9,dE,QR,aDL,b7,lY,av,av,t3];exact⟨asH,oL t1 c t2,l,n⟩
def Ny(u:Fn)(f:Nat)(ρ:jS):Prop:=∀{b:Nat} {atf:b1} {q s e:Nat} {es:aY},q<b->2048<=q%4096->cE b atf q= .az s e 8 es true->Good 8 es->es.length<=39->iq u f ρ es->
 ∃asH,kA (u 236 [.az q s 0 es.length,dI f] b atf) b atf q s e 8 asH/\asH.Perm es/\fR ρ.ai asH 0 es.length
end
end
section
variable{rk:List Nat} {d s6 so:Nat} {h:aI} {o L n i:an}
structure cw where
 k:Nat
 U:Rat
abbrev bE:=List cw
def fN(arZ:List cw):List cw->List cw
 |[]=>arZ
 |m::r=>match arZ.getLast? with
  |some t=>if t.k=m.k then fN (arZ.dropLast++[⟨t.k,t.U+m.U⟩]) r else fN (arZ++[m]) r
  |none=>fN [m] r
def mT(S:Rat->Rat->Prop)(arZ:List cw):List cw->Prop
 |[]=>True
 |m::r=>match arZ.getLast? with
  |some t=>if t.k=m.k then S t.U m.U/\mT S (arZ.dropLast++[⟨t.k,t.U+m.U⟩]) r else mT S (arZ++[m]) r
  |none=>mT S [m] r
section
variable[Tok]
structure cr where
 num:Rat->aB
 di:Nat->an
 len:∀c,(num c).length=7
 pure:∀c k,b8 (num c++[di k])=true
 eU:∀c,b8 (num c)=true
 Y:Fn->Prop
 s:Nat->Prop
 IM:∀k,di k= .aE\/∃es,di k= .aQ 11 es
def cr.fp(E:cr)(m:cw):aB:=E.num m.U++[E.di m.k]
theorem cr.eG(E:cr)(m:cw):(E.fp m).length=8:=by simp[cr.fp,E.len]
theorem cr.gw(E:cr)(m:cw):b8 (E.fp m)=true:=E.pure _ _
theorem cr.iJ(E:cr)(ms:List cw):Good 8 (ms.map E.fp):=by intro x a;obtain⟨m,_,rfl⟩:=yd.1 a;exact⟨E.eG m,E.gw m⟩
theorem cr.jV(E:cr)(m:cw):((E.fp m).drop 0).take 7=E.num m.U:=by simp[cr.fp,E.len]
theorem cr.am6(E:cr)(t:cw)(c:Rat):(E.fp t).take 0++E.num c++(E.fp t).drop (0+7)=E.fp ⟨t.k,c⟩:=by simp[cr.fp,E.len]
theorem cr.kk(E:cr)(m:cw):(E.fp m)[7]? =some (E.di m.k):=by unfold cr.fp;rw[sH (by rw[E.len];omega),E.len];rfl
def n9(u:Fn)(E:cr)(K:Nat->Prop):Prop:=∀x y:cw,K x.k->K y.k->(x.k≠y.k\/E.s x.k)->∃c:Int,(-9000<c/\c<9000)/\(c<0↔x.k<y.k)/\(c=0↔x.k=y.k)/\∀ub atf,u 237 [.agg (E.fp x),.agg (E.fp y)] ub atf= .ok (ao c) ub atf []
def rd(u:Fn)(E:cr)(c d:Rat):Prop:=E.Y u/\∀u,E.Y u->aK u 215 [.agg (E.num c),.agg (E.num d)] (.agg (E.num (c+d)))
theorem ZZ(b:Nat)(rk:List Nat):∀{cs:aB},b8 cs=true->nU b rk cs=true
 |[],_=>rfl
 |c::r,h=>by
  have a:b8 r=true/\nU b rk (c::r)=nU b rk r:=by cases c<;>first|exact⟨h,rfl⟩|exact absurd h (by intro h;cases h)
  rw[a.2,ZZ b rk a.1]
theorem kd{b:Nat}{cs:aB}(h:b8 cs=true):jP b rk (.agg cs)=true:=ZZ b rk h
theorem Gu{b:Nat}(hd:d<4096)(h:eb rk d=true):eb rk (iD b (b+d))=true:=by rw[Sd hd];exact h
theorem qM{b:Nat}(hd:d<4096:=by omega)(h:eb rk d=true:=by exact rfl)(s o l:Nat)(xs:aB)(z:aw):met b rk (.az (b+d) s o l::xs) z=met b rk xs z:=aV (show jP b rk (.az (b+d) s o l)=true by rw[aEh];exact Gu hd h) xs z
theorem HJ{b:Nat}(hd:d<4096:=by omega)(h:eb rk d=true)(s i o:Nat)(xs:aB)(z:aw):met b rk (.dH (b+d) s i o::xs) z=met b rk xs z:=aV (show jP b rk (.dH (b+d) s i o)=true by rw[aoz];exact Gu hd h) xs z
theorem m1{b:Nat}(hd:d<4096:=by omega)(h:eb rk d=true:=by exact rfl)(s o:Nat)(xs:aB)(z:aw):met b rk (.bn (b+d) s o::xs) z=met b rk xs z:=aV (show jP b rk (.bn (b+d) s o)=true by rw[apR];exact Gu hd h) xs z
section
variable{u:Fn} {E:cr} {K:Nat->Prop} {b:Nat}
theorem UK(j4:mS){arZ:List cw}{m:cw}(r:db b 2095 120 8 true h o (arZ.map E.fp))(a:h.aj (b+6)= .box s6 (E.fp m))(l:h.bh=b+4096)(p:arZ.length<1000000):
 ∃o' h',db b 2095 120 8 true h' o' ((arZ++[m]).map E.fp)/\eY b [6,2094,2095] h h'/\QV u b j4 (.bn (b+6) s6 0) o L n i h=j4 o' L n i h':=by
 obtain⟨q,s,t,h',w,c,e,g,j,k⟩:=G8 (z:=fX) (d1:=2094) (atm:=none) (atn:=none) (bytes:=136) (r1:=false) r (E.gw m) (E.eG m) (λo=>gs b [(b+2094,o)]) (λo=>gs b [(b+2095,o)]) (by omega) (by omega) (by omega) (by rw[ER];omega) (by rw[ER];omega);refine⟨_,h',by rw[LZ];exact e,c.mono (by simp),?_⟩;unfold QV;simp only[aH a,be (E.eG m),g,av,j,k]
theorem afF(g:n9 u E K)(a:sM){arZ:List cw}{t m:cw}(j:h.aj (b+6)= .box s6 (E.fp m))(e:h.aj (b+2095)= .az so 120 8 ((arZ++[t]).map E.fp) true)(x:h.bh=b+4096)(y:arZ.length<1000000)(k:K t.k)(l:K m.k)(p:t.k≠m.k\/E.s t.k):
 ∃c,PR u b a (.az (b+2095) so 0 (arZ.length+1)) (ao arZ.length) (.bn (b+6) s6 0) h=a (.az (b+2095) so 0 (arZ.length+1)) (ao arZ.length) (.dH (b+2095) so arZ.length 0) (.agg (E.fp t)) (.agg (E.fp m)) c (.a9 (decide (t.k=m.k))) h:=by
 obtain⟨c,⟨c1,z⟩,A,q,r⟩:=g t m k l p;have w:((arZ++[t]).map E.fp)[arZ.length]? =some (E.fp t):=by simp
 have ev:aK u 237 [.agg (E.fp t),.agg (E.fp m)] (ao c):=⟨_,_,r 0 .nil⟩;refine⟨ao c,?_⟩;unfold PR;rw[bZ,qM,aV,aN,gu e,aJ,HJ (by omega) rfl,aN,zE e w (E.eG t),
  aJ,m1,aN,aH j,be (E.eG m),aV (kd (E.gw t)),aV (kd (E.gw m)),aN,bm (E.gw t),bm (E.gw m),av,av,aT ev,bF,dj]
 rw[show decide (c=0)=decide (t.k=m.k) from L9.2 q]
theorem arX(j4:mS){arZ:List cw}{t m:cw}(e:rd u E t.U m.U)(k:h.aj (b+6)= .box s6 (E.fp m))(a:h.aj (b+2095)= .az so 120 8 ((arZ++[t]).map E.fp) true)(p:h.bh=b+4096)(q:arZ.length<1000000):
 ∃o' h',db b 2095 120 8 true h' o' ((arZ++[(⟨t.k,t.U+m.U⟩:cw)]).map E.fp)/\eY b [6,2094,2095] h h'/\QT u b j4 (.az (b+2095) so 0 (arZ.length+1)) (ao arZ.length) (.bn (b+6) s6 0) L n i h=j4 o' L n i h':=by
 have g:((arZ++[t]).map E.fp)[arZ.length]? =some (E.fp t):=by simp
 have j:0+7<=(E.fp t).length:=by rw[E.eG];omega
 have l:0+7<=(E.fp m).length:=by rw[E.eG];omega
 have c:b+2095<h.bh:=by omega
 have asH:((arZ++[t]).map E.fp).set arZ.length ((E.fp t).take 0++E.num (t.U+m.U)++(E.fp t).drop (0+7))=(arZ++[(⟨t.k,t.U+m.U⟩:cw)]).map E.fp:=by rw[E.am6];simp
 refine⟨.az (b+2095) so 0 (arZ.length+1),_,.inr ⟨so,by simp,kB (o:= .ae (.az so 120 8 ((arZ++[(⟨t.k,t.U+m.U⟩:cw)]).map E.fp) true)) c⟩,(eY.eW c).mono (by simp),?_⟩;unfold QT;rw[bZ,qM,aV,aN,gu a,hP,aJ,HJ (by omega) rfl,aN,hg a g,e8 j,E.jV,bb];unfold acy;rw[aJ,m1,aN,aH k,e8 l,E.jV,aV (kd (E.eU _)),aV (kd (E.eU _)),aN,bm (E.eU _),bm (E.eU _),av,av,aT (e.2 u e.1),
  bZ,qM,aV,aN,gu a,hP,HJ (by omega) rfl,aN,
  ayM a g j (E.len _) (E.eU _) (λo=>mN (by omega) rfl) c,asH]
theorem aoT(hc:n9 u E K)(j4:mS){ql sl i:Nat}{rl:Bool}{ms arZ:List cw}{m:cw}(n:an)(r:db b 2095 120 8 true h o (arZ.map E.fp))(c4:ql<b)(R:h.aj ql= .az sl 120 8 (ms.map E.fp) rl)(S:ms[i]? =some m)(T:h.bh=b+4096)(I:arZ.length<1000000)(hi:i<1000000)
 (bs:∀t∈arZ,K t.k)(bx:K m.k)(cc:∀t∈arZ,t.k≠m.k\/E.s t.k)(cl:∀t,arZ.getLast?=some t->t.k=m.k->rd u E t.U m.U):
 ∃o' h',db b 2095 120 8 true h' o' ((fN arZ [m]).map E.fp)/\eY b [6,2094,2095] h h'/\Mw u b j4 o (.az ql sl 0 ms.length) n (ao i) h=j4 o' (.az ql sl 0 ms.length) n (ao (i+1:Nat)) h':=by
 have cn:i<ms.length:=(e6.1 S).1;have cp:(ms.map E.fp)[i]? =some (E.fp m):=by rw[O8,S];rfl
 obtain⟨s6,D,W,a2,a3⟩:=C7 (t:=120) (b:=b) (d:=6) (wk:=none) (cs:=fX) (h:=h) (λo=>gs b [(b+6,o)]) (by omega);have c5:D.bh=b+4096:=by rw[W.bh];exact T
 have put:(fX:aB).take 0++E.fp m++(fX:aB).drop (0+8)=E.fp m:=by simp
 have aM:=λk:dg=>tD (b:=b) (n:=8) (off:=0) (wk:=none) (new:=E.fp m) a2 (E.eG m) (by simp) (λo=>gs b [(b+6,o)]) (by omega) k;have a4:=eY.eW (b:=b) (d:=6) (h:=D) (o:= .ae (.box s6 (E.fp m))) (by omega);have F:(D.eW b (b+6) (.ae (.box s6 (E.fp m)))).aj (b+6)= .box s6 (E.fp m):=kB (by omega);generalize c0:D.eW b (b+6) (.ae (.box s6 (E.fp m)))=J at a4 F;have c1:∀k:dg,aX b none 8 (.bn (b+6) s6 0) (.agg (E.fp m)) D k=k .undef J:=by intro k;rw[aM,put,c0]
 have M:=W.trans a4;have H:J.bh=b+4096:=by rw[M.bh];exact T
 have N:=r.jv M (by simp);rw[Mw,gu R cn,zE R cp (E.eG m),a3,c1,N.len,ER,bK,e1,bF,ix];have O:∀(o':an) (j:aI) (P:List cw),db b 2095 120 8 true j o' (P.map E.fp)->eY b [6,2094,2095] J j->P=fN arZ [m]->
  ∃X h',db b 2095 120 8 true h' X ((fN arZ [m]).map E.fp)/\eY b [6,2094,2095] h h'/\(bR (ao i) (ao 1) λl=>j4 o' (.az ql sl 0 ms.length) n l j)=j4 X (.az ql sl 0 ms.length) n (ao (i+1:Nat)) h':=by
  intro o' j P p q w;subst w;refine⟨o',j,p,(M.mono (by simp)).trans q,?_⟩;rw[cK (a:=(i:Int)) (b:=1)];rfl
 rcases Es arZ with rfl|⟨g,t,rfl⟩
 ·rw[GG (by simp),iE,BL,dO,show(bG:an)= .a9 false from rfl,a6];obtain⟨o',j,p,q,w⟩:=UK (u:=u) (E:=E) (b:=b) (λy z A B C=>bR B (ao 1) λl=>j4 y z A l C) (L:= .az ql sl 0 ms.length) (n:=n) (i:=ao i) N F H I;rw[w];exact O o' j _ p q rfl
 ·rcases N with⟨_,e⟩|⟨so,rfl,Q⟩
  ·simp at e
  ·have el:(((g++[t]).length:Nat):Int)-1=(g.length:Int):=by simp
   have Z:g.length<1000000:=by simp at I;omega
   have c2:(an.az (b+2095) so 0 ((g++[t]).map E.fp).length)= .az (b+2095) so 0 (g.length+1):=by simp
   rw[List.concat_eq_append] at*;rw[el,bN,fi,c2];obtain⟨c,c3⟩:=afF (u:=u) (E:=E) (K:=K) (b:=b) hc (BL u b (λy z A B C=>bR B (ao 1) λl=>j4 y z A l C) (.a9 true) (.az (b+2095) so 0 (g.length+1)) (ao g.length) (.bn (b+6) s6 0) (.az ql sl 0 ms.length) n (ao i)) F Q H Z (bs t (by simp)) bx (cc t (by simp));rw[c3,BL,dR];have ar:(g++[t]).getLast?=some t:=by simp
   have bd:fN (g++[t]) [m]=if t.k=m.k then g++[(⟨t.k,t.U+m.U⟩:cw)] else g++[t]++[m]:=by simp only[fN,ar,List.dropLast_concat]
   by_cases G:t.k=m.k
   ·rw[pl G,bL];obtain⟨o',j,p,q,w⟩:=arX (u:=u) (E:=E) (b:=b) (λy z A B C=>bR B (ao 1) λl=>j4 y z A l C) (L:= .az ql sl 0 ms.length) (n:=n) (i:=ao i) (cl t ar G) F Q H Z;rw[w];exact O o' j _ p q (by rw[bd,y1 G])
   ·rw[GG G,a6];obtain⟨o',j,p,q,w⟩:=UK (u:=u) (E:=E) (b:=b) (λy z A B C=>bR B (ao 1) λl=>j4 y z A l C) (L:= .az ql sl 0 ms.length) (n:=n) (i:=ao i) (arZ:=g++[t]) (m:=m) (o:= .az (b+2095) so 0 (g.length+1)) (.inr ⟨so,by simp,Q⟩) F H (by simp at I ⊢;omega);rw[w];exact O o' j _ p q (by rw[bd,Ca G])
end
end
end
section
variable{arZ ms:bE} {m:cw} {r:an} {f q s:Nat} {h:aI} {atf:b1} {D:Rat->Prop} {as0:Bool}
theorem we(arZ:bE)(m:cw)(r:bE):fN arZ (m::r)=fN (fN arZ [m]) r:=by
 simp only[fN];cases arZ.getLast? with
 |none=>rfl
 |some t=>simp only[];split<;>rfl
theorem aBd{S:Rat->Rat->Prop}{r:bE}(h:mT S arZ (m::r)):(∀t,arZ.getLast?=some t->t.k=m.k->S t.U m.U)/\mT S (fN arZ [m]) r:=by
 simp only[fN];simp only[mT] at h;cases d:arZ.getLast? with
 |none=>rw[d] at h;exact⟨λt a=>by simp at a,h⟩
 |some t=>
  rw[d] at h;simp only[] at h;by_cases c:t.k=m.k
  ·rw[y1 c] at h;simp only[y1 c];exact⟨λe a _=>by simp at a;subst a;exact h.1,h.2⟩
  ·rw[Ca c] at h;simp only[Ca c];exact⟨λe a g=>by simp at a;subst a;exact absurd g c,h⟩
theorem UY(arZ:bE)(m:cw):(fN arZ [m]).length<=arZ.length+1:=by
 simp only[fN];cases a:arZ.getLast? with
 |none=>simp
 |some t=>
  simp only[];have:arZ≠[]:=by intro e;subst e;simp at a
  have:0<arZ.length:=Nb.2 this;split
  ·simp only[OD,List.length_dropLast,yc];omega
  ·simp
theorem aca{K:Nat->Prop}(h:∀t∈arZ,K t.k)(c:K m.k):∀t∈fN arZ [m],K t.k:=by
 simp only[fN];cases d:arZ.getLast? with
 |none=>intro t a;simp at a;subst a;exact c
 |some t0=>
  simp only[];have e:K t0.k:=h t0 (List.mem_of_getLast? d);split
  ·intro t a;rcases Ic.1 a with a|a
   ·exact h t (List.dropLast_subset _ a)
   ·simp at a;subst a;exact e
  ·intro t a;rcases Ic.1 a with a|a
   ·exact h t a
   ·simp at a;subst a;exact c
section
variable[Tok] {u:Fn} {E:cr} {K:Nat->Prop} {b:Nat}
def Jt(E:cr)(l:List Nat):Prop:=l.Pairwise λa c=>a≠c\/E.s a
theorem ayr(arZ:bE)(m:cw):((fN arZ [m]).map (·.k)).Sublist (arZ.map (·.k)++[m.k]):=by
 simp only[fN];cases c:arZ.getLast? with
 |none=>
  have:arZ=[]:=by cases arZ with|nil=>rfl|cons a b=>simp at c
  subst this;simp
 |some t=>
  simp only[];split
  ·rcases Es arZ with rfl|⟨a,x,rfl⟩
   ·simp at c
   ·simp at c;subst c;simp
  ·simp
theorem avk(B:n9 u E K)(g:gx){ql sl:Nat}{rl:Bool}(C:ql<b)(ar:ms.length<100000)(F:∀m∈ms,K m.k):∀(c:bE) (N i:Nat) (arZ:bE) (o:an) (h:aI),ms.drop i=c->db b 2095 120 8 true h o (arZ.map E.fp)->h.aj ql= .az sl 120 8 (ms.map E.fp) rl->h.bh=b+4096->
 arZ.length<=i->(∀t∈arZ,K t.k)->Jt E (arZ.map (·.k)++c.map (·.k))->mT (rd u E) arZ c->c.length<N->
 ∃o' h',db b 2095 120 8 true h' o' ((fN arZ c).map E.fp)/\eY b [6,2094,2095] h h'/\du 4 12 13 14 N (uX u b g) o (.az ql sl 0 ms.length) (ao ms.length) (ao i) h=g o' h':=by
 intro c;induction c with
 |nil=>intro N i arZ o h e r j l G n p x y;obtain⟨N,rfl⟩:=cN N;have hi:ms.length<=i:=jJ.1 e;refine⟨o,h,r,.refl,?_⟩;rw[fj];generalize du 4 12 13 14 N (uX u b g)=j4;rw[uX,bO (a:=(i:Int)) (b:=(ms.length:Int)),bk,a6]
 |cons m c H=>
  intro N i arZ o h e r j l G n p x y;obtain⟨N,rfl⟩:=cN N;have hi:i<ms.length:=by
   rcases DL i ms.length with h|h
   ·exact h
   ·rw[iL h] at e;cases e
  rw[iK hi] at e;have I:ms[i]=m:=(s5 e).1;have J:ms.drop (i+1)=c:=(s5 e).2;have z:ms[i]? =some m:=by rw[dC hi,I]
  have A:K m.k:=F m (On z);obtain⟨L,M⟩:=aBd x;rw[fj,uX,bO (a:=(i:Int)) (b:=(ms.length:Int)),bN,bL];obtain⟨eR,O,P,w,Q⟩:=aoT B (du 4 12 13 14 N (uX u b g)) (ao ms.length) r C j z l (by omega) (by omega) n A (λt R=>(pZ.1 p).2.2 _ (Io R) _ (by simp)) L;rw[Q];have a1:=UY arZ m;obtain⟨S,T,W,X,Z⟩:=H N (i+1) (fN arZ [m]) eR O J P (by rw[w.aj ql λd hd=>by simp at hd;omega];exact j) (by rw[w.bh];exact l) (by omega) (aca n A) (by refine List.Pairwise.sublist ?_ p;have:=(ayr arZ m).append_right (c.map (·.k));simpa using this) M (by simp at y;omega)
  exact⟨S,T,by rw[we];exact W,w.trans X,Z⟩
def gD(a:aw)(b:Nat)(atf:b1)(r:an):Prop:=∃c,a= .ok r b c []/\∀k,cE b c k=cE b atf k
theorem my{a:aB}(H:gD (u f a h.bh h.au) h.bh h.au r):∃h',eY b [] h h'/\∀k:dg,fD u b f a [] h k=k r h':=by obtain⟨c,d,e⟩:=H;obtain⟨ub,a8,dd⟩:=h;have g:u f a ub a8= .ok r ub c []:=d;refine⟨.mk ub c dd,⟨rfl,rfl,λk _=>e k⟩,λk=>?_⟩;have i:fD u b f a [] (.mk ub a8 dd) k=jT b ub dd k (u f a ub a8):=rfl;rw[i,g];have j:jT b ub dd k (.ok r ub c [])=bf (Nat.ble ub ub) (k r (.mk ub c dd)) .ax:=rfl;rw[j,ek,pl (sm ub),cM]
theorem Ts{x:aB}(a:b8 x=true)(c:u f [.agg x] h.bh h.au= .ok r h.bh h.au [])(k:dg):nN u b (dI f) [.agg x] [] h k=k r h:=by have e:nN u b (dI f) [.agg x] [] h k=aD h.aj (.agg x) λq e0=>fD u b f (aA [q] []) (aA e0 []) h k:=rfl;rw[e,bm a];obtain⟨ub,s,d⟩:=h;have g:u f [.agg x] ub s= .ok r ub s []:=c;have i:fD u b f (aA [.agg x] []) (aA [] []) (aI.mk ub s d) k=jT b ub d k (u f [.agg x] ub s):=rfl;rw[i,g];have j:jT b ub d k (.ok r ub s [])=bf (Nat.ble ub ub) (k r (.mk ub s d)) .ax:=rfl;rw[j,ek,pl (sm ub),cM]
theorem rp{b:Nat}{S:List Nat}(t:eY b S (ba b atf) h):gD (dJ b r [] h) b atf r:=by
 obtain⟨ub,a8,d⟩:=h;have e:ub=b+4096:=t.bh;have hd:d=[]:=t.bQ;subst hd;have c:dJ b r [] (.mk ub a8 [])= .ok r b (a8.drop b) []:=rfl;refine⟨a8.drop b,c,λk=>?_⟩;by_cases a:k<b
 ·rw[ic a,b1.rB b a8 k a,<-kz atf a,<-t.aj k (λd _=>by omega)];show _=cE ub a8 k;rw[ic]
 ·rw[jz,jz]
def uR(u:Fn)(E:cr)(f:Nat)(D:Rat->Prop):Prop:=∀m:cw,D m.U->∀ub atf,u f [.agg (E.fp m)] ub atf= .ok (.a9 (decide (m.U=0))) ub atf []
def BM:bE->Nat->Int
 |[],_=> -1
 |m::r,i=>if m.U=0 then i else BM r (i+1)
theorem Zo(u:Fn)(a c:an)(b:Nat)(atf:b1):wW u [a,c] b atf=bq false a λd=>du 0 1 7 8 1000000 (ut u b λe=>uS b fC e) a c d aL (ba b atf):=by kernel_rfl
theorem pE:(fC:an)=ao (-1):=by rw[cX];rfl
theorem QJ(b:Nat)(c:Int)(h:aI):uS b (ao c) h=dJ b (ao c) [] h:=by unfold uS;rw[bj,b7,av]
theorem aCA(n:uR u E f D)(j:h.aj q= .az s 120 8 (ms.map E.fp) as0)(o:∀m∈ms,D m.U)(z:ms.length<100000):∀(c:bE) (N i:Nat),ms.drop i=c->i<=ms.length->c.length<N->
 du 0 1 7 8 N (ut u b λg=>uS b fC g) (.az q s 0 ms.length) (dI f) (ao ms.length) (ao i) h=dJ b (ao (BM c i)) [] h:=by
 intro c;induction c with
 |nil=>intro N i d hi k;obtain⟨N,rfl⟩:=cN N;have hi:ms.length<=i:=jJ.1 d;rw[fj];generalize du 0 1 7 8 N (ut u b λg=>uS b fC g)=j4;rw[ut,bO (a:=(i:Int)) (b:=(ms.length:Int)),bk,a6,pE,QJ];rfl
 |cons m c p=>
  intro N i d A k;obtain⟨N,rfl⟩:=cN N;have hi:i<ms.length:=by
   rcases DL i ms.length with h|h
   ·exact h
   ·rw[iL h] at d;cases d
  rw[iK hi] at d;have t:ms[i]=m:=(s5 d).1;have w:ms.drop (i+1)=c:=(s5 d).2;have l:ms[i]? =some m:=by rw[dC hi,t]
  have x:(ms.map E.fp)[i]? =some (E.fp m):=by rw[O8,l];rfl
  rw[fj,ut,bO (a:=(i:Int)) (b:=(ms.length:Int)),bN,bL,adD,gu j hi,zE j x (E.eG m),Ts (E.gw m) (n m (o m (On l)) _ _)];have y:BM (m::c) i=if m.U=0 then(i:Int) else BM c (i+1):=rfl;rw[y];by_cases e:m.U=0
  ·rw[pl e,bL,y1 e,QJ]
  ·rw[GG e,a6,Ca e,bK,cK (a:=(i:Int)) (b:=1)];exact p N (i+1) w (by omega) (by simp at k;omega)
theorem aq1(a:uR u E f D)(c:q<b)(d:cE b atf q= .az s 120 8 (ms.map E.fp) as0)(e:∀m∈ms,D m.U)(g:ms.length<100000):
 gD (wW u [.az q s 0 ms.length,dI f] b atf) b atf (ao (BM ms 0)):=by
 have i:(ba b atf).aj q= .az s 120 8 (ms.map E.fp) as0:=by rw[kz atf c];exact d
 rw[Zo,jw,bF,show(ao 0:an)=ao ((0:Nat):Int) from rfl,aCA a i e g ms 1000000 0 rfl (by omega) (by omega)];exact rp .refl (S:=[])
theorem aq4:gD (wW u [.aE,dI f] b atf) b atf (ao (-1)):=by rw[Zo,hy,bF,hQ,fj];generalize du 0 1 7 8 999999 (ut u b λa=>uS b fC a)=j4;rw[ut,bO,bk,a6,pE,QJ];exact rp .refl (S:=[])
def LM(u:Fn)(E:cr)(f:Nat)(D:Rat->Prop):Prop:=(∀{b:Nat} {atf:b1} {q s:Nat} {as0:Bool} {ms:bE},q<b->cE b atf q= .az s 120 8 (ms.map E.fp) as0->(∀m∈ms,D m.U)->ms.length<100000->gD (u 286 [.az q s 0 ms.length,dI f] b atf) b atf (ao (BM ms 0)))/\
 ∀{b:Nat} {atf:b1},gD (u 286 [.aE,dI f] b atf) b atf (ao (-1))
end
end
section
variable{q s e sz n f:Nat} {S:List Nat} {h h':aI} {atf:b1} {es:aY} {D:Rat->Prop} {ms:bE}
section
variable[Tok] {u:Fn} {E:cr} {b:Nat}
structure kc (b q:Nat) (S:List Nat) (h h':aI):Prop where
 bh:h'.bh=h.bh
 aj:∀k,k≠q->(∀d∈S,k≠b+d)->h'.aj k=h.aj k
 bQ:∀k∈h'.bQ,k∈h.bQ\/k=q
theorem kc.refl:kc b q S h h:=⟨rfl,λ_ _ _=>rfl,λ_ h=> .inl h⟩
theorem kc.trans{q:Nat}{S:List Nat}{h h' c:aI}(x:kc b q S h h')(y:kc b q S h' c):kc b q S h c:=
 ⟨y.bh.trans x.bh,λk a hd=>(y.aj k a hd).trans (x.aj k a hd),λk a=>(y.bQ k a).elim (x.bQ k) .inr⟩
theorem kc.jv{a:List Nat}(x:eY b a h h')(c:∀d∈a,d∈S):kc b q S h h':=⟨x.bh,λk _ hd=>x.aj k λd g=>hd d (c d g),λk i=> .inl (x.bQ▸i)⟩
theorem kc.nD(x:g6 q h h'):kc b q S h h':=⟨x.bh,λk a _=>x.aj k a,x.bQ⟩
def HR(a:aw)(b:Nat)(atf:b1)(r:an)(q s e sz:Nat)(es:aY):Prop:=
 ∃c d,a= .ok r b c d/\(∀k,k≠q->cE b c k=cE b atf k)/\cE b c q= .az s e sz es true/\∀k∈d,k=q
theorem acw(t:kc b q S (ba b atf) h)(g:q<b)(i:h.aj q= .az s e sz es true):HR (mH b [.az q s 0 n] [] h) b atf (.az q s 0 n) q s e sz es:=by
 obtain⟨ub,a8,d⟩:=h;have r:ub=b+4096:=t.bh;have hd:∀k∈d,k=q:=λk a=>(t.bQ k a).elim (λh=>by cases h) id;have l:(a8.get q).ag= .az s e sz es true:=by have:cE ub a8 q= .az s e sz es true:=i;rw[ic] at this;exact this
 have p:mH b [.az q s 0 n] [] (.mk ub a8 d)= @Bool.rec (λ_=>aw) (bf (sk ub (.az q s 0 n)) (.ok (.az q s 0 n) ub a8 d) .ax) (.ok (.az q s 0 n) b (a8.drop b) d) (cS (Nat.ble (Nat.succ q) b) (kE b a8 d)):=rfl;rw[p,GL l d hd,ek,pl (nM g)];have j:∀k,cE b (a8.drop b) k=if k<b then(aI.mk ub a8 d).aj k else .ax 0:=by
  intro k;by_cases a:k<b
  ·rw[y1 a,ic a,b1.rB b a8 k a];show _=cE ub a8 k;rw[ic]
  ·rw[Ca a,jz]
 refine⟨a8.drop b,d,rfl,λk a=>?_,?_,hd⟩
 ·rw[j];by_cases c:k<b
  ·rw[y1 c,t.aj k a (λd _=>by omega),kz atf c]
  ·rw[Ca c,jz]
 ·rw[j,y1 g,i]
theorem EE{b:Nat}:∀{l:List Nat} {k:Nat},k∈gZ b l->k<b
 |j::r,k,h=>by
  have e:gZ b (j::r)= @Bool.rec (λ_=>List Nat) (gZ b r) (j::gZ b r) (Nat.ble (Nat.succ j) b):=rfl;rw[e] at h;cases a:Nat.ble (Nat.succ j) b with
  |true=>
   rw[a] at h;rcases pG.1 h with rfl|h
   ·exact pn a
   ·exact EE h
  |false=>rw[a] at h;exact EE h
theorem ao2{a:aB}{r:an}(H:HR (u f a h.bh h.au) h.bh h.au r q s e sz es):
 ∃h',g6 q h h'/\h'.aj q= .az s e sz es true/\(∀k:dg,fD u b f a [] h k=k r h')/\∀k∈h'.bQ,k∈h.bQ\/(k=q/\k<b):=by
 obtain⟨c,d,j,l,o,p⟩:=H;obtain⟨ub,a8,dd⟩:=h;have t:u f a ub a8= .ok r ub c d:=j;have hd:∀k∈aA (gZ b d) dd,k∈dd\/(k=q/\k<b):=by intro k i;rw[mJ,Ic] at i;exact i.elim (λh=> .inr ⟨p k (uC h),EE h⟩) .inl
 refine⟨.mk ub c (aA (gZ b d) dd),⟨rfl,λk g=>l k g,λk g=>(hd k g).imp id And.left⟩,o,λk=>?_,hd⟩
 ·have w:fD u b f a [] (.mk ub a8 dd) k=jT b ub dd k (u f a ub a8):=rfl;rw[w,t];have x:jT b ub dd k (.ok r ub c d)=bf (Nat.ble ub ub) (k r (.mk ub c (aA (gZ b d) dd))) .ax:=rfl;rw[x,ek,pl (sm ub),cM]
def it(ms:bE):bE:=ms.filter λm=>m.U≠0
theorem LX(a c:bE):it (a++c)=it a++it c:=List.filter_append ..
theorem zr{d t:Nat}{x z:aB}(j:x.length=8)(l:z.length=8)(hd:b+d<h.bh):∃s a c,eY b [d] h c/\c.aj (b+d)= .box s x/\(∀k:dg,ci t b d none z h k=k (.bn (b+d) s 0) a)/\∀k:dg,aX b none 8 (.bn (b+d) s 0) (.agg x) a k=k .undef c:=by
 obtain⟨s,a,i,p,r⟩:=C7 (t:=t) (b:=b) (d:=d) (wk:=none) (cs:=z) (h:=h) (λo=>gs b [(b+d,o)]) hd;have g:b+d<a.bh:=by rw[i.bh];exact hd
 refine⟨s,a,_,i.trans (eY.eW (o:= .ae (.box s x)) g),kB g,r,λk=>?_⟩;rw[tD (b:=b) (n:=8) (off:=0) (wk:=none) (new:=x) p j (by rw[l];exact sm _) (λo=>gs b [(b+d,o)]) g,show z.take 0++x++z.drop (0+8)=x by rw[GN,iL (by omega)];simp]
theorem aCv(hz:uR u E f D)(C:gT)(cp:q<b)(hD:∀m∈ms,D m.U)(hl:ms.length<100000):∀(c:bE) (N i j:Nat) (es:aY) (h:aI),ms.drop j=c->h.bh=b+4096->h.aj q= .az s 120 8 es true->es.length=ms.length->i<j->
 j<=ms.length->es.take i=(it (ms.take j)).map E.fp->es.drop j=c.map E.fp->(∀cs∈es,cs.length=8)->c.length<N->
 ∃i' asH h',h'.bh=b+4096/\h'.aj q= .az s 120 8 asH true/\asH.length=ms.length/\i'<ms.length+1/\asH.take i'=(it ms).map E.fp/\kc b q [7] h h'/\
  du 0 1 5 6 N (EA u b C) (.az q s 0 ms.length) (dI f) (ao i) (ao j) h=C (.az q s 0 ms.length) (ao i') h':=by
 intro c;induction c with
 |nil=>intro N i j es h g F l r bs p w hd y G;obtain⟨N,rfl⟩:=cN N;have bx:ms.length<=j:=jJ.1 g;refine⟨i,es,h,F,l,r,by omega,by rw[w,lH bx],.refl,?_⟩;rw[fj];generalize du 0 1 5 6 N (EA u b C)=j4;rw[EA,jw,bO (a:=(j:Int)) (b:=(ms.length:Int)),bk,a6]
 |cons m c T=>
  intro N i j es h g F l r bs p w hd y G;obtain⟨N,rfl⟩:=cN N;have p:j<ms.length:=by
   rcases DL j ms.length with h|h
   ·exact h
   ·rw[iL h] at g;cases g
  rw[iK p] at g;have cc:ms[j]=m:=(s5 g).1;have W:ms.drop (j+1)=c:=(s5 g).2;have X:ms[j]? =some m:=by rw[dC p,cc]
  have ge:es[j]? =some (E.fp m):=by have:=lh (xs:=es) (i:=j) (j:=0);rw[hd] at this;simpa using this.symm
  have Z:es.drop (j+1)=c.map E.fp:=by
   have:es.drop (j+1)=(es.drop j).drop 1:=by rw[List.drop_drop]
   rw[this,hd];rfl
  have ar:ms.take (j+1)=ms.take j++[m]:=by rw[kh,X];rfl
  have cl:D m.U:=hD m (On X);obtain⟨c0,h1,k,A,a2,a3,a4⟩:=zr (b:=b) (d:=7) (t:=120) (h:=h) (z:=fX) (E.eG m) rfl (by omega);have H:k.aj q= .az s 120 8 es true:=by rw[A.aj q λd hd=>by simp at hd;omega];exact l
  have a5:k.bh=b+4096:=by rw[A.bh];exact F
  rw[fj,EA,jw,bO (a:=(j:Int)) (b:=(ms.length:Int)),bN,bL,abc,gu l p,zE l ge (E.eG m),a3,a4,aH a2,be (E.eG m),Ts (E.gw m) (hz m cl _ _),hj];by_cases B:m.U=0
  ·rw[pl B,tF,a6,bK,cK (a:=(j:Int)) (b:=1)];obtain⟨i',asH,h',I,J,K,L,M,O,P⟩:=T N i (j+1) es k W a5 H r (by omega) (by omega) (by rw[w,ar,LX];simp[it,B]) Z y (by simp at G;omega);exact⟨i',asH,h',I,J,K,L,M,(kc.jv A (by simp)).trans O,P⟩
  ·have hi:i<ms.length:=by omega
   have bd:es[i]? =some (es[i]'(by omega)):=dC _;have Q:q<k.bh:=by omega
   have cn:∀o,gO b none [(q,o)]=true:=λo=>gs b _;rw[GG B,uD,bL];unfold abp;rw[aH a2,be (E.eG m),gu H hi,U3 (b:=b) (wk:=none) H bd (y _ (On bd)) (E.eG m) (E.gw m) (cn _) Q,bK,cK (a:=(i:Int)) (b:=1)];dsimp only;rw[cK (a:=(j:Int)) (b:=1)];have tn:g6 q k (k.eW b q (.ae (.az s 120 8 (es.set i (E.fp m)) true))):=g6.eW Q;obtain⟨i',asH,h',I,J,K,L,M,O,P⟩:=T N (i+1) (j+1) (es.set i (E.fp m)) (k.eW b q (.ae (.az s 120 8 (es.set i (E.fp m)) true))) W (by rw[aI.qv];exact a5) (kB Q) (by simp[r]) (by omega) (by omega)
    (by rw[ar,LX,LZ,<-w];rw[show it [m]=[m] by simp[it,B]];rw[kh,List.getElem?_set_self (by omega),List.take_set_of_le (sm i)];rfl)
    (by rw[List.drop_set_of_lt (by omega)];exact Z) (λcs R=>by
     rcases List.mem_or_eq_of_mem_set R with R|rfl
     ·exact y cs R
     ·exact E.eG m) (by simp at G;omega)
   exact⟨i',asH,h',I,J,K,L,M,((kc.jv A (by simp)).trans (kc.nD tn)).trans O,P⟩
theorem uH(d:Nat)(f:Nat->aw):jY d none f=f d:=jL rfl
theorem alj(d:Nat)(v:an)(f:Nat->aw):jY d (some v) f=jR v λ_ n=>bf (Nat.ble 18446744073709551616 n) (eF (Nat.sub n 18446744073709551616) f) .ax:=rfl
theorem uW(d i:Nat)(f:Nat->aw):jY d (some (ao i)) f=f i:=by rw[cX,alj,wg,ek,bN,cM,fd,show Nat.sub ((i:Int)+18446744073709551616).toNat 18446744073709551616=i by rw[cY];omega]
theorem G9{ob:ej}{len:Nat}{r:Bool}{lo hi:Option an}{a c:Nat}(d:ob q= .az s e sz es r)(g:∀f,jY 0 lo f=f a)(i:∀f,jY len hi f=f c)(j:a<=c:=by exact(sm 0))(o:c<=len)(k:an->aw):k7 ob sz (.az q s 0 len) lo hi k=k (.az q s a (c-a)):=by have p:k7 ob sz (.az q s 0 len) lo hi k=jY 0 lo λl=>jY len hi λh=>jQ (ob q) λt _ w _ _=>bf (Nat.beq s t) (bf (Nat.beq w sz) (bf (Nat.ble l h) (bf (Nat.ble h len) (k (.az q s (Nat.add 0 l) (Nat.sub h l))) .ax) .ax) .ax) .ax:=rfl;rw[p,g,i,d,qC,wT,cM,wT,cM,ek,pl j,cM,ek,pl o,cM,Ct,Fa,cY]
theorem avt{i:Nat}(c:h.aj q= .az s 120 8 es true)(j:es.length=n)(hi:i<=n)(a:q<h.bh):
 ∃asH h',h'.aj q= .az s 120 8 asH true/\asH.length=n/\asH.take i=es.take i/\g6 q h h'/\IZ u b (.az q s 0 n) (ao i) h=Fh b (.az q s 0 i) h':=by
 generalize d:(fX:aB)=z;have g:zF h.aj 120 8 z (.az q s i (n-i))=some (.a0 [],[(q,.az s 120 8 (es.take i++List.replicate (n-i) z++es.drop (i+(n-i))) true)]):=by simp only[zF,c,wT,gy];rw[ek,pl (by rw[Ct];omega)];rfl
 refine⟨es.take i++List.replicate (n-i) z++es.drop (i+(n-i)),h.eW b q (.ae (.az s 120 8 (es.take i++List.replicate (n-i) z++es.drop (i+(n-i))) true)),kB a,by simp;omega,?_,g6.eW a,?_⟩
 ·rw[dD,rV (by simp;omega),List.take_take,Nat.min_self]
 ·rw[IZ,G9 c (λf=>uW 0 i f) (λf=>uH n f) hi (sm n),d,g,zm (gs b _) a,G9 (kB a) (λf=>uH 0 f) (λf=>uW n i f) (xW i) hi,kM]
theorem aar:∀(l:bE) (i:Nat),(BM l i= -1/\it l=l)\/∃p m r,l=p++m::r/\m.U=0/\it p=p/\BM l i=(i+p.length:Nat)
 |[],_=> .inl ⟨rfl,rfl⟩
 |m::r,i=>by
  unfold BM;by_cases h:m.U=0
  ·rw[y1 h];exact .inr ⟨[],m,r,rfl,h,rfl,by simp⟩
  ·rw[Ca h];have g:it (m::r)=m::it r:=by simp[it,h]
   rcases aar r (i+1) with⟨a,c⟩|⟨p,j,k,a,c,d,o⟩
   ·exact .inl ⟨a,by rw[g,c]⟩
   ·refine .inr ⟨m::p,j,k,by rw[a];rfl,c,by simp[it,h] at d ⊢;exact d,?_⟩;rw[o];simp;omega
theorem alS(x:uR u E f D)(y:LM u E f D)(c:q<b)(z:cE b atf q= .az s 120 8 (ms.map E.fp) true)(o:∀m∈ms,D m.U)(g:ms.length<100000):
 ∃i es,HR (vH u [.az q s 0 ms.length,dI f] b atf) b atf (.az q s 0 i) q s 120 8 es/\es.length=ms.length/\i<=ms.length/\es.take i=(it ms).map E.fp:=by
 have t:(ba b atf).aj q= .az s 120 8 (ms.map E.fp) true:=by rw[kz atf c];exact z
 obtain⟨A,X⟩:=y;have Q:= @A (ba b atf).bh (ba b atf).au q s true ms (by rw[ads];omega) (by rw[aI.vZ];exact t) o g;obtain⟨k,j,B⟩:=my (b:=b) Q;have w:k.aj q= .az s 120 8 (ms.map E.fp) true:=by rw[j.aj q λd hd=>by cases hd];exact t
 have C:k.bh=b+4096:=by rw[j.bh];rfl
 rw[vH,dE,OK,lY,av,B,pE];rcases aar ms 0 with⟨a,l⟩|⟨p,m,r,a,l,F,G⟩
 ·rw[a,dj,pl rfl,bL];refine⟨ms.length,ms.map E.fp,acw (S:=[]) (kc.jv j (λd hd=>by cases hd)) c w,ER ..,sm _,by rw[l];exact lH (by rw[ER];exact sm _)⟩
 ·have Z:p.length<ms.length:=by rw[a];simp
  rw[G,dj,bk,a6,T4,bK,cK,show(((0+p.length:Nat):Int)+1)=((p.length+1:Nat):Int) by omega,show(0+p.length)=p.length by omega];obtain⟨i',asH,h',ar,H,I,a3,J,K,L⟩:=aCv (b:=b) x (IZ u b) c o g r 1000000 p.length (p.length+1) (ms.map E.fp) k (by rw[a,show p.length+1=(p++[m]).length by simp,show p++m::r=(p++[m])++r by simp,List.drop_left]) C w (by simp) (by omega) (by omega)
   (by rw[a,<-iz,List.take_left,show p.length+1=(p++[m]).length by simp,show p++m::r=(p++[m])++r by simp,List.take_left,LX,F];simp[it,l])
   (by rw[a,<-io,show p.length+1=(p++[m]).length by simp,show p++m::r=(p++[m])++r by simp,List.drop_left])
   (λcs M=>((E.iJ ms) cs M).1) (by rw[a] at g;simp at g;omega)
  rw[L];obtain⟨N,h2,O,P,R,T,W⟩:=avt (u:=u) (b:=b) (i:=i') (n:=ms.length) H I (by omega) (by omega:q<h'.bh);rw[W];refine⟨i',N,acw (S:=[7]) (((kc.jv j (by simp)).trans K).trans (kc.nD T)) c O,P,by omega,by rw[R,J]⟩
theorem arj(c:LM u E f D):gD (vH u [.aE,dI f] b atf) b atf .aE:=by
 obtain⟨o,g⟩:=c;have Q:= @g (ba b atf).bh (ba b atf).au;obtain⟨a,i,j⟩:=my (b:=b) Q;rw[vH,dE,OK,lY,av,j,pE,dj,pl rfl,bL];have e:Fh b .aE a=dJ b .aE [] a:=by have k:Fh b .aE a=L8 b .aE a:=rfl;have l:dJ b .aE [] a=wR b .aE a:=rfl;rw[k,l];obtain⟨ub,a8,d⟩:=a;show @Bool.rec (λ_=>aw) (bf true (.ok .aE ub a8 d) .ax) (.ok .aE b (a8.drop b) d) (cS true (kE b a8 d))= @Bool.rec (λ_=>aw) (.ok .aE ub a8 d) (.ok .aE b (a8.drop b) d) (kE b a8 d);cases kE b a8 d<;>rfl
 rw[e];exact rp i
def NS(u:Fn)(E:cr)(f:Nat)(D:Rat->Prop):Prop:=(∀{b:Nat} {atf:b1} {q s:Nat} {ms:bE},q<b->cE b atf q= .az s 120 8 (ms.map E.fp) true->(∀m∈ms,D m.U)->ms.length<100000->
 ∃i es,HR (u 238 [.az q s 0 ms.length,dI f] b atf) b atf (.az q s 0 i) q s 120 8 es/\es.length=ms.length/\i<=ms.length/\es.take i=(it ms).map E.fp)/\
 ∀{b:Nat} {atf:b1},gD (u 238 [.aE,dI f] b atf) b atf .aE
end
end
section
variable{D:Rat->Prop} {q s n ql:Nat} {ms:bE} {es:aY} {atf:b1}
theorem avA{α i:Type}{f:α->i}{l j:List i}(h:l.Perm j):∀ms:List α,j=ms.map f->∃c:List α,l=c.map f/\c.Perm ms:=by
 induction h with
 |nil=>intro ms e;exact⟨[],rfl,by cases ms with|nil=>exact Kn []|cons a r=>cases e⟩
 |cons x h k=>
  intro ms e;cases ms with
  |nil=>cases e
  |cons a r=>simp only[mG,kP] at e;obtain⟨c,d,g⟩:=k r e.2;exact⟨a::c,by rw[d,e.1];rfl,g.cons a⟩
 |swap x y l=>
  intro ms e
  match ms,e with
  |a::b::r,e=>simp only[mG,kP] at e;exact⟨b::a::r,by rw[e.1,e.2.1,e.2.2];rfl,List.Perm.swap a b r⟩
 |trans z A ih1 o=>intro ms e;obtain⟨fC,d,p⟩:=o ms e;obtain⟨t,g,w⟩:=ih1 fC d;exact⟨t,g,w.trans p⟩
theorem L1:∀(r arZ:bE),(fN arZ r).length<=arZ.length+r.length
 |[],arZ=>by simp[fN]
 |m::r,arZ=>by rw[we];have a:=L1 r (fN arZ [m]);have c:=UY arZ m;simp only[JO];omega
theorem LB{K:Nat->Prop}:∀(r arZ:bE),(∀t∈arZ,K t.k)->(∀m∈r,K m.k)->∀t∈fN arZ r,K t.k
 |[],arZ,h,_=>h
 |m::r,arZ,h,a=>by rw[we];exact LB r (fN arZ [m]) (aca h (a m HO)) λx c=>a x (OJ _ c)
theorem abq(arZ:bE)(m:cw):fN arZ [m]≠[]:=by
 simp only[fN];cases arZ.getLast? with
 |none=>simp
 |some t=>simp only[];split<;>simp
theorem ada:∀(r arZ:bE),arZ≠[]->fN arZ r≠[]
 |[],arZ,h=>h
 |m::r,arZ,h=>by rw[we];exact ada r _ (abq arZ m)
section
variable[Tok] {u:Fn} {E:cr} {K:Nat->Prop} {b:Nat}
def Ci(u:Fn)(E:cr)(D:Rat->Prop):Prop:=∀c,D c->c≠0->aK u 212 [.agg (E.num c)] (.a9 true)
def z7(E:cr)(K:Nat->Prop):Prop:=∀k,K k->∃n:Nat,n<=8/\∀a:an->aw,bq false (E.di k) a=a (ao n)
theorem AK:(vW:an)=ao 8:=by rw[cX];rfl
theorem Bp:(Gz:an)=ao 60:=by rw[cX];rfl
theorem atx(y:Ci u E D)(A:z7 E K)(j:gx){n:Nat}{as0:Bool}(B:∀m∈ms,D m.U/\m.U≠0)(C:∀m∈ms,K m.k)(hl:ms.length<100000)(F:es.take ms.length=ms.map E.fp)(G:∀d,d=9->q≠b+d)(X:an):
 ∀(e:bE) (N i:Nat) (h:aI),ms.drop i=e->i<=ms.length->h.bh=b+4096->h.aj q= .az s 120 8 es as0->e.length<N->
 ∃h',eY b [9] h h'/\du 4 54 55 56 N (yv u b j) X (.az q s 0 ms.length) (ao ms.length) (ao i) h=j X h':=by
 intro e;induction e with
 |nil=>intro N i h c hi o g p;obtain⟨N,rfl⟩:=cN N;have H:ms.length<=i:=jJ.1 c;refine⟨h,.refl,?_⟩;rw[fj];generalize du 4 54 55 56 N (yv u b j)=j4;rw[yv,bO (a:=(i:Int)) (b:=(ms.length:Int)),bk,a6]
 |cons m e I=>
  intro N i h c H o g p;obtain⟨N,rfl⟩:=cN N;have hi:i<ms.length:=by
   rcases DL i ms.length with h|h
   ·exact h
   ·rw[iL h] at c;cases c
  rw[iK hi] at c;have J:ms[i]=m:=(s5 c).1;have L:ms.drop (i+1)=e:=(s5 c).2;have k:ms[i]? =some m:=by rw[dC hi,J]
  have M:es[i]? =some (E.fp m):=by
   have r:(es.take ms.length)[i]? =some (E.fp m):=by rw[F,O8,k];rfl
   rw[eS] at r;simpa[hi] using r
  obtain⟨ar,h1,w,l,x,O,a4⟩:=zr (b:=b) (d:=9) (t:=120) (h:=h) (z:=fX) (E.eG m) rfl (by omega);obtain⟨P,Q⟩:=B m (On k);obtain⟨n',a5,R⟩:=A m.k (C m (On k));have S:0+0+7<=(E.fp m).length:=by rw[E.eG];omega
  rw[fj,yv,bO (a:=(i:Int)) (b:=(ms.length:Int)),bN,bL,Y4,gu g hi,zE g M (E.eG m),O,a4,bp,bb,aH x,bc (by simpa using E.kk m),
   Xk,R,AK,hH,bk,fZ,bb,aH x,e8 S,show(0:Nat)+0=0 from rfl,E.jV,bg,bm (E.eU _),av,aT (y m.U P Q),hj]
  unfold M5;rw[dO,tF,a6,bK];dsimp only;rw[cK (a:=(i:Int)) (b:=1)];have T:w.aj q= .az s 120 8 es as0:=by rw[l.aj q λd hd=>G d (by simpa using hd)];exact g
  obtain⟨h',W,Z⟩:=I N (i+1) w L (by omega) (by rw[l.bh];exact o) T (by simp at p;omega);exact⟨h',l.trans W,Z⟩
def CZ(a:aw)(b:Nat)(atf:b1)(ql:Nat)(r:an):Prop:=∃c d,a= .ok (.a0 [r,ao 0]) b c d/\(∀k,k≠ql->cE b c k=cE b atf k)/\∀k∈d,k=ql
theorem T7{ob:ej}{e sz:Nat}(c:ob q= .az s e sz es true)(i:n<=es.length)(f:jm):aD ob (.az q s 0 n) f=f (.aQ sz (es.take n)) [(q,.az s e sz es false)]:=by
 have d:aD ob (.az q s 0 n) f=jQ (ob q) λa e sz es as0=>bf (Nat.beq s a) (bf (Nat.ble (Nat.add 0 n) (ea es)) (f (.aQ sz (l3 es 0 n)) (@Bool.rec (λ_=>eH) [] [(q,.az a e sz es false)] as0)) .ax) .ax:=rfl;rw[d,c,qC,wT,cM,gr,ek,pl (by rw[Ct];omega),cM,yk];have g:part es 0 n=es.take n:=by
  simp only[part,dm];cases h:Nat.beq n es.length with
  |true=>rw[dp h];simp
  |false=>simp
 rw[g]
theorem awX{h:aI}{S:List Nat}(t:kc b ql S (ba b atf) h)(I:ql<b)(a:∃s e sz es r,h.aj ql= .az s e sz es r)(J:b<=q)(L:q<b+4096)(w:h.aj q= .az s 120 8 es true)(y:n<=es.length):
 CZ (uG b (.az q s 0 n) aL h) b atf ql (.aQ 8 (es.take n)):=by
 have z:uG b (.az q s 0 n) aL h=aD h.aj (.az q s 0 n) λA s4=>aD h.aj aL λB s6=>dJ b (.a0 [A,B]) (aA s4 (aA s6 [])) h:=rfl;rw[z,T7 w y,bF,b7,av,Pa];obtain⟨ub,a8,d⟩:=h;have M:ub=b+4096:=t.bh;have hd:∀k∈d,k=ql:=λk c=>(t.bQ k c).elim (λh=>by cases h) id;have C:dJ b (.a0 [.aQ 8 (es.take n),ao 0]) [(q,.az s 120 8 es false)] (.mk ub a8 d)=bf (Nat.ble (Nat.succ q) ub) (wR b (.a0 [.aQ 8 (es.take n),ao 0]) ((aI.mk ub a8 d).eW b q (.ae (.az s 120 8 es false)))) .ax:=rfl;have F:(aI.mk ub a8 d).eW b q (.ae (.az s 120 8 es false))= .mk ub (a8.set q (.ae (.az s 120 8 es false))) d:=by show aI.mk ub (a8.set q (.ae (.az s 120 8 es false))) (@Bool.rec (λ_=>List Nat) d (q::d) (Nat.blt q b))=_;rw[oW,bk]
 rw[C,ek,bN,cM,F];obtain⟨i,j,l,asH,p,a⟩:=a;have G:((a8.set q (.ae (.az s 120 8 es false))).get ql).ag= .az i j l asH p:=by rw[b1.zN,cz];have:cE ub a8 ql= .az i j l asH p:=a;rw[ic] at this;exact this
 have H:wR b (.a0 [.aQ 8 (es.take n),ao 0]) (.mk ub (a8.set q (.ae (.az s 120 8 es false))) d)= @Bool.rec (λ_=>aw) (.ok (.a0 [.aQ 8 (es.take n),ao 0]) ub (a8.set q (.ae (.az s 120 8 es false))) d) (.ok (.a0 [.aQ 8 (es.take n),ao 0]) b ((a8.set q (.ae (.az s 120 8 es false))).drop b) d) (kE b (a8.set q (.ae (.az s 120 8 es false))) d):=rfl;rw[H,GL G d hd];refine⟨(a8.set q (.ae (.az s 120 8 es false))).drop b,d,rfl,λk c=>?_,hd⟩;by_cases g:k<b
 ·rw[ic g,b1.rB b _ k g,b1.zN,cz,<-kz atf g,<-t.aj k c (λd _=>by omega)];show _=cE ub a8 k;rw[ic]
 ·rw[jz,jz]
theorem aa2(u:Fn)(a:an)(b:Nat)(atf:b1):v4 u [a] b atf=fD u b 236 [a,dI 237] [] (ba b atf) λ_ c=>bq false a λd=>du 4 12 13 14 1000000 (uX u b (Bg u b)) .aE a d aL c:=by kernel_rfl
theorem mT.imp{S T:Rat->Rat->Prop}(a:∀c d,S c d->T c d):∀(r arZ:bE),mT S arZ r->mT T arZ r
 |[],_,_=>trivial
 |m::r,arZ,h=>by
  simp only[mT] at h ⊢;cases g:arZ.getLast? with
  |none=>rw[g] at h;exact mT.imp a r _ h
  |some t=>
   rw[g] at h;simp only[] at h ⊢;split
   ·rename_i e;rw[y1 e] at h;exact⟨a _ _ h.1,mT.imp a r _ h.2⟩
   ·rename_i e;rw[Ca e] at h;exact mT.imp a r _ h
theorem aBY{ρ:jS}(z:∀m:cw,K m.k->ρ.ai (E.fp m)=m.k)(bx:Ny u 237 ρ)(S:ρ.Y u)(G:∀u,ρ.Y u->n9 u E K)(hd:NS u E 239 D)(hv:Ci u E D)(ha:z7 E K){sl:Nat}(H:ql<b)(T:2048<=ql%4096)(ho:cE b atf ql= .az sl 120 8 (ms.map E.fp) true)
 (hl:ms.length<=39)(cc:ms≠[])(o:∀m∈ms,K m.k)(A:Jt E (ms.map (·.k)))
 (cl:∀g:bE,g.Perm ms->(∀i j,i<j->j<g.length->∀x y,g[i]? =some x->g[j]? =some y->x.k<=y.k)->mT (rd u E) [] g/\∀t∈fN [] g,D t.U):
 ∃g:bE,g.Perm ms/\(∀i j,i<j->j<g.length->∀x y,g[i]? =some x->g[j]? =some y->x.k<=y.k)/\CZ (v4 u [.az ql sl 0 ms.length] b atf) b atf ql (.aQ 8 ((it (fN [] g)).map E.fp)):=by
 have hc:=G u S;have cn:iq u 237 ρ (ms.map E.fp):=by
  refine⟨S,λW X=>?_⟩;rw[v1];refine List.Pairwise.imp_of_mem (λ{m p} l I Z=>?_) (v1.1 A);have a1:=G W X m p (o m l) (o p I) Z;have a2:=G W X p m (o p I) (o m l) (by
   rcases Z with h|h
   ·exact .inl (Ne.symm h)
   ·by_cases e:m.k=p.k
    ·exact .inr (e▸h)
    ·exact .inl (Ne.symm e))
  unfold yP;rw[z m (o m l),z p (o p I)];exact⟨a1,a2⟩
 have hA:=eL.rF H T ho (E.iJ ms) (by rw[ER];omega);obtain⟨asH,r1,cp,cs⟩:=bx hA.sub.1 T hA.sub.2 (E.iJ ms) (by rw[ER];exact hl) cn;obtain⟨h1,t1,t2,t3⟩:=qm (b:=b) r1;obtain⟨g,c0,w⟩:=avA cp ms rfl;subst c0;have J:g.length=ms.length:=w.length_eq;have ar:∀i j,i<j->j<g.length->∀x y,g[i]? =some x->g[j]? =some y->x.k<=y.k:=by
  intro i j c1 gt x y hx a3;have:=cs i j (xW i) c1 (by rw[ER];omega);rw[XO (show(g.map E.fp)[i]? =some (E.fp x) by rw[O8,hx];rfl),XO (show(g.map E.fp)[j]? =some (E.fp y) by rw[O8,a3];rfl),
   z x (o x (w.mem_iff.1 (On hx))),z y (o y (w.mem_iff.1 (On a3)))] at this
  exact this
 obtain⟨c2,a4⟩:=cl g w ar;refine⟨g,w,ar,?_⟩;rw[ER] at t3;rw[aa2,t3,jw,bF,show(ao 0:an)=ao ((0:Nat):Int) from rfl,<-J];have a5:h1.bh=b+4096:=by rw[t1.bh];rfl
 have bd:∀m∈g,K m.k:=λm l=>o m (w.mem_iff.1 l);obtain⟨hb,B,c3,L,c4⟩:=avk (u:=u) (E:=E) (K:=K) (b:=b) hc (Bg u b) (ql:=ql) (sl:=sl) (rl:=true) (ms:=g) H (by omega) bd g 1000000 0 [] .aE h1 rfl (.inl ⟨rfl,rfl⟩) t2 a5 (xW _) (λt M=>by cases M) (by
  refine((w.map _).pairwise_iff (λ{a c} h=>?_)).2 A;rcases h with h|h
  ·exact .inl (Ne.symm h)
  ·by_cases e:a=c
   ·exact .inr (e▸h)
   ·exact .inl (Ne.symm e)) c2 (by omega)
 rw[c4];have c5:g≠[]:=by intro e;subst e;simp at J;exact cc (uw J.symm)
 have dd:fN [] g≠[]:=by
  cases g with
  |nil=>exact absurd rfl c5
  |cons m r=>rw[we];exact ada r _ (abq [] m)
 rcases c3 with⟨_,e⟩|⟨C,rfl,A⟩
 ·simp at e;exact absurd e dd
 have dq:B.bh=b+4096:=by rw[L.bh];exact a5
 have dt:=L1 g [];simp only[Md,Fa] at dt;obtain⟨dz,he⟩:=hd;obtain⟨i,N,ee,em,ew,O⟩:= @dz B.bh B.au (b+2095) C (fN [] g) (by omega) (by rw[aI.vZ];exact A) a4 (by omega);rw[ER];obtain⟨P,F,bs,en,eq⟩:=ao2 (b:=b) ee;have ev:P.bh=b+4096:=by rw[F.bh];exact dq
 rw[Bg,en,jw,Bp,hH,bk,a6,Q6,jw,bF,show(ao 0:an)=ao ((0:Nat):Int) from rfl];have hi:i=(it (fN [] g)).length:=by have:=oT List.length O;rw[jl,ER,em] at this;omega
 subst hi;obtain⟨Q,R,ex⟩:=atx (u:=u) (E:=E) (K:=K) (b:=b) (D:=D) hv ha (λfn ge=>uG b fn (ao ((0:Nat):Int)) ge) (q:=b+2095) (s:=C) (n:=0) (as0:=true) (ms:=it (fN [] g)) (es:=N)
  (λm l=>⟨a4 m (kT.1 l).1,by simpa using(kT.1 l).2⟩) (λm l=>LB g [] (λt M=>by cases M) bd m (kT.1 l).1) (by omega) O (λd hd=>by omega)
  (.az (b+2095) C 0 (it (fN [] g)).length) (it (fN [] g)) 1000000 0 P rfl (xW _) ev bs (by omega)
 rw[ex];have sY:kc b ql [6,2094,2095,9] (ba b atf) Q:=(((kc.nD t1).trans (kc.jv L (by simp))).trans (⟨F.bh,λk hk hd=>F.aj k (hd 2095 (by simp)),λk hk=>?_⟩:kc b ql [6,2094,2095,9] B P)).trans (kc.jv R (by simp))
 ·have gl:Q.aj (b+2095)= .az C 120 8 N true:=by rw[R.aj _ λd hd=>by simp at hd;omega];exact bs
  have go:Q.aj ql= .az sl 120 8 (g.map E.fp) true:=by rw[R.aj ql λd hd=>by simp at hd;omega,F.aj ql (by omega),L.aj ql λd hd=>by simp at hd;omega];exact t2
  have:=awX (b:=b) (atf:=atf) sY H ⟨_,_,_,_,_,go⟩ (by omega) (by omega) gl (show(it (fN [] g)).length<=N.length by omega);rw[O,bF] at this;exact this
 ·exact(eq k hk).imp id λh=>by omega
end
end
section
variable{l:bE} {t:cw}
def cx(l:bE)(k:Nat):Rat:=match l with
 |[]=>0
 |m::r=>(if m.k=k then m.U else 0)+cx r k
theorem qp:∀(a b:bE) (k:Nat),cx (a++b) k=cx a k+cx b k
 |[],b,k=>by simp[cx,gb]
 |m::a,b,k=>by simp only[LH,cx,qp a b k,z6]
theorem alR{a b:bE}(h:a.Perm b)(k:Nat):cx a k=cx b k:=by
 induction h with
 |nil=>rfl
 |cons x _ c=>simp only[cx,c]
 |swap x y l=>simp only[cx,<-z6];rw[mC (if y.k=k then y.U else 0)]
 |trans _ _ d e=>rw[d,e]
theorem Dm{k:Nat}(h:∀m∈l,m.k≠k):cx l k=0:=by
 induction l with
 |nil=>rfl
 |cons m r a=>simp only[cx];rw[Ca (h m HO),a λx c=>h x (OJ _ c),gb]
abbrev lI (l:bE):Prop:=l.Pairwise λx y=>x.k<y.k
structure g7 (l:bE):Prop where
 g0:lI l
 jD:∀m∈l,m.U≠0
theorem m7(h:lI l)(a:t∈l):cx l t.k=t.U:=by
 induction l with
 |nil=>cases a
 |cons m r d=>
  obtain⟨c,e⟩:=ku.1 h;simp only[cx];rcases pG.1 a with rfl|a
  ·rw[y1 rfl,Dm λx g=>by have:=c x g;omega,As]
  ·rw[Ca (by have:=c t a;omega),d e a,gb]
theorem awl{a b c:Rat}(h:a+b=a+c):b=c:=by have:=oT (λz=> -a+z) h;simp only[<-z6,Rat.neg_add_cancel,gb] at this;exact this
theorem M7:∀{l i:bE},g7 l->g7 i->(∀k,cx l k=cx i k)->l=i
 |[],[],_,_,_=>rfl
 |[],m::r,_,h',e=>by have d:=m7 h'.g0 (t:=m) HO;rw[<-e] at d;exact absurd d.symm (h'.jD m HO)
 |m::r,[],h,_,e=>by have d:=m7 h.g0 (t:=m) HO;rw[e] at d;exact absurd d.symm (h.jD m HO)
 |m::r,g::n,h,h',e=>by
  obtain⟨o,p⟩:=ku.1 h.g0;obtain⟨q,w⟩:=ku.1 h'.g0;have d:=m7 h.g0 (t:=m) HO;have j:=m7 h'.g0 (t:=g) HO;have y:m.k=g.k:=by
   rcases sh m.k g.k with c|c|c
   ·rw[e,Dm λx a=>by
     rcases pG.1 a with rfl|a
     ·omega
     ·have:=q x a;omega] at d
    exact absurd d.symm (h.jD m HO)
   ·exact c
   ·rw[<-e,Dm λx a=>by
     rcases pG.1 a with rfl|a
     ·omega
     ·have:=o x a;omega] at j
    exact absurd j.symm (h'.jD g HO)
  have A:m.U=g.U:=by rw[<-d,<-j,y,e]
  have z:m=g:=by cases m;cases g;simp_all
  subst z;have:r=n:=M7 ⟨p,λx a=>h.jD x (OJ _ a)⟩ ⟨w,λx a=>h'.jD x (OJ _ a)⟩ λk=>by have:=e k;simp only[cx] at this;exact awl this
  rw[this]
theorem UX{arZ:bE}(h:arZ.getLast?=some t):arZ=arZ.dropLast++[t]:=by
 rcases Es arZ with rfl|⟨a,x,rfl⟩
 ·simp at h
 ·simp at h;subst h;simp
theorem Vr:∀(r arZ:bE) (k:Nat),cx (fN arZ r) k=cx arZ k+cx r k
 |[],arZ,k=>by simp[fN,cx,As]
 |m::r,arZ,k=>by
  rw[we,Vr r];have e:cx (fN arZ [m]) k=cx arZ k+(if m.k=k then m.U else 0):=by
   simp only[fN];cases d:arZ.getLast? with
   |none=>
    have:arZ=[]:=by cases arZ with|nil=>rfl|cons a b=>simp at d
    subst this;simp only[cx,gb,As]
   |some t=>
    simp only[];have g:=UX d;by_cases c:t.k=m.k
    ·rw[y1 c]
     conv=>rhs;rw[g]
     rw[qp,qp,z6];congr 1;simp only[cx,As];rw[c];split
     ·rfl
     ·rw[gb]
    ·rw[Ca c,qp];simp only[cx,As]
  rw[e,z6];rfl
theorem Zy:∀(r arZ:bE),lI arZ->(r.Pairwise λx y=>x.k<=y.k)->(∀t∈arZ,∀m∈r,t.k<=m.k)->lI (fN arZ r)
 |[],arZ,h,_,_=>h
 |m::r,arZ,h,p,g=>by
  obtain⟨q,w⟩:=ku.1 p;rw[we];have k:lI (fN arZ [m])/\∀t∈fN arZ [m],t.k<=m.k:=by
   simp only[fN];cases n:arZ.getLast? with
   |none=>exact⟨s7 _ _,λt d=>by simp at d;subst d;exact sm _⟩
   |some t=>
    simp only[];have i:=UX n;rw[i] at h;obtain⟨z,B,o⟩:=pZ.1 h;have d:t∈arZ:=List.mem_of_getLast? n;by_cases j:t.k=m.k
    ·rw[y1 j];refine⟨pZ.2 ⟨z,s7 _ _,λa c b e=>?_⟩,λa c=>?_⟩
     ·simp at e;subst e;exact o a c t (by simp)
     ·rcases Ic.1 c with c|c
      ·exact g a (List.dropLast_subset _ c) m HO
      ·simp at c;subst c;exact Nat.le_of_eq j
    ·rw[Ca j];have C:=g t d m HO;refine⟨pZ.2 ⟨by rw[i];exact h,s7 _ _,λa c b e=>?_⟩,λa c=>?_⟩
     ·simp at e;subst e;rw[i] at c;rcases Ic.1 c with c|c
      ·have:=o a c t (by simp);omega
      ·simp at c;subst c;omega
     ·rcases Ic.1 c with c|c
      ·exact g a c m HO
      ·simp at c;subst c;exact sm _
  exact Zy r _ k.1 w λt d x A=>y4 (k.2 t d) (q x A)
theorem Ly:∀(l:bE) (k:Nat),cx (it l) k=cx l k
 |[],_=>rfl
 |m::r,k=>by
  by_cases h:m.U=0
  ·have e:it (m::r)=it r:=by simp[it,h]
   rw[e,Ly r];simp only[cx,h];split<;>rw[gb]
  ·have e:it (m::r)=m::it r:=by simp[it,h]
   rw[e];simp only[cx,Ly r]
def lN(l:bE):Rat:=match l with
 |[]=>0
 |m::r=>m.U+lN r
theorem abX:∀(a b:bE),lN (a++b)=lN a+lN b
 |[],b=>by simp[lN,gb]
 |m::a,b=>by simp only[LH,lN,abX a b,z6]
theorem Iy{S:Rat->Rat->Prop}{ms:bE}(H:∀l m h,(l++m::h).Perm ms->l≠[]->(∀x∈l,x.k=m.k)->S (lN l) m.U):∀(h arZ pre:bE),(pre++h).Perm ms->
 (∀t,arZ.getLast?=some t->∃e g,pre=e++g/\g≠[]/\(∀x∈g,x.k=t.k)/\t.U=lN g)->mT S arZ h
 |[],_,_,_,_=>trivial
 |m::r,arZ,pre,j,q=>by
  simp only[mT];have i:(pre++[m]++r).Perm ms:=by rw[dD];exact j
  cases w:arZ.getLast? with
  |none=>exact Iy H r [m] (pre++[m]) i λt d=>⟨pre,[m],rfl,by simp,λx c=>by simp at c d;rw[c,<-d],by simp at d;rw[<-d];simp[lN,As]⟩
  |some t=>
   simp only[];obtain⟨e,g,k,y,n,o⟩:=q t w;split
   ·rename_i p;refine⟨?_,Iy H r _ (pre++[m]) i λz d=>?_⟩
    ·rw[o];refine H g m (e++r) ?_ y λx c=>(n x c).trans p;refine List.Perm.trans ?_ j;rw[k];have A:(g++m::(e++r)).Perm ((e++g)++(m::r)):=by
      rw[dD];refine(List.Perm.append_left g ?_:(g++m::(e++r)).Perm (g++(e++m::r))).trans ?_
      ·exact(vc (l₁:=e) (l₂:=r) (a:=m)).symm
      ·rw[<-dD,<-dD];exact List.Perm.append_right _ List.perm_append_comm
     exact A
    ·simp at d;subst d;refine⟨e,g++[m],by rw[k];simp,by simp,λx c=>?_,?_⟩
     ·rcases Ic.1 c with c|c
      ·exact n x c
      ·simp at c;rw[c];exact p.symm
     ·show t.U+m.U=_;rw[abX,o];simp[lN,As]
   ·refine Iy H r _ (pre++[m]) i λz d=>⟨pre,[m],rfl,by simp,λx c=>?_,?_⟩
    ·simp at c d;rw[c,<-d]
    ·simp at d;rw[<-d];simp[lN,As]
theorem azR(h:∀i j,i<j->j<l.length->∀x y,l[i]? =some x->l[j]? =some y->x.k<=y.k):l.Pairwise λx y=>x.k<=y.k:=by rw[zJ];intro i j hi a c;exact h i j c a _ _ (dC hi) (dC a)
section
variable[Tok] {u:Fn} {E:cr} {K:Nat->Prop} {b:Nat}
theorem agE{ρ:jS}{D:Rat->Prop}(B:∀m:cw,K m.k->ρ.ai (E.fp m)=m.k)(g:Ny u 237 ρ)(C:ρ.Y u)(F:∀u,ρ.Y u->n9 u E K)(hd:NS u E 239 D)(G:Ci u E D)(I:z7 E K){atf:b1}{ql sl:Nat}{ms:bE}(J:ql<b)(L:2048<=ql%4096)(M:cE b atf ql= .az sl 120 8 (ms.map E.fp) true)
 (N:ms.length<=39)(O:ms≠[])(p:∀m∈ms,K m.k)(H:∀l m n,(l++m::n).Perm ms->l≠[]->(∀x∈l,x.k=m.k)->rd u E (lN l) m.U/\E.s m.k)(P:∀k,D (cx ms k)):
 ∃r:bE,g7 r/\(∀k,cx r k=cx ms k)/\(∀m∈r,K m.k)/\r.length<=ms.length/\CZ (v4 u [.az ql sl 0 ms.length] b atf) b atf ql (.aQ 8 (r.map E.fp)):=by
 have q:∀a:bE,a.Perm ms->(∀i j,i<j->j<a.length->∀x y,a[i]? =some x->a[j]? =some y->x.k<=y.k)->lI (fN [] a):=λa c g=>Zy a [] List.Pairwise.nil (azR g) λt d=>by cases d
 have w:∀a:bE,a.Perm ms->∀k,cx (fN [] a) k=cx ms k:=λa c k=>by rw[Vr,alR c];simp[cx,gb]
 have Q:Jt E (ms.map (·.k)):=by
  unfold Jt;rw[v1,zJ];intro i j hi R ar;by_cases e:ms[i].k=ms[j].k
  ·right;have hd:ms=(ms.take i++ms[i]::((ms.take j).drop (i+1)))++ms[j]::ms.drop (j+1):=by
    rw[<-iK R];have S:ms.take i++ms[i]::((ms.take j).drop (i+1))=ms.take j:=by
     have z:(ms.take j)[i]'(by simp;omega)=ms[i]:=by simp
     rw[<-z,<-iK (by simp;omega)];have A:ms.take i=(ms.take j).take i:=by rw[List.take_take,Nat.min_eq_left (by omega)]
     rw[A,Bx]
    rw[S,Bx]
   have c:([ms[i]]++ms[j]::(ms.take i++(ms.take j).drop (i+1)++ms.drop (j+1))).Perm ms:=by
    conv=>rhs;rw[hd]
    refine List.Perm.symm ?_;refine(vc).trans ?_;refine(List.Perm.cons _ (List.Perm.append_right _ vc)).trans ?_;simp only[LH,Pt];exact List.Perm.swap _ _ _
   have:=(H [ms[i]] ms[j] _ c (by simp) (by simpa using e)).2;rw[e];exact this
  ·exact .inl e
 obtain⟨a,h,T,W⟩:=aBY (u:=u) (E:=E) (K:=K) (b:=b) (ρ:=ρ) (D:=D) B g C F hd G I J L M N O p Q λa c g=>
  ⟨Iy (λl m n dB cT n2=>(H l m n dB cT n2).1) a [] [] c λt d=>by simp at d,λt d=>by rw[<-m7 (q a c g) d,w a c];exact P _⟩
 refine⟨it (fN [] a),⟨(q a h T).sublist List.filter_sublist,λm o=>by simpa using(kT.1 o).2⟩,λk=>by rw[Ly,w a h],λm o=>?_,?_,W⟩
 ·exact LB a [] (λt d=>by cases d) (λx X=>p x (h.mem_iff.1 X)) m (kT.1 o).1
 ·have Z:=L1 a [];have z:(it (fN [] a)).length<=(fN [] a).length:=List.length_filter_le ..;have A:=h.length_eq;simp only[Md,Fa] at Z;omega
end
end
section
variable{sz e q s d bytes:Nat} {v y:an} {es:aY} {h:aI} {atf:b1} {wk:Option (List Nat)} {as0:Bool}
section
variable[Tok] {u:Fn} {b:Nat}
def dw(sz:Nat)(v:an)(es:aY):Prop:=(v= .aE/\es=[])\/v= .aQ sz es
theorem dw.len(h:dw sz v es)(k:an->aw):bq false v k=k (ao es.length):=by
 rcases h with⟨rfl,rfl⟩|rfl
 ·exact hy k
 ·exact eA _ _ k
theorem dw.iZ(h:dw sz v es)(ob:ej)(f:aY->aw):ke ob sz v f=f es:=by
 rcases h with⟨rfl,rfl⟩|rfl
 ·rfl
 ·exact QH _ _ _ f
theorem dw.dU(h:dw sz v es)(ob:ej)(f:jm):aD ob v f=f v []:=by rcases h with⟨rfl,rfl⟩|rfl<;>rfl
theorem dw.met(h:dw sz v es)(b:Nat)(rk:List Nat):jP b rk v=true:=by rcases h with⟨rfl,rfl⟩|rfl<;>rfl
def q7(a:aw)(b:Nat)(atf:b1)(e sz len:Nat)(es:aY):Prop:=
 ∃c g q s,a= .ok (.az q s 0 len) c g []/\b<=q/\q<c/\2048<=q%4096/\c%4096=0/\b<=c/\cE c g q= .az s e sz es true/\∀k,k<b->cE c g k=cE b atf k
theorem F7{f:Nat}{c:aB}{len:Nat}(H:q7 (u f c h.bh h.au) h.bh h.au e sz len es):
 ∃h' q s,h.bh<=q/\q<h'.bh/\2048<=q%4096/\h'.bh%4096=0/\h.bh<=h'.bh/\h'.aj q= .az s e sz es true/\(∀k,k<h.bh->h'.aj k=h.aj k)/\h'.bQ=h.bQ/\∀k:dg,fD u b f c [] h k=k (.az q s 0 len) h':=by
 obtain⟨a,g,q,s,j,l,n,o,p,i,r,t⟩:=H;obtain⟨ub,a8,dd⟩:=h;have w:u f c ub a8= .ok (.az q s 0 len) a g []:=j;refine⟨.mk a g dd,q,s,l,n,o,p,i,r,λk x=>t k x,rfl,λk=>?_⟩;have zI:fD u b f c [] (.mk ub a8 dd) k=jT b ub dd k (u f c ub a8):=rfl;rw[zI,w];have z:jT b ub dd k (.ok (.az q s 0 len) a g [])=bf (Nat.ble ub a) (k (.az q s 0 len) (.mk a g dd)) .ax:=rfl;have A:ub<=a:=i;rw[z,ek,pl A,cM]
theorem Jc{len:Nat}(c:b<=q)(a:q<h.bh)(g:2048<=q%4096)(i:h.bh%4096=0)(j:b<=h.bh)(l:h.aj q= .az s e sz es true)(hd:h.bQ=[])(n:∀k,k<b->h.aj k=cE b atf k):
 q7 (mH b [.az q s 0 len] [] h) b atf e sz len es:=by
 obtain⟨ub,a8,d⟩:=h;have o:d=[]:=hd;subst o;have p:mH b [.az q s 0 len] [] (.mk ub a8 [])= @Bool.rec (λ_=>aw) (bf (Nat.ble (Nat.succ q) ub) (.ok (.az q s 0 len) ub a8 []) .ax) (.ok (.az q s 0 len) b (a8.drop b) []) (cS (Nat.ble (Nat.succ q) b) true):=rfl;have r:q<ub:=a;rw[p,ek (Nat.succ q) b,bk,ek,bN];exact⟨ub,a8,q,s,rfl,c,a,g,i,j,l,n⟩
theorem yR(c:b<=h.bh)(hd:h.bQ=[])(g:∀k,k<b->h.aj k=cE b atf k):gD (mH b [.aE] [] h) b atf .aE:=by
 obtain⟨ub,a8,d⟩:=h;have i:d=[]:=hd;subst i;have j:mH b [.aE] [] (.mk ub a8 [])= .ok .aE b (a8.drop b) []:=rfl;refine⟨a8.drop b,j,λk=>?_⟩;by_cases a:k<b
 ·have l:b<=ub:=c;rw[ic a,b1.rB b a8 k a,<-g k a];show _=cE ub a8 k;rw[ic]
 ·rw[jz,jz]
theorem Kd:vo .aE=some (ao 0):=by rw[cX];rfl
theorem aaP(ob:ej)(sz:Nat)(k:an->aw):k7 ob sz .aE none (some (ao 0)) k=k .aE:=by have e:k7 ob sz .aE none (some (ao 0)) k=jY 0 none λa=>jY 0 (some (ao 0)) λb=>bf (Nat.beq a 0) (bf (Nat.beq b 0) (k .aE) .ax) .ax:=rfl;rw[e,uH,show(ao 0:an)=ao ((0:Nat):Int) from rfl,uW];rfl
theorem SI{n:Nat}{z:aB}(j:0<n)(a:n*bytes<=1099511627776)(c:n<=1099511627776)(hd:b+d<h.bh):
 ∃s h',eY b [d] h h'/\h'.aj (b+d)= .az s e sz (List.replicate n z) true/\∀k:dg,i3 b none (ua (Nat.add b d) e sz bytes (h.aj (Nat.add b d)).cd z .aE (ao n) true) h k=k (.az (b+d) s 0 n) h':=by
 refine⟨Nat.add (h.aj (b+d)).cd 1,_,eY.eW (o:= .ae (.az (Nat.add (h.aj (b+d)).cd 1) e sz (List.replicate n z) true)) hd,kB hd,λk=>?_⟩;have g:Nat.sub ((n:Int)+18446744073709551616).toNat 18446744073709551616=n:=by rw[cY];omega
 have i:ua (Nat.add b d) e sz bytes (h.aj (Nat.add b d)).cd z .aE (ao n) true=some (.az (b+d) (Nat.add (h.aj (b+d)).cd 1) 0 n,[(b+d,.az (Nat.add (h.aj (b+d)).cd 1) e sz (List.replicate n z) true)]):=by rw[cX];simp only[ua,g];rw[ek,bN,ek,pl (by rw[hW];exact a),ek,pl c];rfl
 rw[i,zm (gs b _) hd]
theorem sG{len:Nat}{ys:aY}(j:h.aj q= .az s e sz es true)(l:len<=es.length)(p:∀f:aY->aw,ke h.aj sz y f=f ys)
 (t:∀o,gO b wk [(q,o)]=true)(a:q<h.bh)(w:(len+ys.length)*bytes<=1099511627776)(x:len+ys.length<=1099511627776):
 ∃g h',g6 q h h'/\(b<=q->h'.bQ=h.bQ)/\h'.aj q= .az g e sz (es.take len++ys) true/\∀k:dg,eC b d wk e sz bytes (.az q s 0 len) y as0 h k=k (.az q g 0 (len+ys.length)) h':=by
 have z:∀k:dg,eC b d wk e sz bytes (.az q s 0 len) y as0 h k=ke h.aj sz y λys=>lG ys λys=>eF (ea ys) λn=>
  bf (Nat.beq 0 0) (wm (h.Bo q) λA B C rs r=>bf (Nat.beq s A) (bf (Nat.beq B e) (bf (Nat.beq C sz)
   (@Bool.rec (λ_=>aw) (bf r (bf (Nat.ble len (ea rs)) (lB b wk bytes q s e sz (lK (Nat.sub (ea rs) len) rs) n ys r len h k) .ax) .ax) (lB b wk bytes q s e sz rs n ys r len h k) (Nat.beq len (ea rs))) .ax) .ax) .ax) .ax:=λ_=>rfl
 refine⟨Nat.add s 1,h.eW b q (.kr (Nat.add s 1) e sz (ys.reverse++(es.take len).reverse) true),g6.eW a,λE=>?_,?_,λk=>?_⟩
 ·obtain⟨ub,a8,dd⟩:=h;show @Bool.rec (λ_=>List Nat) dd (q::dd) (Nat.blt q b)=dd;rw[oW,bk]
 ·rw[kB a];show dM.az _ _ _ (nx (ys.reverse++(es.take len).reverse)) _=_;rw[qL,oc,o2,o2]
 ·have i:∀rs:aY,rs=(es.take len).reverse->lB b wk bytes q s e sz rs ys.length ys true len h k=k (.az q (Nat.add s 1) 0 (len+ys.length)) (h.eW b q (.kr (Nat.add s 1) e sz (ys.reverse++(es.take len).reverse) true)):=by intro rs D;subst D;unfold lB;rw[fd,ek,pl (by rw[hW,Ct];exact w),cM,ek,pl (by rw[Ct];exact x),cM,fd,sf,td (t _) a];rfl
  rw[z,p,lu,fd,gr,wT,cM,NN (by rw[aI.Hb];exact j),wT,cM,wT,cM,wT,cM,gr,oM,K6];by_cases c:len=es.length
  ·rw[pl c];exact i _ (by rw[c,nG])
  ·rw[GG c];show bf true (bf (Nat.ble len es.length) (lB b wk bytes q s e sz (lK (Nat.sub es.length len) es.reverse) ys.length ys true len h k) .ax) .ax=_;rw[cM,ek,pl l,cM];refine i _ ?_;rw[tB,cY,List.drop_reverse];congr 2;omega
theorem Ik(a:∀f:aY->aw,ke h.aj sz y f=f [])(c:gO b wk []=true)(k:dg):eC b d wk e sz bytes .aE y as0 h k=k .aE h:=by
 have g:eC b d wk e sz bytes .aE y as0 h k=ke h.aj sz y λys=>lG ys λys=>eF (ea ys) λn=>
  (bf (Nat.ble (Nat.mul n bytes) 1099511627776) (bf (Nat.ble n 1099511627776)
   (@List.rec aB (λ_=>aw) (lk b wk [] h λh'=>k .aE h') (λ_ _ _=>eF (Nat.add b d) λq=>eF (Nat.add (iH (h.aj q)) 1) λaM=>nQ ys [] λrs=>ky b wk q (.kr aM e sz rs as0) h λh'=>k (.az q aM 0 n) h') ys) .ax) .ax):=rfl
 rw[g,a,lu,fd,gr];show bf (Nat.ble (Nat.mul 0 bytes) 1099511627776) (bf (Nat.ble 0 1099511627776) (lk b wk [] h λh'=>k .aE h') .ax) .ax=_;rw[ek,pl (by rw[hW];omega),cM,ek,bN,cM];unfold lk;rw[c,cM];rfl
end
end
section
variable{atf:b1}
section
variable[Tok] {u:Fn} {b:Nat}
theorem ake{n:Nat}(o:b%4096=0)(p:n<100000):(n=0/\gD (zP u [.aE,ao n] b atf) b atf .aE)\/(0<n/\∃es,q7 (zP u [.aE,ao n] b atf) b atf 56 11 0 es):=by
 have q:(ba b atf).bh=b+4096:=rfl;rw[zP,dE,YE,bF,bO,bk,a6,Xz,Kd,tH,hy,e1 (a:=0) (b:=0),show(0:Int)-0=0 from rfl,e1 (a:=(n:Int)) (b:=0),Int.sub_zero,bF,hH];by_cases c:0<n
 ·rw[bN,bL,aag,Kd,tH,aaP];obtain⟨s,h',g,j,l⟩:=SI (b:=b) (d:=2070) (e:=56) (sz:=11) (bytes:=176) (z:=ca) (h:=ba b atf) c (by omega) (by omega) (by omega);rw[l,hy,show(ao 0:an)=ao ((0:Nat):Int) from rfl,G9 j (λf=>uH 0 f) (λf=>uW n 0 f) (sm 0) (xW n),kM];have r:h'.bh=b+4096:=by rw[g.bh];rfl
  exact .inr ⟨c,_,Jc (by omega) (by omega) (by omega) (by omega) (by omega) j (by rw[g.bQ];rfl) λk i=>by rw[g.aj k λd hd=>by omega];exact kz atf i⟩
 ·rw[bk,a6];exact .inl ⟨by omega,yR (by omega) rfl λk i=>kz atf i⟩
def abi(u:Fn):Prop:=∀{b:Nat} {atf:b1} {n:Nat},b%4096=0->n<100000->(n=0/\gD (u 231 [.aE,ao n] b atf) b atf .aE)\/(0<n/\∃es,q7 (u 231 [.aE,ao n] b atf) b atf 56 11 0 es)
theorem ar4(u:Fn)(a:an)(b:Nat)(atf:b1):xQ u [a] b atf=bq false a λc=>fs 0 3 9 10 11 1000000 (BC u b (IU u b)) a aL a c aL (ba b atf):=by kernel_rfl
theorem ayq(G:abi u){p q:an}{es g:aY}(hb:b%4096=0)(j:dw 11 p es)(l:dw 11 q g)(h1:es.length+g.length<=1000):
 (es++g=[]/\gD (xQ u [.aQ 1 [[p],[q]]] b atf) b atf .aE)\/(es++g≠[]/\q7 (xQ u [.aQ 1 [[p],[q]]] b atf) b atf 56 11 (es++g).length (es++g)):=by
 have ar:(ba b atf).bh=b+4096:=rfl;have eO:([[p],[q]]:aY)[0]? =some [p]:=rfl;have dB:([[p],[q]]:aY)[1]? =some [q]:=rfl;have n:∀ob:Nat->dM,∀k:an->aw,cb ob 1 (.aQ 1 [[p],[q]]) (ao 0) k=k (.ep [p] 0):=λob k=>eE (i:=0) eO k;have r:∀ob:Nat->dM,∀k:an->aw,cb ob 1 (.aQ 1 [[p],[q]]) (ao 1) k=k (.ep [q] 0):=λob k=>eE (i:=1) dB k;have t:∀ob:Nat->dM,∀k:an->aw,aW ob false 1 (.ep [p] 0) k=k p:=λob k=>by rw[ch,bc]
 have w:∀ob:Nat->dM,∀k:an->aw,aW ob false 1 (.ep [q] 0) k=k q:=λob k=>by rw[ch,bc]
 have x:∀k:an->aw,bq false (.aQ 1 [[p],[q]]) k=k (ao 2):=λk=>eA _ _ k;have head:xQ u [.aQ 1 [[p],[q]]] b atf=IU u b (.aQ 1 [[p],[q]]) (ao ((es.length+g.length:Nat):Int)) (ba b atf):=by
  rw[ar4,x,bF,show(1000000:Nat)=999997+1+1+1 from rfl,gI,BC,bO (a:=0) (b:=2),bN,bL,Wu,n,t,j.len,cK (a:=0) (b:=(es.length:Int)),bF,bO,bk,a6,bK,cK (a:=0) (b:=1),show(0:Int)+1=1 from rfl,
   gI,BC,bO (a:=1) (b:=2),bN,bL,Wu,r,w,l.len,cK (a:=0+(es.length:Int)) (b:=(g.length:Int)),bF,bO,bk,a6,bK,cK (a:=1) (b:=1),show(1:Int)+1=2 from rfl,
   gI,BC,bO (a:=2) (b:=2),bk,a6,show(0:Int)+(es.length:Int)+(g.length:Int)=((es.length+g.length:Nat):Int) by omega]
 rw[head,IU,b7,av];have h:= @G (ba b atf).bh (ba b atf).au (es.length+g.length) (by omega) (by omega);rcases h with⟨c,h⟩|⟨c,H,h⟩
 ·obtain⟨B,z,I⟩:=my (b:=b) h;have J:es=[]:=uw (by omega);have bG:g=[]:=uw (by omega);subst J bG;rw[I,x,bF,show(1000000:Nat)=999997+1+1+1 from rfl,fj,xL,bO (a:=0) (b:=2),bN,bL,B4,n,t,Ik (λf=>j.iZ _ f) rfl,bK,cK (a:=0) (b:=1),show(0:Int)+1=1 from rfl,
   fj,xL,bO (a:=1) (b:=2),bN,bL,B4,r,w,Ik (λf=>l.iZ _ f) rfl,bK,cK (a:=1) (b:=1),show(1:Int)+1=2 from rfl,
   fj,xL,bO (a:=2) (b:=2),bk,a6]
  exact .inl ⟨rfl,yR (by rw[z.bh];omega) (by rw[z.bQ];rfl) λk A=>by rw[z.aj k λd hd=>by cases hd];exact kz atf A⟩
 ·obtain⟨B,C,s,a3,D,K,a4,a5,L,M,N,O⟩:=F7 (b:=b) h;have P:es++g≠[]:=by intro e;have:=oT List.length e;rw[OD,Md] at this;omega
  have E:∀o,gO b none [(C,o)]=true:=λo=>gs b _;obtain⟨s2,Q,t1,t2,t3,t4⟩:=sG (b:=b) (d:=2081) (wk:=none) (as0:=true) (bytes:=176) (y:=p) (ys:=es) (len:=0) L (xW _) (λf=>j.iZ _ f) E D (by omega) (by omega);have R:H.take 0++es=es:=by simp
  rw[R] at t3;have S:C<Q.bh:=by rw[t1.bh];exact D
  obtain⟨s3,T,F,W,ew,X⟩:=sG (b:=b) (d:=2081) (wk:=none) (as0:=true) (bytes:=176) (y:=q) (ys:=g) (len:=0+es.length) t3 (by omega) (λf=>l.iZ _ f) E S (by omega) (by omega);have Z:es.take (0+es.length)++g=es++g:=by simp
  rw[Z] at ew;rw[O,x,bF,show(1000000:Nat)=999997+1+1+1 from rfl,fj,xL,bO (a:=0) (b:=2),bN,bL,B4,n,t,t4,bK,cK (a:=0) (b:=1),show(0:Int)+1=1 from rfl,
   fj,xL,bO (a:=1) (b:=2),bN,bL,B4,r,w,X,bK,cK (a:=1) (b:=1),show(1:Int)+1=2 from rfl,
   fj,xL,bO (a:=2) (b:=2),bk,a6,show 0+es.length+g.length=(es++g).length by simp]
  have bd:T.bh=B.bh:=by rw[F.bh,t1.bh]
  refine .inr ⟨P,Jc (by omega) (by omega) K (by omega) (by omega) ew (by rw[W (by omega),t2 (by omega),N];rfl) λk A=>?_⟩;rw[F.aj k (by omega),t1.aj k (by omega),M k (by omega)];exact kz atf A
def Ft(u:Fn):Prop:=∀{b:Nat} {atf:b1} {p q:an} {es a:aY},b%4096=0->dw 11 p es->dw 11 q a->es.length+a.length<=1000->
 (es++a=[]/\gD (u 181 [.aQ 1 [[p],[q]]] b atf) b atf .aE)\/(es++a≠[]/\q7 (u 181 [.aQ 1 [[p],[q]]] b atf) b atf 56 11 (es++a).length (es++a))
end
end
end Go.Hf

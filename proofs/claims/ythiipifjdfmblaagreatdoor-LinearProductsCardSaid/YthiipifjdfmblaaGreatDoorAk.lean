import Derived.Test.YthiipifjdfmblaaGreatDoorAj
set_option linter.all false
set_option maxRecDepth 100000
namespace Go.Hf
open Go.RowKit
section
variable{u:Fn} {b f q s e mid en B D a aM m:Nat} {ρ:jS} {es:aY} {h:aI}
section
variable[Tok]
theorem agF(g:zS u f ρ D)(c:eL b h q s e 8 es)(i:iq u f ρ es)(j:B<=es.length)(n:mid<=en)(o:en<=B)(k:B-mid<=D)(s1:fR ρ.ai es mid en)(s2:fR ρ.ai es en B):
 ∃aEK h',eL b h' q s e 8 aEK/\g6 q h h'/\na es aEK mid B/\fR ρ.ai aEK mid B/\Cy u b (.az q s 0 es.length) (ao B) (dI f) (ao mid) (ao en) h=qu b h':=by
 have p:=c.le;rw[Cy,bO (a:=(mid:Int)) (b:=(en:Int))];by_cases c1:mid<en
 ·rw[bN,fi,bO (a:=(en:Int)) (b:=(B:Int))];unfold JM;rw[dR];by_cases c2:en<B
  ·rw[bN,bL];unfold YG;obtain⟨aEK,r1,d,l⟩:=g (a:=mid) (m:=en) (B:=B) c.sub.1 c.ld c.sub.2 c.iJ c.le i k c1 c2 j s1 s2;obtain⟨h',t1,t2,t3⟩:=qm (b:=b) r1;simp only[b7,lY,av,t3];exact⟨aEK,h',c.nD t1 t2 (c.iJ.mW d.mW) d.len,t1,d,l,rfl⟩
  ·rw[bk,a6];have:en=B:=by omega
   subst this;exact⟨es,h,c,.refl,.refl,s1,rfl⟩
 ·rw[bk,iE];unfold JM;rw[dO,show(bG:an)= .F false from rfl,a6];have:en=mid:=by omega
  subst this;exact⟨es,h,c,.refl,.refl,s2,rfl⟩
theorem aDE(t:zS u f ρ D)(c:eL b h q s e 8 es)(w:iq u f ρ es)(A:B<=es.length)(X:a<=aM)(Z:aM<=mid)(C:mid<=en)(E:en<=B)(G:B-mid<=D)(H:mid-a<=D)
 (s1:fR ρ.ai es a aM)(s2:fR ρ.ai es aM mid)(s3:fR ρ.ai es mid en)(s4:fR ρ.ai es en B)(x:∀x y,a<=x->x<mid->mid<=y->y<B->ρ.ai (el es x)<=ρ.ai (el es y)):
 ∃aEK h',eL b h' q s e 8 aEK/\g6 q h h'/\na es aEK a B/\fR ρ.ai aEK a B/\Cx u b (.az q s 0 es.length) (ao a) (ao B) (dI f) (ao mid) (ao aM) (ao en) h=qu b h':=by
 have a1:=c.le;have l:∀(g:aY) (k:aI),eL b k q s e 8 g->g6 q h k->na es g a mid->fR ρ.ai g a mid->
  ∃aEK h',eL b h' q s e 8 aEK/\g6 q h h'/\na es aEK a B/\fR ρ.ai aEK a B/\Cy u b (.az q s 0 es.length) (ao B) (dI f) (ao mid) (ao en) k=qu b h':=by
  intro g k a2 I d J;have K:fR ρ.ai g mid en:=λi j n o p=>by rw[d.kH i (by omega),d.kH j (by omega)];exact s3 i j n o p
  have L:fR ρ.ai g en B:=λi j n o p=>by rw[d.kH i (by omega),d.kH j (by omega)];exact s4 i j n o p
  obtain⟨M,N,O,P,Q,R,z⟩:=agF t a2 (w.mono d.mW) (by rw[d.len];exact A) C E G K L;obtain⟨S,T⟩:=agX ρ.ai (by omega) (by omega) x d J Q R;rw[d.len] at z;exact⟨M,N,O,I.trans P,S,T,z⟩
 rw[Cx,bO (a:=(a:Int)) (b:=(aM:Int))];by_cases c1:a<aM
 ·rw[bN,fi,bO (a:=(aM:Int)) (b:=(mid:Int))];unfold HC;rw[dR];by_cases c2:aM<mid
  ·rw[bN,bL];unfold abQ;obtain⟨aEK,r1,r,W⟩:=t (a:=a) (m:=aM) (B:=mid) c.sub.1 c.ld c.sub.2 c.iJ c.le w H c1 c2 (by omega) s1 s2;obtain⟨h',t1,t2,t3⟩:=qm (b:=b) r1;simp only[b7,lY,av,t3];exact l aEK h' (c.nD t1 t2 (c.iJ.mW r.mW) r.len) t1 r W
  ·rw[bk,a6];have:aM=mid:=by omega
   subst this;exact l es h c .refl .refl s1
 ·rw[bk,iE];unfold HC;rw[dO,show(bG:an)= .F false from rfl,a6];have:aM=a:=by omega
  subst this;exact l es h c .refl .refl s2
theorem aCW{n:Nat}(z:Qt u f)(C:zS u f ρ D)(d:eL b h q s e 8 es)(E:iq u f ρ es)(w:B<=es.length)(bs:a<=mid)(bx:mid<=B)(G:aM<=mid)(x:mid<=n-aM)(hn:n=mid+m)
 (c:KF ρ.ai es a m B mid aM (n-aM))(H:B-mid<=D)(I:mid-a<=D)(J:fR ρ.ai es a m)(K:fR ρ.ai es m B):
 ∃aEK h',eL b h' q s e 8 aEK/\g6 q h h'/\na es aEK a B/\fR ρ.ai aEK a B/\Ha u b (.az q s 0 es.length) (ao a) (ao m) (ao B) (dI f) (ao mid) (ao n) (ao aM) h=qu b h':=by
 have cc:=d.le;generalize cl:n-aM=en at c x;have L:=c;obtain⟨M,h2,h3,N,h5,k1,k2⟩:=c;have p:∀(l:aY) (o:aI),eL b o q s e 8 l->g6 q h o->l.Perm es->(∀k,el l k=if aM<=k/\k<mid then el es (k+(m-aM)) else if mid<=k/\k<en then el es (k-(en-m)) else el es k)->
  ∃aEK h',eL b h' q s e 8 aEK/\g6 q h h'/\na es aEK a B/\fR ρ.ai aEK a B/\Cx u b (.az q s 0 es.length) (ao a) (ao B) (dI f) (ao mid) (ao aM) (ao en) o=qu b h':=by
  intro l o a1 O g P;have r:=anI ρ.ai L w J K g P;obtain⟨Q,R,a2,S,t,T,y⟩:=aDE C a1 (E.mono g) (by rw[g.length_eq];exact w) M G x N H I r.cQ r.cL r.cF r.ed r.ae;rw[g.length_eq] at y;refine⟨Q,R,a2,O.trans S,⟨t.mW.trans g,λi hi=>by rw[t.kH i hi,r.kH i hi],λi W X=>?_⟩,T,y⟩;obtain⟨j,Z,j2,j3⟩:=t.xy i W X;obtain⟨j',a3,a4,a5⟩:=r.xy j Z j2;exact⟨j',a3,a4,j3.trans a5⟩
 rw[Ha,e1 (a:=(n:Int)) (b:=(aM:Int)),show(n:Int)-(aM:Int)=(en:Int) by omega,bO (a:=(aM:Int)) (b:=(m:Int))];by_cases c1:aM<m
 ·rw[bN,fi,bO (a:=(m:Int)) (b:=(en:Int))];unfold HM;rw[dR];by_cases c2:m<en
  ·rw[bN,bL];unfold abl;have r1:=z (A:=aM) (m:=m) (B:=en) d.sub.1 d.ld d.sub.2 d.iJ d.le c1 c2 (by omega);obtain⟨h',t1,t2,t3⟩:=qm (b:=b) r1;simp only[b7,lY,av,t3];have g:=My m (en-aM) (m-aM) (en-m) es (by omega) (by omega);refine p _ h' (d.nD t1 t2 (d.iJ.mW g) g.length_eq) t1 g λk=>?_;rw[Mb m (en-aM) (m-aM) (en-m) es (by omega) (by omega) (by omega) (by omega) (by omega) k]
   (repeat' split)<;>first|rfl|(exfalso;omega)|(congr 1;omega)
  ·rw[bk,a6];refine p es h d .refl (pG es) λk=>?_
   (repeat' split)<;>first|rfl|(exfalso;omega)|(congr 1;omega)
 ·rw[bk,iE];unfold HM;rw[dO,show(bG:an)= .F false from rfl,a6];refine p es h d .refl (pG es) λk=>?_
  (repeat' split)<;>first|rfl|(exfalso;omega)|(congr 1;omega)
theorem auI(K:Qt u f)(L:zS u f ρ D){aET:b1}(r:q<b)(M:2048<=q%4096)(N:cE b aET q= .az s e 8 es true)(O:Good 8 es)(P:es.length<1000000)(t:iq u f ρ es)
 (dq:B-a<=D+1)(I:a<m)(Q:m<B)(z:B<=es.length)(d:fR ρ.ai es a m)(g:fR ρ.ai es m B):
 ∃aEK,kA (Fv u [.az q s 0 es.length,ao a,ao m,ao B,dI f] b aET) b aET q s e 8 aEK/\na es aEK a B/\fR ρ.ai aEK a B:=by
 have k:=eL.rF r M N O P;rw[Fv,Ok,Vy,e1 (a:=(m:Int)) (b:=(a:Int)),bK,dj (a:=(m:Int)-(a:Int)) (b:=1)];by_cases c1:m=a+1
 ·rw[bN,bL,S5];subst c1;obtain⟨i',R,S,A,w,C⟩:=apY (u:=u) (b:=b) (f:=f) (ρ:=ρ) (λT W X Z=>fM 0 10 13 1000000 (Ab u b) T X W Z) k t I z g (B-(a+1)) 1000000 (a+1) B (by omega) (by omega) (by omega) (by omega) (by omega) (λx l o=>by omega) (λx l o=>by omega);rw[C];obtain⟨h',r1,G,H⟩:=agI (u:=u) (b:=b) (i:=i') (i'-1-a) 1000000 a es (ba b aET) k (by omega) (by omega) (by omega);have E:=ace (i'-1-a) a es (by omega);refine⟨_,by rw[H];exact oL G r r1.aj,⟨T2 _ _ _ (by omega),λi hi=>?_,λi a1 a2=>?_⟩,λi j a1 a2 y=>?_⟩
  ·rw[E,cz,cz]
  ·rw[E];split
   ·exact⟨i+1,by omega,by omega,rfl⟩
   ·split
    ·exact⟨a,by omega,by omega,rfl⟩
    ·exact⟨i,a1,a2,rfl⟩
  ·rw[E,E];by_cases d1:i<i'-1
   ·rw[fS];by_cases d2:j<i'-1
    ·rw[fS];exact g (i+1) (j+1) (by omega) (by omega) (by omega)
    ·rw[cz];have l1:=A (i+1) (by omega) (by omega);by_cases d3:j=i'-1
     ·rw[fS];omega
     ·rw[cz];have l2:=w j (by omega) y;omega
   ·rw[cz,cU (show¬(a<=j/\j<a+(i'-1-a)) by omega),cU (show¬j=a+(i'-1-a) by omega)];by_cases d3:i=i'-1
    ·rw[fS];exact w j (by omega) y
    ·rw[cz];exact g i j (by omega) a2 y
 ·rw[bk,a6,XW,e1 (a:=(B:Int)) (b:=(m:Int)),bK,dj (a:=(B:Int)-(m:Int)) (b:=1)];by_cases c2:B=m+1
  ·rw[bN,bL,Xc];subst c2;obtain⟨i',R,S,A,w,C⟩:=am8 (u:=u) (b:=b) (f:=f) (ρ:=ρ) (λa4 a5 bs bx=>fM 0 14 17 1000000 (AQ u b) a4 bs a5 bx) k t (by omega) d (m-a) 1000000 a m (by omega) (by omega) (by omega) (by omega) (by omega) (λx l o=>by omega) (λx l o=>by omega);rw[C];obtain⟨h',r1,G,H⟩:=anE (u:=u) (b:=b) (i:=i') (m-i') 1000000 m es (ba b aET) k (by omega) (by omega) (by omega);have E:=Vz (m-i') m es (by omega) (by omega);refine⟨_,by rw[H];exact oL G r r1.aj,⟨acg _ _ _ (by omega) (by omega),λi hi=>?_,λi a1 a2=>?_⟩,λi j a1 a2 y=>?_⟩
   ·rw[E,cz,cz]
   ·rw[E];split
    ·exact⟨i-1,by omega,by omega,rfl⟩
    ·split
     ·exact⟨m,by omega,by omega,rfl⟩
     ·exact⟨i,a1,a2,rfl⟩
   ·rw[E,E];by_cases d1:j<i'
    ·rw[cz,cz,cz,cz];exact d i j a1 a2 (by omega)
    ·by_cases d2:j=i'
     ·rw[cU (show¬(m-(m-i')<i/\i<=m) by omega),cU (show¬i=m-(m-i') by omega),cU (show¬(m-(m-i')<j/\j<=m) by omega),cv (show j=m-(m-i') by omega)];exact A i a1 (by omega)
     ·rw[cv (show m-(m-i')<j/\j<=m by omega)];by_cases d3:i<i'
      ·rw[cz,cz];by_cases d4:i<j-1
       ·exact d i (j-1) a1 d4 (by omega)
       ·omega
      ·by_cases d4:i=i'
       ·rw[cz,fS];have:=w (j-1) (by omega) (by omega);omega
       ·rw[fS];exact d (i-1) (j-1) (by omega) (by omega) (by omega)
  ·rw[bk,a6,cK (a:=(a:Int)) (b:=(B:Int)),Sk];generalize cc:(a+B)/2=mid;rw[G6,show((a:Int)+(B:Int))/2=(mid:Int) by omega,cK (a:=(mid:Int)) (b:=(m:Int)),show(mid:Int)+(m:Int)=((mid+m:Nat):Int) by omega,hH (a:=(m:Int)) (b:=(mid:Int))];have J:∀s0 r0:Nat,((mid<m/\s0=mid+m-B/\r0=mid)\/(m<=mid/\s0=a/\r0=m))->
    ∃aEK,kA (Ix u b (.az q s 0 es.length) (ao a) (ao m) (ao B) (dI f) (ao mid) (ao (mid+m:Nat)) (ao s0) (ao r0) (ba b aET)) b aET q s e 8 aEK/\na es aEK a B/\fR ρ.ai aEK a B:=by
    intro s0 r0 hc;rw[Ix,bK,e1 (a:=((mid+m:Nat):Int)) (b:=1),show((mid+m:Nat):Int)-1=((mid+m-1:Nat):Int) by omega];obtain⟨aM,cl,cn,cp,cs,c0⟩:=aBe (u:=u) (b:=b) (f:=f) (ρ:=ρ) (Ha u b) (q:=q) (s:=s) (e:=e) (a:=a) (m:=m) (B:=B) (mid:=mid) (n:=mid+m) (p:=mid+m-1) (s0:=s0) (r0:=r0) k t z d g (λc c1 c2=>by omega) (by omega) (by omega) (by omega) (by omega)
     (r0-s0) 1000000 s0 r0 (by omega) (by omega) (by omega) (by omega) (by omega) (λx l o=>by omega) (λx l o=>by omega)
    rw[c0];have c:=atA ρ.ai I Q cc.symm d g hc cl cn cp cs;obtain⟨aEK,h',a1,tn,c4,ss,c5⟩:=aCW K L k t z (by omega) (by omega) (by omega) (by omega) rfl c (by omega) (by omega) d g;rw[c5];exact⟨aEK,oL tn r a1.aj,c4,ss⟩
   by_cases c3:mid<m
   ·rw[bN,bL,e1 (a:=((mid+m:Nat):Int)) (b:=(B:Int)),show((mid+m:Nat):Int)-(B:Int)=((mid+m-B:Nat):Int) by omega];exact J _ _ (.inl ⟨c3,rfl,rfl⟩)
   ·rw[bk,a6];exact J _ _ (.inr ⟨by omega,rfl,rfl⟩)
end
end
section
variable{u:Fn} {f b q s e:Nat} {ρ:jS} {es:aY} {aET:b1}
section
variable[Tok]
def OL(u:Fn)(f:Nat)(ρ:jS):Prop:=∀{b:Nat} {aET:b1} {q s e a B:Nat} {es:aY},q<b->2048<=q%4096->cE b aET q= .az s e 8 es true->Good 8 es->es.length<1000000->iq u f ρ es->a<=B->B<=es.length->
 kA (u 335 [.az q s 0 es.length,ao a,ao B,dI f] b aET) b aET q s e 8 (jx ρ.ai a (B-(a+1)) (a+1) es)
theorem JN:(ao 0:an)=ao ((0:Nat):Int):=jL rfl
theorem Bw:(ao 20:an)=ao ((20:Nat):Int):=jL rfl
theorem GI:(n20:an)=ao 20:=by rw[cX];rfl
theorem ais:fA .mul cZ (ao 20)=some (ao 40):=by rw[cX,cX];rfl
theorem aBp:fA .mul (ao 20) cZ=some (ao 40):=by rw[cX,cX];rfl
theorem tH(v:an)(k:an->aw):c8 (some v) k=k v:=jL rfl
theorem ad0(u:Fn)(a c d:an)(b:Nat)(aET:b1):xM u [a,c,d] b aET=ih 0 1 2 6 7 8 1000000 (wG u b (w9 u b)) a c d n20 aL n20 (ba b aET):=by kernel_rfl
theorem ain{α:Type}[Inhabited α](ρ:α->Nat)(a B:Nat)(es:List α)(h:B<=a+1):jx ρ a (B-(a+1)) (a+1) es=es:=by rw[show B-(a+1)=0 by omega];rfl
theorem Lm(n:OL u f ρ){a B:Nat}{h:aI}(d:eL b h q s e 8 es)(o:iq u f ρ es)(p:a<=B)(r:B<=es.length):
 ∃aEK h',eL b h' q s e 8 aEK/\g6 q h h'/\aEK.Perm es/\(∀i,i<a\/B<=i->el aEK i=el es i)/\fR ρ.ai aEK a B/\∀k:dg,dd u b 335 [.az q s 0 es.length,ao a,ao B,dI f] [] h k=k (.a0 []) h':=by
 obtain⟨h',t1,t2,t3⟩:=qm (b:=b) (n (a:=a) (B:=B) d.sub.1 d.ld d.sub.2 d.iJ d.le o p r);by_cases c:a<B
 ·have g:=YP ρ.ai a (B-(a+1)) (a+1) es (by omega) (by omega);refine⟨_,h',d.nD t1 t2 (d.iJ.mW g) g.length_eq,t1,g,λi hi=>aeq ρ.ai a _ _ es (by omega) (by omega) i (by omega),?_,t3⟩;have:=VK ρ.ai a (B-(a+1)) (a+1) es (by omega) (by omega) (λi j t l w=>absurd l (by omega));rw[show a+1+(B-(a+1))=B by omega] at this;exact this
 ·have x:=ain ρ.ai a B es (by omega);rw[x] at t2;exact⟨es,h',d.nD t1 t2 d.iJ rfl,t1,pG es,λ_ _=>rfl,λi j t l w=>absurd l (by omega),t3⟩
theorem aAw{D:Nat}(o:OL u f ρ)(E:zS u f ρ D)(W:39<=D)(p:q<b)(G:2048<=q%4096)(H:cE b aET q= .az s e 8 es true)(I:Good 8 es)(X:es.length<=39)(l:iq u f ρ es):
 ∃aEK,kA (xM u [.az q s 0 es.length,ao es.length,dI f] b aET) b aET q s e 8 aEK/\aEK.Perm es/\fR ρ.ai aEK 0 es.length:=by
 have x:=eL.rF p G H I (by omega);have tail:∀(d:aY) (h:aI),eL b h q s e 8 d->g6 q (ba b aET) h->d.Perm es->(es.length<=20->fR ρ.ai d 0 es.length)->(20<es.length->fR ρ.ai d 0 20/\fR ρ.ai d 20 es.length)->
  ∃aEK,kA (du 0 1 2 6 1000000 (ym u b) (.az q s 0 es.length) (ao es.length) (dI f) (ao 20) h) b aET q s e 8 aEK/\aEK.Perm es/\fR ρ.ai aEK 0 es.length:=by
  intro d h a1 k g s1 s2;have r:=g.length_eq;rw[hQ,fj];generalize t:du 0 1 2 6 999999 (ym u b)=j4;rw[ym,bO];by_cases c:20<es.length
  ·obtain⟨J,K⟩:=s2 c;rw[bN,bL,adk,ais,tH,hQ,mb];generalize ih 0 1 2 6 7 8 999999 (P8 u b (MP u b j4))=j6;rw[P8,qd (a:=40) (b:=(es.length:Int)),bk,a6];unfold MP;simp only[aJ,bZ,bp,bg,ce,bj,gB,bF,cK (a:=0) (b:=20) (by omega) (by omega) (by omega) (by omega),show(0:Int)+20=20 from rfl,bO (a:=20) (b:=(es.length:Int)) (by omega) (by omega),dm (show(20:Int)<(es.length:Int) by omega),bL];unfold Tc;obtain⟨n,r1,L,M⟩:=E (a:=0) (m:=20) (B:=es.length) a1.sub.1 a1.ld a1.sub.2 a1.iJ a1.le (l.mono g) (by omega) (by omega) c (by omega) J K;rw[r] at r1;obtain⟨y,t1,t2,t3⟩:=qm (b:=b) r1;simp only[b7,lY,av,JN,Bw,t3];rw[<-Bw,aBp,tH];subst t;rw[show(999999:Nat)=999998+1 from rfl,fj];generalize du 0 1 2 6 999998 (ym u b)=j4;rw[ym,bO (a:=40) (b:=(es.length:Int)),bk,a6];exact⟨n,oL (k.trans t1) p t2,L.mW.trans g,M⟩
  ·rw[bk,a6];exact⟨d,oL k p a1.aj,g,s1 (by omega)⟩
 rw[ad0,GI,bF,hQ,mb];generalize t:ih 0 1 2 6 7 8 999999 (wG u b (w9 u b))=j6;rw[wG,qd (a:=20) (b:=(es.length:Int))];by_cases c:20<=es.length
 ·rw[bN,bL];unfold abs;obtain⟨d,h,a1,k,g,N,w,t3⟩:=Lm o x l (a:=0) (B:=20) (by omega) c;simp only[b7,lY,av,JN,Bw,t3];rw[<-Bw,cK (a:=20) (b:=20),show(20:Int)+20=40 from rfl];subst t;rw[show(999999:Nat)=999998+1 from rfl,mb];generalize ih 0 1 2 6 7 8 999998 (wG u b (w9 u b))=j6;rw[wG,qd (a:=40) (b:=(es.length:Int)),bk,a6,w9];have r:=g.length_eq;obtain⟨n,y,a2,O,P,z,Q,t32⟩:=Lm o a1 (l.mono g) (a:=20) (B:=es.length) c (by omega);rw[r,<-Bw] at t32;simp only[b7,lY,av,t32];have A:fR ρ.ai n 0 20:=λi j R S T=>by rw[z i (by omega),z j (by omega)];exact w i j R S T
  refine tail n y a2 (k.trans O) (P.trans g) (λC=>?_) λC=>⟨A,Q⟩;rw[show es.length=20 by omega];exact A
 ·rw[bk,a6,w9];obtain⟨d,h,a1,k,g,N,w,t3⟩:=Lm o x l (a:=0) (B:=es.length) (by omega) (cY _);simp only[b7,lY,av,JN,t3];exact tail d h a1 k g (λ_=>w) λC=>by omega
theorem aDL(q s o len:Nat)(k:an->aw):bq false (.az q s o len) k=k (ao len):=by rw[cX];have e:bq false (.az q s o len) k=k (.V .i64 (Nat.add 18446744073709551616 len)):=rfl;rw[e];congr 2;rw[hZ];omega
def XF(u:Fn)(f:Nat)(ρ:jS):Prop:=∀{b:Nat} {aET:b1} {q s e:Nat} {es:aY},q<b->2048<=q%4096->cE b aET q= .az s e 8 es true->Good 8 es->es.length<=39->iq u f ρ es->
 ∃aEK,kA (u 284 [.az q s 0 es.length,ao es.length,dI f] b aET) b aET q s e 8 aEK/\aEK.Perm es/\fR ρ.ai aEK 0 es.length
theorem aBA(g:XF u f ρ)(c:q<b)(h:2048<=q%4096)(i:cE b aET q= .az s e 8 es true)(d:Good 8 es)(j:es.length<=39)(k:iq u f ρ es):
 ∃aEK,kA (v9 u [.az q s 0 es.length,dI f] b aET) b aET q s e 8 aEK/\aEK.Perm es/\fR ρ.ai aEK 0 es.length:=by
 have a:=eL.rF c h i d (by omega);obtain⟨aEK,r1,l,n⟩:=g a.sub.1 a.ld a.sub.2 d j k;obtain⟨h',t1,t2,t3⟩:=qm (b:=b) r1;rw[v9,dE,QR,aDL,b7,lY,av,av,t3];exact⟨aEK,oL t1 c t2,l,n⟩
def Ny(u:Fn)(f:Nat)(ρ:jS):Prop:=∀{b:Nat} {aET:b1} {q s e:Nat} {es:aY},q<b->2048<=q%4096->cE b aET q= .az s e 8 es true->Good 8 es->es.length<=39->iq u f ρ es->
 ∃aEK,kA (u 236 [.az q s 0 es.length,dI f] b aET) b aET q s e 8 aEK/\aEK.Perm es/\fR ρ.ai aEK 0 es.length
end
end
section
variable{rk:List Nat} {d s6 so:Nat} {h:aI} {o L n i:an}
structure cw where
 k:Nat
 U:Rat
abbrev bE:=List cw
def fN(aED:List cw):List cw->List cw
 |[]=>aED
 |m::r=>match aED.getLast? with
  |some t=>if t.k=m.k then fN (aED.dropLast++[⟨t.k,t.U+m.U⟩]) r else fN (aED++[m]) r
  |none=>fN [m] r
def mT(S:Rat->Rat->Prop)(aED:List cw):List cw->Prop
 |[]=>True
 |m::r=>match aED.getLast? with
  |some t=>if t.k=m.k then S t.U m.U/\mT S (aED.dropLast++[⟨t.k,t.U+m.U⟩]) r else mT S (aED++[m]) r
  |none=>mT S [m] r
section
variable[Tok]
structure cr where
 num:Rat->aB
 di:Nat->an
 len:∀c,(num c).length=7
 pure:∀c k,b8 (num c++[di k])=true
 eU:∀c,b8 (num c)=true
 Y:Fn->Prop
 s:Nat->Prop
 IM:∀k,di k= .aE\/∃es,di k= .aQ 11 es
def cr.bd(E:cr)(m:cw):aB:=E.num m.U++[E.di m.k]
theorem cr.eG(E:cr)(m:cw):(E.bd m).length=8:=by simp[cr.bd,E.len]
theorem cr.gw(E:cr)(m:cw):b8 (E.bd m)=true:=E.pure _ _
theorem cr.iJ(E:cr)(ms:List cw):Good 8 (ms.map E.bd):=by intro x a;obtain⟨m,_,rfl⟩:=gp.1 a;exact⟨E.eG m,E.gw m⟩
theorem cr.jV(E:cr)(m:cw):((E.bd m).drop 0).take 7=E.num m.U:=by simp[cr.bd,E.len]
theorem cr.am6(E:cr)(t:cw)(c:Rat):(E.bd t).take 0++E.num c++(E.bd t).drop (0+7)=E.bd ⟨t.k,c⟩:=by simp[cr.bd,E.len]
theorem cr.kk(E:cr)(m:cw):(E.bd m)[7]? =some (E.di m.k):=by unfold cr.bd;rw[sH (by rw[E.len];omega),E.len];rfl
def n9(u:Fn)(E:cr)(K:Nat->Prop):Prop:=∀x y:cw,K x.k->K y.k->(x.k≠y.k\/E.s x.k)->∃c:Int,(-9000<c/\c<9000)/\(c<0↔x.k<y.k)/\(c=0↔x.k=y.k)/\∀ub aET,u 237 [.agg (E.bd x),.agg (E.bd y)] ub aET= .ok (ao c) ub aET []
def rd(u:Fn)(E:cr)(c d:Rat):Prop:=E.Y u/\∀u,E.Y u->aK u 215 [.agg (E.num c),.agg (E.num d)] (.agg (E.num (c+d)))
theorem ZZ(b:Nat)(rk:List Nat):∀{cs:aB},b8 cs=true->nU b rk cs=true
 |[],_=>rfl
 |c::r,h=>by
  have a:b8 r=true/\nU b rk (c::r)=nU b rk r:=by cases c<;>first|exact⟨h,rfl⟩|exact absurd h (by intro h;cases h)
  rw[a.2,ZZ b rk a.1]
theorem kd{b:Nat}{cs:aB}(h:b8 cs=true):jP b rk (.agg cs)=true:=ZZ b rk h
theorem Gu{b:Nat}(a:d<4096)(h:eb rk d=true):eb rk (iD b (b+d))=true:=by rw[Sd a];exact h
theorem qM{b:Nat}(a:d<4096:=by omega)(h:eb rk d=true:=by exact rfl)(s o l:Nat)(xs:aB)(z:aw):met b rk (.az (b+d) s o l::xs) z=met b rk xs z:=aV (show jP b rk (.az (b+d) s o l)=true by rw[aEh];exact Gu a h) xs z
theorem HJ{b:Nat}(a:d<4096:=by omega)(h:eb rk d=true)(s i o:Nat)(xs:aB)(z:aw):met b rk (.dH (b+d) s i o::xs) z=met b rk xs z:=aV (show jP b rk (.dH (b+d) s i o)=true by rw[aoz];exact Gu a h) xs z
theorem m1{b:Nat}(a:d<4096:=by omega)(h:eb rk d=true:=by exact rfl)(s o:Nat)(xs:aB)(z:aw):met b rk (.bn (b+d) s o::xs) z=met b rk xs z:=aV (show jP b rk (.bn (b+d) s o)=true by rw[apR];exact Gu a h) xs z
section
variable{u:Fn} {E:cr} {K:Nat->Prop} {b:Nat}
theorem UK(j4:mS){aED:List cw}{m:cw}(r:db b 2095 120 8 true h o (aED.map E.bd))(a:h.aj (b+6)= .box s6 (E.bd m))(l:h.ar=b+4096)(p:aED.length<1000000):
 ∃o' h',db b 2095 120 8 true h' o' ((aED++[m]).map E.bd)/\eY b [6,2094,2095] h h'/\QV u b j4 (.bn (b+6) s6 0) o L n i h=j4 o' L n i h':=by
 obtain⟨s1,s,q,h',t,c,e,g,j,k⟩:=G8 (z:=fX) (d1:=2094) (aEU:=none) (aEV:=none) (bytes:=136) (r1:=false) r (E.gw m) (E.eG m) (λo=>gs b [(b+2094,o)]) (λo=>gs b [(b+2095,o)]) (by omega) (by omega) (by omega) (by rw[dS];omega) (by rw[dS];omega);refine⟨_,h',by rw[ly];exact e,c.mono (by simp),?_⟩;unfold QV;simp only[aH a,be (E.eG m),g,av,j,k]
theorem afF(g:n9 u E K)(a:sM){aED:List cw}{t m:cw}(j:h.aj (b+6)= .box s6 (E.bd m))(e:h.aj (b+2095)= .az so 120 8 ((aED++[t]).map E.bd) true)(x:h.ar=b+4096)(y:aED.length<1000000)(k:K t.k)(l:K m.k)(p:t.k≠m.k\/E.s t.k):
 ∃c,PR u b a (.az (b+2095) so 0 (aED.length+1)) (ao aED.length) (.bn (b+6) s6 0) h=a (.az (b+2095) so 0 (aED.length+1)) (ao aED.length) (.dH (b+2095) so aED.length 0) (.agg (E.bd t)) (.agg (E.bd m)) c (.F (decide (t.k=m.k))) h:=by
 obtain⟨c,⟨c1,c2⟩,z,q,r⟩:=g t m k l p;have w:((aED++[t]).map E.bd)[aED.length]? =some (E.bd t):=by simp
 have ev:aK u 237 [.agg (E.bd t),.agg (E.bd m)] (ao c):=⟨_,_,r 0 .nil⟩;refine⟨ao c,?_⟩;unfold PR;rw[bZ,qM,aV,aN,gu e,aJ,HJ (by omega) rfl,aN,zE e w (E.eG t),
  aJ,m1,aN,aH j,be (E.eG m),aV (kd (E.gw t)),aV (kd (E.gw m)),aN,bm (E.gw t),bm (E.gw m),av,av,aT ev,bF,dj]
 rw[show decide (c=0)=decide (t.k=m.k) from r6.2 q]
theorem arX(j4:mS){aED:List cw}{t m:cw}(e:rd u E t.U m.U)(k:h.aj (b+6)= .box s6 (E.bd m))(a:h.aj (b+2095)= .az so 120 8 ((aED++[t]).map E.bd) true)(p:h.ar=b+4096)(q:aED.length<1000000):
 ∃o' h',db b 2095 120 8 true h' o' ((aED++[(⟨t.k,t.U+m.U⟩:cw)]).map E.bd)/\eY b [6,2094,2095] h h'/\QT u b j4 (.az (b+2095) so 0 (aED.length+1)) (ao aED.length) (.bn (b+6) s6 0) L n i h=j4 o' L n i h':=by
 have g:((aED++[t]).map E.bd)[aED.length]? =some (E.bd t):=by simp
 have j:0+7<=(E.bd t).length:=by rw[E.eG];omega
 have l:0+7<=(E.bd m).length:=by rw[E.eG];omega
 have c:b+2095<h.ar:=by omega
 have aEK:((aED++[t]).map E.bd).set aED.length ((E.bd t).take 0++E.num (t.U+m.U)++(E.bd t).drop (0+7))=(aED++[(⟨t.k,t.U+m.U⟩:cw)]).map E.bd:=by rw[E.am6];simp
 refine⟨.az (b+2095) so 0 (aED.length+1),_,.inr ⟨so,by simp,kB (o:= .ae (.az so 120 8 ((aED++[(⟨t.k,t.U+m.U⟩:cw)]).map E.bd) true)) c⟩,(eY.eW c).mono (by simp),?_⟩;unfold QT;rw[bZ,qM,aV,aN,gu a,hP,aJ,HJ (by omega) rfl,aN,hg a g,e8 j,E.jV,bb];unfold acy;rw[aJ,m1,aN,aH k,e8 l,E.jV,aV (kd (E.eU _)),aV (kd (E.eU _)),aN,bm (E.eU _),bm (E.eU _),av,av,aT (e.2 u e.1),
  bZ,qM,aV,aN,gu a,hP,HJ (by omega) rfl,aN,
  ayM a g j (E.len _) (E.eU _) (λo=>mN (by omega) rfl) c,aEK]
theorem aoT(hc:n9 u E K)(j4:mS){ql sl i:Nat}{rl:Bool}{ms aED:List cw}{m:cw}(n:an)(r:db b 2095 120 8 true h o (aED.map E.bd))(dq:ql<b)(S:h.aj ql= .az sl 120 8 (ms.map E.bd) rl)(T:ms[i]? =some m)(W:h.ar=b+4096)(J:aED.length<1000000)(hi:i<1000000)
 (cc:∀t∈aED,K t.k)(cl:K m.k)(cn:∀t∈aED,t.k≠m.k\/E.s t.k)(cp:∀t,aED.getLast?=some t->t.k=m.k->rd u E t.U m.U):
 ∃o' h',db b 2095 120 8 true h' o' ((fN aED [m]).map E.bd)/\eY b [6,2094,2095] h h'/\Mw u b j4 o (.az ql sl 0 ms.length) n (ao i) h=j4 o' (.az ql sl 0 ms.length) n (ao (i+1:Nat)) h':=by
 have c0:i<ms.length:=(e6.1 T).1;have c1:(ms.map E.bd)[i]? =some (E.bd m):=by rw[fo,T];rfl
 obtain⟨s6,D,a1,a2,a3⟩:=C7 (t:=120) (b:=b) (d:=6) (wk:=none) (cs:=fX) (h:=h) (λo=>gs b [(b+6,o)]) (by omega);have ee:D.ar=b+4096:=by rw[a1.ar];exact W
 have put:(fX:aB).take 0++E.bd m++(fX:aB).drop (0+8)=E.bd m:=by simp
 have aM:=λk:dg=>tD (b:=b) (n:=8) (off:=0) (wk:=none) (new:=E.bd m) a2 (E.eG m) (by simp) (λo=>gs b [(b+6,o)]) (by omega) k;have a4:=eY.eW (b:=b) (d:=6) (h:=D) (o:= .ae (.box s6 (E.bd m))) (by omega);have G:(D.eW b (b+6) (.ae (.box s6 (E.bd m)))).aj (b+6)= .box s6 (E.bd m):=kB (by omega);generalize c2:D.eW b (b+6) (.ae (.box s6 (E.bd m)))=M at a4 G;have c3:∀k:dg,aX b none 8 (.bn (b+6) s6 0) (.agg (E.bd m)) D k=k .undef M:=by intro k;rw[aM,put,c2]
 have N:=a1.trans a4;have I:M.ar=b+4096:=by rw[N.ar];exact W
 have O:=r.jv N (by simp);rw[Mw,gu S c0,zE S c1 (E.eG m),a3,c3,O.len,dS,bK,e1,bF,ix];have P:∀(o':an) (j:aI) (Q:List cw),db b 2095 120 8 true j o' (Q.map E.bd)->eY b [6,2094,2095] M j->Q=fN aED [m]->
  ∃X h',db b 2095 120 8 true h' X ((fN aED [m]).map E.bd)/\eY b [6,2094,2095] h h'/\(bR (ao i) (ao 1) λl=>j4 o' (.az ql sl 0 ms.length) n l j)=j4 X (.az ql sl 0 ms.length) n (ao (i+1:Nat)) h':=by
  intro o' j Q p q w;subst w;refine⟨o',j,p,(N.mono (by simp)).trans q,?_⟩;rw[cK (a:=(i:Int)) (b:=1)];rfl
 rcases KE aED with rfl|⟨g,t,rfl⟩
 ·rw[gK (by simp),iE,BL,dO,show(bG:an)= .F false from rfl,a6];obtain⟨o',j,p,q,w⟩:=UK (u:=u) (E:=E) (b:=b) (λy z A B C=>bR B (ao 1) λl=>j4 y z A l C) (L:= .az ql sl 0 ms.length) (n:=n) (i:=ao i) O G I J;rw[w];exact P o' j _ p q rfl
 ·rcases O with⟨_,e⟩|⟨so,rfl,R⟩
  ·simp at e
  ·have el:(((g++[t]).length:Nat):Int)-1=(g.length:Int):=by simp
   have Z:g.length<1000000:=by simp at J;omega
   have c4:(an.az (b+2095) so 0 ((g++[t]).map E.bd).length)= .az (b+2095) so 0 (g.length+1):=by simp
   rw[List.concat_eq_append] at*;rw[el,bN,fi,c4];obtain⟨c,c5⟩:=afF (u:=u) (E:=E) (K:=K) (b:=b) hc (BL u b (λy z A B C=>bR B (ao 1) λl=>j4 y z A l C) (.F true) (.az (b+2095) so 0 (g.length+1)) (ao g.length) (.bn (b+6) s6 0) (.az ql sl 0 ms.length) n (ao i)) G R I Z (cc t (by simp)) cl (cn t (by simp));rw[c5,BL,dR];have bs:(g++[t]).getLast?=some t:=by simp
   have bx:fN (g++[t]) [m]=if t.k=m.k then g++[(⟨t.k,t.U+m.U⟩:cw)] else g++[t]++[m]:=by simp only[fN,bs,List.dropLast_concat]
   by_cases H:t.k=m.k
   ·rw[dm H,bL];obtain⟨o',j,p,q,w⟩:=arX (u:=u) (E:=E) (b:=b) (λy z A B C=>bR B (ao 1) λl=>j4 y z A l C) (L:= .az ql sl 0 ms.length) (n:=n) (i:=ao i) (cp t bs H) G R I Z;rw[w];exact P o' j _ p q (by rw[bx,cv H])
   ·rw[gK H,a6];obtain⟨o',j,p,q,w⟩:=UK (u:=u) (E:=E) (b:=b) (λy z A B C=>bR B (ao 1) λl=>j4 y z A l C) (L:= .az ql sl 0 ms.length) (n:=n) (i:=ao i) (aED:=g++[t]) (m:=m) (o:= .az (b+2095) so 0 (g.length+1)) (.inr ⟨so,by simp,R⟩) G I (by simp at J ⊢;omega);rw[w];exact P o' j _ p q (by rw[bx,cU H])
end
end
end
section
variable{aED ms:bE} {m:cw} {r:an} {f q s:Nat} {h:aI} {aET:b1} {D:Rat->Prop} {aEQ:Bool}
theorem we(aED:bE)(m:cw)(r:bE):fN aED (m::r)=fN (fN aED [m]) r:=by
 simp only[fN];cases aED.getLast? with
 |none=>rfl
 |some t=>simp only[];split<;>rfl
theorem aBd{S:Rat->Rat->Prop}{r:bE}(h:mT S aED (m::r)):(∀t,aED.getLast?=some t->t.k=m.k->S t.U m.U)/\mT S (fN aED [m]) r:=by
 simp only[fN];simp only[mT] at h;cases d:aED.getLast? with
 |none=>rw[d] at h;exact⟨λt a=>by simp at a,h⟩
 |some t=>
  rw[d] at h;simp only[] at h;by_cases c:t.k=m.k
  ·rw[cv c] at h;simp only[cv c];exact⟨λe a _=>by simp at a;subst a;exact h.1,h.2⟩
  ·rw[cU c] at h;simp only[cU c];exact⟨λe a g=>by simp at a;subst a;exact absurd g c,h⟩
theorem UY(aED:bE)(m:cw):(fN aED [m]).length<=aED.length+1:=by
 simp only[fN];cases a:aED.getLast? with
 |none=>simp
 |some t=>
  simp only[];have:aED≠[]:=by intro e;subst e;simp at a
  have:0<aED.length:=rH.2 this;split
  ·simp only[lh,List.length_dropLast,Bk];omega
  ·simp
theorem aca{K:Nat->Prop}(h:∀t∈aED,K t.k)(c:K m.k):∀t∈fN aED [m],K t.k:=by
 simp only[fN];cases d:aED.getLast? with
 |none=>intro t a;simp at a;subst a;exact c
 |some t0=>
  simp only[];have e:K t0.k:=h t0 (List.mem_of_getLast? d);split
  ·intro t a;rcases fr.1 a with a|a
   ·exact h t (List.dropLast_subset _ a)
   ·simp at a;subst a;exact e
  ·intro t a;rcases fr.1 a with a|a
   ·exact h t a
   ·simp at a;subst a;exact c
section
variable[Tok] {u:Fn} {E:cr} {K:Nat->Prop} {b:Nat}
def Jt(E:cr)(l:List Nat):Prop:=l.Pairwise λa c=>a≠c\/E.s a
theorem ayr(aED:bE)(m:cw):((fN aED [m]).map (·.k)).Sublist (aED.map (·.k)++[m.k]):=by
 simp only[fN];cases c:aED.getLast? with
 |none=>
  have:aED=[]:=by cases aED with|nil=>rfl|cons a b=>simp at c
  subst this;simp
 |some t=>
  simp only[];split
  ·rcases KE aED with rfl|⟨a,x,rfl⟩
   ·simp at c
   ·simp at c;subst c;simp
  ·simp
theorem avk(B:n9 u E K)(g:gx){ql sl:Nat}{rl:Bool}(C:ql<b)(a2:ms.length<100000)(G:∀m∈ms,K m.k):∀(c:bE) (N i:Nat) (aED:bE) (o:an) (h:aI),ms.drop i=c->db b 2095 120 8 true h o (aED.map E.bd)->h.aj ql= .az sl 120 8 (ms.map E.bd) rl->h.ar=b+4096->
 aED.length<=i->(∀t∈aED,K t.k)->Jt E (aED.map (·.k)++c.map (·.k))->mT (rd u E) aED c->c.length<N->
 ∃o' h',db b 2095 120 8 true h' o' ((fN aED c).map E.bd)/\eY b [6,2094,2095] h h'/\du 4 12 13 14 N (uX u b g) o (.az ql sl 0 ms.length) (ao ms.length) (ao i) h=g o' h':=by
 intro c;induction c with
 |nil=>intro N i aED o h e r j l H n p x y;obtain⟨N,rfl⟩:=cN N;have hi:ms.length<=i:=pZ.1 e;refine⟨o,h,r,.refl,?_⟩;rw[fj];generalize du 4 12 13 14 N (uX u b g)=j4;rw[uX,bO (a:=(i:Int)) (b:=(ms.length:Int)),bk,a6]
 |cons m c I=>
  intro N i aED o h e r j l H n p x y;obtain⟨N,rfl⟩:=cN N;have hi:i<ms.length:=by
   rcases kW i ms.length with h|h
   ·exact h
   ·rw[lH h] at e;cases e
  rw[iK hi] at e;have J:ms[i]=m:=(kf e).1;have L:ms.drop (i+1)=c:=(kf e).2;have z:ms[i]? =some m:=by rw[dC hi,J]
  have A:K m.k:=G m (dr z);obtain⟨M,O⟩:=aBd x;rw[fj,uX,bO (a:=(i:Int)) (b:=(ms.length:Int)),bN,bL];obtain⟨eR,P,Q,w,R⟩:=aoT B (du 4 12 13 14 N (uX u b g)) (ao ms.length) r C j z l (by omega) (by omega) n A (λt S=>(Ih.1 p).2.2 _ (Nn S) _ (by simp)) M;rw[R];have a3:=UY aED m;obtain⟨T,W,X,Z,a1⟩:=I N (i+1) (fN aED [m]) eR P L Q (by rw[w.aj ql λd hd=>by simp at hd;omega];exact j) (by rw[w.ar];exact l) (by omega) (aca n A) (by refine List.Pairwise.sublist ?_ p;have:=(ayr aED m).append_right (c.map (·.k));simpa using this) O (by simp at y;omega)
  exact⟨T,W,by rw[we];exact X,w.trans Z,a1⟩
def gD(a:aw)(b:Nat)(aET:b1)(r:an):Prop:=∃c,a= .ok r b c []/\∀k,cE b c k=cE b aET k
theorem my{ps:aB}(H:gD (u f ps h.ar h.au) h.ar h.au r):∃h',eY b [] h h'/\∀k:dg,dd u b f ps [] h k=k r h':=by obtain⟨c,d,e⟩:=H;obtain⟨ub,a8,a⟩:=h;have g:u f ps ub a8= .ok r ub c []:=d;refine⟨.mk ub c a,⟨rfl,rfl,λk _=>e k⟩,λk=>?_⟩;have fD:dd u b f ps [] (.mk ub a8 a) k=jT b ub a k (u f ps ub a8):=rfl;rw[fD,g];have i:jT b ub a k (.ok r ub c [])=bf (Nat.ble ub ub) (k r (.mk ub c a)) .ax:=rfl;rw[i,ek,dm (cY ub),cM]
theorem Ts{x:aB}(a:b8 x=true)(c:u f [.agg x] h.ar h.au= .ok r h.ar h.au [])(k:dg):nN u b (dI f) [.agg x] [] h k=k r h:=by have e:nN u b (dI f) [.agg x] [] h k=aD h.aj (.agg x) λq e0=>dd u b f (aA [q] []) (aA e0 []) h k:=rfl;rw[e,bm a];obtain⟨ub,s,d⟩:=h;have g:u f [.agg x] ub s= .ok r ub s []:=c;have i:dd u b f (aA [.agg x] []) (aA [] []) (aI.mk ub s d) k=jT b ub d k (u f [.agg x] ub s):=rfl;rw[i,g];have j:jT b ub d k (.ok r ub s [])=bf (Nat.ble ub ub) (k r (.mk ub s d)) .ax:=rfl;rw[j,ek,dm (cY ub),cM]
theorem rp{b:Nat}{S:List Nat}(t:eY b S (ba b aET) h):gD (dJ b r [] h) b aET r:=by
 obtain⟨ub,a8,d⟩:=h;have g:ub=b+4096:=t.ar;have c:d=[]:=t.bQ;subst c;have e:dJ b r [] (.mk ub a8 [])= .ok r b (a8.drop b) []:=rfl;refine⟨a8.drop b,e,λk=>?_⟩;by_cases a:k<b
 ·rw[ic a,b1.rB b a8 k a,<-kz aET a,<-t.aj k (λd _=>by omega)];show _=cE ub a8 k;rw[ic]
 ·rw[jz,jz]
def uR(u:Fn)(E:cr)(f:Nat)(D:Rat->Prop):Prop:=∀m:cw,D m.U->∀ub aET,u f [.agg (E.bd m)] ub aET= .ok (.F (decide (m.U=0))) ub aET []
def tg:bE->Nat->Int
 |[],_=> -1
 |m::r,i=>if m.U=0 then i else tg r (i+1)
theorem Zo(u:Fn)(a c:an)(b:Nat)(aET:b1):wW u [a,c] b aET=bq false a λd=>du 0 1 7 8 1000000 (ut u b λe=>uS b fC e) a c d aL (ba b aET):=by kernel_rfl
theorem pE:(fC:an)=ao (-1):=by rw[cX];rfl
theorem QJ(b:Nat)(c:Int)(h:aI):uS b (ao c) h=dJ b (ao c) [] h:=by unfold uS;rw[bj,b7,av]
theorem aCA(n:uR u E f D)(j:h.aj q= .az s 120 8 (ms.map E.bd) aEQ)(o:∀m∈ms,D m.U)(z:ms.length<100000):∀(c:bE) (N i:Nat),ms.drop i=c->i<=ms.length->c.length<N->
 du 0 1 7 8 N (ut u b λg=>uS b fC g) (.az q s 0 ms.length) (dI f) (ao ms.length) (ao i) h=dJ b (ao (tg c i)) [] h:=by
 intro c;induction c with
 |nil=>intro N i d hi k;obtain⟨N,rfl⟩:=cN N;have hi:ms.length<=i:=pZ.1 d;rw[fj];generalize du 0 1 7 8 N (ut u b λg=>uS b fC g)=j4;rw[ut,bO (a:=(i:Int)) (b:=(ms.length:Int)),bk,a6,pE,QJ];rfl
 |cons m c p=>
  intro N i d A k;obtain⟨N,rfl⟩:=cN N;have hi:i<ms.length:=by
   rcases kW i ms.length with h|h
   ·exact h
   ·rw[lH h] at d;cases d
  rw[iK hi] at d;have t:ms[i]=m:=(kf d).1;have w:ms.drop (i+1)=c:=(kf d).2;have l:ms[i]? =some m:=by rw[dC hi,t]
  have x:(ms.map E.bd)[i]? =some (E.bd m):=by rw[fo,l];rfl
  rw[fj,ut,bO (a:=(i:Int)) (b:=(ms.length:Int)),bN,bL,adD,gu j hi,zE j x (E.eG m),Ts (E.gw m) (n m (o m (dr l)) _ _)];have y:tg (m::c) i=if m.U=0 then(i:Int) else tg c (i+1):=rfl;rw[y];by_cases e:m.U=0
  ·rw[dm e,bL,cv e,QJ]
  ·rw[gK e,a6,cU e,bK,cK (a:=(i:Int)) (b:=1)];exact p N (i+1) w (by omega) (by simp at k;omega)
theorem aq1(a:uR u E f D)(c:q<b)(d:cE b aET q= .az s 120 8 (ms.map E.bd) aEQ)(e:∀m∈ms,D m.U)(g:ms.length<100000):
 gD (wW u [.az q s 0 ms.length,dI f] b aET) b aET (ao (tg ms 0)):=by
 have i:(ba b aET).aj q= .az s 120 8 (ms.map E.bd) aEQ:=by rw[kz aET c];exact d
 rw[Zo,jw,bF,show(ao 0:an)=ao ((0:Nat):Int) from rfl,aCA a i e g ms 1000000 0 rfl (by omega) (by omega)];exact rp .refl (S:=[])
theorem aq4:gD (wW u [.aE,dI f] b aET) b aET (ao (-1)):=by rw[Zo,hy,bF,hQ,fj];generalize du 0 1 7 8 999999 (ut u b λa=>uS b fC a)=j4;rw[ut,bO,bk,a6,pE,QJ];exact rp .refl (S:=[])
def LM(u:Fn)(E:cr)(f:Nat)(D:Rat->Prop):Prop:=(∀{b:Nat} {aET:b1} {q s:Nat} {aEQ:Bool} {ms:bE},q<b->cE b aET q= .az s 120 8 (ms.map E.bd) aEQ->(∀m∈ms,D m.U)->ms.length<100000->gD (u 286 [.az q s 0 ms.length,dI f] b aET) b aET (ao (tg ms 0)))/\
 ∀{b:Nat} {aET:b1},gD (u 286 [.aE,dI f] b aET) b aET (ao (-1))
end
end
section
variable{q s e sz n f:Nat} {S:List Nat} {h h':aI} {aET:b1} {es:aY} {D:Rat->Prop} {ms:bE}
section
variable[Tok] {u:Fn} {E:cr} {b:Nat}
structure kc (b q:Nat) (S:List Nat) (h h':aI):Prop where
 ar:h'.ar=h.ar
 aj:∀k,k≠q->(∀d∈S,k≠b+d)->h'.aj k=h.aj k
 bQ:∀k∈h'.bQ,k∈h.bQ\/k=q
theorem kc.refl:kc b q S h h:=⟨rfl,λ_ _ _=>rfl,λ_ h=> .inl h⟩
theorem kc.trans{q:Nat}{S:List Nat}{h h' c:aI}(x:kc b q S h h')(y:kc b q S h' c):kc b q S h c:=
 ⟨y.ar.trans x.ar,λk a d=>(y.aj k a d).trans (x.aj k a d),λk a=>(y.bQ k a).elim (x.bQ k) .inr⟩
theorem kc.jv{a:List Nat}(x:eY b a h h')(c:∀d∈a,d∈S):kc b q S h h':=⟨x.ar,λk _ g=>x.aj k λd i=>g d (c d i),λk j=> .inl (x.bQ▸j)⟩
theorem kc.nD(x:g6 q h h'):kc b q S h h':=⟨x.ar,λk a _=>x.aj k a,x.bQ⟩
def HR(a:aw)(b:Nat)(aET:b1)(r:an)(q s e sz:Nat)(es:aY):Prop:=
 ∃c d,a= .ok r b c d/\(∀k,k≠q->cE b c k=cE b aET k)/\cE b c q= .az s e sz es true/\∀k∈d,k=q
theorem acw(t:kc b q S (ba b aET) h)(g:q<b)(i:h.aj q= .az s e sz es true):HR (mH b [.az q s 0 n] [] h) b aET (.az q s 0 n) q s e sz es:=by
 obtain⟨ub,a8,d⟩:=h;have w:ub=b+4096:=t.ar;have j:∀k∈d,k=q:=λk a=>(t.bQ k a).elim (λh=>by cases h) id;have p:(a8.get q).ag= .az s e sz es true:=by have:cE ub a8 q= .az s e sz es true:=i;rw[ic] at this;exact this
 have r:mH b [.az q s 0 n] [] (.mk ub a8 d)= @Bool.rec (λ_=>aw) (bf (sk ub (.az q s 0 n)) (.ok (.az q s 0 n) ub a8 d) .ax) (.ok (.az q s 0 n) b (a8.drop b) d) (cS (Nat.ble (Nat.succ q) b) (kE b a8 d)):=rfl;rw[r,GL p d j,ek,dm (xh g)];have l:∀k,cE b (a8.drop b) k=if k<b then(aI.mk ub a8 d).aj k else .ax 0:=by
  intro k;by_cases a:k<b
  ·rw[cv a,ic a,b1.rB b a8 k a];show _=cE ub a8 k;rw[ic]
  ·rw[cU a,jz]
 refine⟨a8.drop b,d,rfl,λk a=>?_,?_,j⟩
 ·rw[l];by_cases c:k<b
  ·rw[cv c,t.aj k a (λd _=>by omega),kz aET c]
  ·rw[cU c,jz]
 ·rw[l,cv g,i]
theorem EE{b:Nat}:∀{l:List Nat} {k:Nat},k∈gZ b l->k<b
 |j::r,k,h=>by
  have e:gZ b (j::r)= @Bool.rec (λ_=>List Nat) (gZ b r) (j::gZ b r) (Nat.ble (Nat.succ j) b):=rfl;rw[e] at h;cases a:Nat.ble (Nat.succ j) b with
  |true=>
   rw[a] at h;rcases gy.1 h with rfl|h
   ·exact dp a
   ·exact EE h
  |false=>rw[a] at h;exact EE h
theorem ao2{ps:aB}{r:an}(H:HR (u f ps h.ar h.au) h.ar h.au r q s e sz es):
 ∃h',g6 q h h'/\h'.aj q= .az s e sz es true/\(∀k:dg,dd u b f ps [] h k=k r h')/\∀k∈h'.bQ,k∈h.bQ\/(k=q/\k<b):=by
 obtain⟨c,d,l,o,p,t⟩:=H;obtain⟨ub,a8,a⟩:=h;have w:u f ps ub a8= .ok r ub c d:=l;have i:∀k∈aA (gZ b d) a,k∈a\/(k=q/\k<b):=by intro k j;rw[mJ,fr] at j;exact j.elim (λh=> .inr ⟨t k (uC h),EE h⟩) .inl
 refine⟨.mk ub c (aA (gZ b d) a),⟨rfl,λk g=>o k g,λk g=>(i k g).imp id And.left⟩,p,λk=>?_,i⟩
 ·have fD:dd u b f ps [] (.mk ub a8 a) k=jT b ub a k (u f ps ub a8):=rfl;rw[fD,w];have x:jT b ub a k (.ok r ub c d)=bf (Nat.ble ub ub) (k r (.mk ub c (aA (gZ b d) a))) .ax:=rfl;rw[x,ek,dm (cY ub),cM]
def it(ms:bE):bE:=ms.filter λm=>m.U≠0
theorem LX(a c:bE):it (a++c)=it a++it c:=List.filter_append ..
theorem zr{d t:Nat}{x z:aB}(j:x.length=8)(l:z.length=8)(i:b+d<h.ar):∃s a c,eY b [d] h c/\c.aj (b+d)= .box s x/\(∀k:dg,ci t b d none z h k=k (.bn (b+d) s 0) a)/\∀k:dg,aX b none 8 (.bn (b+d) s 0) (.agg x) a k=k .undef c:=by
 obtain⟨s,a,a1,a2,p⟩:=C7 (t:=t) (b:=b) (d:=d) (wk:=none) (cs:=z) (h:=h) (λo=>gs b [(b+d,o)]) i;have g:b+d<a.ar:=by rw[a1.ar];exact i
 refine⟨s,a,_,a1.trans (eY.eW (o:= .ae (.box s x)) g),kB g,p,λk=>?_⟩;rw[tD (b:=b) (n:=8) (off:=0) (wk:=none) (new:=x) a2 j (by rw[l];exact cY _) (λo=>gs b [(b+d,o)]) g,show z.take 0++x++z.drop (0+8)=x by rw[tF,lH (by omega)];simp]
theorem aCv(hz:uR u E f D)(C:gT)(c3:q<b)(cl:∀m∈ms,D m.U)(hl:ms.length<100000):∀(c:bE) (N i j:Nat) (es:aY) (h:aI),ms.drop j=c->h.ar=b+4096->h.aj q= .az s 120 8 es true->es.length=ms.length->i<j->
 j<=ms.length->es.take i=(it (ms.take j)).map E.bd->es.drop j=c.map E.bd->(∀cs∈es,cs.length=8)->c.length<N->
 ∃i' aEK h',h'.ar=b+4096/\h'.aj q= .az s 120 8 aEK true/\aEK.length=ms.length/\i'<ms.length+1/\aEK.take i'=(it ms).map E.bd/\kc b q [7] h h'/\
  du 0 1 5 6 N (EA u b C) (.az q s 0 ms.length) (dI f) (ao i) (ao j) h=C (.az q s 0 ms.length) (ao i') h':=by
 intro c;induction c with
 |nil=>intro N i j es h g G l w cn p y r A H;obtain⟨N,rfl⟩:=cN N;have cp:ms.length<=j:=pZ.1 g;refine⟨i,es,h,G,l,w,by omega,by rw[y,pn cp],.refl,?_⟩;rw[fj];generalize du 0 1 5 6 N (EA u b C)=j4;rw[EA,jw,bO (a:=(j:Int)) (b:=(ms.length:Int)),bk,a6]
 |cons m c W=>
  intro N i j es h g G l w cn p y r A H;obtain⟨N,rfl⟩:=cN N;have p:j<ms.length:=by
   rcases kW j ms.length with h|h
   ·exact h
   ·rw[lH h] at g;cases g
  rw[iK p] at g;have c0:ms[j]=m:=(kf g).1;have X:ms.drop (j+1)=c:=(kf g).2;have Z:ms[j]? =some m:=by rw[dC p,c0]
  have ge:es[j]? =some (E.bd m):=by have:=sp (xs:=es) (i:=j) (j:=0);rw[r] at this;simpa using this.symm
  have a5:es.drop (j+1)=c.map E.bd:=by
   have:es.drop (j+1)=(es.drop j).drop 1:=by rw[List.drop_drop]
   rw[this,r];rfl
  have bs:ms.take (j+1)=ms.take j++[m]:=by rw[oG,Z];rfl
  have c1:D m.U:=cl m (dr Z);obtain⟨c4,h1,k,a1,a2,a3,a4⟩:=zr (b:=b) (d:=7) (t:=120) (h:=h) (z:=fX) (E.eG m) rfl (by omega);have I:k.aj q= .az s 120 8 es true:=by rw[a1.aj q λd r=>by simp at r;omega];exact l
  have bx:k.ar=b+4096:=by rw[a1.ar];exact G
  rw[fj,EA,jw,bO (a:=(j:Int)) (b:=(ms.length:Int)),bN,bL,abc,gu l p,zE l ge (E.eG m),a3,a4,aH a2,be (E.eG m),Ts (E.gw m) (hz m c1 _ _),hj];by_cases B:m.U=0
  ·rw[dm B,iz,a6,bK,cK (a:=(j:Int)) (b:=1)];obtain⟨i',aEK,h',J,K,L,M,O,P,Q⟩:=W N i (j+1) es k X bx I w (by omega) (by omega) (by rw[y,bs,LX];simp[it,B]) a5 A (by simp at H;omega);exact⟨i',aEK,h',J,K,L,M,O,(kc.jv a1 (by simp)).trans P,Q⟩
  ·have hi:i<ms.length:=by omega
   have cc:es[i]? =some (es[i]'(by omega)):=dC _;have R:q<k.ar:=by omega
   have c2:∀o,gO b none [(q,o)]=true:=λo=>gs b _;rw[gK B,mG,bL];unfold abp;rw[aH a2,be (E.eG m),gu I hi,U3 (b:=b) (wk:=none) I cc (A _ (dr cc)) (E.eG m) (E.gw m) (c2 _) R,bK,cK (a:=(i:Int)) (b:=1)];dsimp only;rw[cK (a:=(j:Int)) (b:=1)];have tn:g6 q k (k.eW b q (.ae (.az s 120 8 (es.set i (E.bd m)) true))):=g6.eW R;obtain⟨i',aEK,h',J,K,L,M,O,P,Q⟩:=W N (i+1) (j+1) (es.set i (E.bd m)) (k.eW b q (.ae (.az s 120 8 (es.set i (E.bd m)) true))) X (by rw[aI.qv];exact bx) (kB R) (by simp[w]) (by omega) (by omega)
    (by rw[bs,LX,ly,<-y];rw[show it [m]=[m] by simp[it,B]];rw[oG,List.getElem?_set_self (by omega),List.take_set_of_le (cY i)];rfl)
    (by rw[List.drop_set_of_lt (by omega)];exact a5) (λcs T=>by
     rcases List.mem_or_eq_of_mem_set T with T|rfl
     ·exact A cs T
     ·exact E.eG m) (by simp at H;omega)
   exact⟨i',aEK,h',J,K,L,M,O,((kc.jv a1 (by simp)).trans (kc.nD tn)).trans P,Q⟩
theorem uH(d:Nat)(f:Nat->aw):jY d none f=f d:=jL rfl
theorem alj(d:Nat)(v:an)(f:Nat->aw):jY d (some v) f=jR v λ_ n=>bf (Nat.ble 18446744073709551616 n) (eF (Nat.sub n 18446744073709551616) f) .ax:=rfl
theorem uW(d i:Nat)(f:Nat->aw):jY d (some (ao i)) f=f i:=by rw[cX,alj,wg,ek,bN,cM,fd,show Nat.sub ((i:Int)+18446744073709551616).toNat 18446744073709551616=i by rw[oT];omega]
theorem G9{ob:ej}{len:Nat}{r:Bool}{lo hi:Option an}{a c:Nat}(d:ob q= .az s e sz es r)(g:∀f,jY 0 lo f=f a)(i:∀f,jY len hi f=f c)(j:a<=c:=by exact(cY 0))(o:c<=len)(k:an->aw):k7 ob sz (.az q s 0 len) lo hi k=k (.az q s a (c-a)):=by have p:k7 ob sz (.az q s 0 len) lo hi k=jY 0 lo λl=>jY len hi λh=>jQ (ob q) λt _ w _ _=>bf (Nat.beq s t) (bf (Nat.beq w sz) (bf (Nat.ble l h) (bf (Nat.ble h len) (k (.az q s (Nat.add 0 l) (Nat.sub h l))) .ax) .ax) .ax) .ax:=rfl;rw[p,g,i,d,qC,gb,cM,gb,cM,ek,dm j,cM,ek,dm o,cM,hZ,kM,oT]
theorem avt{i:Nat}(c:h.aj q= .az s 120 8 es true)(j:es.length=n)(hi:i<=n)(a:q<h.ar):
 ∃aEK h',h'.aj q= .az s 120 8 aEK true/\aEK.length=n/\aEK.take i=es.take i/\g6 q h h'/\IZ u b (.az q s 0 n) (ao i) h=Fh b (.az q s 0 i) h':=by
 generalize d:(fX:aB)=z;have g:zF h.aj 120 8 z (.az q s i (n-i))=some (.a0 [],[(q,.az s 120 8 (es.take i++List.replicate (n-i) z++es.drop (i+(n-i))) true)]):=by simp only[zF,c,gb,yd];rw[ek,dm (by rw[hZ];omega)];rfl
 refine⟨es.take i++List.replicate (n-i) z++es.drop (i+(n-i)),h.eW b q (.ae (.az s 120 8 (es.take i++List.replicate (n-i) z++es.drop (i+(n-i))) true)),kB a,by simp;omega,?_,g6.eW a,?_⟩
 ·rw[kD,rV (by simp;omega),List.take_take,Nat.min_self]
 ·rw[IZ,G9 c (λf=>uW 0 i f) (λf=>uH n f) hi (cY n),d,g,zm (gs b _) a,G9 (kB a) (λf=>uH 0 f) (λf=>uW n i f) (ik i) hi,D4]
theorem aar:∀(l:bE) (i:Nat),(tg l i= -1/\it l=l)\/∃p m r,l=p++m::r/\m.U=0/\it p=p/\tg l i=(i+p.length:Nat)
 |[],_=> .inl ⟨rfl,rfl⟩
 |m::r,i=>by
  unfold tg;by_cases h:m.U=0
  ·rw[cv h];exact .inr ⟨[],m,r,rfl,h,rfl,by simp⟩
  ·rw[cU h];have g:it (m::r)=m::it r:=by simp[it,h]
   rcases aar r (i+1) with⟨a,c⟩|⟨p,j,k,a,c,d,o⟩
   ·exact .inl ⟨a,by rw[g,c]⟩
   ·refine .inr ⟨m::p,j,k,by rw[a];rfl,c,by simp[it,h] at d ⊢;exact d,?_⟩;rw[o];simp;omega
theorem alS(x:uR u E f D)(y:LM u E f D)(c:q<b)(z:cE b aET q= .az s 120 8 (ms.map E.bd) true)(o:∀m∈ms,D m.U)(g:ms.length<100000):
 ∃i es,HR (vH u [.az q s 0 ms.length,dI f] b aET) b aET (.az q s 0 i) q s 120 8 es/\es.length=ms.length/\i<=ms.length/\es.take i=(it ms).map E.bd:=by
 have t:(ba b aET).aj q= .az s 120 8 (ms.map E.bd) true:=by rw[kz aET c];exact z
 obtain⟨A,X⟩:=y;have Q:= @A (ba b aET).ar (ba b aET).au q s true ms (by rw[ads];omega) (by rw[aI.vZ];exact t) o g;obtain⟨j,a1,a2⟩:=my (b:=b) Q;have w:j.aj q= .az s 120 8 (ms.map E.bd) true:=by rw[a1.aj q λd k=>by cases k];exact t
 have B:j.ar=b+4096:=by rw[a1.ar];rfl
 rw[vH,dE,OK,lY,av,a2,pE];rcases aar ms 0 with⟨a,l⟩|⟨p,m,r,a,l,C,G⟩
 ·rw[a,dj,dm rfl,bL];refine⟨ms.length,ms.map E.bd,acw (S:=[]) (kc.jv a1 (λd k=>by cases k)) c w,dS ..,cY _,by rw[l];exact pn (by rw[dS];exact cY _)⟩
 ·have Z:p.length<ms.length:=by rw[a];simp
  rw[G,dj,bk,a6,T4,bK,cK,show(((0+p.length:Nat):Int)+1)=((p.length+1:Nat):Int) by omega,show(0+p.length)=p.length by omega];obtain⟨i',aEK,h',a3,H,I,a4,J,K,L⟩:=aCv (b:=b) x (IZ u b) c o g r 1000000 p.length (p.length+1) (ms.map E.bd) j (by rw[a,show p.length+1=(p++[m]).length by simp,show p++m::r=(p++[m])++r by simp,Gh]) B w (by simp) (by omega) (by omega)
   (by rw[a,<-y4,List.take_left,show p.length+1=(p++[m]).length by simp,show p++m::r=(p++[m])++r by simp,List.take_left,LX,C];simp[it,l])
   (by rw[a,<-wd,show p.length+1=(p++[m]).length by simp,show p++m::r=(p++[m])++r by simp,Gh])
   (λcs M=>((E.iJ ms) cs M).1) (by rw[a] at g;simp at g;omega)
  rw[L];obtain⟨N,h2,O,P,R,T,W⟩:=avt (u:=u) (b:=b) (i:=i') (n:=ms.length) H I (by omega) (by omega:q<h'.ar);rw[W];refine⟨i',N,acw (S:=[7]) (((kc.jv a1 (by simp)).trans K).trans (kc.nD T)) c O,P,by omega,by rw[R,J]⟩
theorem arj(c:LM u E f D):gD (vH u [.aE,dI f] b aET) b aET .aE:=by
 obtain⟨k,g⟩:=c;have Q:= @g (ba b aET).ar (ba b aET).au;obtain⟨a,a1,a2⟩:=my (b:=b) Q;rw[vH,dE,OK,lY,av,a2,pE,dj,dm rfl,bL];have e:Fh b .aE a=dJ b .aE [] a:=by have i:Fh b .aE a=L8 b .aE a:=rfl;have j:dJ b .aE [] a=wR b .aE a:=rfl;rw[i,j];obtain⟨ub,a8,d⟩:=a;show @Bool.rec (λ_=>aw) (bf true (.ok .aE ub a8 d) .ax) (.ok .aE b (a8.drop b) d) (cS true (kE b a8 d))= @Bool.rec (λ_=>aw) (.ok .aE ub a8 d) (.ok .aE b (a8.drop b) d) (kE b a8 d);cases kE b a8 d<;>rfl
 rw[e];exact rp a1
def NS(u:Fn)(E:cr)(f:Nat)(D:Rat->Prop):Prop:=(∀{b:Nat} {aET:b1} {q s:Nat} {ms:bE},q<b->cE b aET q= .az s 120 8 (ms.map E.bd) true->(∀m∈ms,D m.U)->ms.length<100000->
 ∃i es,HR (u 238 [.az q s 0 ms.length,dI f] b aET) b aET (.az q s 0 i) q s 120 8 es/\es.length=ms.length/\i<=ms.length/\es.take i=(it ms).map E.bd)/\
 ∀{b:Nat} {aET:b1},gD (u 238 [.aE,dI f] b aET) b aET .aE
end
end
section
variable{D:Rat->Prop} {q s n ql:Nat} {ms:bE} {es:aY} {aET:b1}
theorem avA{α i:Type}{f:α->i}{l j:List i}(h:l.Perm j):∀ms:List α,j=ms.map f->∃c:List α,l=c.map f/\c.Perm ms:=by
 induction h with
 |nil=>intro ms e;exact⟨[],rfl,by cases ms with|nil=>exact pG []|cons a r=>cases e⟩
 |cons x h k=>
  intro ms e;cases ms with
  |nil=>cases e
  |cons a r=>simp only[gm,uD] at e;obtain⟨c,d,g⟩:=k r e.2;exact⟨a::c,by rw[d,e.1];rfl,g.cons a⟩
 |swap x y l=>
  intro ms e
  match ms,e with
  |a::b::r,e=>simp only[gm,uD] at e;exact⟨b::a::r,by rw[e.1,e.2.1,e.2.2];rfl,List.Perm.swap a b r⟩
 |trans z A ih1 o=>intro ms e;obtain⟨fC,d,p⟩:=o ms e;obtain⟨t,g,w⟩:=ih1 fC d;exact⟨t,g,w.trans p⟩
theorem L1:∀(r aED:bE),(fN aED r).length<=aED.length+r.length
 |[],aED=>by simp[fN]
 |m::r,aED=>by rw[we];have a:=L1 r (fN aED [m]);have c:=UY aED m;simp only[h9];omega
theorem LB{K:Nat->Prop}:∀(r aED:bE),(∀t∈aED,K t.k)->(∀m∈r,K m.k)->∀t∈fN aED r,K t.k
 |[],aED,h,_=>h
 |m::r,aED,h,a=>by rw[we];exact LB r (fN aED [m]) (aca h (a m eS)) λx c=>a x (gv _ c)
theorem abq(aED:bE)(m:cw):fN aED [m]≠[]:=by
 simp only[fN];cases aED.getLast? with
 |none=>simp
 |some t=>simp only[];split<;>simp
theorem ada:∀(r aED:bE),aED≠[]->fN aED r≠[]
 |[],aED,h=>h
 |m::r,aED,h=>by rw[we];exact ada r _ (abq aED m)
section
variable[Tok] {u:Fn} {E:cr} {K:Nat->Prop} {b:Nat}
def Ci(u:Fn)(E:cr)(D:Rat->Prop):Prop:=∀c,D c->c≠0->aK u 212 [.agg (E.num c)] (.F true)
def z7(E:cr)(K:Nat->Prop):Prop:=∀k,K k->∃n:Nat,n<=8/\∀a:an->aw,bq false (E.di k) a=a (ao n)
theorem AK:(vW:an)=ao 8:=by rw[cX];rfl
theorem Bp:(Gz:an)=ao 60:=by rw[cX];rfl
theorem atx(w:Ci u E D)(x:z7 E K)(j:gx){n:Nat}{aEQ:Bool}(y:∀m∈ms,D m.U/\m.U≠0)(A:∀m∈ms,K m.k)(hl:ms.length<100000)(B:es.take ms.length=ms.map E.bd)(C:∀d,d=9->q≠b+d)(X:an):
 ∀(e:bE) (N i:Nat) (h:aI),ms.drop i=e->i<=ms.length->h.ar=b+4096->h.aj q= .az s 120 8 es aEQ->e.length<N->
 ∃h',eY b [9] h h'/\du 4 54 55 56 N (yv u b j) X (.az q s 0 ms.length) (ao ms.length) (ao i) h=j X h':=by
 intro e;induction e with
 |nil=>intro N i h c hi l g o;obtain⟨N,rfl⟩:=cN N;have G:ms.length<=i:=pZ.1 c;refine⟨h,.refl,?_⟩;rw[fj];generalize du 4 54 55 56 N (yv u b j)=j4;rw[yv,bO (a:=(i:Int)) (b:=(ms.length:Int)),bk,a6]
 |cons m e H=>
  intro N i h c G l g o;obtain⟨N,rfl⟩:=cN N;have hi:i<ms.length:=by
   rcases kW i ms.length with h|h
   ·exact h
   ·rw[lH h] at c;cases c
  rw[iK hi] at c;have I:ms[i]=m:=(kf c).1;have J:ms.drop (i+1)=e:=(kf c).2;have k:ms[i]? =some m:=by rw[dC hi,I]
  have L:es[i]? =some (E.bd m):=by
   have p:(es.take ms.length)[i]? =some (E.bd m):=by rw[B,fo,k];rfl
   rw[nh] at p;simpa[hi] using p
  obtain⟨a5,h1,r,a1,a2,M,a4⟩:=zr (b:=b) (d:=9) (t:=120) (h:=h) (z:=fX) (E.eG m) rfl (by omega);obtain⟨O,P⟩:=y m (dr k);obtain⟨n',bs,Q⟩:=x m.k (A m (dr k));have R:0+0+7<=(E.bd m).length:=by rw[E.eG];omega
  rw[fj,yv,bO (a:=(i:Int)) (b:=(ms.length:Int)),bN,bL,Y4,gu g hi,zE g L (E.eG m),M,a4,bp,bb,aH a2,bc (by simpa using E.kk m),
   Xk,Q,AK,hH,bk,fZ,bb,aH a2,e8 R,show(0:Nat)+0=0 from rfl,E.jV,bg,bm (E.eU _),av,aT (w m.U O P),hj]
  unfold M5;rw[dO,iz,a6,bK];dsimp only;rw[cK (a:=(i:Int)) (b:=1)];have S:r.aj q= .az s 120 8 es aEQ:=by rw[a1.aj q λd T=>C d (by simpa using T)];exact g
  obtain⟨h',W,Z⟩:=H N (i+1) r J (by omega) (by rw[a1.ar];exact l) S (by simp at o;omega);exact⟨h',a1.trans W,Z⟩
def CZ(a:aw)(b:Nat)(aET:b1)(ql:Nat)(r:an):Prop:=∃c d,a= .ok (.a0 [r,ao 0]) b c d/\(∀k,k≠ql->cE b c k=cE b aET k)/\∀k∈d,k=ql
theorem T7{ob:ej}{e sz:Nat}(c:ob q= .az s e sz es true)(i:n<=es.length)(f:jm):aD ob (.az q s 0 n) f=f (.aQ sz (es.take n)) [(q,.az s e sz es false)]:=by
 have d:aD ob (.az q s 0 n) f=jQ (ob q) λa e sz es aEQ=>bf (Nat.beq s a) (bf (Nat.ble (Nat.add 0 n) (ea es)) (f (.aQ sz (l3 es 0 n)) (@Bool.rec (λ_=>eH) [] [(q,.az a e sz es false)] aEQ)) .ax) .ax:=rfl;rw[d,c,qC,gb,cM,gr,ek,dm (by rw[hZ];omega),cM,yk];have g:part es 0 n=es.take n:=by
  simp only[part,u7];cases h:Nat.beq n es.length with
  |true=>rw[gz h];simp
  |false=>simp
 rw[g]
theorem awX{h:aI}{S:List Nat}(t:kc b ql S (ba b aET) h)(M:ql<b)(a:∃s e sz es r,h.aj ql= .az s e sz es r)(N:b<=q)(O:q<b+4096)(y:h.aj q= .az s 120 8 es true)(z:n<=es.length):
 CZ (uG b (.az q s 0 n) aL h) b aET ql (.aQ 8 (es.take n)):=by
 have A:uG b (.az q s 0 n) aL h=aD h.aj (.az q s 0 n) λB s4=>aD h.aj aL λC G=>dJ b (.a0 [B,C]) (aA s4 (aA G [])) h:=rfl;rw[A,T7 y z,bF,b7,av,Pa];obtain⟨ub,a8,d⟩:=h;have P:ub=b+4096:=t.ar;have i:∀k∈d,k=ql:=λk c=>(t.bQ k c).elim (λh=>by cases h) id;have H:dJ b (.a0 [.aQ 8 (es.take n),ao 0]) [(q,.az s 120 8 es false)] (.mk ub a8 d)=bf (Nat.ble (Nat.succ q) ub) (wR b (.a0 [.aQ 8 (es.take n),ao 0]) ((aI.mk ub a8 d).eW b q (.ae (.az s 120 8 es false)))) .ax:=rfl;have I:(aI.mk ub a8 d).eW b q (.ae (.az s 120 8 es false))= .mk ub (a8.set q (.ae (.az s 120 8 es false))) d:=by show aI.mk ub (a8.set q (.ae (.az s 120 8 es false))) (@Bool.rec (λ_=>List Nat) d (q::d) (Nat.blt q b))=_;rw[oW,bk]
 rw[H,ek,bN,cM,I];obtain⟨j,l,p,aEK,w,a⟩:=a;have J:((a8.set q (.ae (.az s 120 8 es false))).get ql).ag= .az j l p aEK w:=by rw[b1.zN,cz];have:cE ub a8 ql= .az j l p aEK w:=a;rw[ic] at this;exact this
 have L:wR b (.a0 [.aQ 8 (es.take n),ao 0]) (.mk ub (a8.set q (.ae (.az s 120 8 es false))) d)= @Bool.rec (λ_=>aw) (.ok (.a0 [.aQ 8 (es.take n),ao 0]) ub (a8.set q (.ae (.az s 120 8 es false))) d) (.ok (.a0 [.aQ 8 (es.take n),ao 0]) b ((a8.set q (.ae (.az s 120 8 es false))).drop b) d) (kE b (a8.set q (.ae (.az s 120 8 es false))) d):=rfl;rw[L,GL J d i];refine⟨(a8.set q (.ae (.az s 120 8 es false))).drop b,d,rfl,λk c=>?_,i⟩;by_cases g:k<b
 ·rw[ic g,b1.rB b _ k g,b1.zN,cz,<-kz aET g,<-t.aj k c (λd _=>by omega)];show _=cE ub a8 k;rw[ic]
 ·rw[jz,jz]
theorem aa2(u:Fn)(a:an)(b:Nat)(aET:b1):v4 u [a] b aET=dd u b 236 [a,dI 237] [] (ba b aET) λ_ c=>bq false a λd=>du 4 12 13 14 1000000 (uX u b (Bg u b)) .aE a d aL c:=by kernel_rfl
theorem mT.imp{S T:Rat->Rat->Prop}(a:∀c d,S c d->T c d):∀(r aED:bE),mT S aED r->mT T aED r
 |[],_,_=>trivial
 |m::r,aED,h=>by
  simp only[mT] at h ⊢;cases g:aED.getLast? with
  |none=>rw[g] at h;exact mT.imp a r _ h
  |some t=>
   rw[g] at h;simp only[] at h ⊢;split
   ·rename_i e;rw[cv e] at h;exact⟨a _ _ h.1,mT.imp a r _ h.2⟩
   ·rename_i e;rw[cU e] at h;exact mT.imp a r _ h
theorem aBY{ρ:jS}(A:∀m:cw,K m.k->ρ.ai (E.bd m)=m.k)(cn:Ny u 237 ρ)(W:ρ.Y u)(I:∀u,ρ.Y u->n9 u E K)(l:NS u E 239 D)(hv:Ci u E D)(ha:z7 E K){sl:Nat}(J:ql<b)(X:2048<=ql%4096)(ho:cE b aET ql= .az sl 120 8 (ms.map E.bd) true)
 (hl:ms.length<=39)(cp:ms≠[])(p:∀m∈ms,K m.k)(B:Jt E (ms.map (·.k)))
 (cs:∀g:bE,g.Perm ms->(∀i j,i<j->j<g.length->∀x y,g[i]? =some x->g[j]? =some y->x.k<=y.k)->mT (rd u E) [] g/\∀t∈fN [] g,D t.U):
 ∃g:bE,g.Perm ms/\(∀i j,i<j->j<g.length->∀x y,g[i]? =some x->g[j]? =some y->x.k<=y.k)/\CZ (v4 u [.az ql sl 0 ms.length] b aET) b aET ql (.aQ 8 ((it (fN [] g)).map E.bd)):=by
 have hc:=I u W;have c0:iq u 237 ρ (ms.map E.bd):=by
  refine⟨W,λZ a3=>?_⟩;rw[M2];refine List.Pairwise.imp_of_mem (λ{m w} o L hr=>?_) (M2.1 B);have a1:=I Z a3 m w (p m o) (p w L) hr;have a2:=I Z a3 w m (p w L) (p m o) (by
   rcases hr with h|h
   ·exact .inl (Ne.symm h)
   ·by_cases e:m.k=w.k
    ·exact .inr (e▸h)
    ·exact .inl (Ne.symm e))
  unfold yP;rw[A m (p m o),A w (p w L)];exact⟨a1,a2⟩
 have hA:=eL.rF J X ho (E.iJ ms) (by rw[dS];omega);obtain⟨aEK,r1,c1,c2⟩:=cn hA.sub.1 X hA.sub.2 (E.iJ ms) (by rw[dS];exact hl) c0;obtain⟨h1,t1,t2,t3⟩:=qm (b:=b) r1;obtain⟨g,c3,z⟩:=avA c1 ms rfl;subst c3;have M:g.length=ms.length:=z.length_eq;have a4:∀i j,i<j->j<g.length->∀x y,g[i]? =some x->g[j]? =some y->x.k<=y.k:=by
  intro i j c4 hp x y hx a5;have:=c2 i j (ik i) c4 (by rw[dS];omega);rw[XO (show(g.map E.bd)[i]? =some (E.bd x) by rw[fo,hx];rfl),XO (show(g.map E.bd)[j]? =some (E.bd y) by rw[fo,a5];rfl),
   A x (p x (z.mem_iff.1 (dr hx))),A y (p y (z.mem_iff.1 (dr a5)))] at this
  exact this
 obtain⟨c5,bs⟩:=cs g z a4;refine⟨g,z,a4,?_⟩;rw[dS] at t3;rw[aa2,t3,jw,bF,show(ao 0:an)=ao ((0:Nat):Int) from rfl,<-M];have bx:h1.ar=b+4096:=by rw[t1.ar];rfl
 have cc:∀m∈g,K m.k:=λm o=>p m (z.mem_iff.1 o);obtain⟨hw,C,dq,N,ee⟩:=avk (u:=u) (E:=E) (K:=K) (b:=b) hc (Bg u b) (ql:=ql) (sl:=sl) (rl:=true) (ms:=g) J (by omega) cc g 1000000 0 [] .aE h1 rfl (.inl ⟨rfl,rfl⟩) t2 bx (ik _) (λt O=>by cases O) (by
  refine((z.map _).pairwise_iff (λ{a c} h=>?_)).2 B;rcases h with h|h
  ·exact .inl (Ne.symm h)
  ·by_cases e:a=c
   ·exact .inr (e▸h)
   ·exact .inl (Ne.symm e)) c5 (by omega)
 rw[ee];have em:g≠[]:=by intro e;subst e;simp at M;exact cp (uw M.symm)
 have en:fN [] g≠[]:=by
  cases g with
  |nil=>exact absurd rfl em
  |cons m r=>rw[we];exact ada r _ (abq [] m)
 rcases dq with⟨_,e⟩|⟨G,rfl,B⟩
 ·simp at e;exact absurd e en
 have eq:C.ar=b+4096:=by rw[N.ar];exact bx
 have ev:=L1 g [];simp only[kT,kM] at ev;obtain⟨ex,hz⟩:=l;obtain⟨i,P,fn,ge,ew,Q⟩:= @ex C.ar C.au (b+2095) G (fN [] g) (by omega) (by rw[aI.vZ];exact B) bs (by omega);rw[dS];obtain⟨R,H,cl,gl,go⟩:=ao2 (b:=b) fn;have gt:R.ar=b+4096:=by rw[H.ar];exact eq
 rw[Bg,gl,jw,Bp,hH,bk,a6,Q6,jw,bF,show(ao 0:an)=ao ((0:Nat):Int) from rfl];have hi:i=(it (fN [] g)).length:=by have:=dt List.length Q;rw[ta,dS,ge] at this;omega
 subst hi;obtain⟨S,T,hb⟩:=atx (u:=u) (E:=E) (K:=K) (b:=b) (D:=D) hv ha (λhe hf=>uG b he (ao ((0:Nat):Int)) hf) (q:=b+2095) (s:=G) (n:=0) (aEQ:=true) (ms:=it (fN [] g)) (es:=P)
  (λm o=>⟨bs m (ux.1 o).1,by simpa using(ux.1 o).2⟩) (λm o=>LB g [] (λt O=>by cases O) cc m (ux.1 o).1) (by omega) Q (λd l=>by omega)
  (.az (b+2095) G 0 (it (fN [] g)).length) (it (fN [] g)) 1000000 0 R rfl (ik _) gt cl (by omega)
 rw[hb];have sY:kc b ql [6,2094,2095,9] (ba b aET) S:=(((kc.nD t1).trans (kc.jv N (by simp))).trans (⟨H.ar,λk hk l=>H.aj k (l 2095 (by simp)),λk hk=>?_⟩:kc b ql [6,2094,2095,9] C R)).trans (kc.jv T (by simp))
 ·have hh:S.aj (b+2095)= .az G 120 8 P true:=by rw[T.aj _ λd l=>by simp at l;omega];exact cl
  have hn:S.aj ql= .az sl 120 8 (g.map E.bd) true:=by rw[T.aj ql λd l=>by simp at l;omega,H.aj ql (by omega),N.aj ql λd l=>by simp at l;omega];exact t2
  have:=awX (b:=b) (aET:=aET) sY J ⟨_,_,_,_,_,hn⟩ (by omega) (by omega) hh (show(it (fN [] g)).length<=P.length by omega);rw[Q,bF] at this;exact this
 ·exact(go k hk).imp id λh=>by omega
end
end
section
variable{l:bE} {t:cw}
def cx(l:bE)(k:Nat):Rat:=match l with
 |[]=>0
 |m::r=>(if m.k=k then m.U else 0)+cx r k
theorem qp:∀(a b:bE) (k:Nat),cx (a++b) k=cx a k+cx b k
 |[],b,k=>by simp[cx,nV]
 |m::a,b,k=>by simp only[pL,cx,qp a b k,qq]
theorem alR{a b:bE}(h:a.Perm b)(k:Nat):cx a k=cx b k:=by
 induction h with
 |nil=>rfl
 |cons x _ c=>simp only[cx,c]
 |swap x y l=>simp only[cx,<-qq];rw[Et (if y.k=k then y.U else 0)]
 |trans _ _ d e=>rw[d,e]
theorem Dm{k:Nat}(h:∀m∈l,m.k≠k):cx l k=0:=by
 induction l with
 |nil=>rfl
 |cons m r a=>simp only[cx];rw[cU (h m eS),a λx c=>h x (gv _ c),nV]
abbrev lI (l:bE):Prop:=l.Pairwise λx y=>x.k<y.k
structure g7 (l:bE):Prop where
 g0:lI l
 jD:∀m∈l,m.U≠0
theorem m7(h:lI l)(a:t∈l):cx l t.k=t.U:=by
 induction l with
 |nil=>cases a
 |cons m r d=>
  obtain⟨c,e⟩:=o4.1 h;simp only[cx];rcases gy.1 a with rfl|a
  ·rw[cv rfl,Dm λx g=>by have:=c x g;omega,jb]
  ·rw[cU (by have:=c t a;omega),d e a,nV]
theorem awl{a b c:Rat}(h:a+b=a+c):b=c:=by have:=dt (λz=> -a+z) h;simp only[<-qq,Rat.neg_add_cancel,nV] at this;exact this
theorem M7:∀{l i:bE},g7 l->g7 i->(∀k,cx l k=cx i k)->l=i
 |[],[],_,_,_=>rfl
 |[],m::r,_,h',e=>by have d:=m7 h'.g0 (t:=m) eS;rw[<-e] at d;exact absurd d.symm (h'.jD m eS)
 |m::r,[],h,_,e=>by have d:=m7 h.g0 (t:=m) eS;rw[e] at d;exact absurd d.symm (h.jD m eS)
 |m::r,g::n,h,h',e=>by
  obtain⟨o,p⟩:=o4.1 h.g0;obtain⟨q,w⟩:=o4.1 h'.g0;have d:=m7 h.g0 (t:=m) eS;have j:=m7 h'.g0 (t:=g) eS;have y:m.k=g.k:=by
   rcases Hi m.k g.k with c|c|c
   ·rw[e,Dm λx a=>by
     rcases gy.1 a with rfl|a
     ·omega
     ·have:=q x a;omega] at d
    exact absurd d.symm (h.jD m eS)
   ·exact c
   ·rw[<-e,Dm λx a=>by
     rcases gy.1 a with rfl|a
     ·omega
     ·have:=o x a;omega] at j
    exact absurd j.symm (h'.jD g eS)
  have A:m.U=g.U:=by rw[<-d,<-j,y,e]
  have z:m=g:=by cases m;cases g;simp_all
  subst z;have:r=n:=M7 ⟨p,λx a=>h.jD x (gv _ a)⟩ ⟨w,λx a=>h'.jD x (gv _ a)⟩ λk=>by have:=e k;simp only[cx] at this;exact awl this
  rw[this]
theorem UX{aED:bE}(h:aED.getLast?=some t):aED=aED.dropLast++[t]:=by
 rcases KE aED with rfl|⟨a,x,rfl⟩
 ·simp at h
 ·simp at h;subst h;simp
theorem Vr:∀(r aED:bE) (k:Nat),cx (fN aED r) k=cx aED k+cx r k
 |[],aED,k=>by simp[fN,cx,jb]
 |m::r,aED,k=>by
  rw[we,Vr r];have e:cx (fN aED [m]) k=cx aED k+(if m.k=k then m.U else 0):=by
   simp only[fN];cases d:aED.getLast? with
   |none=>
    have:aED=[]:=by cases aED with|nil=>rfl|cons a b=>simp at d
    subst this;simp only[cx,nV,jb]
   |some t=>
    simp only[];have g:=UX d;by_cases c:t.k=m.k
    ·rw[cv c]
     conv=>rhs;rw[g]
     rw[qp,qp,qq];congr 1;simp only[cx,jb];rw[c];split
     ·rfl
     ·rw[nV]
    ·rw[cU c,qp];simp only[cx,jb]
  rw[e,qq];rfl
theorem Zy:∀(r aED:bE),lI aED->(r.Pairwise λx y=>x.k<=y.k)->(∀t∈aED,∀m∈r,t.k<=m.k)->lI (fN aED r)
 |[],aED,h,_,_=>h
 |m::r,aED,h,p,g=>by
  obtain⟨q,w⟩:=o4.1 p;rw[we];have k:lI (fN aED [m])/\∀t∈fN aED [m],t.k<=m.k:=by
   simp only[fN];cases n:aED.getLast? with
   |none=>exact⟨vC _ _,λt d=>by simp at d;subst d;exact cY _⟩
   |some t=>
    simp only[];have i:=UX n;rw[i] at h;obtain⟨z,B,o⟩:=Ih.1 h;have d:t∈aED:=List.mem_of_getLast? n;by_cases j:t.k=m.k
    ·rw[cv j];refine⟨Ih.2 ⟨z,vC _ _,λa c b e=>?_⟩,λa c=>?_⟩
     ·simp at e;subst e;exact o a c t (by simp)
     ·rcases fr.1 c with c|c
      ·exact g a (List.dropLast_subset _ c) m eS
      ·simp at c;subst c;exact Nat.le_of_eq j
    ·rw[cU j];have C:=g t d m eS;refine⟨Ih.2 ⟨by rw[i];exact h,vC _ _,λa c b e=>?_⟩,λa c=>?_⟩
     ·simp at e;subst e;rw[i] at c;rcases fr.1 c with c|c
      ·have:=o a c t (by simp);omega
      ·simp at c;subst c;omega
     ·rcases fr.1 c with c|c
      ·exact g a c m eS
      ·simp at c;subst c;exact cY _
  exact Zy r _ k.1 w λt d x A=>ie (k.2 t d) (q x A)
theorem Ly:∀(l:bE) (k:Nat),cx (it l) k=cx l k
 |[],_=>rfl
 |m::r,k=>by
  by_cases h:m.U=0
  ·have e:it (m::r)=it r:=by simp[it,h]
   rw[e,Ly r];simp only[cx,h];split<;>rw[nV]
  ·have e:it (m::r)=m::it r:=by simp[it,h]
   rw[e];simp only[cx,Ly r]
def lN(l:bE):Rat:=match l with
 |[]=>0
 |m::r=>m.U+lN r
theorem abX:∀(a b:bE),lN (a++b)=lN a+lN b
 |[],b=>by simp[lN,nV]
 |m::a,b=>by simp only[pL,lN,abX a b,qq]
theorem Iy{S:Rat->Rat->Prop}{ms:bE}(H:∀l m h,(l++m::h).Perm ms->l≠[]->(∀x∈l,x.k=m.k)->S (lN l) m.U):∀(h aED pre:bE),(pre++h).Perm ms->
 (∀t,aED.getLast?=some t->∃e g,pre=e++g/\g≠[]/\(∀x∈g,x.k=t.k)/\t.U=lN g)->mT S aED h
 |[],_,_,_,_=>trivial
 |m::r,aED,pre,j,q=>by
  simp only[mT];have i:(pre++[m]++r).Perm ms:=by rw[kD];exact j
  cases w:aED.getLast? with
  |none=>exact Iy H r [m] (pre++[m]) i λt d=>⟨pre,[m],rfl,by simp,λx c=>by simp at c d;rw[c,<-d],by simp at d;rw[<-d];simp[lN,jb]⟩
  |some t=>
   simp only[];obtain⟨e,g,k,y,n,o⟩:=q t w;split
   ·rename_i p;refine⟨?_,Iy H r _ (pre++[m]) i λz d=>?_⟩
    ·rw[o];refine H g m (e++r) ?_ y λx c=>(n x c).trans p;refine List.Perm.trans ?_ j;rw[k];have A:(g++m::(e++r)).Perm ((e++g)++(m::r)):=by
      rw[kD];refine(List.Perm.append_left g ?_:(g++m::(e++r)).Perm (g++(e++m::r))).trans ?_
      ·exact(NL (l₁:=e) (l₂:=r) (a:=m)).symm
      ·rw[<-kD,<-kD];exact List.Perm.append_right _ List.perm_append_comm
     exact A
    ·simp at d;subst d;refine⟨e,g++[m],by rw[k];simp,by simp,λx c=>?_,?_⟩
     ·rcases fr.1 c with c|c
      ·exact n x c
      ·simp at c;rw[c];exact p.symm
     ·show t.U+m.U=_;rw[abX,o];simp[lN,jb]
   ·refine Iy H r _ (pre++[m]) i λz d=>⟨pre,[m],rfl,by simp,λx c=>?_,?_⟩
    ·simp at c d;rw[c,<-d]
    ·simp at d;rw[<-d];simp[lN,jb]
theorem azR(h:∀i j,i<j->j<l.length->∀x y,l[i]? =some x->l[j]? =some y->x.k<=y.k):l.Pairwise λx y=>x.k<=y.k:=by rw[zJ];intro i j hi a c;exact h i j c a _ _ (dC hi) (dC a)
section
variable[Tok] {u:Fn} {E:cr} {K:Nat->Prop} {b:Nat}
theorem agE{ρ:jS}{D:Rat->Prop}(C:∀m:cw,K m.k->ρ.ai (E.bd m)=m.k)(g:Ny u 237 ρ)(G:ρ.Y u)(I:∀u,ρ.Y u->n9 u E K)(n:NS u E 239 D)(J:Ci u E D)(L:z7 E K){aET:b1}{ql sl:Nat}{ms:bE}(M:ql<b)(N:2048<=ql%4096)(O:cE b aET ql= .az sl 120 8 (ms.map E.bd) true)
 (P:ms.length<=39)(Q:ms≠[])(q:∀m∈ms,K m.k)(H:∀l m o,(l++m::o).Perm ms->l≠[]->(∀x∈l,x.k=m.k)->rd u E (lN l) m.U/\E.s m.k)(R:∀k,D (cx ms k)):
 ∃r:bE,g7 r/\(∀k,cx r k=cx ms k)/\(∀m∈r,K m.k)/\r.length<=ms.length/\CZ (v4 u [.az ql sl 0 ms.length] b aET) b aET ql (.aQ 8 (r.map E.bd)):=by
 have w:∀a:bE,a.Perm ms->(∀i j,i<j->j<a.length->∀x y,a[i]? =some x->a[j]? =some y->x.k<=y.k)->lI (fN [] a):=λa c g=>Zy a [] List.Pairwise.nil (azR g) λt d=>by cases d
 have z:∀a:bE,a.Perm ms->∀k,cx (fN [] a) k=cx ms k:=λa c k=>by rw[Vr,alR c];simp[cx,nV]
 have S:Jt E (ms.map (·.k)):=by
  unfold Jt;rw[M2,zJ];intro i j hi T a1;by_cases e:ms[i].k=ms[j].k
  ·right;have n:ms=(ms.take i++ms[i]::((ms.take j).drop (i+1)))++ms[j]::ms.drop (j+1):=by
    rw[<-iK T];have W:ms.take i++ms[i]::((ms.take j).drop (i+1))=ms.take j:=by
     have A:(ms.take j)[i]'(by simp;omega)=ms[i]:=by simp
     rw[<-A,<-iK (by simp;omega)];have B:ms.take i=(ms.take j).take i:=by rw[List.take_take,Nat.min_eq_left (by omega)]
     rw[B,Es]
    rw[W,Es]
   have c:([ms[i]]++ms[j]::(ms.take i++(ms.take j).drop (i+1)++ms.drop (j+1))).Perm ms:=by
    conv=>rhs;rw[n]
    refine List.Perm.symm ?_;refine(NL).trans ?_;refine(List.Perm.cons _ (List.Perm.append_right _ NL)).trans ?_;simp only[pL,kP];exact List.Perm.swap _ _ _
   have:=(H [ms[i]] ms[j] _ c (by simp) (by simpa using e)).2;rw[e];exact this
  ·exact .inl e
 obtain⟨a,h,X,Z⟩:=aBY (u:=u) (E:=E) (K:=K) (b:=b) (ρ:=ρ) (D:=D) C g G I n J L M N O P Q q S λa c g=>
  ⟨Iy (λl m o dB cT n2=>(H l m o dB cT n2).1) a [] [] c λt d=>by simp at d,λt d=>by rw[<-m7 (w a c g) d,z a c];exact R _⟩
 refine⟨it (fN [] a),⟨(w a h X).sublist List.filter_sublist,λm p=>by simpa using(ux.1 p).2⟩,λk=>by rw[Ly,z a h],λm p=>?_,?_,Z⟩
 ·exact LB a [] (λt d=>by cases d) (λx hx=>q x (h.mem_iff.1 hx)) m (ux.1 p).1
 ·have h1:=L1 a [];have A:(it (fN [] a)).length<=(fN [] a).length:=GP ..;have B:=h.length_eq;simp only[kT,kM] at h1;omega
end
end
section
variable{sz e q s d bytes:Nat} {v y:an} {es:aY} {h:aI} {aET:b1} {wk:Option (List Nat)} {aEQ:Bool}
section
variable[Tok] {u:Fn} {b:Nat}
def dw(sz:Nat)(v:an)(es:aY):Prop:=(v= .aE/\es=[])\/v= .aQ sz es
theorem dw.len(h:dw sz v es)(k:an->aw):bq false v k=k (ao es.length):=by
 rcases h with⟨rfl,rfl⟩|rfl
 ·exact hy k
 ·exact eA _ _ k
theorem dw.iZ(h:dw sz v es)(ob:ej)(f:aY->aw):ke ob sz v f=f es:=by
 rcases h with⟨rfl,rfl⟩|rfl
 ·rfl
 ·exact QH _ _ _ f
theorem dw.dU(h:dw sz v es)(ob:ej)(f:jm):aD ob v f=f v []:=by rcases h with⟨rfl,rfl⟩|rfl<;>rfl
theorem dw.met(h:dw sz v es)(b:Nat)(a:List Nat):jP b a v=true:=by rcases h with⟨rfl,rfl⟩|rfl<;>rfl
def q7(a:aw)(b:Nat)(aET:b1)(e sz len:Nat)(es:aY):Prop:=
 ∃c g q s,a= .ok (.az q s 0 len) c g []/\b<=q/\q<c/\2048<=q%4096/\c%4096=0/\b<=c/\cE c g q= .az s e sz es true/\∀k,k<b->cE c g k=cE b aET k
theorem F7{f:Nat}{ps:aB}{len:Nat}(H:q7 (u f ps h.ar h.au) h.ar h.au e sz len es):
 ∃h' q s,h.ar<=q/\q<h'.ar/\2048<=q%4096/\h'.ar%4096=0/\h.ar<=h'.ar/\h'.aj q= .az s e sz es true/\(∀k,k<h.ar->h'.aj k=h.aj k)/\h'.bQ=h.bQ/\∀k:dg,dd u b f ps [] h k=k (.az q s 0 len) h':=by
 obtain⟨a,g,q,s,j,l,n,o,fD,i,p,r⟩:=H;obtain⟨ub,a8,c⟩:=h;have t:u f ps ub a8= .ok (.az q s 0 len) a g []:=j;refine⟨.mk a g c,q,s,l,n,o,fD,i,p,λk w=>r k w,rfl,λk=>?_⟩;have zI:dd u b f ps [] (.mk ub a8 c) k=jT b ub c k (u f ps ub a8):=rfl;rw[zI,t];have x:jT b ub c k (.ok (.az q s 0 len) a g [])=bf (Nat.ble ub a) (k (.az q s 0 len) (.mk a g c)) .ax:=rfl;have z:ub<=a:=i;rw[x,ek,dm z,cM]
theorem Jc{len:Nat}(c:b<=q)(a:q<h.ar)(g:2048<=q%4096)(i:h.ar%4096=0)(j:b<=h.ar)(l:h.aj q= .az s e sz es true)(n:h.bQ=[])(o:∀k,k<b->h.aj k=cE b aET k):
 q7 (mH b [.az q s 0 len] [] h) b aET e sz len es:=by
 obtain⟨ub,a8,d⟩:=h;have p:d=[]:=n;subst p;have r:mH b [.az q s 0 len] [] (.mk ub a8 [])= @Bool.rec (λ_=>aw) (bf (Nat.ble (Nat.succ q) ub) (.ok (.az q s 0 len) ub a8 []) .ax) (.ok (.az q s 0 len) b (a8.drop b) []) (cS (Nat.ble (Nat.succ q) b) true):=rfl;have t:q<ub:=a;rw[r,ek (Nat.succ q) b,bk,ek,bN];exact⟨ub,a8,q,s,rfl,c,a,g,i,j,l,o⟩
theorem yR(c:b<=h.ar)(g:h.bQ=[])(i:∀k,k<b->h.aj k=cE b aET k):gD (mH b [.aE] [] h) b aET .aE:=by
 obtain⟨ub,a8,d⟩:=h;have j:d=[]:=g;subst j;have l:mH b [.aE] [] (.mk ub a8 [])= .ok .aE b (a8.drop b) []:=rfl;refine⟨a8.drop b,l,λk=>?_⟩;by_cases a:k<b
 ·have n:b<=ub:=c;rw[ic a,b1.rB b a8 k a,<-i k a];show _=cE ub a8 k;rw[ic]
 ·rw[jz,jz]
theorem Kd:vo .aE=some (ao 0):=by rw[cX];rfl
theorem aaP(ob:ej)(sz:Nat)(k:an->aw):k7 ob sz .aE none (some (ao 0)) k=k .aE:=by have e:k7 ob sz .aE none (some (ao 0)) k=jY 0 none λa=>jY 0 (some (ao 0)) λb=>bf (Nat.beq a 0) (bf (Nat.beq b 0) (k .aE) .ax) .ax:=rfl;rw[e,uH,show(ao 0:an)=ao ((0:Nat):Int) from rfl,uW];rfl
theorem SI{n:Nat}{z:aB}(l:0<n)(c:n*bytes<=1099511627776)(g:n<=1099511627776)(a:b+d<h.ar):
 ∃s h',eY b [d] h h'/\h'.aj (b+d)= .az s e sz (List.replicate n z) true/\∀k:dg,i3 b none (ua (Nat.add b d) e sz bytes (h.aj (Nat.add b d)).cd z .aE (ao n) true) h k=k (.az (b+d) s 0 n) h':=by
 refine⟨Nat.add (h.aj (b+d)).cd 1,_,eY.eW (o:= .ae (.az (Nat.add (h.aj (b+d)).cd 1) e sz (List.replicate n z) true)) a,kB a,λk=>?_⟩;have i:Nat.sub ((n:Int)+18446744073709551616).toNat 18446744073709551616=n:=by rw[oT];omega
 have j:ua (Nat.add b d) e sz bytes (h.aj (Nat.add b d)).cd z .aE (ao n) true=some (.az (b+d) (Nat.add (h.aj (b+d)).cd 1) 0 n,[(b+d,.az (Nat.add (h.aj (b+d)).cd 1) e sz (List.replicate n z) true)]):=by rw[cX];simp only[ua,i];rw[ek,bN,ek,dm (by rw[st];exact c),ek,dm g];rfl
 rw[j,zm (gs b _) a]
theorem sG{len:Nat}{ys:aY}(l:h.aj q= .az s e sz es true)(p:len<=es.length)(t:∀f:aY->aw,ke h.aj sz y f=f ys)
 (w:∀o,gO b wk [(q,o)]=true)(a:q<h.ar)(x:(len+ys.length)*bytes<=1099511627776)(z:len+ys.length<=1099511627776):
 ∃i h',g6 q h h'/\(b<=q->h'.bQ=h.bQ)/\h'.aj q= .az i e sz (es.take len++ys) true/\∀k:dg,eC b d wk e sz bytes (.az q s 0 len) y aEQ h k=k (.az q i 0 (len+ys.length)) h':=by
 have A:∀k:dg,eC b d wk e sz bytes (.az q s 0 len) y aEQ h k=ke h.aj sz y λys=>lG ys λys=>eF (ea ys) λn=>
  bf (Nat.beq 0 0) (wm (h.Bo q) λB C D rs r=>bf (Nat.beq s B) (bf (Nat.beq C e) (bf (Nat.beq D sz)
   (@Bool.rec (λ_=>aw) (bf r (bf (Nat.ble len (ea rs)) (lB b wk bytes q s e sz (lK (Nat.sub (ea rs) len) rs) n ys r len h k) .ax) .ax) (lB b wk bytes q s e sz rs n ys r len h k) (Nat.beq len (ea rs))) .ax) .ax) .ax) .ax:=λ_=>rfl
 refine⟨Nat.add s 1,h.eW b q (.kr (Nat.add s 1) e sz (ys.reverse++(es.take len).reverse) true),g6.eW a,λG=>?_,?_,λk=>?_⟩
 ·obtain⟨ub,a8,g⟩:=h;show @Bool.rec (λ_=>List Nat) g (q::g) (Nat.blt q b)=g;rw[oW,bk]
 ·rw[kB a];show dM.az _ _ _ (nx (ys.reverse++(es.take len).reverse)) _=_;rw[qL,F6,qc,qc]
 ·have j:∀rs:aY,rs=(es.take len).reverse->lB b wk bytes q s e sz rs ys.length ys true len h k=k (.az q (Nat.add s 1) 0 (len+ys.length)) (h.eW b q (.kr (Nat.add s 1) e sz (ys.reverse++(es.take len).reverse) true)):=by intro rs E;subst E;unfold lB;rw[fd,ek,dm (by rw[st,hZ];exact x),cM,ek,dm (by rw[hZ];exact z),cM,fd,sf,td (w _) a];rfl
  rw[A,t,lu,fd,gr,gb,cM,NN (by rw[aI.Hb];exact l),gb,cM,gb,cM,gb,cM,gr,AR,K6];by_cases c:len=es.length
  ·rw[dm c];exact j _ (by rw[c,vw])
  ·rw[gK c];show bf true (bf (Nat.ble len es.length) (lB b wk bytes q s e sz (lK (Nat.sub es.length len) es.reverse) ys.length ys true len h k) .ax) .ax=_;rw[cM,ek,dm p,cM];refine j _ ?_;rw[tB,oT,List.drop_reverse];congr 2;omega
theorem Ik(a:∀f:aY->aw,ke h.aj sz y f=f [])(c:gO b wk []=true)(k:dg):eC b d wk e sz bytes .aE y aEQ h k=k .aE h:=by
 have g:eC b d wk e sz bytes .aE y aEQ h k=ke h.aj sz y λys=>lG ys λys=>eF (ea ys) λn=>
  (bf (Nat.ble (Nat.mul n bytes) 1099511627776) (bf (Nat.ble n 1099511627776)
   (@List.rec aB (λ_=>aw) (lk b wk [] h λh'=>k .aE h') (λ_ _ _=>eF (Nat.add b d) λq=>eF (Nat.add (iH (h.aj q)) 1) λaM=>nQ ys [] λrs=>ky b wk q (.kr aM e sz rs aEQ) h λh'=>k (.az q aM 0 n) h') ys) .ax) .ax):=rfl
 rw[g,a,lu,fd,gr];show bf (Nat.ble (Nat.mul 0 bytes) 1099511627776) (bf (Nat.ble 0 1099511627776) (lk b wk [] h λh'=>k .aE h') .ax) .ax=_;rw[ek,dm (by rw[st];omega),cM,ek,bN,cM];unfold lk;rw[c,cM];rfl
end
end
section
variable{aET:b1}
section
variable[Tok] {u:Fn} {b:Nat}
theorem ake{n:Nat}(j:b%4096=0)(l:n<100000):(n=0/\gD (zP u [.aE,ao n] b aET) b aET .aE)\/(0<n/\∃es,q7 (zP u [.aE,ao n] b aET) b aET 56 11 0 es):=by
 have o:(ba b aET).ar=b+4096:=rfl;rw[zP,dE,YE,bF,bO,bk,a6,Xz,Kd,tH,hy,e1 (a:=0) (b:=0),show(0:Int)-0=0 from rfl,e1 (a:=(n:Int)) (b:=0),Int.sub_zero,bF,hH];by_cases c:0<n
 ·rw[bN,bL,aag,Kd,tH,aaP];obtain⟨s,h',a1,a2,i⟩:=SI (b:=b) (d:=2070) (e:=56) (sz:=11) (bytes:=176) (z:=ca) (h:=ba b aET) c (by omega) (by omega) (by omega);rw[i,hy,show(ao 0:an)=ao ((0:Nat):Int) from rfl,G9 a2 (λf=>uH 0 f) (λf=>uW n 0 f) (cY 0) (ik n),D4];have p:h'.ar=b+4096:=by rw[a1.ar];rfl
  exact .inr ⟨c,_,Jc (by omega) (by omega) (by omega) (by omega) (by omega) a2 (by rw[a1.bQ];rfl) λk g=>by rw[a1.aj k λd q=>by omega];exact kz aET g⟩
 ·rw[bk,a6];exact .inl ⟨by omega,yR (by omega) rfl λk g=>kz aET g⟩
def abi(u:Fn):Prop:=∀{b:Nat} {aET:b1} {n:Nat},b%4096=0->n<100000->(n=0/\gD (u 231 [.aE,ao n] b aET) b aET .aE)\/(0<n/\∃es,q7 (u 231 [.aE,ao n] b aET) b aET 56 11 0 es)
theorem ar4(u:Fn)(a:an)(b:Nat)(aET:b1):xQ u [a] b aET=bq false a λc=>fs 0 3 9 10 11 1000000 (BC u b (IU u b)) a aL a c aL (ba b aET):=by kernel_rfl
theorem ayq(E:abi u){p q:an}{es g:aY}(Z:b%4096=0)(j:dw 11 p es)(l:dw 11 q g)(h1:es.length+g.length<=1000):
 (es++g=[]/\gD (xQ u [.aQ 1 [[p],[q]]] b aET) b aET .aE)\/(es++g≠[]/\q7 (xQ u [.aQ 1 [[p],[q]]] b aET) b aET 56 11 (es++g).length (es++g)):=by
 have a3:(ba b aET).ar=b+4096:=rfl;have eO:([[p],[q]]:aY)[0]? =some [p]:=rfl;have dB:([[p],[q]]:aY)[1]? =some [q]:=rfl;have n:∀ob:Nat->dM,∀k:an->aw,cb ob 1 (.aQ 1 [[p],[q]]) (ao 0) k=k (.ep [p] 0):=λob k=>eE (i:=0) eO k;have r:∀ob:Nat->dM,∀k:an->aw,cb ob 1 (.aQ 1 [[p],[q]]) (ao 1) k=k (.ep [q] 0):=λob k=>eE (i:=1) dB k;have v0:∀ob:Nat->dM,∀k:an->aw,aW ob false 1 (.ep [p] 0) k=k p:=λob k=>by rw[ch,bc]
 have t:∀ob:Nat->dM,∀k:an->aw,aW ob false 1 (.ep [q] 0) k=k q:=λob k=>by rw[ch,bc]
 have w:∀k:an->aw,bq false (.aQ 1 [[p],[q]]) k=k (ao 2):=λk=>eA _ _ k;have head:xQ u [.aQ 1 [[p],[q]]] b aET=IU u b (.aQ 1 [[p],[q]]) (ao ((es.length+g.length:Nat):Int)) (ba b aET):=by
  rw[ar4,w,bF,show(1000000:Nat)=999997+1+1+1 from rfl,gI,BC,bO (a:=0) (b:=2),bN,bL,Q0,n,v0,j.len,cK (a:=0) (b:=(es.length:Int)),bF,bO,bk,a6,bK,cK (a:=0) (b:=1),show(0:Int)+1=1 from rfl,
   gI,BC,bO (a:=1) (b:=2),bN,bL,Q0,r,t,l.len,cK (a:=0+(es.length:Int)) (b:=(g.length:Int)),bF,bO,bk,a6,bK,cK (a:=1) (b:=1),show(1:Int)+1=2 from rfl,
   gI,BC,bO (a:=2) (b:=2),bk,a6,show(0:Int)+(es.length:Int)+(g.length:Int)=((es.length+g.length:Nat):Int) by omega]
 rw[head,IU,b7,av];have h:= @E (ba b aET).ar (ba b aET).au (es.length+g.length) (by omega) (by omega);rcases h with⟨c,h⟩|⟨c,G,h⟩
 ·obtain⟨z,a1,a2⟩:=my (b:=b) h;have H:es=[]:=uw (by omega);have bG:g=[]:=uw (by omega);subst H bG;rw[a2,w,bF,show(1000000:Nat)=999997+1+1+1 from rfl,fj,xL,bO (a:=0) (b:=2),bN,bL,B4,n,v0,Ik (λf=>j.iZ _ f) rfl,bK,cK (a:=0) (b:=1),show(0:Int)+1=1 from rfl,
   fj,xL,bO (a:=1) (b:=2),bN,bL,B4,r,t,Ik (λf=>l.iZ _ f) rfl,bK,cK (a:=1) (b:=1),show(1:Int)+1=2 from rfl,
   fj,xL,bO (a:=2) (b:=2),bk,a6]
  exact .inl ⟨rfl,yR (by rw[a1.ar];omega) (by rw[a1.bQ];rfl) λk x=>by rw[a1.aj k λd I=>by cases I];exact kz aET x⟩
 ·obtain⟨z,A,s,a4,B,J,a5,bs,K,L,M,N⟩:=F7 (b:=b) h;have O:es++g≠[]:=by intro e;have:=dt List.length e;rw[lh,kT] at this;omega
  have C:∀o,gO b none [(A,o)]=true:=λo=>gs b _;obtain⟨s2,P,t1,t2,t3,t4⟩:=sG (b:=b) (d:=2081) (wk:=none) (aEQ:=true) (bytes:=176) (y:=p) (ys:=es) (len:=0) K (ik _) (λf=>j.iZ _ f) C B (by omega) (by omega);have Q:G.take 0++es=es:=by simp
  rw[Q] at t3;have R:A<P.ar:=by rw[t1.ar];exact B
  obtain⟨s3,S,D,T,ew,W⟩:=sG (b:=b) (d:=2081) (wk:=none) (aEQ:=true) (bytes:=176) (y:=q) (ys:=g) (len:=0+es.length) t3 (by omega) (λf=>l.iZ _ f) C R (by omega) (by omega);have X:es.take (0+es.length)++g=es++g:=by simp
  rw[X] at ew;rw[N,w,bF,show(1000000:Nat)=999997+1+1+1 from rfl,fj,xL,bO (a:=0) (b:=2),bN,bL,B4,n,v0,t4,bK,cK (a:=0) (b:=1),show(0:Int)+1=1 from rfl,
   fj,xL,bO (a:=1) (b:=2),bN,bL,B4,r,t,W,bK,cK (a:=1) (b:=1),show(1:Int)+1=2 from rfl,
   fj,xL,bO (a:=2) (b:=2),bk,a6,show 0+es.length+g.length=(es++g).length by simp]
  have bx:S.ar=z.ar:=by rw[D.ar,t1.ar]
  refine .inr ⟨O,Jc (by omega) (by omega) J (by omega) (by omega) ew (by rw[T (by omega),t2 (by omega),M];rfl) λk x=>?_⟩;rw[D.aj k (by omega),t1.aj k (by omega),L k (by omega)];exact kz aET x
def Ft(u:Fn):Prop:=∀{b:Nat} {aET:b1} {p q:an} {es a:aY},b%4096=0->dw 11 p es->dw 11 q a->es.length+a.length<=1000->
 (es++a=[]/\gD (u 181 [.aQ 1 [[p],[q]]] b aET) b aET .aE)\/(es++a≠[]/\q7 (u 181 [.aQ 1 [[p],[q]]] b aET) b aET 56 11 (es++a).length (es++a))
end
end
end Go.Hf

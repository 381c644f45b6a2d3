import Derived.Test.YthiipifjdfmblaaGreatDoorBf
set_option linter.all false
set_option maxRecDepth 100000
namespace Go.Hf
open Go.RowKit
section
variable{d s i n c a x y:Nat} {h:aI} {L l:List Nat} {v w:an}
section
variable[Tok] {u:Fn} {b:Nat}
def vy(b d s:Nat)(h:aI)(L:List Nat):Prop:=h.aj (b+d)= .az s 3 1 (L.map qV) true
theorem vy.mn(R:vy b d s h L)(e:n=L.length)(hi:i<n)(k:an->aw):cb h.aj 1 (.az (b+d) s 0 n) (ao i) k=k (.dH (b+d) s i 0):=gu R hi k
theorem vy.NX(R:vy b d s h L)(hi:L[i]? =some c)(k:an->aw):aW h.aj false 1 (.dH (b+d) s i 0) k=k (ao c):=by rw[hg R (cs:=qV c) (by simp[hi]),bc (v:=ao c) rfl]
theorem vy.aM[b4 h b][da h](R:vy b d s h L)(hi:i<L.length)(hd:d<4096:=by decide):∃h',b4 h' b/\da h'/\vy b d s h' (L.set i c)/\∀k:dg,aX b none 1 (.dH (b+d) s i 0) (ao c) h k=k .undef h':=by
 refine⟨h.g4 b d (.ae (.az s 3 1 ((L.set i c).map qV) true)),inferInstance,inferInstance,atQ hd,λk=>?_⟩;have e:aX b none 1 (.dH (b+d) s i 0) (ao c) h k=i3 b none (qh h.aj 1 (.dH (b+d) s i 0) (ao c)) h k:=rfl;have g:qh h.aj 1 (.dH (b+d) s i 0) (ao c)=some (.undef,[(b+d,.az s 3 1 ((L.set i c).map qV) true)]):=by
  have j:h.aj (b+d)= .az s 3 1 (L.map qV) true:=R;have o:l8 h.aj (ao c)=some (ao c):=by rw[cX];rfl
  have p:(ao (c:Int)).cells=some [ao c]:=by rw[cX];rfl
  have q:(ao (c:Int)).cR=[]:=by rw[cX];rfl
  have r:(L.map qV)[i]? =some (qV L[i]):=by simp[dC hi]
  simp only[qh,j,o,p,r,q,wT,List.map_set];rfl
 rw[e,g,zm (gs b _) (b4.lt hd)];rfl
theorem ak7[b4 h b][da h](o:n<=2000)(hd:d<4096:=by decide):∃s h',b4 h' b/\da h'/\vy b d s h' (List.replicate n 0)/\∀k:dg,i3 b none (nf (Nat.add b d) 3 1 8 (h.aj (Nat.add b d)).cd [aL] (ao n) (ao n)) h k=k (.az (b+d) s 0 n) h':=by
 refine⟨_,h.g4 b d (.ae (.az (Nat.add (h.aj (b+d)).cd 1) 3 1 ((List.replicate n 0).map qV) true)),inferInstance,inferInstance,atQ hd,λk=>?_⟩;have e:Nat.sub ((n:Int)+18446744073709551616).toNat 18446744073709551616=n:=SH n;have g:nf (Nat.add b d) 3 1 8 (h.aj (Nat.add b d)).cd [aL] (ao n) (ao n)=some (.az (b+d) (Nat.add (h.aj (b+d)).cd 1) 0 n,[(b+d,.az (Nat.add (h.aj (b+d)).cd 1) 3 1 ((List.replicate n 0).map qV) true)]):=by
  have j:(List.replicate n 0).map qV=List.replicate n [aL]:=by rw[nh,bF];rfl
  rw[j,cX];simp only[nf,e];rw[ek,bN,ek,pl (sm _),ek,pl (by rw[hW];omega),ek,bN];rfl
 rw[g,zm (gs b _) (b4.lt hd)];rfl
theorem asx(e:a<100:=by omega)(g:c<100:=by omega)(k:an->aw):c8 (fA .mul (ao a) (ao c)) k=k (ao (a*c:Nat)):=by rw[ahG (by omega) (by omega)];rfl
theorem ahH(h:∀d∈L,d<10)(g:c<10):∀d∈L.set i c,d<10:=λd hd=>(List.mem_or_eq_of_mem_set hd).elim (h d) λe=>by omega
theorem aFm{r:List Nat}(H:g8 v l)(D:g8 w r)(hl:l.length<=800)(hr:r.length<=800)(W:∀d∈r,d<10)(I:l[i]? =some a)(cs:a<10){T:Nat}(c2:T<10^(l.length+r.length)){R:aw->Prop}{K:mS}
 (J:∀(h:aI) (e:List Nat),b4 h 0->da h->vy 0 2064 s h e->e.length=l.length+r.length+1->(∀d∈e,d<10)->fP e=T->R (K v w (.az (0+2064) s 0 (l.length+r.length+1)) (ao i) h)):∀(m j N:Nat) (h:aI) (e:List Nat) (c:Nat),m+j=l.length+r.length+1->m<N->b4 h 0->da h->vy 0 2064 s h e->e.length=l.length+r.length+1->(∀d∈e,d<10)->c<=9->fP e+10^(i+j)*(c+a*fP (r.drop j))=T->
 R (ih 0 1 5 6 7 8 N (akh u 0 K) v w (.az (0+2064) s 0 (l.length+r.length+1)) (ao i) (ao c) (ao j) h):=by
 have c3:i<l.length:=(e6.1 I).1;intro m;induction m with
 |zero=>
  intro j N h e c X Z ub fc t A hd hc p;obtain⟨N,rfl⟩:=cN N;have q:=D.len;rw[lO] at p;have c0:c=0:=by apply Classical.byContradiction;intro ar;have M:10^(i+j)*1<=10^(i+j)*(c+a*fP []):=AR _ (by omega);have h4:10^(l.length+r.length)<=10^(i+j):=Nat.pow_le_pow_right (by decide) (by omega);omega
  subst c0;have F:=J h e ub fc t A hd (by simpa[fP] using p);rw[mb];generalize ih 0 1 5 6 7 8 N (akh u 0 K)=j6;rw[akh,q,bO,bk,fZ,bF,hH,apw,gE,dO,bk,a6];exact F
 |succ m a1=>
  intro j N h e c X Z ub fc t A hd hc p;obtain⟨N,rfl⟩:=cN N;have q:=D.len;by_cases a2:r.length<=j/\c=0
  ·obtain⟨c4,rfl⟩:=a2;rw[lO] at p;have F:=J h e ub fc t A hd (by simpa[fP] using p);rw[mb];generalize ih 0 1 5 6 7 8 N (akh u 0 K)=j6;rw[akh,q,bO,bk,fZ,bF,hH,apw,gE,dO,bk,a6];exact F
  ·obtain⟨g,a3,B⟩:=O0 r j;have Yr:g<10:=B.elim (λh=>W _ (On h.2)) (λh=>by omega);have c5:i+j<l.length+r.length:=by
    rcases B with⟨h,_⟩|⟨h,_⟩
    ·omega
    ·have c1:1<=c:=by omega
     have M:10^(i+j)*1<=10^(i+j)*(c+a*fP (r.drop j)):=AR _ (by omega);apply Classical.byContradiction;intro ar;have h4:10^(l.length+r.length)<=10^(i+j):=Nat.pow_le_pow_right (by decide) (by omega);omega
   obtain⟨o,G⟩:∃o,e[i+j]? =some o:=⟨_,dC (by omega)⟩;have dd:=hd o (On G);have dq:a*g<=81:=FE (by omega:a<=9) (by omega:g<=9);obtain⟨h',a4,a5,O,P⟩:=t.aM (i:=i+j) (c:=(o+c+a*g) %10) (by omega);have bd:fP (e.set (i+j) ((o+c+a*g) %10))+10^(i+(j+1))*((o+c+a*g)/10+a*fP (r.drop (j+1)))=T:=by
    have h1:=ajI (l:=e) (n:=i+j) ((o+c+a*g) %10) (by omega);rw[(e6.1 G).2] at h1;rw[a3] at p;have M:10^(i+j)*(o+c+a*g)=10^(i+j)*((o+c+a*g) %10+10*((o+c+a*g)/10)):=by congr 1;omega
    rw[show i+(j+1)=i+j+1 by omega,nV,Nat.mul_assoc];rw[show a*(g+10*fP (r.drop (j+1)))=a*g+10*(a*fP (r.drop (j+1))) by rw[Nat.mul_add,Nat.mul_left_comm]] at p;generalize 10^(i+j)=Q at*;simp only[Nat.mul_add] at*;omega
   have C:=a1 (j+1) N h' (e.set (i+j) ((o+c+a*g) %10)) ((o+c+a*g)/10) (by omega) (by omega) a4 a5 O (by rw[List.length_set];exact A) (ahH hd (by omega)) (by omega) bd;have bs:((j+1:Nat):Int)=(j:Int)+1:=by omega
   rw[bs] at C;have E:=λk=>t.mn (n:=l.length+r.length+1) A.symm (i:=i+j) (by omega) k;have S:=λk=>t.NX G k;have dt:=λk=>O.mn (n:=l.length+r.length+1) (by rw[List.length_set];exact A.symm) (i:=i+j) (by omega) k;have la:=H.at I h.aj;have bx:=λ(xs:aB) (z:aw)=>H.met (b:=0) (rk:=[]) xs z;have cc:=λ(xs:aB) (z:aw)=>D.met (b:=0) (rk:=[]) xs z;rw[mb];generalize ih 0 1 5 6 7 8 N (akh u 0 K)=j6 at C;rcases B with⟨B,cl⟩|⟨B,rfl⟩
   ·have cn:=D.at cl h.aj;rw[akh,q,bO,bN,lL,apw,gE,dR,bL,ahm,xR,E,S,xR,q,bO,bN,bL,aja,bZ,bx,aV,aN,la,aJ,aV,aN,rv,bZ,cc,aV,aN,cn,aJ,aV,aN,rv,asx,xR,aux,xR,CT,KR,E,P,Kz,bK,cK];exact C
   ·have cp:o+c+a*0=o+c:=rfl;rw[cp] at P C;rw[akh,q,bO,bk,fZ,bF,hH,apw,gE,dO,bN,bL,ahm,xR,E,S,xR,q,bO,bk,a6,aux,xR,CT,KR,E,P,Kz,bK,cK];exact C
theorem ahl(h:i<l.length):∃a,l[i]? =some a/\fP (l.take (i+1))=fP (l.take i)+10^i*a:=⟨l[i],dC h,XE h⟩
theorem avn(T:G4 u)(D:g8 v (cU x))(M:g8 w (cU y))(hl:(cU x).length<=400)(hr:(cU y).length<=400):∀(m i N:Nat) (h:aI) (j:List Nat),m+i=(cU x).length->m<N->b4 h 0->da h->vy 0 2064 s h j->j.length=(cU x).length+(cU y).length+1->(∀d∈j,d<10)->fP j=fP ((cU x).take i)*y->
 ∃z t d,g8 z (cU (x*y))/\du 0 1 5 6 N (aqs u 0 (λm n=>bg u 0 230 m n λq r=>aCC 0 q r)) v w (.az (0+2064) s 0 ((cU x).length+(cU y).length+1)) (ao i) h= .ok z 0 t d:=by
 intro m;induction m with
 |zero=>intro i N h j O P ub fc B C hd p;obtain⟨N,rfl⟩:=cN N;have E:=D.len;rw[nY,ud] at p;have Q:h.aj (0+2064)= .az s 3 1 (j.map qV) true:=B;obtain⟨q,G,S⟩:=T (.aQ 1 (j.map qV)) j (.inr rfl) (by omega);rw[Do hd,p] at G;have W:=dw.dU G;have X:=λf=>ZX (n:=(cU x).length+(cU y).length+1) Q (by rw[ER];exact C.symm) f;have Z:=λ(k:dg)=>aa8 (d:=2064) (o:= .az s 3 1 (j.map qV) false) (wk:=none) (h:=h) S (λo=>gs 0 _) k;obtain⟨t,d,e⟩:=b9 (r:=q) (h:=h.g4 0 2064 (.ae (.az s 3 1 (j.map qV) false)));rw[fj];generalize du 0 1 5 6 N (aqs u 0 (λm n=>bg u 0 230 m n λq r=>aCC 0 q r))=j4;refine⟨q,t,d,G,?_⟩;rw[aqs,E,bO,bk,a6,bg,X,Pa,Z,aCC,bj,W,av];exact e
 |succ m ar=>
  intro i N h j O P ub fc B C hd p;obtain⟨N,rfl⟩:=cN N;have E:=D.len;obtain⟨a,I,a1⟩:=ahl (l:=cU x) (i:=i) (by omega);have a2:=q3 _ a (On I);have H:=ar (i+1) N;have a3:((i+1:Nat):Int)=(i:Int)+1:=by omega
  rw[a3] at H;have a4:fP ((cU x).take (i+1))*y<10^((cU x).length+(cU y).length):=by have h2:=aaO (q3 x) (n:=i+1) (by omega);have h3:10^(i+1)<=10^(cU x).length:=Nat.pow_le_pow_right (by decide) (by omega);have h4:y<10^(cU y).length:=Dj (sm _);rw[D2];exact Nat.mul_lt_mul_of_lt_of_lt (by omega) h4
  rw[fj];generalize du 0 1 5 6 N (aqs u 0 (λm n=>bg u 0 230 m n λq r=>aCC 0 q r))=j4 at H;have F:=aFm (u:=u) D M (by omega) (by omega) (q3 y) I a2 a4 (R:=λA=>∃z t d,g8 z (cU (x*y))/\A= .ok z 0 t d) (K:=λg i k l m=>bR l aS λn=>j4 g i k n m) (λh j ub fc B C hd p=>by rw[bK,cK];exact H h j (by omega) (by omega) ub fc B C hd p) ((cU x).length+(cU y).length+1) 0 1000000 h j 0 (by omega) (by omega) ub fc B C hd (by omega) (by rw[p,dm,ud,a1,gU,xB,Fa,Nat.mul_assoc])
  obtain⟨z,t,d,a5,J⟩:=F;refine⟨z,t,d,a5,?_⟩;have bd:(ao ((0:Nat):Int):an)=aL:=bF.symm;rw[bd] at J;rw[aqs,E,bO,bN,bL,azN];exact J
theorem asM(T:G4 u)(e:g8 v (cU x))(g:g8 w (cU y))(k:(cU x).length<=400)(o:(cU y).length<=400):∃z,g8 z (cU (x*y))/\∃s d,abB u [v,w] 0 .nil= .ok z 0 s d:=by
 have p:=e.len;have q:=g.len;obtain⟨s,h',ub,fc,R,P⟩:=ak7 (b:=0) (d:=2064) (n:=(cU x).length+(cU y).length+1) (h:=ba 0 .nil) (by omega);obtain⟨z,t,d,r,j⟩:=avn T e g k o (s:=s) (cU x).length 0 1000000 h' _ rfl (by omega) ub fc R (by simp) (λd hd=>by rw[List.eq_of_mem_replicate hd];omega) (by rw[aeE];simp[fP]);refine⟨z,r,t,d,?_⟩;have A:(ao ((0:Nat):Int):an)=aL:=bF.symm;rw[A] at j;have B:(((cU x).length+(cU y).length+1:Nat):Int)=((cU x).length+(cU y).length:Nat)+1:=by omega
 rw[B] at P;rw[abB,dE];rw[azf,p,q,xR,bK,cK,P];exact j
end
end
section
variable{x y s i c:Nat} {v w:an}
section
variable[Tok] {u:Fn} {b:Nat}
structure KC (u:Fn):Prop where
 aed:G4 u
 Wl:∀v w x y,g8 v (cU x)->g8 w (cU y)->(cU x).length<=800->(cU y).length<=800->aK u 276 [v,w] (ao (e4 (x:Int) (y:Int)))
 Q5:∀v w x y,g8 v (cU x)->g8 w (cU y)->(cU x).length<=800->y<=x->∃z,g8 z (cU (x-y))/\aK u 277 [v,w] z
theorem xt(h:x<=y):(cU x).length<=(cU y).length:=Bt _ _ (o4 h (Dj (sm _)))
theorem aFf(D:KC u)(j:g8 w (cU y))(hv:∀(ob:ej) (f:jm),aD ob v f=f v [])(a1:y≠0)(a2:(cU y).length<=700){n:Nat}(hi:i<n){R:aw->Prop}{K:kb}{Q0:List Nat}{c0 R0:Nat}
 (C:∀(h:aI) (r:an),b4 h 0->da h->vy 0 2059 s h (Q0.set i (c0+R0/y))->g8 r (cU (R0%y))->R (K v w (.az (0+2059) s 0 n) r (ao i) h)):∀(m N c d:Nat) (h:aI) (r:an),d<(m+1)*y->m<N->c+m<=50->b4 h 0->da h->vy 0 2059 s h (Q0.set i c)->Q0.length=n->g8 r (cU d)->(cU d).length<=800->d/y+c=c0+R0/y->d%y=R0%y->
 R (fs 0 1 6 7 8 N (aCo u 0 K) v w (.az (0+2059) s 0 n) r (ao i) h):=by
 intro m;induction m with
 |zero=>intro N c d h r E M O ub fc g t e p A q;obtain⟨N,rfl⟩:=cN N;have B:=D.Wl r w d y e j p (by omega);rw[Nc (by omega)] at B;have hd:d/y=0:=uE (by omega);have F:=C h r ub fc (by rw[<-A,hd,Fa];exact g) (by rw[<-q,vw (by omega)];exact e);have l:=dw.dU e;have o:=dw.dU j;rw[gI];generalize fs 0 1 6 7 8 N (aCo u 0 K)=G;rw[aCo,ce,l,o,av,av,aT,bF,ix,bk,a6];exact F
 |succ m Q=>
  intro N c d h r E M O ub fc g t e p A q;obtain⟨N,rfl⟩:=cN N;have B:=D.Wl r w d y e j p (by omega);have l:=dw.dU e;have o:=dw.dU j;by_cases a3:d<y
  ·rw[Nc (by omega)] at B;have hd:d/y=0:=uE (by omega);have F:=C h r ub fc (by rw[<-A,hd,Fa];exact g) (by rw[<-q,vw (by omega)];exact e);rw[gI];generalize fs 0 1 6 7 8 N (aCo u 0 K)=G;rw[aCo,ce,l,o,av,av,aT,bF,ix,bk,a6];exact F
  ·have a4:0<=e4 (d:Int) (y:Int):=by unfold e4;split<;>(try split)<;>omega
   obtain⟨z,H,a5⟩:=D.Q5 r w d y e j p (by omega);have bd:=dw.dU H;have S:(Q0.set i c)[i]? =some c:=List.getElem?_set_self (by omega);have I:=λk=>g.mn (n:=n) (by rw[List.length_set];exact t.symm) (i:=i) hi k;have T:=λk=>g.NX S k;obtain⟨h',W,X,J,P⟩:=g.aM (i:=i) (c:=c+1) (by rw[List.length_set];omega);rw[List.set_set] at J;have Z:d-y<(m+1)*y:=by rw[xB (m+1)] at E;omega
   have L:=Q N (c+1) (d-y) h' z Z (by omega) (by omega) W X J t H (by have:=xt (show d-y<=d by omega);omega) (by have:=Nat.div_eq_sub_div (a:=d) (b:=y) (by omega) (by omega);omega) (by rw[<-q,Nat.mod_eq_sub_mod (a:=d) (by omega)])
   have ar:((c+1:Nat):Int)=(c:Int)+1:=by omega
   rw[ar] at P;rw[gI];generalize fs 0 1 6 7 8 N (aCo u 0 K)=G at L;rw[aCo,ce,l,o,av,av,aT,bF,ix,bN,bL,ay9,ce,l,o,av,av,aT,I,T,bK,cK,I,P];exact L
theorem awg{f:an}{r:List Nat}{h:aI}[b4 h b][da h](a:g8 f r)(q:r.length<=900):∃p h',b4 h' b/\da h'/\(∀d,2071≠d->d<4096->h'.aj (b+d)=h.aj (b+d))/\(∃w,g8 w (c::r)/\∀g:an->eH->aw,aD h'.aj p g=g w [])/\
 ∀k:dg,(cj h.aj 1 0 (ao c) (cG 1 [aL]) λl m=>c6 b 2071 none 3 1 1 false l (aA m []) h λn o=>eC b 2073 none 3 1 8 n f false o k)=k p h':=by
 have j:=λk=>Gm (d:=2071) (d':=2073) (e:=3) (sz:=1) (bytes:=8) (wk:=none) (as0:=false) (h:=h.fm b 2071 3 1 [[ao c]] false) (arZ:=[[ao c]]) (n:=1) (ys:=r.map qV) i9 (λg=>dw.iZ a _ g) rfl (λo=>gs b _) (by simp;omega) (by simp;omega) k;refine⟨.az (b+2071) (Nat.add (ri h b 2071) 1) 0 ([[(ao c:an)]].length+(r.map qV).length),(h.fm b 2071 3 1 [[ao c]] false).ow b 2071 (Nat.add (ri h b 2071) 1) 3 1 ([[ao c]]++r.map qV) false,inferInstance,inferInstance,λd aS hd=>l5 (ga rfl aS) aS,⟨.aQ 1 ([[ao c]]++r.map qV),.inr rfl,λg=>gX pi (by simp;omega) g⟩,λk=>?_⟩;rw[HE (Jy.dU _) Jy.cells rfl (by rw[x3];simp),av,show((cG 1 [aL]).set 0 [ao c]=[[ao c]]) from by rw[x3];rfl,gW _,j]
theorem aCq{l:List Nat}(h:i<l.length)(a:l[i]? =some 0):fP ((l.set i c).drop i)=c+10*fP (l.drop (i+1)):=by rw[ZP (by rw[List.length_set];exact h),List.getElem_set_self,List.drop_set_of_lt (by omega)]
theorem auM(D:KC u)(O:g8 v (cU x))(hw:g8 w (cU y))(a1:y≠0)(hl:(cU x).length<=700)(a2:(cU y).length<=700):∀(m N:Nat) (h:aI) (r:an) (Q:List Nat),m<=(cU x).length->m<N->b4 h 0->da h->vy 0 2059 s h Q->Q.length=(cU x).length->(∀d∈Q,d<10)->(∀i,i<m->Q[i]? =some 0)->g8 r (cU (fP ((cU x).drop m) %y))->fP (Q.drop m)=fP ((cU x).drop m)/y->
 ∃p q t d,g8 p (cU (x/y))/\g8 q (cU (x%y))/\fs 0 1 6 7 8 N (avi u 0 (λl m n=>bg u 0 230 l n λq r=>ao4 0 q m r)) v w (.az (0+2059) s 0 (cU x).length) r (ao ((m:Int)-1)) h= .ok (.a0 [p,q]) 0 t d:=by
 intro m;induction m with
 |zero=>intro N h r Q hm a3 ub fc G j hd I g E;obtain⟨N,rfl⟩:=cN N;simp only[dm,ud] at g E;have R':h.aj (0+2059)= .az s 3 1 (Q.map qV) true:=G;obtain⟨q,J,a4⟩:=D.aed (.aQ 1 (Q.map qV)) Q (.inr rfl) (by omega);rw[Do hd,E] at J;have a5:=dw.dU J;have bd:=dw.dU g;have hb:=λf=>ZX (n:=(cU x).length) R' (by rw[ER];exact j.symm) f;have bs:=λ(k:dg)=>aa8 (d:=2059) (o:= .az s 3 1 (Q.map qV) false) (wk:=none) (h:=h) a4 (λo=>gs 0 _) k;obtain⟨t,d,e⟩:=b9 (r:= .a0 [q,r]) (h:=h.g4 0 2059 (.ae (.az s 3 1 (Q.map qV) false)));refine⟨q,r,t,d,J,g,?_⟩;rw[gI];generalize fs 0 1 6 7 8 N (avi u 0 (λl m n=>bg u 0 230 l n λq r=>ao4 0 q m r))=S;rw[avi,bF,ix,bk,a6,bg,hb,Pa,bs,ao4,a5,bd,av,av];exact e
 |succ m bx=>
  intro N h r Q hm a3 ub fc G j hd I g E;obtain⟨N,rfl⟩:=cN N;obtain⟨a,L,-⟩:=ahl (l:=cU x) (i:=m) (by omega);have cc:=q3 _ a (On L);have la:=O.at L h.aj;have T:fP ((cU x).drop m)=a+10*fP ((cU x).drop (m+1)):=by rw[ZP (by omega),(e6.1 L).2]
  have cl:fP ((cU x).drop (m+1)) %y<y:=Fq _ (by omega);generalize en:fP ((cU x).drop (m+1))=H at*;have eq:=xt (Nat.le_of_lt cl);obtain⟨p,W,cn,cp,cs,⟨c1,c2,c3⟩,P⟩:=awg (b:=0) (c:=a) (h:=h) g (by omega);have c4:vy 0 2059 s W Q:=(cs 2059 (by decide) (by decide)).trans G;obtain⟨z,X,es⟩:=D.aed c1 _ c2 (by simp;omega);have c5:fP (a::cU (H%y))=a+10*(H%y):=by show a+10*fP (cU (H%y))=_;rw[ud]
  rw[Do (λd hd=>by rcases pG.1 hd with rfl|hd;exact cc;exact q3 _ d hd),c5] at X;have dd:(a+10*(H%y)) %y=fP ((cU x).drop m) %y:=by rw[T,Nat.add_mod,Nat.mul_mod,Nat.mod_mod,<-Nat.mul_mod,<-Nat.add_mod]
  have dq:fP ((cU x).drop m)/y=(a+10*(H%y))/y+10*(H/y):=by
   have h2:=Nat.div_add_mod H y;have h3:fP ((cU x).drop m)=(a+10*(H%y))+y*(10*(H/y)):=by rw[T,Nat.mul_left_comm y 10 (H/y)];omega
   rw[h3,Nat.add_mul_div_left _ _ (by omega)]
  have dt:a+10*(H%y)<10*y:=by omega
  have ev:(a+10*(H%y))/y<10:=(Nat.div_lt_iff_lt_mul (by omega)).2 dt;have fn:(cU (a+10*(H%y))).length<=702:=by refine y4 (Bt ((cU y).length+1) _ ?_) (by omega);have:=Dj (n:=y) (sm _);rw[nV];omega
  have Z:=I m (by omega);have ar:=λ(h:aI) (r':an) (ub:b4 h 0) (fc:da h) (M:vy 0 2059 s h (Q.set m (0+(a+10*(H%y))/y))) (dz:g8 r' (cU ((a+10*(H%y)) %y)))=>bx N h r' (Q.set m (0+(a+10*(H%y))/y)) (by omega) (by omega) ub fc M (by rw[List.length_set];exact j) (ahH hd (by omega)) (λi hi=>by rw[List.getElem?_set_ne (by omega)];exact I i (by omega)) (by rw[<-dd];exact dz) (by rw[aCq (by omega) Z,E,dq];omega)
  have ee:((m+1:Nat):Int)-1=(m:Int):=by omega
  rw[ee];rw[gI];generalize fs 0 1 6 7 8 N (avi u 0 (λl m n=>bg u 0 230 l n λq r=>ao4 0 q m r))=S at ar;have em:=dw.dU O;have F:=aFf D (v:=v) (w:=w) hw em a1 a2 (s:=s) (i:=m) (n:=(cU x).length) (by omega) (R:=λA=>∃p q t d,g8 p (cU (x/y))/\g8 q (cU (x%y))/\A= .ok (.a0 [p,q]) 0 t d) (K:=λw x y z A B=>cP A aS λC=>S w x y z C B) (Q0:=Q) (c0:=0) (R0:=a+10*(H%y)) (λh r ub fc M g=>by
   rw[bK,e1];exact ar h r ub fc M g) 9 1000000 0 (a+10*(H%y)) W z (by omega) (by omega) (by omega) cn cp (by
    have:Q.set m 0=Q:=xh λi=>by
     by_cases hi:m=i
     ·subst hi;rw[List.getElem?_set_self (by omega),Z]
     ·rw[List.getElem?_set_ne hi]
    rw[this];exact c4) j X (by omega) (by omega) rfl
  obtain⟨p',q',t,d,f1,f2,f3⟩:=F;refine⟨p',q',t,d,f1,f2,?_⟩;rw[avi,bF,ix,bN,bL,alg,la,rv,P,bg,c3,av,aT];exact f3
theorem aq3(D:KC u)(a:g8 v (cU x))(j:g8 w (cU y))(k:y≠0)(o:(cU x).length<=700)(r:(cU y).length<=700):∃p q,g8 p (cU (x/y))/\g8 q (cU (x%y))/\∃s d,RY u [v,w] 0 .nil= .ok (.a0 [p,q]) 0 s d:=by have e:=a.len;obtain⟨s,h',ub,fc,R,P⟩:=ak7 (b:=0) (d:=2059) (n:=(cU x).length) (h:=ba 0 .nil) (by omega);have g:∀{α:Type} (l:List α),l.drop l.length=[]:=λl=>lO;obtain⟨p,q,t,d,z,A,B⟩:=auM D a j k o r (s:=s) (cU x).length 1000000 h' .aE _ (sm _) (by omega) ub fc R (by simp) (λd hd=>by rw[List.eq_of_mem_replicate hd];omega) (λi hi=>by simp[hi]) (.inl ⟨rfl,by rw[g];simp[fP,QC]⟩) (by rw[g,lO (by simp)];simp[fP]);refine⟨p,q,z,A,t,d,?_⟩;rw[RY,dE];rw[afj,e,P,e,bK,e1];exact B
def Q7(u:Fn):Prop:=∀v w x y,g8 v (cU x)->g8 w (cU y)->y≠0->(cU x).length<=700->(cU y).length<=700->∃p q,g8 p (cU (x/y))/\g8 q (cU (x%y))/\aK u 220 [v,w] (.a0 [p,q])
structure Ap (u:Fn):Prop where
 CA:∀n:Int,(cU n.natAbs).length<900->∃w,g8 w (cU n.natAbs)/\aK u 179 [bA n] (.a0 [.a9 (decide (n<0)),w])
 DI:∀(neg:Bool) v l,g8 v l->(∀d∈l,d<10)->l.length<900->aK u 180 [.a9 neg,v] (bA (a8 neg (fP l)))
theorem aFC(E:Q7 u)(S:Ap u):∀(k x y N:Nat) (h:aI) (v w:an),y<2^k->2*k<N->da h->g8 v (cU x)->g8 w (cU y)->(cU x).length<=700->(cU y).length<=700->
 ∃s d,oq 6 8 N (arN u 0 (λm n=>aD n.aj m λo p=>bH u 0 none 180 [bG,o] (aA p []) n λq r=>aBt 0 q r)) v w h= .ok (bA (Nat.gcd x y)) 0 s d:=by
 have B:∀(x N:Nat) (h:aI) (v w:an),0<N->da h->g8 v (cU x)->g8 w (cU 0)->(cU x).length<=700->∃s d,oq 6 8 N (arN u 0 (λm n=>aD n.aj m λo p=>bH u 0 none 180 [bG,o] (aA p []) n λq r=>aBt 0 q r)) v w h= .ok (bA (Nat.gcd x 0)) 0 s d:=by intro x N h v w G fc e a j;obtain⟨N,rfl⟩:=cN N;have l:∀k,bq false w k=k (ao 0):=a.len;have t:=dw.dU e;have H:=S.DI false v _ e (q3 x) (by omega);rw[ud,<-fQ] at H;have Z:aK u 180 [bG,v] (bA x):=H;rw[Nat.gcd_zero_right];rw[AN];generalize oq 6 8 N _=I;rw[arN,l,bF,hH,bk,a6,t,av,aT,aBt,bj,dP,av];exact b9
 intro k;induction k with
 |zero=>
  intro x y N h v w J G fc e a j z;have:y=0:=by omega
  subst this;exact B x N h v w (by omega) fc e a j
 |succ k K=>
  intro x y N h v w J G fc e a j z;by_cases C:y=0
  ·subst C;exact B x N h v w (by omega) fc e a j
  ·obtain⟨N,rfl⟩:=cN N;obtain⟨N,rfl⟩:=cN N;have l:=a.len;have cZ:=B5 C;obtain⟨p,q,L,g,ar⟩:=E v w x y e a C j z;have a1:=L.eh;have M:=Fq x (show 0<y by omega);have a2:=xt (Nat.le_of_lt M);have t:=dw.dU e;have D:=dw.dU a;rw[AN];by_cases A:x%y=0
   ·rw[A] at g;have F:=B y (N+1) h w q (by omega) fc a g z;rw[Nat.gcd_comm,Nat.gcd_rec,A,Nat.gcd_comm];generalize oq 6 8 (N+1) _=I at F;rw[arN,l,bF,hH,bN,bL,aft,ce,t,D,av,av,aT,e2 _ _,e3 _ _];exact F
   ·obtain⟨p',O,P,Q,a3⟩:=E w q y (x%y) a g A z (by omega);have a4:=P.eh;have gg:=B5 A;have R:=g.len;have T:=dw.dU g;have W:=Fq y (show 0<x%y by omega);have a5:=xt (Nat.le_of_lt W);have X:y% (x%y)<2^k:=by
     rw[nV] at J;by_cases h4:x%y<=y/2
     ·omega
     ·have:y% (x%y)=y-x%y:=by rw[Nat.mod_eq_sub_mod (by omega),vw (by omega)]
      omega
    have F:=K (x%y) (y% (x%y)) N h q O X (by omega) fc g Q (by omega) (by omega);rw[Nat.gcd_comm,Nat.gcd_rec,Nat.gcd_rec,Nat.gcd_comm];rw[AN];generalize oq 6 8 N _=I at F;rw[arN,l,bF,hH,bN,bL,aft,ce,t,D,av,av,aT,e2 _ _,e3 _ _,arN,R,bF,hH,bN,bL,aft,ce,D,T,av,av,aT,e2 _ _,e3 _ _];exact F
theorem ayz(e:Q7 u)(S:Ap u){x y:Int}(g:(cU x.natAbs).length<=700)(h:(cU y.natAbs).length<=700):∃s d,ZJ u [bA x,bA y] 0 .nil= .ok (bA (Nat.gcd x.natAbs y.natAbs)) 0 s d:=by obtain⟨v,a,l⟩:=S.CA x (by omega);obtain⟨w,j,n⟩:=S.CA y (by omega);have k:y.natAbs<2^(4*(cU y.natAbs).length):=iC (Dj (sm _)) (by rw[Nat.pow_mul];exact Nat.pow_le_pow_left (by decide) _);have F:=aFC e S _ x.natAbs y.natAbs 1000000 (ba 0 .nil) v w k (by omega) inferInstance a j g h;have o:=a.eh;rw[ZJ,dE];rw[akm,bg,dP,av,aT,e2 _ _,aiv,e3 _ _,bg,dP,av,aT,e2 _ _,e3 _ _];exact F
end
end
section
variable{x y:Int} {k q:Nat}
theorem aue(x y:Int):a8 (xor true (decide (x<0)==decide (y<0))) (x.natAbs*y.natAbs)=x*y:=by
 rw[Go.Hf.a8,oj];by_cases a:x<0<;>by_cases c:y<0
 ·rw[pl a,pl c,show(xor true (true==true))=false from rfl,Ca (by simp),show((x.natAbs:Int))= -x by omega,show((y.natAbs:Int))= -y by omega,Int.neg_mul_neg]
 ·rw[pl a,GG c,show(xor true (true==false))=true from rfl,y1 rfl,show((x.natAbs:Int))= -x by omega,show((y.natAbs:Int))=y by omega,Int.neg_mul,Int.neg_neg]
 ·rw[GG a,pl c,show(xor true (false==true))=true from rfl,y1 rfl,show((x.natAbs:Int))=x by omega,show((y.natAbs:Int))= -y by omega,Int.mul_neg,Int.neg_neg]
 ·rw[GG a,GG c,show(xor true (false==false))=false from rfl,Ca (by simp),show((x.natAbs:Int))=x by omega,show((y.natAbs:Int))=y by omega]
def fc(x:Int):Nat:=(cU x.natAbs).length
theorem aai:fc x<=k↔x.natAbs<10^k:=⟨λh=>Dj h,λh=>Bt k _ h⟩
theorem wH{l:Nat}(a:fc x<=k)(c:fc y<=l):fc (x*y)<=k+l:=by rw[aai] at*;rw[JY,D2];exact Nat.mul_lt_mul_of_lt_of_lt a c
theorem apF(a:fc x<=k)(c:fc y<=k):fc (x+y)<=k+1:=by rw[aai] at*;have:=Int.natAbs_add_le x y;rw[nV];omega
theorem TY(p:Int)(c:q≠0):(mkRat p q).num=a8 (decide (p<0)) (p.natAbs/Nat.gcd p.natAbs q)/\(mkRat p q).den=q/Nat.gcd p.natAbs q:=by
 have e:mkRat p q=Rat.normalize p q c:=by unfold mkRat;rw[dif_neg c]
 rw[e,Rat.normalize_eq];refine⟨?_,rfl⟩;show p/_=_;obtain⟨a,d⟩:=Nat.gcd_dvd_left p.natAbs q;have l:Nat.gcd p.natAbs q≠0:=λh=>c (Nat.eq_zero_of_gcd_eq_zero_right h);have j:p.natAbs/Nat.gcd p.natAbs q=a:=by
  conv=>lhs;lhs;rw[d]
  exact Nat.mul_div_cancel_left _ (by omega)
 rw[j];generalize Nat.gcd p.natAbs q=g at*;by_cases h:p<0
 ·have i:p=(g:Int)*(-(a:Int)):=by rw[Int.mul_neg,<-oj,<-d];omega
  rw[pl h,i,Int.mul_ediv_cancel_left _ (by omega)];rfl
 ·have i:p=(g:Int)*(a:Int):=by rw[<-oj,<-d];omega
  rw[GG h,i,Int.mul_ediv_cancel_left _ (by omega)];rfl
section
variable[Tok] {u:Fn} {b:Nat}
theorem aFz(S:Ap u)(i:∀v w x y,g8 v (cU x)->g8 w (cU y)->(cU x).length<=400->(cU y).length<=400->∃z,g8 z (cU (x*y))/\aK u 223 [v,w] z)(a:fc x<=400)(c:fc y<=400):∃s d,DC u [bA x,bA y] 0 .nil= .ok (bA (x*y)) 0 s d:=by
 unfold fc at a c;obtain⟨v,e,p⟩:=S.CA x (by omega);obtain⟨w,g,r⟩:=S.CA y (by omega);obtain⟨z,h,t⟩:=i v w _ _ e g a c;have A:(cU (x.natAbs*y.natAbs)).length<=400+400:=by have:=wH (x:=x) (y:=y) a c;rwa [fc,JY] at this
 have j:=S.DI (xor true (decide (x<0)==decide (y<0))) z _ h (q3 _) (by omega);rw[ud,aue] at j;have l:=dw.dU e;have n:=dw.dU g;have o:=dw.dU h;rw[DC,dE];rw[RD,bg,dP,av,aT,e2 _ _,e3 _ _,Wi,bg,dP,av,aT,e2 _ _,e3 _ _,JT,ce,l,n,av,av,aT,ce,fO,o,av,av,aT,SP,bj,dP,av];exact b9
theorem aFt(S:Ap u)(D:KC u)(I:∀v w l r,g8 v l->g8 w r->l.length<=800->r.length<=800->(∀d∈l,d<10)->(∀d∈r,d<10)->∃x L,g8 x L/\(∀d∈L,d<10)/\L.length<=802/\fP L=fP l+fP r/\aK u 278 [v,w] x)(p:fc x<=800)(t:fc y<=800):∃s d,wP u [bA x,bA y] 0 .nil= .ok (bA (x+y)) 0 s d:=by
 unfold fc at p t;obtain⟨v,g,Q⟩:=S.CA x (by omega);obtain⟨w,h,R⟩:=S.CA y (by omega);have i:=dw.dU g;have j:=dw.dU h;have J:=D.Wl v w _ _ g h p t;rw[wP,dE];by_cases A:decide (x<0)=decide (y<0)
 ·have B:(xor false (decide (x<0)==decide (y<0)))=true:=by rw[A];simp
  obtain⟨z,L,a,K,C,E,F⟩:=I v w _ _ g h p t (q3 _) (q3 _);have c:=S.DI (decide (x<0)) z L a K (by omega);rw[ud,ud] at E;rw[E] at c;have e:a8 (decide (x<0)) (x.natAbs+y.natAbs)=x+y:=by
   unfold a8;have M:(x<0↔y<0):=by simpa using A
   by_cases n:x<0
   ·rw[pl n,y1 rfl];omega
   ·rw[GG n,Ca (by simp)];omega
  rw[e] at c;have o:=dw.dU a;rw[HL,bg,dP,av,aT,e2 _ _,Iw,e3 _ _,bg,dP,av,aT,e2 _ _,e3 _ _,JT,B,bL,We,ce,i,j,av,av,aT,ce,fO,o,av,av,aT,yC,bj,dP,av];exact b9
 ·have B:(xor false (decide (x<0)==decide (y<0)))=false:=by cases N:decide (x<0)<;>cases O:decide (y<0)<;>first|rfl|exact absurd (N.trans O.symm) A
  have M:¬(x<0↔y<0):=by simpa using A
  by_cases P:y.natAbs<=x.natAbs
  ·have G:0<=e4 (x.natAbs:Int) (y.natAbs:Int):=by unfold e4;split<;>(try split)<;>omega
   obtain⟨z,a,F⟩:=D.Q5 v w _ _ g h p P;have C:=xt (show x.natAbs-y.natAbs<=x.natAbs by omega);have c:=S.DI (decide (x<0)) z _ a (q3 _) (by omega);have e:a8 (decide (x<0)) (x.natAbs-y.natAbs)=x+y:=by
    unfold a8;by_cases n:x<0
    ·rw[pl n,y1 rfl];omega
    ·rw[GG n,Ca (by simp)];omega
   rw[ud,e] at c;have o:=dw.dU a;rw[HL,bg,dP,av,aT,e2 _ _,Iw,e3 _ _,bg,dP,av,aT,e2 _ _,e3 _ _,JT,B,a6,PJ,ce,i,j,av,av,aT,bF,ix,bN,bL,ac2,ce,i,j,av,av,aT,ce,fO,o,av,av,aT,yC,bj,dP,av];exact b9
  ·have G:e4 (x.natAbs:Int) (y.natAbs:Int)= -1:=Nc (by omega);obtain⟨z,a,F⟩:=D.Q5 w v _ _ h g t (by omega);have C:=xt (show y.natAbs-x.natAbs<=y.natAbs by omega);have c:=S.DI (decide (y<0)) z _ a (q3 _) (by omega);have e:a8 (decide (y<0)) (y.natAbs-x.natAbs)=x+y:=by
    unfold a8;by_cases H:y<0
    ·rw[pl H,y1 rfl];omega
    ·rw[GG H,Ca (by simp)];omega
   rw[ud,e] at c;rw[G] at J;have o:=dw.dU a;rw[HL,bg,dP,av,aT,e2 _ _,Iw,e3 _ _,bg,dP,av,aT,e2 _ _,e3 _ _,JT,B,a6,PJ,ce,i,j,av,av,aT,bF,ix,bk,a6,acz,ce,j,i,av,av,aT,ce,fO,o,av,av,aT,yC,bj,dP,av];exact b9
theorem as1(S:Ap u)(c:fc x<=800):∃s d,GX u [bA x] 0 .nil= .ok (bA (-x)) 0 s d:=by
 unfold fc at c;obtain⟨v,a,j⟩:=S.CA x (by omega);have g:=S.DI (!decide (x<0)) v _ a (q3 _) (by omega);have e:bA (a8 (!decide (x<0)) x.natAbs)=bA (-x):=by
  congr 1;unfold a8;by_cases h:x<0
  ·rw[pl h];simp;omega
  ·rw[GG h];simp;omega
 rw[ud,e] at g;have i:=dw.dU a;rw[GX,dK];rw[afH,bg,dP,av,aT,e2 _ _,e3 _ _,hj,ce,fO,i,av,av,aT,abD,bj,dP,av];exact b9
theorem aFM(S:Ap u)(D:KC u)(i:fc x<=800)(j:fc y<=800):∃s d,HU u [bA x,bA y] 0 .nil= .ok (ao (e4 x y)) 0 s d:=by
 unfold fc at i j;obtain⟨v,l,a⟩:=S.CA x (by omega);obtain⟨w,n,c⟩:=S.CA y (by omega);have o:=dw.dU l;have p:=dw.dU n;have eR:=D.Wl v w _ _ l n i j;have r:=D.Wl w v _ _ n l j i;rw[HU,dE];by_cases g:x<0<;>by_cases h:y<0
 ·have e:e4 (y.natAbs:Int) (x.natAbs:Int)=e4 x y:=by unfold e4;split<;>(try split)<;>(try split)<;>(try split)<;>omega
  rw[pl g] at a;rw[pl h] at c;rw[e] at r;rw[N3,bg,dP,av,aT,e2 _ _,e3 _ _,N2,bg,dP,av,aT,e2 _ _,e3 _ _,fi,hj,tF,Gd,fQ,dR,a6,Ux,hj,tF,iE,Ob,fQ,dO,bL,a6,akf,ce,p,o,av,av,aT,De,bj,b7,av];exact b9
 ·rw[Nc (by omega)];rw[pl g] at a;rw[GG h] at c;rw[N3,bg,dP,av,aT,e2 _ _,e3 _ _,N2,bg,dP,av,aT,e2 _ _,e3 _ _,fi,hj,uD,Gd,fQ,dR,bL,De,bj,pE,b7,av];exact b9
 ·rw[WP (by omega)];rw[GG g] at a;rw[pl h] at c;rw[N3,bg,dP,av,aT,e2 _ _,e3 _ _,N2,bg,dP,av,aT,e2 _ _,e3 _ _,iE,Gd,fQ,dO,a6,Ux,hj,uD,fi,Ob,fQ,dR,bL,De,bj,bK,b7,av];exact b9
 ·have e:e4 (x.natAbs:Int) (y.natAbs:Int)=e4 x y:=by unfold e4;split<;>(try split)<;>(try split)<;>(try split)<;>omega
  rw[GG g] at a;rw[GG h] at c;rw[e] at eR;rw[N3,bg,dP,av,aT,e2 _ _,e3 _ _,N2,bg,dP,av,aT,e2 _ _,e3 _ _,iE,Gd,fQ,dO,a6,Ux,hj,uD,fi,Ob,fQ,dR,a6,a6,aac,ce,o,p,av,av,aT,De,bj,b7,av];exact b9
theorem afq(S:Ap u)(e:fc x<=800):∃s d,abJ u [bA x] 0 .nil= .ok (ao (max 1 (fc x))) 0 s d:=by unfold fc at*;obtain⟨v,a,g⟩:=S.CA x (by omega);have c:=a.len;have h:=a.eh;rw[abJ,dK];rw[avb,bg,dP,av,aT,e2 _ _,e3 _ _,c,bK,aaW,avy,bj,b7,av];exact b9
theorem aFS(S:Ap u)(n:Q7 u){p:Int}(e:q≠0)(o:fc p<=700)(r:fc q<=700)(J:aK u 219 [bA p,bA q] (bA (Nat.gcd p.natAbs q))):∃s d,abV u [bA p,bA q] 0 .nil= .ok (.a0 [bA (mkRat p q).num,bA ((mkRat p q).den:Nat)]) 0 s d:=by
 unfold fc at o r;rw[(TY p e).1,(TY p e).2];have t:Nat.gcd p.natAbs q≠0:=λh=>e (Nat.eq_zero_of_gcd_eq_zero_right h);have gl:=xt (Nat.gcd_le_right p.natAbs (show 0<q by omega));obtain⟨v,z,K⟩:=S.CA p (by omega);obtain⟨w,i,B⟩:=S.CA q (by omega);obtain⟨g,dB,C⟩:=S.CA (Nat.gcd p.natAbs q) (by simp only[Int.natAbs_natCast] at*;omega);rw[GG (by omega)] at B C;simp only[Int.natAbs_natCast] at*;obtain⟨a,L,j,-,M⟩:=n v g _ _ z dB t o (by omega);obtain⟨c,N,c1,-,O⟩:=n w g _ _ i dB t r (by omega);have P:=xt (Nat.div_le_self p.natAbs (Nat.gcd p.natAbs q));have cl:=xt (Nat.div_le_self q (Nat.gcd p.natAbs q));have D:=S.DI (decide (p<0)) a _ j (q3 _) (by omega);have l:=S.DI false c _ c1 (q3 _) (by omega);rw[ud] at D l;rw[<-fQ] at l;have Q:aK u 180 [bG,c] (bA (q/Nat.gcd p.natAbs q:Nat)):=l;have E:(xor true (decide (p<0)==false))=decide (p<0):=by cases decide (p<0)<;>rfl
 have F:=dw.dU z;have G:=dw.dU i;have A:=dw.dU dB;have H:=dw.dU j;have rZ:=dw.dU c1;have cS:=j.eh;have R:=c1.eh;have I:=i.len;have T:=B5 e;rw[abV,dE];rw[alx,bg,dP,av,aT,e2 _ _,e3 _ _,I,bF,dj,bk,a6,aiV,bg,dP,av,aT,e2 _ _,e3 _ _,awO,ce,dP,dP,av,av,aT,bg,dP,av,aT,e2 _ _,e3 _ _,ce,F,A,av,av,aT,e2 _ _,e3 _ _,atI,ce,G,A,av,av,aT,e2 _ _,e3 _ _,JT,E,ce,fO,H,av,av,aT,rZ,av,aT,Ug,dP,dP,av,av];exact b9
end
end
section
variable[Tok]
structure Ez (u:Fn):Prop where
 mul:∀x y:Int,fc x<=400->fc y<=400->aK u 174 [bA x,bA y] (bA (x*y))
 add:∀x y:Int,fc x<=800->fc y<=800->aK u 224 [bA x,bA y] (bA (x+y))
 neg:∀x:Int,fc x<=800->aK u 115 [bA x] (bA (-x))
 mP:∀x y:Int,fc x<=800->fc y<=800->aK u 226 [bA x,bA y] (ao (e4 x y))
 ai3:∀x:Int,fc x<=800->aK u 171 [bA x] (ao (max 1 (fc x)))
 Hc:∀(p:Int) (q:Nat),q≠0->fc p<=700->fc q<=700->aK u 170 [bA p,bA q] (.a0 [bA (mkRat p q).num,bA ((mkRat p q).den:Nat)])
theorem MY:bl Ez:=by
 have o:bl G4:=bl.jr.up λn _ v l c t=>by obtain⟨w,j,k⟩:=aDa (u:=bB bD n) c (by omega);exact⟨w,j,cI (aM 230 abK n) k⟩
 have J:bl λu=>∀n:Int,(cU n.natAbs).length<900->aK u 229 [bA n] (.a9 true):=bl.jr.up λn _ x a=>cI (aM 229 Re n) (aF6 (by omega));have D:bl Ap:=(o.and J).up λn h=>⟨λx a=>by
  obtain⟨w,j,k⟩:=aBw (h.2 x a) (by omega);exact⟨w,j,cI (aM 179 Vf n) k⟩,λneg v l c hd t=>by
  obtain⟨w,j,k⟩:=h.1 v l c (by omega);exact cI (aM 180 aea n) (aF4 neg hd (by omega) k j c)⟩
 have E:bl KC:=(o.and (o.up (C:=λu=>(∀v w x y,g8 v (cU x)->g8 w (cU y)->(cU x).length<=800->(cU y).length<=800->aK u 276 [v,w] (ao (e4 (x:Int) (y:Int))))/\∀v w x y,g8 v (cU x)->g8 w (cU y)->(cU x).length<=800->y<=x->∃z,g8 z (cU (x-y))/\aK u 277 [v,w] z) λn h=>⟨λv w x y c i a g=>cI (aM 276 R8 n) (aDU c i (by omega) (by omega)),λv w x y c i a K=>by obtain⟨z,A,B⟩:=aFF h K c i a;exact⟨z,A,cI (aM 277 VJ n) B⟩⟩)).imp λn h=>⟨h.1,h.2.1,h.2.2⟩
 have M:bl λu=>∀v w x y,g8 v (cU x)->g8 w (cU y)->(cU x).length<=400->(cU y).length<=400->∃z,g8 z (cU (x*y))/\aK u 223 [v,w] z:=o.up λn h v w x y c i a g=>by obtain⟨z,A,B⟩:=asM h c i a g;exact⟨z,A,cI (aM 223 abB n) B⟩
 have N:bl λu=>∀v w l r,g8 v l->g8 w r->l.length<=800->r.length<=800->(∀d∈l,d<10)->(∀d∈r,d<10)->∃x L,g8 x L/\(∀d∈L,d<10)/\L.length<=802/\fP L=fP l+fP r/\aK u 278 [v,w] x:=bl.jr.up λn _ v w l r c i t O Q R=>by obtain⟨x,L,T,W,X,Z,ar⟩:=aEK (u:=bB bD n) c i t O Q R;exact⟨x,L,T,W,X,Z,cI (aM 278 abt n) ar⟩
 have F:bl Q7:=E.up λn h v w x y c i g a a1=>by obtain⟨p,q,a2,a3,e⟩:=aq3 h c i g a a1;exact⟨p,q,a2,a3,cI (aM 220 RY n) e⟩
 have a4:bl λu=>∀x y:Int,fc x<=700->fc y<=700->aK u 219 [bA x,bA y] (bA (Nat.gcd x.natAbs y.natAbs)):=(F.and D).up λn h x y a g=>cI (aM 219 ZJ n) (ayz h.1 h.2 a g);refine(((D.and E).and (M.and N)).and (F.and a4)).up λn h=>?_;obtain⟨⟨⟨S,G⟩,a5,P⟩,bd,bs⟩:=h;exact⟨λx y a g=>cI (aM 174 DC n) (aFz S a5 a g),λx y a g=>cI (aM 224 wP n) (aFt S G P a g),λx a=>cI (aM 115 GX n) (as1 S a),λx y a g=>cI (aM 226 HU n) (aFM S G a g),λx a=>cI (aM 171 abJ n) (afq S a),λp q bx H I=>cI (aM 170 abV n) (aFS S bd bx H I (bs p q H I))⟩
end
section
variable{n c:Nat} {m:Int} {r:Rat} {o:aB}
section
variable[Tok] {u:Fn} {b:Nat}
theorem abF{n:Int}(h:(Lib.itoa n)[0]? =some 45)(d:n≠0):n<0:=by
 apply Classical.byContradiction;intro g;have j:qI n=0:=by unfold qI;rw[if_neg g]
 have l:=B5 (n:=n.natAbs) (by omega);have hd:(cU n.natAbs)[(cU n.natAbs).length-1-0]? =some ((cU n.natAbs)[(cU n.natAbs).length-1-0]'(by omega)):=dC _;have a:=NZ d (i:=0) (by omega) hd;have k:=q3 n.natAbs _ (On hd);rw[j,h] at a;have:=oT UInt8.toNat (jZ a);rw[GB k] at this;have e:(45:UInt8).toNat=45:=rfl;omega
theorem aFu{n:Int}(h:Lib.itoa n=Lib.itoa m):n=m:=by
 by_cases g:n=0
 ·rw[g,Qr] at h;rw[g,Xt.1 h.symm]
 ·by_cases k:m=0
  ·rw[k,Qr] at h;exact absurd (Xt.1 h) g
  ·have l:n<0↔m<0:=⟨λx=>abF (h▸Sf x) k,λx=>abF (h▸Sf x) g⟩;have t:qI n=qI m:=by unfold qI;by_cases x:n<0<;>simp[x,l.1,<-l]
   have w:=Fg g;have y:=Fg k;rw[h,y] at w;have z:(cU n.natAbs).length=(cU m.natAbs).length:=by omega
   have e:cU n.natAbs=cU m.natAbs:=by
    apply xh;intro j;by_cases p:j<(cU n.natAbs).length
    ·have a:(cU n.natAbs)[j]? =some ((cU n.natAbs)[j]'p):=dC _;have c:(cU m.natAbs)[j]? =some ((cU m.natAbs)[j]'(by omega)):=dC _;have q:=NZ g (i:=(cU n.natAbs).length-1-j) (by omega) (d:=(cU n.natAbs)[j]'p) (by rw[show(cU n.natAbs).length-1-((cU n.natAbs).length-1-j)=j by omega];exact a);have c1:=NZ k (i:=(cU n.natAbs).length-1-j) (by omega) (d:=(cU m.natAbs)[j]'(by omega)) (by rw[z,show(cU m.natAbs).length-1-((cU m.natAbs).length-1-j)=j by omega];exact c);rw[h,t,c1] at q;have:=oT UInt8.toNat (jZ q);rw[GB (q3 _ _ (On a)),GB (q3 _ _ (On c))] at this;rw[a,c];congr 1;omega
    ·rw[qQ (by omega),qQ (by omega)]
   have A:=oT fP e;rw[ud,ud] at A;omega
theorem agv{n:Int}(h:bA n=bA m):n=m:=by unfold bA at h;simp only[an.s.injEq] at h;exact aFu (aht h.1 h.2)
theorem aw8{s:Rat}(h:ef r=ef s):r=s:=by unfold ef b5 at h;simp only[kP,and_true,true_and] at h;have a:=agv h.2;exact Rat.ext (agv h.1) (by omega)
noncomputable def fG(o:aB):Rat:=open Classical in if h:∃r,o=ef r then h.choose else 0
theorem wv(r:Rat):fG (ef r)=r:=by have h:∃s,ef r=ef s:=⟨r,rfl⟩;unfold fG;rw[dif_pos h];exact(aw8 h.choose_spec).symm
theorem NC(h:∀r,o≠ef r):fG o=0:=by unfold fG;rw[dif_neg (λ⟨r,e⟩=>h r e)]
def EG(o:aB):Prop:=o∈kY\/∃r:Rat,o=ef r/\fc r.num<=100/\fc r.den<=100
theorem yN(o:aB)(h:EG o):wL o:=by
 rcases h with h|⟨r,rfl,_⟩
 ·exact Er o (gv _ h)
 ·exact⟨1,_,_,_,_,_,_,_,_,_,_,by omega,by omega,⟨rfl,rfl⟩⟩
theorem atd(o:aB)(h:EG o):JK o:=by obtain⟨k,a,c1,d,e,g,i,a4,j,l,p,t,w,q⟩:=yN o h;exact⟨k,a,c1,d,e,g,i,a4,j,l,p,by omega,by omega,q⟩
abbrev rK (n c:Nat) (o:aB):Prop:=lJ EG n c o
theorem rK.NM(h:rK n c o):jX n c o:=by
 induction h with
 |leaf h=>exact .leaf (atd _ h)
 |cons _ _ a d=>exact .cons a d
theorem rK.mono(h:rK n c o):rK (n+1) c o:=by
 induction h with
 |leaf h=>exact .leaf h
 |cons _ _ a d=>exact .cons a d
theorem rK.le{m:Nat}(h:rK n c o)(a:n<=m):rK m c o:=by
 induction a with
 |refl=>exact h
 |step _ d=>exact d.mono
theorem rK.aEO(h:rK n c o):rK c c o:=by
 induction h with
 |leaf h=>exact .leaf h
 | @cons n c e a d _ _ g i=>exact .le (n:=c+e+1) (.cons (g.le (by omega)) (i.le (by omega))) (by omega)
def fU(o:aB):Prop:=∃c,c<=3000/\rK 3000 c o
theorem yB(h:rK n c o)(a:c<=3000):fU o:=⟨c,a,h.aEO.le a⟩
theorem fU.v{o:aB}(h:fU o):o.length=7/\b8 o=true:=by obtain⟨c,_,h⟩:=h;exact h.v yN
theorem fU.cases{o:aB}(h:fU o):o∈kY\/(∃r:Rat,o=ef r/\fc r.num<=100/\fc r.den<=100)\/∃a d,o=jU a d/\fU a/\fU d:=by
 obtain⟨c,g,h⟩:=h;cases h with
 |leaf h=>exact h.elim .inl λh=> .inr (.inl h)
 | @cons n c i a d e hd=>exact .inr (.inr ⟨a,d,rfl,yB e (by omega),yB hd (by omega)⟩)
theorem aEF(a:fc r.num<=100)(d:fc r.den<=100):fU (ef r):=yB (n:=0) (.leaf (.inr ⟨r,rfl,a,d⟩)) (by omega)
theorem Zb(h:o∈kY):fU o:=yB (n:=0) (.leaf (.inl h)) (by omega)
theorem WB(h:o∈kY):(∃d c1 e g,o=nt d c1 e g)\/∃a c,o=uV a c:=by
 simp only[kY,pG,CY,wN] at h;rcases h with h|h|h|h|h|h|h|h
 ·exact .inl ⟨_,_,_,_,h⟩
 ·exact .inl ⟨_,_,_,_,h⟩
 ·exact .inl ⟨_,_,_,_,h⟩
 ·exact .inl ⟨_,_,_,_,h⟩
 ·exact .inl ⟨_,_,_,_,h⟩
 ·exact .inr ⟨_,_,h⟩
 ·exact .inr ⟨_,_,h⟩
 ·exact .inr ⟨_,_,h⟩
theorem zC{c d:Int}{l m:aB}(h:c≠d)(a: -1000<c:=by omega)(hd: -1000<d:=by omega):ao c::l≠ao d::m:=λe=>h (Mh (s5 e).1 a hd)
theorem fU.Cm(h:fU o):∃k e c1 g i j l a4 p q t L,1<=k/\k<=4/\nr o k e c1 g i j l a4 p q t L/\((k=1/\∃r:Rat,o=ef r/\fc r.num<=100/\fc r.den<=100)\/(k≠1/\fG o=0))/\((k=4/\∃a d,o=jU a d/\fU a/\fU d/\L= .aQ 7 [a,d])\/(k≠4/\L= .aE)):=by
 rcases h.cases with h|⟨r,rfl,w,x⟩|⟨a,d,rfl,y,hd⟩
 ·rcases WB h with⟨e,c1,g,i,rfl⟩|⟨a,c,rfl⟩
  ·exact⟨2,_,_,_,_,_,_,_,_,_,_,_,by omega,by omega,⟨rfl,rfl⟩,.inr ⟨by omega,NC λr=>zC (by omega)⟩,.inr ⟨by omega,rfl⟩⟩
  ·exact⟨3,_,_,_,_,_,_,_,_,_,_,_,by omega,by omega,⟨rfl,rfl⟩,.inr ⟨by omega,NC λr=>zC (by omega)⟩,.inr ⟨by omega,rfl⟩⟩
 ·exact⟨1,_,_,_,_,_,_,_,_,_,_,_,by omega,by omega,⟨rfl,rfl⟩,.inl ⟨rfl,r,rfl,w,x⟩,.inr ⟨by omega,rfl⟩⟩
 ·exact⟨4,_,_,_,_,_,_,_,_,_,_,_,by omega,by omega,ye,.inr ⟨by omega,NC λr=>zC (by omega)⟩,.inl ⟨rfl,a,d,rfl,y,hd,rfl⟩⟩
end
end
section
variable{o x y:aB}
def nb(x:Bool):aB:=bif x then nt 4 0x6c697370 1 0x74 else nt 4 0x6c697370 3 0x6e696c
section
variable[Tok] {u:Fn} {b:Nat}
theorem z3(h:fU o):fc (fG o).num<=100/\fc (fG o).den<=100:=by
 obtain⟨k,d,c1,e,g,i,j,a4,l,n,p,L,q,t,w,⟨-,r,rfl,a,c⟩|⟨-,a⟩,z⟩:=h.Cm
 ·rw[wv];exact⟨a,c⟩
 ·rw[a];exact⟨xW _,by decide⟩
theorem wc(r:Rat):(ef r).length=7:=rfl
theorem ur(r:Rat):b8 (ef r)=true:=iY _ _
theorem aEG(h:fU o)(H:aK u 60 [ao 0] (.agg (ef 0))):∃s d,C5 u [.agg o] 0 .nil= .ok (.agg (ef (fG o))) 0 s d:=by
 obtain⟨e,g⟩:=h.v;obtain⟨k,i,c1,j,l,n,p,a4,q,t,w,L,z,A,c,⟨rfl,r,rfl,a,B⟩|⟨C,a⟩,D⟩:=h.Cm
 ·rw[wv];exact Nx
 ·have eO:=c.eO;have E:=wc 0;have F:=ur 0;rw[a,C5,dK];rw[aaj,cy,de,aaI,bp,bb,aH,bc,bK,dj,bk,a6,bF,aT,dc,MB,gh,be,bj,bm,av];exact b9
theorem D7(r:Rat):(ef r)[0+1]? =some (bA r.num):=rfl
theorem FU(r:Rat):(ef r)[0+2]? =some (bA r.den):=rfl
theorem aFg(N:Ez u){r s:Rat}(H:∀r:Rat,aK u 225 [.agg (ef r)] (ao 1))(a:fc r.num<=100/\fc r.den<=100)(c:fc s.num<=100/\fc s.den<=100):∃t d,H3 u [.agg (ef r),.agg (ef s)] 0 .nil= .ok (ao (e4 (r.num*s.den) (s.num*r.den))) 0 t d:=by have fC:=N.mul r.num s.den (by omega) (by omega);have e:=N.mul s.num r.den (by omega) (by omega);have aS:=wH a.1 c.2;have cZ:=wH c.1 a.2;have g:=N.mP (r.num*s.den) (s.num*r.den) (by omega) (by omega);have rl:=wc r;have h:=ur r;have sl:=wc s;have i:=ur s;have r1:=D7 r;have j:=FU r;have k:=D7 s;have s2:=FU s;have l:=H r;have n:=H s;generalize ef r=x at*;generalize ef s=y at*;have p:=λ(z:Int)=>aAV z;rw[H3,dE];rw[abN,cy,cy,aJ,cH,aN,aH,be,af1,aV,aN,bm,av,aT,aJ,cH,aN,aH,be,aV,aN,bm,av,aT,dF,bk,a6,acl,aH,be,bg,bm,av,aT,bK,dj,bN,bL,amF,bb,aJ,cH,aN,aH,bc,bb,aoq,aJ,cH,aN,aH,bc,aV (aAV _ _ _),aV (aAV _ _ _),aN,dP,dP,av,av,aT,bb,aJ,cH,aN,aH,bc,bb,adP,aJ,cH,aN,aH,bc,aV (aAV _ _ _),aV (aAV _ _ _),aN,dP,dP,av,av,aT,aV (aAV _ _ _),aV (aAV _ _ _),aN,dP,dP,av,av,aT,AG,bj,b7,av];exact b9
theorem aGa(N:Ez u)(a:fU x)(g:fU y)(F:∀o,fU o->aK u 113 [.agg o] (.agg (ef (fG o))))(C:∀r s:Rat,fc r.num<=100/\fc r.den<=100->fc s.num<=100/\fc s.den<=100->aK u 178 [.agg (ef r),.agg (ef s)] (ao (e4 (r.num*s.den) (s.num*r.den)))):∃t d,Im u [.agg x,.agg y] 0 .nil= .ok (.a9 (decide (fG x<fG y))) 0 t d:=by
 obtain⟨h,i⟩:=a.v;obtain⟨j,k⟩:=g.v;have f1:=F x a;have f2:=F y g;have c:=C _ _ (z3 a) (z3 g);have e:decide (fG x<fG y)=decide (e4 ((fG x).num*(fG y).den) ((fG y).num*(fG x).den)<0):=by apply L9.2;rw[Rat.lt_iff];unfold e4;split<;>(try split)<;>omega
 have l:=xo ((fG x).num*(fG y).den) ((fG y).num*(fG x).den);rw[e];have n:=ur (fG x);have p:=ur (fG y);generalize e4 ((fG x).num*(fG y).den) ((fG y).num*(fG x).den)=z at*;rw[Im,dE];rw[amU,cy,cy,aJ,cH,aN,aH,be,aV,aN,bm,av,aT,ahQ,aJ,cH,aN,aH,be,aV,aN,bm,av,aT,aV,aV,aN,bm,bm,av,av,aT,bF,bO,ajO,bj,fO,av];exact b9
def QB(u:Fn):Prop:=∀(p:Int) (q:Nat),q≠0->fc p<=700->fc q<=700->aK u 114 [bA p,bA q] (.agg (ef (mkRat p q)))
def NP(u:Fn):Prop:=∀o,fU o->aK u 113 [.agg o] (.agg (ef (fG o)))
theorem azO(N:Ez u)(R:QB u)(F:NP u)(e:fU x)(g:fU y):∃t d,Bv u [.agg x,.agg y] 0 .nil= .ok (.agg (ef (fG x+fG y))) 0 t d:=by obtain⟨q,w⟩:=e.v;obtain⟨z,A⟩:=g.v;have f1:=F x e;have f2:=F y g;obtain⟨j,h⟩:=z3 e;obtain⟨k,i⟩:=z3 g;have l:=(fG x).den_nz;have n:=(fG y).den_nz;rw[Rat.add_def'];generalize fG x=r at*;generalize fG y=s at*;have fC:=N.mul r.num s.den (by omega) (by omega);have B:=N.mul s.num r.den (by omega) (by omega);have p:=N.mul r.den s.den (by omega) (by omega);have aS:=wH j i;have cZ:=wH k h;have gg:=wH h i;have jf:=apF aS cZ;have C:=N.add (r.num*s.den) (s.num*r.den) (by omega) (by omega);rw[<-oj] at p gg;have c:=R (r.num*s.den+s.num*r.den) (r.den*s.den) (Nat.mul_ne_zero l n) (by omega) (by omega);have D:=wc (mkRat (r.num*s.den+s.num*r.den) (r.den*s.den));have E:=ur (mkRat (r.num*s.den+s.num*r.den) (r.den*s.den));have rl:=wc r;have G:=ur r;have sl:=wc s;have H:=ur s;have r1:=D7 r;have I:=FU r;have J:=D7 s;have s2:=FU s;generalize ef (mkRat (r.num*s.den+s.num*r.den) (r.den*s.den))=o at*;generalize ef r=a at*;generalize ef s=c at*;rw[Bv,dE];rw[aan,cy,cy,de,aJ,cH,aN,aH,be,aV,aN,bm,av,aT,Su,aJ,cH,aN,aH,be,aV,aN,bm,av,aT,tw,tw,cH,aN,pf,cH,aN,pf,abx,bb,aJ,cH,aN,aH,bc,bb,aJ,cH,aN,aH,bc,aV (aAV _ _ _),aV (aAV _ _ _),aN,dP,dP,av,av,aT,abg,bb,aJ,cH,aN,aH,bc,bb,aJ,cH,aN,aH,bc,aV (aAV _ _ _),aV (aAV _ _ _),aN,dP,dP,av,av,aT,VP,aV (aAV _ _ _),aV (aAV _ _ _),aN,dP,dP,av,av,aT,bb,aJ,cH,aN,aH,bc,bb,aJ,cH,aN,aH,bc,abj,aV (aAV _ _ _),aV (aAV _ _ _),aN,dP,dP,av,av,aT,aV (aAV _ _ _),aV (aAV _ _ _),aN,dP,dP,av,av,aT,cH,aN,pf,Tu,gh,be,bj,bm,av];exact b9
theorem aES(N:Ez u)(R:QB u)(F:NP u)(e:fU x)(g:fU y):∃t d,Di u [.agg x,.agg y] 0 .nil= .ok (.agg (ef (fG x*fG y))) 0 t d:=by obtain⟨q,w⟩:=e.v;obtain⟨z,A⟩:=g.v;have f1:=F x e;have f2:=F y g;obtain⟨h,i⟩:=z3 e;obtain⟨j,k⟩:=z3 g;have l:=(fG x).den_nz;have n:=(fG y).den_nz;rw[Rat.mul_def'];generalize fG x=r at*;generalize fG y=s at*;have fC:=N.mul r.num s.num (by omega) (by omega);have p:=N.mul r.den s.den (by omega) (by omega);have aS:=wH h j;have gg:=wH i k;rw[<-oj] at p gg;have c:=R (r.num*s.num) (r.den*s.den) (Nat.mul_ne_zero l n) (by omega) (by omega);have B:=wc (mkRat (r.num*s.num) (r.den*s.den));have C:=ur (mkRat (r.num*s.num) (r.den*s.den));have rl:=wc r;have D:=ur r;have sl:=wc s;have E:=ur s;have r1:=D7 r;have G:=FU r;have H:=D7 s;have s2:=FU s;generalize ef (mkRat (r.num*s.num) (r.den*s.den))=o at*;generalize ef r=a at*;generalize ef s=c at*;rw[Di,dE];rw[adA,cy,cy,de,aJ,cH,aN,aH,be,RI,aV,aN,bm,av,aT,aJ,cH,aN,aH,be,aV,aN,bm,av,aT,tw,tw,aaz,cH,aN,pf,cH,aN,pf,bb,aJ,cH,aN,aH,bc,bb,aJ,cH,aN,aH,bc,Z1,aV (aAV _ _ _),aV (aAV _ _ _),aN,dP,dP,av,av,aT,bb,aJ,cH,aN,aH,bc,bb,aJ,cH,aN,aH,bc,acY,aV (aAV _ _ _),aV (aAV _ _ _),aN,dP,dP,av,av,aT,aV (aAV _ _ _),aV (aAV _ _ _),aN,dP,dP,av,av,aT,cH,aN,pf,Y6,gh,be,bj,bm,av];exact b9
theorem aEQ(N:Ez u)(R:QB u)(F:NP u)(g:fU x):∃t d,G3 u [.agg x] 0 .nil= .ok (.agg (ef (-fG x))) 0 t d:=by
 obtain⟨i,j⟩:=g.v;have f1:=F x g;obtain⟨k,l⟩:=z3 g;have h:=(fG x).den_nz;have e: -fG x=mkRat (-(fG x).num) (fG x).den:=by have:=Rat.mkRat_self (-fG x);rw[<-this];rfl
 rw[e];generalize fG x=r at*;have fC:=N.neg r.num (by omega);have aS:fc (-r.num)<=100:=by rw[aai] at*;omega
 have c:=R (-r.num) r.den h (by omega) (by omega);have n:=wc (mkRat (-r.num) r.den);have p:=ur (mkRat (-r.num) r.den);have rl:=wc r;have q:=ur r;have r1:=D7 r;have w:=FU r;generalize ef (mkRat (-r.num) r.den)=o at*;generalize ef r=a at*;rw[G3,dK];rw[alr,cy,de,aH,be,bg,bm,av,aT,de,dc,bb,aJ,cH,aN,aH,bc,ad2,aV (aAV _ _ _),aN,dP,av,aT,bb,aJ,cH,aN,aH,bc,aV (aAV _ _ _),aV (aAV _ _ _),aN,dP,dP,av,av,aT,cH,aN,pf,ao8,gh,be,bj,bm,av];exact b9
end
end
section
variable{c:Nat} {o:aB}
section
variable[Tok] {u:Fn} {b:Nat}
theorem ae3{m:Nat}(H:∀n c o,n<m->rK n c o->∀l:Int,1<=l->l<100000->aK u 169 [.agg o,ao l] (ao (min c l)))(g:rK m c o){l:Int}(r:1<=l)(t:l<100000):∃s d,A6 u [.agg o,ao l] 0 .nil= .ok (ao (min c l)) 0 s d:=by
 obtain⟨eR,p⟩:=g.v yN;cases g with
 |leaf g=>obtain⟨k,w,c1,x,y,z,A,a4,B,C,D,E,F,q⟩:=yN _ g;have l4:=q.l4;rw[show min ((1:Nat):Int) l=1 by omega,A6,dE];rw[Li,cy,PL,bp,bb,aH,bc,hy,ff,dF,bN,lL,Ka,gE,dR,bL,CP,bj,bK,b7,av];exact b9
 | @cons n c e a d h hd=>
   have G:=h.dv;have I:=hd.dv;obtain⟨J,K⟩:=h.v yN;obtain⟨L,M⟩:=hd.v yN;have l4:=(ye (a:=a) (d:=d)).l4;have i:∀k:an->aw,bq false (.aQ 7 [a,d]) k=k (ao 2):=λk=>eA _ _ k;have N:([a,d]:aY)[0]? =some a:=rfl;have O:([a,d]:aY)[1]? =some d:=rfl;generalize ([ao 4,.s 0 0,.s 0 0,.s 0 0,.s 0 0,.s 0 0,.aQ 7 [a,d]]:aB)=o at eR p l4;rw[A6,dE];by_cases P:l=1
   ·rw[show min ((1+c+e:Nat):Int) l=1 by omega];rw[Li,cy,PL,bp,bb,aH,bc,i,ff,dF,bk,fZ,bK,qd,Ka,gE,dO,bN,bL,CP,bj,bK,b7,av];exact b9
   ·have j:=H n c a (by omega) h (l-1) (by omega) (by omega);by_cases Q:l<=1+(c:Int)
    ·rw[show min ((1+c+e:Nat):Int) l=l by omega];rw[show min (c:Int) (l-1)=l-1 by omega] at j;rw[Li,cy,PL,bp,bb,aH,bc,i,ff,dF,bk,fZ,bK,qd,Ka,gE,dO,bk,a6,PB,bp,bb,aH,bc,bF,hu,ch,be,S9,bK,e1,ce,bm,b7,av,av,aT,cK,ix,bN,bL,CP,bj,b7,av];exact b9
    ·have R:=H n e d (by omega) hd (l-(1+(c:Int))) (by omega) (by omega);rw[show min (c:Int) (l-1)=c by omega] at j;rw[show min ((1+c+e:Nat):Int) l=1+(c:Int)+min (e:Int) (l-(1+(c:Int))) by omega];rw[Li,cy,PL,bp,bb,aH,bc,i,ff,dF,bk,fZ,bK,qd,Ka,gE,dO,bk,a6,PB,bp,bb,aH,bc,bF,hu,ch,be,S9,bK,e1,ce,bm,b7,av,av,aT,cK,ix,bk,a6,YY,bp,bb,aH,bc,bK,of,ch,be,e1,ce,bm,b7,av,av,aT,cK,CP,bj,b7,av];exact b9
theorem aj9(a:o.length=7/\b8 o=true)(H:aK u 169 [.agg o,ao 3001] (ao (min c 3001))):∃s d,ES u [.agg o] 0 .nil= .ok (ao (min c 3001)) 0 s d:=by obtain⟨eR,e⟩:=a;rw[ES,dK];rw[Tv,cy,aH,be,bm,ND,av,aT,Vw,bj,b7,av];exact b9
theorem Lr:(zi:an)=ao 100:=by rw[cX];rfl
theorem awm(n:Int)(k:an->aw):bY (bA n) (bA n) k=k (.a9 true):=by have:=anN (Lib.itoa n) (Lib.itoa n) k;rw[pl rfl] at this;exact this
theorem awv(N:Ez u){r:Rat}(q:fc r.num<=300)(t:fc r.den<=300):∃s d,Dz u [.agg (ef r)] 0 .nil= .ok (.a9 (decide (fc r.num<=100/\fc r.den<=100))) 0 s d:=by
 have R:=N.Hc r.num r.den r.den_nz (by omega) (by omega);rw[Rat.mkRat_self] at R;have d1:=N.ai3 r.num (by omega);have d2:=N.ai3 r.den (by omega);have g:nr (ef r) 1 _ _ _ _ _ _ _ _ _ _ .aE:=⟨rfl,rfl⟩;have eO:=g.eO;have dB:(ef r)[0+1]? =some (bA r.num):=rfl;have cT:(ef r)[0+2]? =some (bA r.den):=rfl;have mw:=g.mw;have l4:=g.l4;have eV:=g.eV;have t3:=g.t3;have es:∀k:an->aw,bY (.s 0 0) (.s 0 0) k=k (.a9 true):=λk=>rfl;have i:∀k:an->aw,mV false (.agg [.s 0 0,.s 0 0]) (.agg [.s 0 0,.s 0 0]) k=k (.a9 true):=λk=>rfl;have p:∀z:Int,bA z≠an.undef:=λz=>by unfold bA;simp
 have a:=p r.num;have e:=λ(n:Int) (k:an->aw)=>awm n k;generalize ef r=o at*;rw[Dz,dK];by_cases j:fc r.num<=100
 ·by_cases l:fc r.den<=100
  ·rw[pl ⟨j,l⟩];rw[YH,cy,bb,YT,aH,e8 eV,t3,hL,i,bp,bb,aH,bc,bK,dj,bN,bL,aDB,bp,bb,aH,bc,bp,bb,aH,bc,aDQ,ce,dP,dP,av,av,aT,e2 _ _ a,e3 _ _ a,fi,bb,aH,bc,es,Y8,fQ,dR,fi,bb,aH,bc,hy,bF,dj,abP,fQ,dR,bN,fi,bb,aH,bc,e,abu,fQ,dR,fi,bb,aH,bc,e,Ri,fQ,dR,fi,bg,dP,av,aT,Lr,qd,adJ,fQ,dR,bN,fi,bg,dP,av,aT,Lr,qd,dR,rx,bj,fO,av];rw[bN];exact b9
  ·rw[GG (λh=>l h.2)];rw[YH,cy,bb,YT,aH,e8 eV,t3,hL,i,bp,bb,aH,bc,bK,dj,bN,bL,aDB,bp,bb,aH,bc,bp,bb,aH,bc,aDQ,ce,dP,dP,av,av,aT,e2 _ _ a,e3 _ _ a,fi,bb,aH,bc,es,Y8,fQ,dR,fi,bb,aH,bc,hy,bF,dj,abP,fQ,dR,bN,fi,bb,aH,bc,e,abu,fQ,dR,fi,bb,aH,bc,e,Ri,fQ,dR,fi,bg,dP,av,aT,Lr,qd,adJ,fQ,dR,bN,fi,bg,dP,av,aT,Lr,qd,dR,rx,bj,fO,av];rw[bk];exact b9
 ·rw[GG (λh=>j h.1)];rw[YH,cy,bb,YT,aH,e8 eV,t3,hL,i,bp,bb,aH,bc,bK,dj,bN,bL,aDB,bp,bb,aH,bc,bp,bb,aH,bc,aDQ,ce,dP,dP,av,av,aT,e2 _ _ a,e3 _ _ a,fi,bb,aH,bc,es,Y8,fQ,dR,fi,bb,aH,bc,hy,bF,dj,abP,fQ,dR,bN,fi,bb,aH,bc,e,abu,fQ,dR,fi,bb,aH,bc,e,Ri,fQ,dR,fi,bg,dP,av,aT,Lr,qd,adJ,fQ,dR,bk,iE,dO,rx,bj,fO,av];exact b9
theorem aoV(g:o.length=7/\b8 o=true){e:Bool}(H:aK u 106 [.agg o] (ao (min c 3001)))(h:aK u 107 [.agg o] (.a9 e)):∃s d,BI u [.agg o] 0 .nil= .ok (.a9 (decide (c<=3000)&&e)) 0 s d:=by
 obtain⟨eR,i⟩:=g;rw[BI,dK];by_cases a:c<=3000
 ·rw[pl a,gy];rw[S3,cy,aH,be,Si,bg,bm,av,aT,aba,qd,fQ,bN,fi,aH,be,bg,bm,av,aT,dR,Pc,bj,fO,av];exact b9
 ·rw[GG a,Bool.false_and];rw[S3,cy,aH,be,Si,bg,bm,av,aT,aba,qd,fQ,bk,iE,dO,Pc,bj,fO,av];exact b9
structure Ub (u:Fn):Prop where
 num:∀r:Rat,fc r.num<=300->fc r.den<=300->aK u 39 [.agg (ef r)] (.a9 (decide (fc r.num<=100/\fc r.den<=100)))
 aj:∀n c o,n<=7000->rK n c o->aK u 39 [.agg o] (.a9 (decide (c<=3000)))
theorem aFN:∀m,bl λu=>∀n c o,n<=m->rK n c o->∀l:Int,1<=l->l<100000->aK u 169 [.agg o,ao l] (ao (min c l)):=by
 intro m;induction m with
 |zero=>exact bl.jr.up λN _ n c o i a l d e=>cI (aM 169 A6 N) (ae3 (m:=n) (λg h o' j=>by omega) a d e)
 |succ m k=>exact k.up λN H n c o i a l d e=>cI (aM 169 A6 N) (ae3 (m:=n) (λg h o' j p=>H g h o' (by omega) p) a d e)
theorem aE5:bl Ub:=by
 have e:bl λu=>∀r:Rat,fc r.num<=300->fc r.den<=300->aK u 107 [.agg (ef r)] (.a9 (decide (fc r.num<=100/\fc r.den<=100))):=MY.up λn N r i j=>cI (aM 107 Dz n) (awv N i j);have p:bl λu=>∀o,EG o->aK u 107 [.agg o] (.a9 true):=(e.and (bl.kQ (C:=λu=>∀o∈to,aK u 107 [.agg o] (.a9 true)) 40 λn o g=>eN (cB (axv n) g))).imp λn h o g=>by
  rcases g with g|⟨r,rfl,i,j⟩
  ·exact h.2 o (gv _ g)
  ·have:=h.1 r (by omega) (by omega);rwa [pl ⟨i,j⟩] at this
 have g:∀m,bl λu=>∀n c o,n<=m->rK n c o->aK u 107 [.agg o] (.a9 true):=by
  intro m;induction m with
  |zero=>
   exact p.imp λN H n c o e h=>by
    cases h with
    |leaf h=>exact H _ h
    |cons k hd=>omega
  |succ m q=>
   exact(p.and (q.up (C:=λu=>∀n c l a d,n<=m->rK n c a->rK n l d->aK u 107 [.agg (jU a d)] (.a9 true)) λN H n c l a d e k hd=>cI (aM 107 Dz N) (awj (k.v yN) (hd.v yN) (H n c a e k) (H n l d e hd)))).imp λN H n c o e h=>by
    cases h with
    |leaf h=>exact H.1 _ h
    |cons k hd=>exact H.2 _ _ _ _ _ (by omega) k hd
 have t:bl λu=>∀n c o,n<=7000->rK n c o->aK u 106 [.agg o] (ao (min c 3001)):=(aFN 7000).up λN H n c o e h=>cI (aM 106 ES N) (aj9 (h.v yN) (H n c o e h 3001 (by omega) (by omega)));have w:bl λu=>∀r:Rat,aK u 106 [.agg (ef r)] (ao (min (1:Nat) 3001)):=bl.jr.up (C:=λu=>∀r:Rat,aK u 169 [.agg (ef r),ao 3001] (ao 1)) (λN _ r=>by refine cI (aM 169 A6 N) ?_;have l4:(ef r)[0+6]? =some .aE:=rfl;have rl:=wc r;have x:=ur r;generalize ef r=o at*;rw[A6,dE];rw[Li,cy,PL,bp,bb,aH,bc,hy,ff,dF,bN,lL,Ka,gE,dR,bL,CP,bj,bK,b7,av];exact b9)|>.up λN H r=>cI (aM 106 ES N) (aj9 ⟨wc r,ur r⟩ (H r))
 refine(((e.and (g 7000)).and (t.and w))).up λN H=>⟨λr i j=>?_,λn c o e h=>?_⟩
 ·exact cI (aM 39 BI N) (aoV (c:=1) ⟨wc r,ur r⟩ (H.2.2 r) (H.1.1 r i j))
 ·have:=aoV (h.v yN) (H.2.1 n c o e h) (H.1.2 n c o e h);rw[Bool.and_true] at this;exact cI (aM 39 BI N) this
end
end
section
variable{a c a' c':Nat} {o x y:aB}
def Lw(x:aB):aB:=match x with
 |[_,_,_,_,_,_,.aQ 7 [a,_]]=>a
 |_=>nt 4 0x6c697370 3 0x6e696c
def Le(x:aB):aB:=match x with
 |[_,_,_,_,_,_,.aQ 7 [_,d]]=>d
 |_=>nt 4 0x6c697370 3 0x6e696c
def xm(x:aB):Bool:=match x with
 |[_,_,_,_,_,_,.aQ 7 [_,_]]=>true
 |_=>false
section
variable[Tok] {u:Fn} {b:Nat}
theorem pA(h:jH a c a' c'=false:=by rfl)(k:an->aw):bY (.s a c) (.s a' c') k=k (.a9 false):=by rw[<-h];rfl
theorem wq(h:jH a c a' c'=true:=by rfl)(k:an->aw):bY (.s a c) (.s a' c') k=k (.a9 true):=by rw[<-h];rfl
theorem Ko(x:Bool):(nb x).length=7/\b8 (nb x)=true:=by cases x<;>exact(Zb (by simp[kY,nb])).v
theorem xd(x:Bool):fU (nb x):=by cases x<;>exact Zb (by simp[kY,nb])
structure Yy (u:Fn):Prop where
 aaa:∀x:Bool,aK u 287 [.a9 x] (.agg (nb x))
 iW:∀o,fU o->aK u 196 [.agg o] (.a9 (xm o))
 int:∀o,fU o->∃e,aK u 288 [.agg o] (.a9 e)
 nil:aK u 66 [] (.agg tu)
 kH:NP u
 ajw:∀x y,fU x->fU y->∃e,aK u 65 [.agg x,.agg y] (.a9 e)
 atg:∀x y,fU x->fU y->aK u 130 [.agg x,.agg y] (.agg (jU x y))
 add:∀x y,fU x->fU y->aK u 177 [.agg x,.agg y] (.agg (ef (fG x+fG y)))
 mul:∀x y,fU x->fU y->aK u 109 [.agg x,.agg y] (.agg (ef (fG x*fG y)))
 Lo:∀x y,fU x->fU y->aK u 112 [.agg x,.agg y] (.a9 (decide (fG x<fG y)))
 neg:∀x,fU x->aK u 56 [.agg x] (.agg (ef (-fG x)))
theorem aEY(h:fU o):∃s d,RS u [.agg o] 0 .nil= .ok (.a9 (xm o)) 0 s d:=by
 obtain⟨k,l,c1,n,p,q,r,a4,t,w,z,L,A,B,g,-,i⟩:=h.Cm;have eO:=g.eO;have l4:=g.l4;have C:=g.aa;rw[RS,dK];rcases i with⟨rfl,a,d,rfl,D,hd,rfl⟩|⟨E,rfl⟩
 ·have j:∀k:an->aw,bq false (.aQ 7 [a,d]) k=k (ao 2):=λk=>eA _ _ k;have e:xm (jU a d)=true:=rfl;rw[e];generalize jU a d=o at*;rw[akQ,cy,bb,al9,aH,bc,p7,dj,fQ,bN,fi,bp,bb,aH,bc,j,ff,dj,dR,ast,bj,fO,av];rw[bN];exact b9
 ·have e:xm o=false:=by rw[g.eq];rfl
  rw[e];rw[akQ,cy,bb,al9,aH,bc,p7,dj,fQ,bk,iE,dO,ast,bj,fO,av];exact b9
theorem auA(h:fU o):∃e,∃s d,I0 u [.agg o] 0 .nil= .ok (.a9 e) 0 s d:=by
 obtain⟨k,n,c1,g,i,p,q,a4,r,t,w,L,z,A,j,-,B⟩:=h.Cm;have eO:=j.eO;have cT:=j.cT;have l:∀k:an->aw,bY (.s g i) (.s 1 0x31) k=k (.a9 (jH g i 1 0x31)):=λk=>rfl;rw[I0,dK];by_cases C:k=1
 ·refine⟨jH g i 1 0x31,?_⟩;rw[Xf,cy,Y2,bp,bb,aH,bc,bK,dj,fQ,bN,fi,bp,bb,aH,bc,l,dR,Un,bj,fO,av];exact b9
 ·refine⟨false,?_⟩;rw[Xf,cy,Y2,bp,bb,aH,bc,bK,dj,fQ,bk,iE,dO,Un,bj,fO,av];exact b9
theorem aFV(h:fU o):∃e,((e=true/\o=tu)\/(e=false/\o≠tu))/\∃s d,Aq u [.agg o] 0 .nil= .ok (.a9 e) 0 s d:=by
 have I:∀x:aB,(∃g c1 i j,x=nt g c1 i j)->x∈kY->∃e,((e=true/\x=tu)\/(e=false/\x≠tu))/\∃s d,Aq u [.agg x] 0 .nil= .ok (.a9 e) 0 s d:=by
  rintro x ⟨g,c1,i,j,rfl⟩ B;have eO:(nt g c1 i j)[0+0]? =some (ao 2):=rfl;have n2:(nt g c1 i j)[0+3+0]? =some (.s g c1):=rfl;have acr:(nt g c1 i j)[0+3+1]? =some (.s i j):=rfl;have w:∀k:an->aw,bY (.s g c1) (.s 4 0x6c697370) k=k (.a9 (jH g c1 4 0x6c697370)):=λk=>rfl;have z:∀k:an->aw,bY (.s i j) (.s 3 0x6e696c) k=k (.a9 (jH i j 3 0x6e696c)):=λk=>rfl;have J:(nt g c1 i j=tu/\jH g c1 4 0x6c697370=true/\jH i j 3 0x6e696c=true)\/(nt g c1 i j≠tu/\(jH g c1 4 0x6c697370=false\/(jH g c1 4 0x6c697370=true/\jH i j 3 0x6e696c=false))):=by
   have C:∀{p q r s D E F G:Nat},nt p q r s=nt D E F G->p=D/\q=E/\r=F/\s=G:=λh=>by unfold nt at h;simp at h;exact⟨h.1.1,h.1.2,h.2.1,h.2.2⟩
   have K:∀{a:Nat} {c:Nat},nt g c1 i j≠uV a c:=λh=>by unfold nt uV at h;exact zC (c:=2) (d:=3) (by omega) (by omega) (by omega) h
   simp only[kY,pG,CY,wN] at B;rcases B with h|h|h|h|h|h|h|h<;>first|exact absurd h K|skip
   all_goals obtain⟨rfl,rfl,rfl,rfl⟩:=C h
   ·exact .inl ⟨rfl,rfl,rfl⟩
   all_goals refine .inr ⟨λh=>?_,?_⟩
   all_goals first|(have:=C h;omega)|skip
   ·exact .inr ⟨rfl,rfl⟩
   ·exact .inl rfl
   ·exact .inl rfl
   ·exact .inl rfl
  generalize nt g c1 i j=o at*;rw[Aq,dK];rcases J with⟨n,l,A⟩|⟨n,l|⟨l,A⟩⟩
  ·refine⟨true,.inl ⟨rfl,n⟩,?_⟩;rw[HW,cy,IB,bp,bb,aH,bc,ff,dj,bN,fi,bb,bb,aH,bc,w,l,DJ,fQ,dR,fi,bb,bp,bb,aH,bc,z,A,dR,Dv,bj,fO,av];exact b9
  ·refine⟨false,.inr ⟨rfl,n⟩,?_⟩;rw[HW,cy,IB,bp,bb,aH,bc,ff,dj,bN,fi,bb,bb,aH,bc,w,l,DJ,fQ,dR,iE,dO,Dv,bj,fO,av];exact b9
  ·refine⟨false,.inr ⟨rfl,n⟩,?_⟩;rw[HW,cy,IB,bp,bb,aH,bc,ff,dj,bN,fi,bb,bb,aH,bc,w,l,DJ,fQ,dR,fi,bb,bp,bb,aH,bc,z,A,dR,Dv,bj,fO,av];exact b9
 rcases h.cases with H|l
 ·rcases WB H with n|⟨a,c,rfl⟩
  ·exact I o n H
  ·have eO:(uV a c)[0+0]? =some (ao 3):=rfl;have t:uV a c≠tu:=λe=>by unfold uV tu nt at e;exact zC (c:=3) (d:=2) (by omega) (by omega) (by omega) e
   generalize uV a c=o at*;refine⟨false,.inr ⟨rfl,t⟩,?_⟩;rw[Aq,dK];rw[HW,cy,IB,bp,bb,aH,bc,ff,dj,bk,iE,DJ,fQ,dO,iE,dO,Dv,bj,fO,av];exact b9
 ·have t:∃k,1<=k/\k≠2/\o[0+0]? =some (ao k)/\o≠tu:=by
   rcases l with⟨r,rfl,_⟩|⟨a,d,rfl,_⟩
   ·exact⟨1,by omega,by omega,rfl,λe=>by unfold ef b5 tu nt at e;exact zC (c:=1) (d:=2) (by omega) (by omega) (by omega) e⟩
   ·exact⟨4,by omega,by omega,rfl,λe=>by unfold jU tu nt at e;exact zC (c:=4) (d:=2) (by omega) (by omega) (by omega) e⟩
  obtain⟨k,w,z,eO,t⟩:=t;refine⟨false,.inr ⟨rfl,t⟩,?_⟩;rw[Aq,dK];rw[HW,cy,IB,bp,bb,aH,bc,ff,dj,bk,iE,DJ,fQ,dO,iE,dO,Dv,bj,fO,av];exact b9
structure u4 (c:Nat) (xs:aY) (o:aB):Prop where
 add:c=0x62696e6172792d2b->o=ef (fG (xs.getD 0 [])+fG (xs.getD 1 []))
 mul:c=0x62696e6172792d2a->o=ef (fG (xs.getD 0 [])*fG (xs.getD 1 []))
 Lo:c=0x3c->o=nb (decide (fG (xs.getD 0 [])<fG (xs.getD 1 [])))
 agq:c=0x636f6e7370->o=nb (xm (xs.getD 0 []))
 PE:c=0x636172->o=Lw (xs.getD 0 [])
 ako:c=0x636472->o=Le (xs.getD 0 [])
def wn(o:aB):Prop:=(∃n c,n<=7000/\rK n c o)\/∃r:Rat,o=ef r/\fc r.num<=300/\fc r.den<=300
theorem fU.x9(h:fU o):wn o:=by obtain⟨c,_,h⟩:=h;exact .inl ⟨3000,c,by omega,h⟩
theorem wn.v{o:aB}(h:wn o):o.length=7/\b8 o=true:=by
 rcases h with⟨n,c,_,h⟩|⟨r,rfl,_⟩
 ·exact h.v yN
 ·exact⟨wc r,ur r⟩
theorem fU.PE(h:fU o):fU (Lw o)/\fU (Le o):=by
 obtain⟨k,i,c1,j,l,n,p,a4,q,r,t,L,w,z,e,-,⟨rfl,a,d,rfl,g,hd,rfl⟩|⟨A,rfl⟩⟩:=h.Cm
 ·exact⟨g,hd⟩
 ·rw[e.eq];exact⟨xd false,xd false⟩
theorem apB(p:Int){q:Nat}(d:q≠0):fc (mkRat p q).num<=fc p/\fc (mkRat p q).den<=fc q:=by
 rw[(TY p d).1,(TY p d).2];have e:∀(neg:Bool) (m:Nat),(a8 neg m).natAbs=m:=λneg m=>by cases neg<;>simp[Go.Hf.a8]
 unfold fc;rw[e];exact⟨xt (Nat.div_le_self _ _),xt (Nat.div_le_self _ _)⟩
theorem afk(k:fU x)(l:fU y):wn (ef (fG x+fG y))/\wn (ef (fG x*fG y)):=by
 obtain⟨g,d⟩:=z3 k;obtain⟨h,e⟩:=z3 l;have i:=(fG x).den_nz;have j:=(fG y).den_nz;refine⟨.inr ⟨_,rfl,?_⟩,.inr ⟨_,rfl,?_⟩⟩
 ·rw[Rat.add_def'];generalize fG x=r at*;generalize fG y=s at*;have n:=apB (r.num*s.den+s.num*r.den) (Nat.mul_ne_zero i j);have aS:=apF (wH g e) (wH h d);have gg:=wH d e;rw[<-oj] at gg;omega
 ·rw[Rat.mul_def'];generalize fG x=r at*;generalize fG y=s at*;have n:=apB (r.num*s.num) (Nat.mul_ne_zero i j);have aS:=wH g h;have gg:=wH d e;rw[<-oj] at gg;omega
theorem ay4(d:fU x):wn (ef (-fG x)):=by
 obtain⟨g,h⟩:=z3 d;refine .inr ⟨_,rfl,?_,by show fc (fG x).den<=300;omega⟩;have e:fc (-(fG x).num)=fc (fG x).num:=by unfold fc;rw[Int.natAbs_neg]
 rw[Rat.neg_num,e];omega
theorem arK(P:Yy u)(g:fU x)(i:fU y)(h:(a,c)∈[(5,0x657175616c),(4,0x636f6e73),(8,0x62696e6172792d2b),(8,0x62696e6172792d2a),(1,0x3c)]):∃o,wn o/\u4 c [x,y] o/\∃s d,zh u [.s a c,.agg x,.agg y] 0 .nil= .ok (.agg o) 0 s d:=by
 obtain⟨r,t⟩:=g.v;obtain⟨w,z⟩:=i.v;simp only[pG,CY,wN,pV] at h;rcases h with⟨rfl,rfl⟩|⟨rfl,rfl⟩|⟨rfl,rfl⟩|⟨rfl,rfl⟩|⟨rfl,rfl⟩
 ·obtain⟨e,k⟩:=P.ajw x y g i;have n:=P.aaa e;obtain⟨tl,l⟩:=Ko e;refine⟨nb e,(xd e).x9,by constructor<;>(intro h;simp at h),?_⟩;rw[zh,vE];rw[Ge,cy,cy,de,wq,bL,ahD,aH,be,aH,be,ce,bm,bm,av,av,aT,bg,fO,av,aT,dc,wi,gh,be,bj,bm,av];exact b9
 ·have k:=P.atg x y g i;obtain⟨A,B,p⟩:=g;obtain⟨C,D,q⟩:=i;have j:wn (jU x y):= .inl ⟨3001,_,by omega,.cons p q⟩;obtain⟨tl,l⟩:=j.v;refine⟨jU x y,j,by constructor<;>(intro h;simp at h),?_⟩;rw[zh,vE];rw[Ge,cy,cy,de,pA,a6,Oy,wq,bL,aoE,aH,be,aH,be,ce,bm,bm,av,av,aT,dc,wi,gh,be,bj,bm,av];exact b9
 ·have k:=P.add x y g i;have j:=(afk g i).1;obtain⟨tl,l⟩:=j.v;refine⟨_,j,by constructor<;>first|(intro _;rfl)|(intro h;simp at h),?_⟩;rw[zh,vE];rw[Ge,cy,cy,de,pA,a6,Oy,pA,a6,UO,wq,bL,ap2,aH,be,aH,be,ce,bm,bm,av,av,aT,dc,wi,gh,be,bj,bm,av];exact b9
 ·have k:=P.mul x y g i;have j:=(afk g i).2;obtain⟨tl,l⟩:=j.v;refine⟨_,j,by constructor<;>first|(intro _;rfl)|(intro h;simp at h),?_⟩;rw[zh,vE];rw[Ge,cy,cy,de,pA,a6,Oy,pA,a6,UO,pA,a6,Yo,wq,bL,aj7,aH,be,aH,be,ce,bm,bm,av,av,aT,dc,wi,gh,be,bj,bm,av];exact b9
 ·have k:=P.Lo x y g i;have n:=P.aaa (decide (fG x<fG y));obtain⟨tl,l⟩:=Ko (decide (fG x<fG y));refine⟨_,(xd _).x9,by constructor<;>first|(intro _;rfl)|(intro h;simp at h),?_⟩;rw[zh,vE];rw[Ge,cy,cy,de,pA,a6,Oy,pA,a6,UO,pA,a6,Yo,pA,a6,abe,wq,bL,ade,aH,be,aH,be,ce,bm,bm,av,av,aT,bg,fO,av,aT,dc,wi,gh,be,bj,bm,av];exact b9
theorem aFa(P:Yy u)(j:fU x)(h:(a,c)∈[(3,0x636172),(3,0x636472),(5,0x636f6e7370),(7,0x73796d626f6c70),(9,0x726174696f6e616c70),(8,0x696e746567657270),(7,0x756e6172792d2d)]):∃o,wn o/\u4 c [x] o/\∃s d,xU u [.s a c,.agg x] 0 .nil= .ok (.agg o) 0 s d:=by
 obtain⟨G,H⟩:=j.v;have I:=P.kH x j;have J:=wc (fG x);have K:=ur (fG x);obtain⟨k,M,c1,N,O,Q,R,a4,S,T,W,L,X,Z,g,-,z⟩:=j.Cm;have eO:=g.eO;have l4:=g.l4;have n:=P.iW x j;have ar:=P.nil;obtain⟨bd,bs⟩:tu.length=7/\b8 tu=true:=(xd false).v;have r:=P.aaa;simp only[pG,CY,wN,pV] at h;rcases h with⟨rfl,rfl⟩|⟨rfl,rfl⟩|⟨rfl,rfl⟩|⟨rfl,rfl⟩|⟨rfl,rfl⟩|⟨rfl,rfl⟩|⟨rfl,rfl⟩
 ·refine⟨Lw x,j.PE.1.x9,by constructor<;>first|(intro _;rfl)|(intro h;simp at h),?_⟩;rw[xU,dE];rcases z with⟨rfl,p,q,rfl,A,B,rfl⟩|⟨C,rfl⟩
  ·have bx:([p,q]:aY)[0]? =some p:=rfl;obtain⟨D,E⟩:=A.v;have i:xm (jU p q)=true:=rfl;have l:Lw (jU p q)=p:=rfl;rw[i] at n;rw[l];generalize jU p q=o at*;rw[zq,cy,de,aH,be,bg,bm,av,aT,de,dc,zM,wq,bL,bL,KQ,aH,be,bg,bm,av,aT,hj,tF,a6,ZG,wq,bL,acu,bp,bb,aH,bc,bF,hu,ch,be,dc,rc,gh,be,bj,bm,av];exact b9
  ·have i:xm x=false:=by rw[g.eq];rfl
   have l:Lw x=tu:=by rw[g.eq];rfl
   rw[i] at n;rw[l];rw[zq,cy,de,aH,be,bg,bm,av,aT,de,dc,zM,wq,bL,bL,KQ,aH,be,bg,bm,av,aT,hj,uD,bL,aT,dc,rc,gh,be,bj,bm,av];exact b9
 ·refine⟨Le x,j.PE.2.x9,by constructor<;>first|(intro _;rfl)|(intro h;simp at h),?_⟩;rw[xU,dE];rcases z with⟨rfl,p,q,rfl,A,B,rfl⟩|⟨C,rfl⟩
  ·have cc:([p,q]:aY)[1]? =some q:=rfl;obtain⟨D,E⟩:=B.v;have i:xm (jU p q)=true:=rfl;have l:Le (jU p q)=q:=rfl;rw[i] at n;rw[l];generalize jU p q=o at*;rw[zq,cy,de,aH,be,bg,bm,av,aT,de,dc,zM,pA,a6,wq,bL,KQ,aH,be,bg,bm,av,aT,hj,tF,a6,ZG,pA,a6,aiH,bp,bb,aH,bc,bK,of,ch,be,dc,rc,gh,be,bj,bm,av];exact b9
  ·have i:xm x=false:=by rw[g.eq];rfl
   have l:Le x=tu:=by rw[g.eq];rfl
   rw[i] at n;rw[l];rw[zq,cy,de,aH,be,bg,bm,av,aT,de,dc,zM,pA,a6,wq,bL,KQ,aH,be,bg,bm,av,aT,hj,uD,bL,aT,dc,rc,gh,be,bj,bm,av];exact b9
 ·have i:decide (k=4)=xm x:=by
   rcases z with⟨rfl,p,q,rfl,A,B,rfl⟩|⟨C,rfl⟩
   ·rfl
   ·rw[GG C,g.eq];rfl
  have t:=r (xm x);rw[<-i] at t;obtain⟨tl,w⟩:=Ko (decide (k=4));refine⟨nb (decide (k=4)),(xd _).x9,by constructor<;>first|(intro _;rw[i];rfl)|(intro h;simp at h),?_⟩;rw[xU,dE];rw[zq,cy,de,aH,be,bg,bm,av,aT,de,dc,zM,pA,a6,pA,a6,Ed,wq,bL,acS,bp,bb,aH,bc,p7,dj,bg,fO,av,aT,dc,rc,gh,be,bj,bm,av];exact b9
 ·have t:=r (decide (k=2));obtain⟨tl,w⟩:=Ko (decide (k=2));refine⟨nb (decide (k=2)),(xd _).x9,by constructor<;>(intro h;simp at h),?_⟩;rw[xU,dE];rw[zq,cy,de,aH,be,bg,bm,av,aT,de,dc,zM,pA,a6,pA,a6,Ed,pA,a6,Nf,wq,bL,aiq,bp,bb,aH,bc,ff,dj,bg,fO,av,aT,dc,rc,gh,be,bj,bm,av];exact b9
 ·have t:=r (decide (k=1));obtain⟨tl,w⟩:=Ko (decide (k=1));refine⟨nb (decide (k=1)),(xd _).x9,by constructor<;>(intro h;simp at h),?_⟩;rw[xU,dE];rw[zq,cy,de,aH,be,bg,bm,av,aT,de,dc,zM,pA,a6,pA,a6,Ed,pA,a6,Nf,pA,a6,T9,pA,a6,T3,wq,bL,aia,bp,bb,aH,bc,bK,dj,bg,fO,av,aT,dc,rc,gh,be,bj,bm,av];exact b9
 ·obtain⟨e,F⟩:=P.int x j;have t:=r e;obtain⟨tl,w⟩:=Ko e;refine⟨nb e,(xd _).x9,by constructor<;>(intro h;simp at h),?_⟩;rw[xU,dE];rw[zq,cy,de,aH,be,bg,bm,av,aT,de,dc,zM,pA,a6,pA,a6,Ed,pA,a6,Nf,pA,a6,T9,pA,a6,T3,pA,a6,aay,wq,bL,ahS,aH,be,bg,bm,av,aT,bg,fO,av,aT,dc,rc,gh,be,bj,bm,av];exact b9
 ·have F:=P.neg x j;have g:=ay4 j;obtain⟨tl,w⟩:=g.v;refine⟨_,g,by constructor<;>(intro h;simp at h),?_⟩;rw[xU,dE];rw[zq,cy,de,aH,be,bg,bm,av,aT,de,dc,zM,pA,a6,pA,a6,Ed,pA,a6,Nf,pA,a6,T9,pA,a6,T3,pA,a6,aay,pA,a6,aiO,wq,bL,aju,aH,be,bg,bm,av,aT,dc,rc,gh,be,bj,bm,av];exact b9
def JR:List (Nat×Nat):=[(3,0x636172),(3,0x636472),(5,0x636f6e7370),(7,0x73796d626f6c70),(9,0x726174696f6e616c70),(8,0x696e746567657270),(7,0x756e6172792d2d)]
def J6:List (Nat×Nat):=[(5,0x657175616c),(4,0x636f6e73),(8,0x62696e6172792d2b),(8,0x62696e6172792d2a),(1,0x3c)]
def af5(u:Fn)(a c:Nat)(xs:aY):Prop:=∃o k,aK u 191 [.agg [bP,.s a c],.aQ 7 xs] (.a0 [.agg o,ao k])/\(o.length=7/\b8 o=true)/\((k=0/\fU o/\u4 c xs o)\/k=2)
theorem wn.MV(h:wn o)(d:Ub u):∃e,aK u 39 [.agg o] (.a9 e)/\(e=true->fU o):=by
 rcases h with⟨n,c,g,h⟩|⟨r,rfl,i,j⟩
 ·exact⟨_,d.aj n c o g h,λe=>yB h (gd e)⟩
 ·exact⟨_,d.num r i j,λe=>aEF (gd e).1 (gd e).2⟩
theorem uu:dx.length=7/\b8 dx=true:=by exact⟨rfl,rfl⟩
theorem auB(i:Ub u)(j:fU x)(q:aK u 145 [.agg [bP,.s a c]] (.a0 [ao 1,.a9 true]))(g:wn o)(l:u4 c [x] o)(H:aK u 245 [.s a c,.agg x] (.agg o)):∃o k,(o.length=7/\b8 o=true)/\((k=0/\fU o/\u4 c [x] o)\/k=2)/\∃s d,yX u [.agg [bP,.s a c],.aQ 7 [x]] 0 .nil= .ok (.a0 [.agg o,ao k]) 0 s d:=by
 obtain⟨e,r,n⟩:=g.MV i;obtain⟨t,w⟩:=j.v;obtain⟨A,B⟩:=g.v;obtain⟨C,D⟩:=uu;have E:([x]:aY)[0]? =some x:=rfl;have h:∀k:an->aw,bq false (.aQ 7 [x]) k=k (ao 1):=λk=>eA _ _ k;have dB:([bP,.s a c]:aB)[0+1]? =some (.s a c):=rfl;have p:∀z:Int,(ao z:an)≠ .undef:=λz=>by rw[cX];simp
 have F:=p 1;have sl:([bP,.s a c]:aB).length=2:=rfl;have G:b8 ([bP,.s a c]:aB)=true:=rfl;have ms:∀(a c:Nat) (xs:aB) (z:aw),met 0 [] (.s a c::xs) z=met 0 [] xs z:=λa c xs z=>aV (by rfl) xs z;generalize ([bP,.s a c]:aB)=y at*;cases e
 ·refine⟨dx,2,uu,.inr rfl,?_⟩;rw[yX,dE];rw[Mc,cy,de,aH,be,KS,bg,bm,av,aT,e2 _ _,e3 _ _,hj,tF,a6,Nw,h,dF,bk,a6,PQ,de,bK,dj,bN,bL,Y1,bb,aJ,cH,aN,aH,bc,Wy,aV,aN,bF,hu,aJ,aV,aN,ch,be,ms,aV,aN,DQ,bm,av,av,aT,cH,aN,pf,IS,aH,be,bg,bm,av,aT,hj,uD,bL,hL,dc,Df,gh,be,bm,ff,b7,av,av];exact b9
 ·refine⟨o,0,g.v,.inl ⟨rfl,n rfl,l⟩,?_⟩;rw[yX,dE];rw[Mc,cy,de,aH,be,KS,bg,bm,av,aT,e2 _ _,e3 _ _,hj,tF,a6,Nw,h,dF,bk,a6,PQ,de,bK,dj,bN,bL,Y1,bb,aJ,cH,aN,aH,bc,Wy,aV,aN,bF,hu,aJ,aV,aN,ch,be,ms,aV,aN,DQ,bm,av,av,aT,cH,aN,pf,IS,aH,be,bg,bm,av,aT,hj,tF,a6,aH,be,dc,Df,gh,be,bm,bF,b7,av,av];exact b9
theorem ava(i:Ub u)(j:fU x)(l:fU y)(t:aK u 145 [.agg [bP,.s a c]] (.a0 [ao 2,.a9 true]))(g:wn o)(n:u4 c [x,y] o)(H:aK u 246 [.s a c,.agg x,.agg y] (.agg o)):∃o k,(o.length=7/\b8 o=true)/\((k=0/\fU o/\u4 c [x,y] o)\/k=2)/\∃s d,yX u [.agg [bP,.s a c],.aQ 7 [x,y]] 0 .nil= .ok (.a0 [.agg o,ao k]) 0 s d:=by
 obtain⟨e,w,p⟩:=g.MV i;obtain⟨A,B⟩:=j.v;obtain⟨C,D⟩:=l.v;obtain⟨E,F⟩:=g.v;obtain⟨G,I⟩:=uu;have J:([x,y]:aY)[0]? =some x:=rfl;have K:([x,y]:aY)[1]? =some y:=rfl;have h:∀k:an->aw,bq false (.aQ 7 [x,y]) k=k (ao 2):=λk=>eA _ _ k;have dB:([bP,.s a c]:aB)[0+1]? =some (.s a c):=rfl;have r:∀z:Int,(ao z:an)≠ .undef:=λz=>by rw[cX];simp
 have L:=r 2;have sl:([bP,.s a c]:aB).length=2:=rfl;have M:b8 ([bP,.s a c]:aB)=true:=rfl;have ms:∀(a c:Nat) (xs:aB) (z:aw),met 0 [] (.s a c::xs) z=met 0 [] xs z:=λa c xs z=>aV (by rfl) xs z;generalize ([bP,.s a c]:aB)=q at*;cases e
 ·refine⟨dx,2,uu,.inr rfl,?_⟩;rw[yX,dE];rw[Mc,cy,de,aH,be,KS,bg,bm,av,aT,e2 _ _,e3 _ _,hj,tF,a6,Nw,h,dF,bk,a6,PQ,de,bK,dj,bk,a6,XT,ff,dj,bN,bL,aav,bb,aJ,cH,aN,aH,bc,aV,aN,bF,hu,aJ,aV,aN,ch,be,V2,aV,aN,bK,of,aJ,aV,aN,ch,be,ms,aV,aV,aN,DQ,bm,bm,av,av,av,aT,cH,aN,pf,IS,aH,be,bg,bm,av,aT,hj,uD,bL,hL,dc,Df,gh,be,bm,ff,b7,av,av];exact b9
 ·refine⟨o,0,g.v,.inl ⟨rfl,p rfl,n⟩,?_⟩;rw[yX,dE];rw[Mc,cy,de,aH,be,KS,bg,bm,av,aT,e2 _ _,e3 _ _,hj,tF,a6,Nw,h,dF,bk,a6,PQ,de,bK,dj,bk,a6,XT,ff,dj,bN,bL,aav,bb,aJ,cH,aN,aH,bc,aV,aN,bF,hu,aJ,aV,aN,ch,be,V2,aV,aN,bK,of,aJ,aV,aN,ch,be,ms,aV,aV,aN,DQ,bm,bm,av,av,av,aT,cH,aN,pf,IS,aH,be,bg,bm,av,aT,hj,tF,a6,aH,be,dc,Df,gh,be,bm,bF,b7,av,av];exact b9
end
end
section
variable[Tok]
theorem aeP(n:Nat):dy (bB bD (n+20) 287 [.a9 true] 0 .nil) (.agg (nb true))=true/\dy (bB bD (n+20) 287 [.a9 false] 0 .nil) (.agg (nb false))=true:=by exact⟨by kernel_rfl,by kernel_rfl⟩
theorem aB8(n a c b d:Nat):hF (bB bD (n+9) 225 [.agg [aS,.s a c,.s b d,.s 0 0,.s 0 0,.s 0 0,.aE]] 0 .nil)= .ok aS 0 .nil []:=by kernel_rfl
theorem alu(n:Nat):(JR.all λx=>dy (bB bD (n+30) 145 [.agg [bP,.s x.1 x.2]] 0 .nil) (.a0 [ao 1,.a9 true]))=true/\(J6.all λx=>dy (bB bD (n+30) 145 [.agg [bP,.s x.1 x.2]] 0 .nil) (.a0 [ao 2,.a9 true]))=true:=by exact⟨by kernel_rfl,by kernel_rfl⟩
theorem aDm:bl QB:=MY.up λn N p q a b c=>cI (aM 114 CF n) (aAc (N.Hc p q a b c))
theorem axt(n:Nat):dy (bB bD (n+20) 60 [ao 0] 0 .nil) (.agg (ef 0))=true:=by kernel_rfl
theorem ZQ:bl NP:=(bl.kQ (C:=λu=>aK u 60 [ao 0] (.agg (ef 0))) 20 λn=>eN (axt n)).up λn h o a=>cI (aM 113 C5 n) (aEG a h)
theorem VQ:bl Yy:=by
 have l:bl λu=>∀r:Rat,aK u 225 [.agg (ef r)] (ao 1):=bl.kQ 9 λn r=>by unfold ef b5 bA;rw[<-bK];exact hE (aB8 n _ _ _ _)
 have p:bl λu=>∀r s:Rat,fc r.num<=100/\fc r.den<=100->fc s.num<=100/\fc s.den<=100->aK u 178 [.agg (ef r),.agg (ef s)] (ao (e4 (r.num*s.den) (s.num*r.den))):=(MY.and l).up λn h r s i j=>cI (aM 178 H3 n) (aFg h.1 h.2 i j);have q:bl λu=>∀x y,fU x->fU y->aK u 112 [.agg x,.agg y] (.a9 (decide (fG x<fG y))):=(MY.and (ZQ.and p)).up λn h x y a g=>cI (aM 112 Im n) (aGa h.1 a g h.2.1 h.2.2);have t:bl λu=>(∀x y,fU x->fU y->aK u 177 [.agg x,.agg y] (.agg (ef (fG x+fG y))))/\(∀x y,fU x->fU y->aK u 109 [.agg x,.agg y] (.agg (ef (fG x*fG y))))/\∀x,fU x->aK u 56 [.agg x] (.agg (ef (-fG x))):=(MY.and (aDm.and ZQ)).up λn h=>⟨λx y a g=>cI (aM 177 Bv n) (azO h.1 h.2.1 h.2.2 a g),λx y a g=>cI (aM 109 Di n) (aES h.1 h.2.1 h.2.2 a g),λx a=>cI (aM 56 G3 n) (aEQ h.1 h.2.1 h.2.2 a)⟩;have w:bl λu=>(∀o,fU o->aK u 196 [.agg o] (.a9 (xm o)))/\(∀o,fU o->∃e,aK u 288 [.agg o] (.a9 e))/\∀x y,fU x->fU y->aK u 130 [.agg x,.agg y] (.agg (jU x y)):=bl.jr.up λn _=>⟨λo h=>cI (aM 196 RS n) (aEY h),λo h=>by obtain⟨e,k⟩:=auA (u:=bB bD n) h;exact⟨e,cI (aM 288 I0 n) k⟩,λx y a g=>cI (aM 130 zD n) (an0 a.v.1 a.v.2 g.v.1 g.v.2)⟩
 have a4:bl λu=>(∀x:Bool,aK u 287 [.a9 x] (.agg (nb x)))/\aK u 66 [] (.agg tu):=bl.kQ 20 λn=>⟨λx=>by cases x;exact eN (aeP n).2;exact eN (aeP n).1,hE (anY (n+11))⟩;refine(((ac7 3000).and (ZQ.and q)).and (t.and (w.and a4))).imp λn h=>?_;obtain⟨⟨k,z,i⟩,⟨j,A,B⟩,⟨C,D,E⟩,F,G⟩:=h;exact⟨F,C,D,G,z,λx y a g=>by obtain⟨c,_,a⟩:=a;obtain⟨d,_,g⟩:=g;obtain⟨e,h,_⟩:=k _ _ _ _ x y (sm _) a.NM g.NM;exact⟨e,h⟩,E,j,A,i,B⟩
structure O1 (u:Fn):Prop where
 bM:∀a c x,(a,c)∈JR->fU x->af5 u a c [x]
 cv:∀a c x y,(a,c)∈J6->fU x->fU y->af5 u a c [x,y]
 nil:∀o,fU o->∃e,((e=true/\o=tu)\/(e=false/\o≠tu))/\aK u 190 [.agg o] (.a9 e)
theorem aqU:bl O1:=by
 have w:bl λu=>(∀a c x,(a,c)∈JR->fU x->∃o,wn o/\u4 c [x] o/\aK u 245 [.s a c,.agg x] (.agg o))/\∀a c x y,(a,c)∈J6->fU x->fU y->∃o,wn o/\u4 c [x,y] o/\aK u 246 [.s a c,.agg x,.agg y] (.agg o):=VQ.up λn P=>⟨λa c x h d=>by
  obtain⟨o,eR,g,i⟩:=aFa P d h;exact⟨o,eR,g,cI (aM 245 xU n) i⟩,λa c x y h d j=>by
  obtain⟨o,eR,g,i⟩:=arK P d j h;exact⟨o,eR,g,cI (aM 246 zh n) i⟩⟩
 have z:bl λu=>(∀x∈JR,aK u 145 [.agg [bP,.s x.1 x.2]] (.a0 [ao 1,.a9 true]))/\∀x∈J6,aK u 145 [.agg [bP,.s x.1 x.2]] (.a0 [ao 2,.a9 true]):=bl.kQ 30 λn=>⟨λx d=>eN (cB (alu n).1 d),λx d=>eN (cB (alu n).2 d)⟩;refine((aE5.and w).and z).up λn h=>?_;obtain⟨⟨t,A,B⟩,C,D⟩:=h;refine⟨λa c x h d=>?_,λa c x y h d j=>?_,λo E=>?_⟩
 ·obtain⟨o,eR,g,i⟩:=A a c x h d;obtain⟨p,k,l,q,r⟩:=auB t d (C _ h) eR g i;exact⟨p,k,cI (aM 191 yX n) r,l,q⟩
 ·obtain⟨o,eR,g,i⟩:=B a c x y h d j;obtain⟨p,k,l,q,r⟩:=ava t d j (D _ h) eR g i;exact⟨p,k,cI (aM 191 yX n) r,l,q⟩
 ·obtain⟨e,F,G⟩:=aFV (u:=bB bD n) E;exact⟨e,F,cI (aM 190 Aq n) G⟩
end
end Go.Hf

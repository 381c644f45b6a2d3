import Derived.Test.YteehpeajjbkjnaaGreatDoorAs
set_option maxRecDepth 100000
set_option linter.all false
namespace Go.Hf
open Go.RowKit
section
variable{l:bg}{t:az}{L0 D:Nat}
section
variable[Tok] {u:Fn}{b:Nat}
section
variable{Q:az->Prop}{aC:cD}{s3 s4 s5 sm L:Nat}{h:aO}
theorem m6.pC{ob:dE}{n:Nat}(H:m6 Q ob s3 s4 s5 sm n L)(a c:Nat):∃e,∀k:ao->ay,dj (u0 ob 1 false (.bool false) (.fX 8 sm) (.s a c)) k=k (.U e):=by
 obtain⟨m,g,i⟩:=H.kw;have j:(Nat.beq sm sm&&mf 1 (.string (fd a c))&&m.all (λe=>k6 (.string (fd a c)) e.1))=true:=by rw[fI,i.same];rfl
 rcases i.get (.string (fd a c)) with e|⟨y,e⟩;refine⟨false,λk=>?_⟩;have d:u0 ob 1 false (.bool false) (.fX 8 sm) (.s a c)=some (.U false):=by simp only[u0,qo,g,j,e6,DM,e];rfl
 rw[d];rfl;refine⟨y,λk=>?_⟩;have d:u0 ob 1 false (.bool false) (.fX 8 sm) (.s a c)=some (.U y):=by simp only[u0,qo,g,j,e6,DM,e];rfl
 rw[d];rfl
theorem jd.put(H:jd Q b aC s3 s4 s5 sm L h)(a c:Nat):∃h',jd Q b aC s3 s4 s5 sm L h'/\(∀k,k≠8->h'.am k=h.am k)/\∀k:dv,lJ b none (yD h.am 1 (.fX 8 sm) (.s a c) dx) h k=k .undef h':=by
 obtain⟨⟨⟨c8,cX⟩,⟨q,r⟩,g,w,y,z,A⟩,B⟩:=H;obtain⟨m,C,n⟩:=g.kw;have E:(Nat.beq sm sm&&mf 1 (.string (fd a c))&&m.all (λe=>k6 (.string (fd a c)) e.1)&&iS (.bool true))=true:=by rw[fI,n.same];rfl
 have F:yD h.am 1 (.fX 8 sm) (.s a c) dx=some (.undef,[(8,.map sm (mg m (.string (fd a c)) (.bool true)))]):=by simp only[yD,qo,C,E,e6,dx]
 have py:8<h.ax:=by omega
 have ho:∀k,k≠8->(h.g1 b 8 (.ae (.map sm (mg m (.string (fd a c)) (.bool true))))).am k=h.am k:=λk d=>by rw[aO.mu py];simp[Go.Hf.dk,d]
 have o:∀k,iK (h.g1 b 8 (.ae (.map sm (mg m (.string (fd a c)) (.bool true))))).am k->iK h.am k:=λk d=>d.hE (ho 3 (by omega));refine⟨h.g1 b 8 (.ae (.map sm (mg m (.string (fd a c)) (.bool true)))),⟨⟨⟨c8,cX⟩,by rw[aO.lY];exact⟨q,r⟩,?_,λk d j i G=>(ho k i).trans (w k d j i G),λk d=>?_,λk d=>?_,A⟩,λk d=>B k (o k d)⟩,ho,λk=>?_⟩;obtain⟨V,f1,I⟩:=g.fL;refine⟨(ho 4 (by omega)).trans g.gv,⟨_,nv py,n.put _ _⟩,(ho 5 (by omega)).trans g.kM,V,(ho 3 (by omega)).trans f1,I.imp id λ⟨p,J,es,j,i,K,M,N,O⟩=>⟨p,J,es,j,i,by rw[aO.lY];exact K,M,(ho p (by omega)).trans N,O⟩⟩;refine(y k (o k d)).imp id λh=>⟨h.1,?_⟩;rw[rl];split;exact ii _ h.2;exact h.2;rw[rl,dr (by omega)]at d;rcases e9.1 d with rfl|d;exact .inr (.inl rfl);exact z k d;rw[F,z2 (kC b _) py]
theorem R9{q:Nat}{l:List Nat}(d:q%4096=2067)(a:e3 l 4098=true)(g:b%4096=0)(c:b<=q->q<b+4096->e3 l 2067=true):e3 l (ir b q)=true:=by
 rw[uf];unfold gj;split;rename_i h;have e:q-b=2067:=by omega
 rw[e];exact c h.1 h.2;rw[dU (by omega)];exact a
theorem ade{cs:az}(h:cg cs=true):cs.flatMap ao.key=[]:=by
 induction cs with
 |nil=>rfl
 |cons x r a=>rw[lb];cases x<;>first|exact a h|exact absurd h (by intro h;cases h)
theorem jd.g3(H:jd Q b aC s3 s4 s5 sm L h){V y:ao}(g:h.am 3=b9 b aC 3)(B:h.am 3= .box s3 [V])(t1:t.length=11)(t2:cg t=true)(bs:Q t)(S:∀f:bg->ay,i0 h.am 11 y f=f [cW])(er:L+1<=100000):
 ∃a bZ n j i g,(∀k:ao->ay,cv false V k=k (aA (n:Nat)))/\k3 b [4098,2066] V=true/\(∀k:dv,fW b 2067 (some [2067,4098]) 44 11 176 V y true h k=k (.aV a bZ 0 (n+1)) j)/\k3 b [4098,2067] (.aV a bZ 0 (n+1))=true/\k3 b [4098,2067] (.eP a bZ n 0)=true/\
  (∀k:ao->ay,de j.am 11 (.aV a bZ 0 (n+1)) (aA (n:Nat)) k=k (.eP a bZ n 0))/\(∀k:dv,bl b (some [4098,2067]) 11 (.eP a bZ n 0) (.agg t) j k=k .undef i)/\(∀k:dv,bl b (some [4096]) 1 (.aQ 3 s3 0) (.aV a bZ 0 (n+1)) i k=k .undef g)/\
  jd Q b aC s3 s4 s5 sm (L+1) g/\∀d,d<4096->d≠2067->g.am (b+d)=h.am (b+d):=by
 haveI:=H.aK
 obtain⟨⟨⟨c8,cX⟩,⟨bx,b1⟩,I,b2,ev,cc,J⟩,ex⟩:=H;have cn:∀k,iK h.am k->k<b/\4096<=k/\k%4096=2067/\iK (b9 b aC) k:=λk c=>by have:=J k (c.hE g);exact⟨this.1,this.2.1,this.2.2,c.hE g⟩
 have c3:e3 [4096] (ir b 3)=true:=by rw[uf];unfold gj;rw[dU (by omega),dr (by omega)];rfl
 have T:∀(a bZ:Nat) (es:bg) (o:fb) (j:aO),a<h.ax->4096<=a->a%4096=2067->(iK (b9 b aC) a\/b+2067=a)->j=h.g1 b a o->o.aj= .aV bZ 44 11 (es++[cW]) true->es.length<=L->(∀e∈es,Q e)->(∀k,iK h.am k->k=a)->
  ∃i g,k3 b [4098,2067] (.aV a bZ 0 (es.length+1))=true/\k3 b [4098,2067] (.eP a bZ es.length 0)=true/\(∀k:ao->ay,de j.am 11 (.aV a bZ 0 (es.length+1)) (aA (es.length:Nat)) k=k (.eP a bZ es.length 0))/\(∀k:dv,bl b (some [4098,2067]) 11 (.eP a bZ es.length 0) (.agg t) j k=k .undef i)/\(∀k:dv,bl b (some [4096]) 1 (.aQ 3 s3 0) (.aV a bZ 0 (es.length+1)) i k=k .undef g)/\
  jd Q b aC s3 s4 s5 sm (L+1) g/\∀d,d<4096->d≠2067->g.am (b+d)=h.am (b+d):=by
  intro a bZ es o j z cs W C E cu hl cY fl;have F:e3 [4098,2067] (ir b a)=true:=R9 W rfl cX λ_ _=>rfl;have c0:∀k,k≠a->j.am k=h.am k:=λk c=>by rw[E,aO.mu z];simp[Go.Hf.dk,c]
  have X:j.am a= .aV bZ 44 11 (es++[cW]) true:=by rw[E];exact(nv z).trans cu
  have K:j.ax=h.ax:=by rw[E,aO.lY]
  have d1:j.ck=if a<b then a::h.ck else h.ck:=by rw[E];exact rl
  clear E;obtain⟨i,A⟩:∃i,i=j.g1 b a (.ae (.aV bZ 44 11 (es++[t]) true)):=⟨_,rfl⟩;have Y:∀k,k≠a->i.am k=h.am k:=λk c=>by rw[A,aO.mu (by rw[K];exact z)];simp[Go.Hf.dk,c];exact c0 k c
  have c1:i.am a= .aV bZ 44 11 (es++[t]) true:=by rw[A];exact nv (by rw[K];exact z)
  have Z:i.ax=h.ax:=by rw[A,aO.lY,K]
  have d2:∀k∈i.ck,k∈h.ck\/(k=a/\a<b):=λk c=>by rw[A,rl,d1]at c;by_cases q:a<b;rw[dr q,dr q]at c;rcases e9.1 c with rfl|c;exact .inr ⟨rfl,q⟩;rcases e9.1 c with rfl|c;exact .inr ⟨rfl,q⟩;exact .inl c;rw[dU q,dU q]at c;exact .inl c
  have c2:∀k:dv,bl b (some [4098,2067]) 11 (.eP a bZ es.length 0) (.agg t) j k=k .undef i:=λk=>by
   have e:bl b (some [4098,2067]) 11 (.eP a bZ es.length 0) (.agg t) j k=lJ b (some [4098,2067]) (pN j.am 11 (.eP a bZ es.length 0) (.agg t)) j k:=rfl;have O:pN j.am 11 (.eP a bZ es.length 0) (.agg t)=some (.undef,[(a,.aV bZ 44 11 (es++[t]) true)]):=by
    have hp:mV j.am (.agg t)=some (.agg t):=by simp only[mV,(SM t2).1]
    have hc:(ao.agg t).cells=some t:=rfl;have c:(ao.agg t).dl=[]:=ade t2;have hg:(es++[cW])[es.length]? =some cW:=by simp
    have hs:(es++[cW]).set es.length (uS cW 0 t)=es++[t]:=by
     have:uS cW 0 t=t:=by unfold uS;rw[t1];simp[If]
     rw[this,List.set_append_right _ _ (dn _)];simp
    simp only[pN,X,hp,hc,hg,c,fI,hs,t1];rfl
   rw[e,O,z2 (MR F) (by rw[K];exact z),A]
  clear A;have c4:i.am 3= .box s3 [V]:=(Y 3 (by omega)).trans B;obtain⟨g,w⟩:∃g,g=i.g1 b 3 (.ae (.box s3 [.aV a bZ 0 (es.length+1)])):=⟨_,rfl⟩;have gD:3<i.ax:=by rw[Z];omega
  have G:∀k,k≠a->k≠3->g.am k=h.am k:=λk c c5=>by rw[w,aO.mu gD];simp[Go.Hf.dk,c5];exact Y k c
  have al:g.am 3= .box s3 [.aV a bZ 0 (es.length+1)]:=by rw[w];exact nv gD
  have dd:g.am a= .aV bZ 44 11 (es++[t]) true:=by rw[w,aO.mu gD];simp[Go.Hf.dk,show a≠3 by omega];exact c1
  have d3:g.ck=3::i.ck:=by rw[w,rl,dr (by omega)]
  have ar:g.ax=h.ax:=by rw[w,aO.lY,Z]
  have ds:∀k:dv,bl b (some [4096]) 1 (.aQ 3 s3 0) (.aV a bZ 0 (es.length+1)) i k=k .undef g:=λk=>by have O:bl b (some [4096]) 1 (.aQ 3 s3 0) (.aV a bZ 0 (es.length+1)) i k=bl b (some [4096]) 1 (.aQ 3 s3 0) (.agg [.aV a bZ 0 (es.length+1)]) i k:=rfl;rw[O,z1 (b:=b) (n:=1) (off:=0) (wk:=some [4096]) c4 rfl (by simp) (λo=>MR c3) gD,w];rfl
  clear w;have bd:∀k,iK g.am k->k=a:=by rintro k ⟨s,p,n,e⟩;rw[al]at e;simp only[eQ.box.injEq,jQ,and_true,ao.aV.injEq]at e;exact e.2.1.symm
  refine⟨i,g,F,F,λk=>GR X (by omega) k,c2,ds,⟨⟨⟨c8,cX⟩,by rw[ar];exact⟨bx,b1⟩,?_,λk c M N q=>?_,λk c=>?_,λk c=>?_,J⟩,λk c=>?_⟩,λd hd fn=>G _ ?_ (by omega)⟩;obtain⟨m,f1,f2⟩:=I.kw;refine⟨(G 4 (by omega) (by omega)).trans I.gv,⟨m,(G 8 (by omega) (by omega)).trans f1,f2⟩,(G 5 (by omega) (by omega)).trans I.kM,_,al,.inr ⟨a,bZ,es++[t],by simp,cs,by rw[ar];exact z,W,dd,by simp;omega,λe P=>?_⟩⟩;rcases fq.1 P with h|h;exact cY e h;rw[List.mem_singleton.1 h];exact bs;refine(G k (λe=>?_) M).trans (b2 k c M N q);subst e;rcases C with h|h;exact q h;omega;rw[bd k c,d3];exact C.imp id λh=>⟨by omega,fQ⟩;rw[d3]at c;rcases e9.1 c with rfl|c;exact .inl rfl;rcases d2 k c with h|⟨rfl,h⟩;exact cc k h;rcases C with h'|h';exact .inr (.inr h');omega;rw[bd k c];rcases C with h|h;exact .inl (J _ h).1;exact .inr (.inr h.symm);rcases C with h|h;have:=(J _ h).1;omega;omega
 obtain⟨V',f1,dt⟩:=I.fL;rw[B]at f1;simp only[eQ.box.injEq,jQ,and_true,true_and]at f1;subst f1;rcases dt with rfl|⟨a,p,es,rfl,M,N,R,a4,a5,dz⟩;obtain⟨i,g,f1,f2,f3,f4,f5,f6,f7⟩:=T (b+2067) (ie h b 2067) [] (nr (ie h b 2067) 44 11 ([]++[cW]) true) _ (cp.lt (by omega)) (by omega) (by omega) (.inr rfl) rfl (yv _ _ _ _ _) (pg _) (λe P=>by cases P) (λk c=>by obtain⟨s1,s2,n,e⟩:=c;rw[B]at e;simp at e)
 refine⟨b+2067,ie h b 2067,0,_,i,g,λk=>li k,?_,λk=>?_,f1,f2,f3,f4,f5,f6,f7⟩;rfl;exact zW S (by simp) (λo=>HU (by omega) rfl) (by simp) (by simp) k;have ee:iK h.am a:=⟨s3,p,es.length,B⟩;have bN:=cn a ee;have F:e3 [2067,4098] (ir b a)=true:=R9 R rfl cX λ_ _=>rfl;have em:e3 [4098,2066] (ir b a)=true:=R9 R rfl cX λh _=>by omega
 obtain⟨i,g,f1,f2,f3,f4,f5,f6,f7⟩:=T a (Nat.add p 1) es (nr (Nat.add p 1) 44 11 (es++[cW]) true) _ N M R (.inl bN.2.2.2) rfl (yv _ _ _ _ _) a5 dz (λk c=>by obtain⟨s1,s2,n,e⟩:=c;rw[B]at e;simp only[eQ.box.injEq,jQ,and_true,ao.aV.injEq]at e;exact e.2.1.symm)
 refine⟨a,Nat.add p 1,es.length,_,i,g,λk=>z0 _ _ _ _ k,em,λk=>?_,f1,f2,f3,f4,f5,f6,f7⟩;have e0:fW b 2067 (some [2067,4098]) 44 11 176 (.aV a p 0 es.length) y true h k=i0 h.am 11 y λys=>mr ys λys=>gc (eJ ys) λn=>
  bB (Nat.beq 0 0) (uP (h.yA a) λen e' eq rs r=>bB (Nat.beq p en) (bB (Nat.beq e' 44) (bB (Nat.beq eq 11)
   (@Bool.rec (λ_=>ay) (bB r (bB (Nat.ble es.length (eJ rs)) (jr b (some [2067,4098]) 176 a p 44 11 (mb (Nat.sub (eJ rs) es.length) rs) n ys r es.length h k) .aF) .aF) (jr b (some [2067,4098]) 176 a p 44 11 rs n ys r es.length h k) (Nat.beq es.length (eJ rs))) .aF) .aF) .aF) .aF:=rfl
 rw[e0,S,ms,fN,gV,fI,da,Dg (by rw[aO.AB];exact a4),fI,da,fI,da,fI,da,gV,u6,fI];show jr b (some [2067,4098]) 176 a p 44 11 es.reverse 1 [cW] true es.length h k=_;unfold jr;rw[fN,eT,dJ (by rw[tE,h5];omega),da,eT,dJ (by rw[h5];omega),da,fN,sp,uC (MR F) N];unfold nr;rw[List.reverse_append]
theorem vk.up{Q:az->Prop}{a:ay}{aC:cD}{s3 s4 s5 sm L c:Nat}(h:vk Q a b aC s3 s4 s5 sm L)(e:L<=c):vk Q a b aC s3 s4 s5 sm c:=by obtain⟨r,g,i,d,j,k,n,o,p⟩:=h;exact⟨r,g,i,d,j,k,n,o.le e,p⟩
theorem jd.kM{Q:az->Prop}{aC:cD}{s3 s4 s5 sm L:Nat}{h:aO}(H:jd Q b aC s3 s4 s5 sm L h):h.am 5= .box s5 [.ey 80 [.aQ 4 s4 0,.aQ 3 s3 0,.aQ 5 s5 0]]:=H.ab.am.kM
theorem aqG{Q:az->Prop}{aC:cD}{s3 s4 s5 sm:Nat}(A:l.length<=3)(H:∀t∈l,fR t/\vj Q u t D)(B:L0+D+D+D<=100000):∀(n i N:Nat) (h:aO),n+i=l.length->n<N->jd Q b aC s3 s4 s5 sm (L0+i*D) h->
 vk Q (gd 3 25 26 27 N (xj u b) (.aQ 5 s5 0) (.aN 11 l) (aA l.length) (aA ((i:Nat):Int)) h) b aC s3 s4 s5 sm (L0+l.length*D):=by
 intro n;induction n with
 |zero=>
  intro i N h g j c;obtain⟨N,rfl⟩:=eC N;have hi:i=l.length:=by omega
  subst hi;rw[jt];generalize gd 3 25 26 27 N (xj u b)=k;rw[xj,cz,bA,bc,Av];exact c.ret _
 |succ n o=>
  intro i N h g j c;obtain⟨N,rfl⟩:=eC N
  haveI:=c.aK
  obtain⟨a,p⟩:∃a,l[i]? =some a:=⟨_,fo (by omega)⟩;obtain⟨⟨d,q⟩,w⟩:=H a (eH p);have C:i*D<=2*D:=jP D (by omega);have e:jd Q b aC s3 s4 s5 sm (L0+i*D) ((h.cB b 7 44 cW).dp b 7 a):=c.cB.dp;obtain⟨r,h',x,E,y⟩:=e.go q w (by omega);have F:=o (i+1) N h' (by omega) (by omega) (by rw[iT,ov,<-rp];exact x);have z:((i+1:Nat):Int)=(i:Int)+1:=by omega
  rw[z]at F;have dB:([.ey 80 [.aQ 4 s4 0,.aQ 3 s3 0,.aQ 5 s5 0]]:az)[0]? =some (.ey 80 [.aQ 4 s4 0,.aQ 3 s3 0,.aQ 5 s5 0]):=rfl;rw[jt];generalize gd 3 25 26 27 N (xj u b)=k at F ⊢;rw[xj,cz,bM,bw,XT,fH ‹_›,cI,aU d,cF,cM d,av e.kM,aL dB,av (gn ec),aU d,y,b8,fV];exact F
theorem alk{Q:az->Prop}{k:Int}{S c1 T W:Nat}{o:az}{L:ao}(g:kj t k S c1 T W o L)(C:l3 L l)(E:l.length<=3)(X:Q t){a c:Nat}(G:bf u 81 [.agg t] (.s a c))(H:∀t∈l,fR t/\vj Q u t D)
 {aC:cD}{s3 s4 s5 sm:Nat}(c8:4096<=b)(cX:b%4096=0)(Y:m6 Q (b9 b aC) s3 s4 s5 sm b L0)(hD:L0+(1+(D+D+D))<=100000):vk Q (FN u [.agg t,.aQ 4 s4 0,.aQ 3 s3 0,.aQ 5 s5 0] b aC) b aC s3 s4 s5 sm (L0+(1+(D+D+D))):=by
 have Z:=g.v.dB;have al:=g.v.iM;have cc:=g.aa;have i:=g.v.ad;have r:=g.v.ja;have ar:=C.len;have I:=jd.start c8 cX Y;have e0:FN u [.agg t,.aQ 4 s4 0,.aQ 3 s3 0,.aQ 5 s5 0] b aC=JX u b (.agg t) (.aQ 4 s4 0) (.aQ 3 s3 0) (.aQ 5 s5 0) (bN b aC):=rfl
 haveI:=I.aK
 have j:jd Q b aC s3 s4 s5 sm L0 ((bN b aC).cB b 4 44 t):=I.cB;obtain⟨e,J⟩:=j.ab.am.pC a c;have w:((bN b aC).cB b 4 44 t).am 4= .box s4 [.fX 8 sm]:=j.ab.am.gv;have x:([.fX 8 sm]:az)[0]? =some (.fX 8 sm):=rfl;have K:k3 b [4096] (.aQ 3 s3 0)=true:=by show e3 [4096] (ir b 3)=true;rw[uf];unfold gj;rw[dU (by omega),dr (by omega)];rfl
 cases e
 rotate_left 1
 rw[e0,JX,b3,PI,av ec,aU i,bE,a6 r,aq,a0 G,av w,aL x,J,bw,Av];exact(j.ret _).up (by omega);obtain⟨d,A,M,a3⟩:=j.put a c
 haveI:=A.aK
 have N:d.am (b+4)= .box (fK (bN b aC) b 4 44) t:=(M (b+4) (by omega)).trans ec;obtain⟨V,O,_⟩:=A.ab.am.fL;have a4:([V]:az)[0]? =some V:=rfl;have a5:jd Q b aC s3 s4 s5 sm L0 (d.fc b 2066 44 11 [cW] false):=A.dP;have P:∀k,k<b->(d.fc b 2066 44 11 [cW] false).am k=d.am k:=λk p=>(n6 (cp.lt (by omega))).am _ λc hc=>by simp at hc;omega
 have eE:(d.fc b 2066 44 11 [cW] false).am 3=b9 b aC 3:=by rw[P 3 (by omega),M 3 (by omega)];exact NK (b:=b) (r3 aC (by omega)) (by omega)
 obtain⟨q',bZ,n,cn,cs,B,f1,f2,f3,f4,f5,f6,f7,f8,q,f9⟩:=a5.g3 (V:=V) (y:= .aV (b+2066) (ie d b 2066) 0 1) (t:=t) eE ((P 3 (by omega)).trans O) i r X (λf=>pt hX (by rfl) f) (by omega)
 haveI:=q.aK
 have R:B.am (b+4)= .box (fK (bN b aC) b 4 44) t:=(f9 4 (by omega) (by omega)).trans (fJ N);have bd:∀(s o:Nat) (z:ay),met b [4] [.aQ (b+4) s o] z=z:=λs o z=>by rw[bO,aP]
 have bs:cg cW=true:=rfl;have bx:cW.length=11:=rfl;have br:((n+1:Nat):Int)=(n:Int)+1:=by omega
 have b1:(k=3->vk Q (PH u b (.aQ (b+4) (fK (bN b aC) b 4 44) 0) (.aQ 5 s5 0) B) b aC s3 s4 s5 sm (L0+(1+(D+D+D)))):=λ_=>by rw[PH,bn,aH,av R,aL al,ar];rcases C with⟨rfl,rfl⟩|⟨rfl,cu⟩;rw[p7,jt];generalize gd 3 25 26 27 999999 (xj u b)=j4;have b2:(([]:bg).length:Int)=0:=rfl;rw[b2,xj,b7,cz,bA,bc,Av];exact(q.ret _).up (by omega);have F:=aqG (L0:=L0+1) E H (by omega) l.length 0 1000000 B (by omega) (by omega) (by rw[Nat.zero_mul];exact q);rw[b7];refine F.up ?_;have hm:l.length*D<=3*D:=jP D E;omega
 rw[e0,JX,b3,PI,av ec,aU i,bE,a6 r,aq,a0 G,av w,aL x,J,bc,av w,aL x,XV,a3,aS,be K,aP,av O,aL a4,aS,bd,av N,aU i,f1,jB bs bx,aq,x1,be f2,x8,aP,f3,XU,dW,be f4,be (aca _ _ _),aP,f6,be f5,aP,f7,be K,aP,f8,bn,aH,av R,aL Z,fu,cd];by_cases p:k=3;rw[dJ p,bw];exact b1 p;rw[gy p,bc,Av];exact(q.ret _).up (by omega)
end
end
end
section
variable{D:Nat}{t:az}{l:bg}
section
variable[Tok] {u:Fn}{b:Nat}
def zD:Nat->Nat
 |0=>1
 |n+1=>1+(zD n+zD n+zD n)
theorem am6{N:Nat}(q:N<=8){Q:az->Prop}(P:∀t,Q t->cq N t)(C:∀t k r c1 w x o L l,Q t->kj t k r c1 w x o L->l3 L l->∀d∈l,Q d):∀n:Nat,n<=N->bV λu=>∀m t,m<=n->cq m t->Q t->vj Q u t (zD n):=by
 have step:∀(n z:Nat) (D:Nat),(∀t,cq N t->∃a c,bf (bR bX z) 81 [.agg t] (.s a c))->∀t m,m<=N->cq m t->Q t->(∀d e,e<m->cq e d->Q d->vj Q (bR bX z) d D)->vj Q (bR bX (z+1)) t (1+(D+D+D)):=by intro n z D E t m p g i H b aC s3 s4 s5 sm L c8 cX F G;obtain⟨k,r,c1,w,x,o,R,l,y,A,I,J⟩:=g.C8;obtain⟨a,c,K⟩:=E t (g.le p);rw[bZ 80 FN z];exact alk y A I i K (λd h=>by obtain⟨e,B,j⟩:=J d h;exact⟨j.p,H d e B j (C _ _ _ _ _ _ _ _ _ i y A d h)⟩) c8 cX F G
 intro n;induction n with
 |zero=>intro _;refine(ZS q).up λz h m t p g i=>?_;have:=step 0 z 0 h t m (by omega) g i (λd e h=>absurd h (by omega));exact this
 |succ n M=>intro S;refine((ZS q).and (M (by omega))).up λz h m t p g i=>?_;exact step (n+1) z (zD n) h.1 t m (by omega) g i λd e B j O=>h.2 e d (by omega) j O
structure rL (Q:az->Prop) (s3 s4 s5 sm L:Nat) (h:aO):Prop where
 ah:h.ck=[]
 ax:0+4096<=h.ax/\h.ax%4096=0
 aj:m6 Q h.am s3 s4 s5 sm h.ax L
section
variable{Q:az->Prop}{s3 s4 s5 sm L:Nat}{h:aO}
theorem rL.aK(H:rL Q s3 s4 s5 sm L h):cp h 0:=⟨H.ax.1⟩
theorem rL.dP(H:rL Q s3 s4 s5 sm L h){o:fb}:rL Q s3 s4 s5 sm L (h.dP 0 7 o):=by
 haveI:=H.aK
 have ho:∀k,k≠0+7->(h.dP 0 7 o).am k=h.am k:=λk a=>(n6 (cp.lt (by omega))).am _ λc d=>by simp at d;rw[d];exact a
 exact⟨(n6 (o:=o) (cp.lt (by omega))).ck.trans H.ah,by rw[lC];exact H.ax,H.aj.Qs (by rw[lC];exact dn _) (ho 3 (by omega)) (ho 4 (by omega)) (ho 5 (by omega)) (ho 8 (by omega)) λk a=>ho k (by have:=(H.aj.zT k a).2.1;omega)⟩
theorem rL.go(H:rL Q s3 s4 s5 sm L h)(n:cg t=true)(C:vj Q u t D)(o:L+D<=100000):∃r h',rL Q s3 s4 s5 sm (L+D) h'/\∀k:dv,nd u 0 (.ey 80 [.aQ 4 s4 0,.aQ 3 s3 0,.aQ 5 s5 0]) [.agg t] [] h k=k r h':=by
 obtain⟨hd,⟨j,c⟩,e⟩:=H;have e0:∀k:dv,nd u 0 (.ey 80 [.aQ 4 s4 0,.aQ 3 s3 0,.aQ 5 s5 0]) [.agg t] [] h k=dC u 0 80 [.agg t,.aQ 4 s4 0,.aQ 3 s3 0,.aQ 5 s5 0] [] h k:=λk=>by have g:nd u 0 (.ey 80 [.aQ 4 s4 0,.aQ 3 s3 0,.aQ 5 s5 0]) [.agg t] [] h k=bi h.am (.agg t) λx us=>dC u 0 80 (aZ (aZ [x] []) [.aQ 4 s4 0,.aQ 3 s3 0,.aQ 5 s5 0]) (aZ us []) h k:=rfl;rw[g,a6 n,aq];rfl
 obtain⟨ub,bj,dd⟩:=h;obtain rfl:dd=[]:=hd;have j:0+4096<=ub:=j;have c:ub%4096=0:=c;have e:m6 Q (b9 ub bj) s3 s4 s5 sm ub L:=e;obtain⟨r,a,i,d,g,p,q,w,y,z,A⟩:=C ub bj s3 s4 s5 sm L (by omega) c e o;refine⟨r,.mk a i [],⟨rfl,⟨by show 0+4096<=a;omega,q⟩,w⟩,λk=>?_⟩;rw[e0];have f1:dC u 0 80 [.agg t,.aQ 4 s4 0,.aQ 3 s3 0,.aQ 5 s5 0] [] (.mk ub bj []) k=js 0 ub [] k (u 80 [.agg t,.aQ 4 s4 0,.aQ 3 s3 0,.aQ 5 s5 0] ub bj):=rfl;rw[f1,g];have f2:js 0 ub [] k (.ok r a i d)=bB (Nat.ble ub a) (k r (.mk a i (aZ (fA 0 d) []))) .aF:=rfl;rw[f2,eT,dJ p,da,f0];rfl
def NA(Q:az->Prop)(L:Nat)(a:ay):Prop:=∃v es,cE 11 v es/\(∀e∈es,Q e)/\es.length<=L/\∃s d,a= .ok v 0 s d
theorem rL.ret(H:rL Q s3 s4 s5 sm L h):NA Q L (bh h.am false 1 (.aQ 3 s3 0) λr=>Do 0 r h):=by obtain⟨hd,⟨B,C⟩,j⟩:=H;obtain⟨V,k,n⟩:=j.fL;have o:([V]:az)[0]? =some V:=rfl;rw[av k,aL o,Do,bJ];rcases n with rfl|⟨a,c,es,rfl,E,g,G,p,q,w⟩;refine⟨.ba,[],.inl ⟨rfl,rfl⟩,(λe y=>by cases y),pg _,?_⟩;obtain⟨ub,bj,dd⟩:=h;obtain rfl:dd=[]:=hd;exact⟨_,_,rfl⟩;refine⟨.aN 11 es,es,.inr rfl,w,q,?_⟩;have z:∀F:ao->fk->ay,bi h.am (.aV a c 0 es.length) F=lq (h.am a) λi e sz ea bL=>bB (Nat.beq c i) (bB (Nat.ble (Nat.add 0 es.length) (eJ ea)) (F (.aN sz (mU ea 0 es.length)) (@Bool.rec (λ_=>fk) [] [(a,.aV i e sz ea false)] bL)) .aF) .aF:=λF=>rfl;rw[z,p,uO,fI,da,gV,eT,dJ (by rw[h5];omega),da,Ah];show∃s d,im 0 (.aN 11 es) (aZ [(a,.aV c 44 11 es false)] []) h=_;obtain⟨ub,bj,dd⟩:=h;obtain rfl:dd=[]:=hd;have g:a<ub:=g;have A:im 0 (.aN 11 es) (aZ [(a,.aV c 44 11 es false)] []) (.mk ub bj [])=bB (Nat.ble (Nat.succ a) ub) (Kz 0 (.aN 11 es) ((aO.mk ub bj []).g1 0 a (.ae (.aV c 44 11 es false)))) .aF:=rfl;rw[A,eT,dJ (DU g),da];exact⟨_,_,rfl⟩
theorem aqw(H:∀t∈l,fR t/\vj Q u t D)(I:l.length<=900)(J:l.length*D<=100000):∀(n i N:Nat) (h:aO),n+i=l.length->n<N->rL Q s3 s4 s5 sm (i*D) h->
 NA Q (l.length*D) (fm 3 5 10 11 12 N (BS u 0 (λp q=>bh q.am false 1 p λr=>Do 0 r q)) (.aQ 3 s3 0) (.aQ 5 s5 0) (.aN 11 l) (aA l.length) (aA ((i:Nat):Int)) h):=by
 intro n;induction n with
 |zero=>
  intro i N h g j c;obtain⟨N,rfl⟩:=eC N;have hi:i=l.length:=by omega
  subst hi;rw[iz];generalize fm 3 5 10 11 12 N (BS u 0 (λp q=>bh q.am false 1 p λr=>Do 0 r q))=k;rw[BS,cz,bA,bc];exact c.ret
 |succ n w=>
  intro i N h g j c;obtain⟨N,rfl⟩:=eC N
  haveI:=c.aK
  obtain⟨a,y⟩:∃a,l[i]? =some a:=⟨_,fo (by omega)⟩;obtain⟨⟨d,z⟩,A⟩:=H a (eH y);have B:(i+1)*D<=l.length*D:=jP D (by omega);rw[iT,ov]at B;have e:rL Q s3 s4 s5 sm (i*D) ((h.cB 0 7 44 cW).dp 0 7 a):=(c.dP (o:= .ae (.box (fK h 0 7 44) cW))).dP;obtain⟨r,h',C,E⟩:=e.go z A (by omega);have F:=w (i+1) N h' (by omega) (by omega) (by rw[iT,ov];exact C);have G:((i+1:Nat):Int)=(i:Int)+1:=by omega
  rw[G]at F;have dB:([.ey 80 [.aQ 4 s4 0,.aQ 3 s3 0,.aQ 5 s5 0]]:az)[0]? =some (.ey 80 [.aQ 4 s4 0,.aQ 3 s3 0,.aQ 5 s5 0]):=rfl;rw[iz];generalize fm 3 5 10 11 12 N (BS u 0 (λp q=>bh q.am false 1 p λr=>Do 0 r q))=k at F ⊢;rw[BS,cz,bM,bw,WW,fH ‹_›,cI,aU d,cF,cM d,av e.aj.kM,aL dB,av (gn ec),aU d,E,b8,fV];exact F
theorem akY(H:∀t∈l,fR t/\vj Q u t D)(B:l.length<=900)(C:l.length*D<=100000):NA Q (l.length*D) (Fl u [.aN 11 l] 0 .nil):=by
 obtain⟨a,i⟩:∃a,a=(bN 0 .nil).cB 0 3 30 [.ba]:=⟨_,rfl⟩;obtain⟨s3,q⟩:∃s,s=fK (bN 0 .nil) 0 3 30:=⟨_,rfl⟩;obtain⟨sm,E⟩:∃s,s=Nat.add (a.am (Nat.add 0 8)).cH 1:=⟨_,rfl⟩;have e0:Fl u [.aN 11 l] 0 .nil=OZ u 0 (.aN 11 l) (bN 0 .nil):=rfl;have X:cp a 0:=by rw[i];infer_instance
 have Y:dS a:=by rw[i];infer_instance
 have G:a.am (0+3)= .box s3 [.ba]:=by rw[i,q];exact ec
 rw[e0,OZ,cF,<-i,<-q,<-E,z2 (kC 0 _) (show 0+8<a.ax from cp.lt (by omega))];have I:cp (a.g1 0 (Nat.add 0 8) (.ae (.map sm []))) 0:=inferInstanceAs (cp (a.dP 0 8 _) 0);have J:dS (a.g1 0 (Nat.add 0 8) (.ae (.map sm []))):=inferInstanceAs (dS (a.dP 0 8 _));have r:(a.g1 0 (Nat.add 0 8) (.ae (.map sm []))).am (0+8)= .map sm []:=Em (h:=a) (d:=8) (o:= .ae (.map sm []));have w:(a.g1 0 (Nat.add 0 8) (.ae (.map sm []))).am (0+3)= .box s3 [.ba]:=oI (h:=a) (d:=8) (o:= .ae (.map sm [])) G;have y:(a.g1 0 (Nat.add 0 8) (.ae (.map sm []))).ax=0+4096:=by rw[aO.lY,i];exact lC _ _ _ _
 generalize a.g1 0 (Nat.add 0 8) (.ae (.map sm []))=j at I J r w y ⊢;obtain⟨s4,p⟩:∃s,s=fK j 0 4 139:=⟨_,rfl⟩;obtain⟨c,g⟩:∃c,c=(j.cB 0 4 139 [.bo (.map none)]).dp 0 4 [.fX 8 sm]:=⟨_,rfl⟩;have Z:cp c 0:=by rw[g];infer_instance
 have eB:dS c:=by rw[g];infer_instance
 have K:c.ax=0+4096:=by rw[g];exact(lC _ _ _ _).trans ((lC _ _ _ _).trans y)
 have M:c.am (0+8)= .map sm []:=by rw[g];exact fS (fZ r)
 have N:c.am (0+3)= .box s3 [.ba]:=by rw[g];exact fS (fZ w)
 have O:c.am (0+4)= .box s4 [.fX 8 sm]:=by rw[g];exact gn (by rw[p];exact ec)
 obtain⟨s5,z⟩:∃s,s=fK c 0 5 140:=⟨_,rfl⟩;have P:∀(h:aO) (k:dv),bl 0 none 1 (.aQ (0+4) s4 0) (.fX (Nat.add 0 8) sm) h k=bl 0 none 1 (.aQ (0+4) s4 0) (.agg [.fX 8 sm]) h k:=λh k=>rfl;have R:∀(h:aO) (k:dv),bl 0 none 1 (.aQ (0+5) s5 0) (.ey 80 [.aQ (0+4) s4 0,.aQ (0+3) s3 0,.aQ (0+5) s5 0]) h k=bl 0 none 1 (.aQ (0+5) s5 0) (.agg [.ey 80 [.aQ (0+4) s4 0,.aQ (0+3) s3 0,.aQ (0+5) s5 0]]) h k:=λh k=>rfl;have S:∀k:ao->ay,dj (AH 80 [.aQ (0+4) s4 0,.aQ (0+3) s3 0,.aQ (0+5) s5 0]) k=k (.ey 80 [.aQ (0+4) s4 0,.aQ (0+3) s3 0,.aQ (0+5) s5 0]):=λk=>rfl;have T:(j.cB 0 4 139 [.bo (.map none)]).am (0+4)= .box s4 [.bo (.map none)]:=by rw[p];exact ec
 have A:(c.cB 0 5 140 [.bo .nilFunc]).am (0+5)= .box s5 [.bo .nilFunc]:=by rw[z];exact ec
 rw[WX,cF,<-p,P,cM (h:=j.cB 0 4 139 [.bo (.map none)]) (n:=1) rfl T rfl,<-g,cF,<-z,S,R,cM (h:=c.cB 0 5 140 [.bo .nilFunc]) (n:=1) rfl A rfl,gC,b7];have F:=λh V=>aqw (u:=u) (Q:=Q) (s3:=s3) (s4:=s4) (s5:=s5) (sm:=sm) H B C l.length 0 1000000 h (by omega) (by omega) V;refine F _ ⟨?_,?_,?_⟩;exact dS.eq (h:=(c.cB 0 5 140 [.bo .nilFunc]).dp 0 5 _);have e:((c.cB 0 5 140 [.bo .nilFunc]).dp 0 5 [.ey 80 [.aQ (0+4) s4 0,.aQ (0+3) s3 0,.aQ (0+5) s5 0]]).ax=0+4096:=(lC _ _ _ _).trans ((lC _ _ _ _).trans K);rw[e];exact⟨by omega,rfl⟩;exact⟨fS (fZ O),⟨[],fS (fZ M),λe W=>by cases W⟩,gn A,.ba,fS (fZ N),.inl rfl⟩
end
def ib(t:az):Prop:=cq 4 t\/∃y,cq 3 y/\t=ej 8 0x696e746567657270 (ej 3 0x6c656e y)
theorem ab0:((4,0x6c697370,8,0x696e746567657270,1):Nat×Nat×Nat×Nat×Nat)∈kn++lQ++lP:=by decide
theorem ib.pL(h:ib t):cq 5 t:=by rcases h with h|⟨y,a,rfl⟩;exact h.le (by omega);exact cq.one ab0 (cq.one Ly a)
theorem ib.arg{k:Int}{x c1 z A:Nat}{o:az}{L:ao}(h:ib t)(j:kj t k x c1 z A o L)(q:l3 L l):∀a∈l,ib a:=by
 have w:∀m l',t[9+1]? =some (.aN 11 l')->(∀a∈l',cq m a)->m<=4->∀a∈l,ib a:=λm l' e H B a d=>by have c:=j.v.iM;rw[e]at c;simp only[dN]at c;rcases q with⟨rfl,rfl⟩|⟨rfl,_⟩;cases d;simp only[ao.aN.injEq,true_and]at c;subst c;exact .inl ((H a d).le B)
 rcases h with h|⟨y,C,rfl⟩;intro a d;cases h with
 |var _ i hi=>have c:=j.v.iM;have r:=(uZ (p:=kD) (n:=DD i) rfl).iM;have:=c.symm.trans r;simp only[dN]at this;subst this;rcases q with⟨_,rfl⟩|⟨e,_⟩;cases d;cases e
 |gT _ o' ho=>have c:=j.v.iM;have r:=(qm ho.mi.pp.v.1 ho.mi.pp.v.2).iM;have:=c.symm.trans r;simp only[dN]at this;subst this;rcases q with⟨_,rfl⟩|⟨e,_⟩;cases d;cases e
 |g3 m g F l' G E=>exact w _ l' (pK g l').iM E (by omega) a d
 exact w 4 [ej 3 0x6c656e y] (Cq _ _ _).iM (λa h=>by rw[List.mem_singleton.1 h];exact cq.one Ly C) (by omega)
theorem amS:bV λu=>∀l:bg,l.length<=60->(∀t∈l,ib t)->∃v es,cE 11 v es/\(∀e∈es,ib e)/\es.length<=60*364/\bf u 26 [.aN 11 l] v:=(am6 (N:=5) (by omega) (λ_ h=>ib.pL h) (λ_ _ _ _ _ _ _ _ _ h d g=>ib.arg h d g) 5 (dn _)).up λz h l i a=>by have o:l.length*zD 5<=60*364:=AZ i (by decide);obtain⟨v,es,j,k,p,n⟩:=akY (u:=bR bX z) (Q:=ib) (D:=zD 5) (λt c=>⟨(a t c).pL.p,h 5 t (dn _) (a t c).pL (a t c)⟩) (by omega) (by omega);exact⟨v,es,j,k,by omega,eO Fl n⟩
end
end
end Go.Hf

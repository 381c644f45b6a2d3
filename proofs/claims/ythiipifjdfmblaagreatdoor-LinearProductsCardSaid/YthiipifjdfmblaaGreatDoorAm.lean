import Derived.Test.YthiipifjdfmblaaGreatDoorAl
set_option linter.all false
set_option maxRecDepth 100000
namespace Go.Hf
open Go.RowKit
section
variable{K:Nat->Prop} {D:Rat->Prop} {aEL:Nat->Nat->Nat} {p q:an} {ps qs:bE} {h:aI}
section
variable[Tok] {u:Fn} {b:Nat}
theorem aCq(u:Fn)(a c:an)(b:Nat)(aET:b1):CH u [a,c] b aET=du 0 1 6 7 1000000 (wl u b (Im u b)) a c .aE aL (ba b aET):=by kernel_rfl
theorem cr.dU(E:cr)(ob:ej)(k:Nat)(f:jm):aD ob (E.di k) f=f (E.di k) []:=by rcases E.IM k with h|⟨es,h⟩<;>rw[h]<;>rfl
theorem cr.CJ(E:cr)(b:Nat)(a:List Nat)(k:Nat):jP b a (E.di k)=true:=by rcases E.IM k with h|⟨es,h⟩<;>rw[h]<;>rfl
theorem aDa{E:cr}(Q:z3 u E K D)(j4:mS){L:bE}{x:cw}{i:Nat}(z:cA E p ps)(j:cA E q qs)(C:ps[i]? =some x)(c2:ps.length<100)(c3:qs.length<100)(c4:L.length<400)(G:∀m∈L,K m.k)(R:wr u E D [] L)
 (S:∀y∈qs,F4 u E aEL x.k y.k/\xY u E x.U y.U):∀(c:bE) (N k:Nat) (v:an) (pre post:bE),qs.drop k=c->k<=qs.length->cA E v (hU [] pre)->L=pre++(c.map λy=>(⟨aEL x.k y.k,x.U*y.U⟩:cw))++post->c.length<N->
 ∃o,cA E o (hU [] (pre++c.map λy=>(⟨aEL x.k y.k,x.U*y.U⟩:cw)))/\fs 0 1 6 7 8 N (Df u b j4) p q v (ao i) (ao k) h=j4 p q o (ao i) h:=by
 have hi:i<ps.length:=(e6.1 C).1;have T:(ps.map E.bd)[i]? =some (E.bd x):=by rw[fo,C];rfl
 have W:p= .aQ 8 (ps.map E.bd):=by
  rcases z with⟨_,d⟩|d
  ·rw[oM] at d;rw[d] at hi;simp at hi
  ·exact d
 have H:∀ob:Nat->dM,∀e:an->aw,cb ob 8 p (ao (i:Int)) e=e (.ep (E.bd x) 0):=λob e=>by rw[W,eE T]
 intro c;induction c with
 |nil=>intro N k v pre post g l n A I;obtain⟨N,rfl⟩:=cN N;have X:qs.length<=k:=pZ.1 g;refine⟨v,by simpa using n,?_⟩;rw[gI];generalize fs 0 1 6 7 8 N (Df u b j4)=j5;rw[Df,j.len,dS,bO (a:=(k:Int)) (b:=(qs.length:Int)),bk,a6]
 |cons y c Z=>
  intro N k v pre post g X n A I;obtain⟨N,rfl⟩:=cN N;have l:k<qs.length:=by
   rcases kW k qs.length with h|h
   ·exact h
   ·rw[lH h] at g;cases g
  rw[iK l] at g;have a1:qs[k]=y:=(kf g).1;have a2:qs.drop (k+1)=c:=(kf g).2;have J:qs[k]? =some y:=by rw[dC l,a1]
  have a3:(qs.map E.bd)[k]? =some (E.bd y):=by rw[fo,J];rfl
  have ql:q= .aQ 8 (qs.map E.bd):=by
   rcases j with⟨_,d⟩|d
   ·rw[oM] at d;rw[d] at l;simp at l
   ·exact d
  have M:∀ob:Nat->dM,∀e:an->aw,cb ob 8 q (ao (k:Int)) e=e (.ep (E.bd y) 0):=λob e=>by rw[ql,eE a3]
  obtain⟨sY,wy⟩:=S y (dr J);simp only[h9] at I;have a4:0+0+7<=(E.bd x).length:=by rw[E.eG];omega
  have a5:0+0+7<=(E.bd y).length:=by rw[E.eG];omega
  have r:L=pre++(⟨aEL x.k y.k,x.U*y.U⟩:cw)::((c.map λy=>(⟨aEL x.k y.k,x.U*y.U⟩:cw))++post):=by rw[A];simp
  obtain⟨gx,gT⟩:=R pre _ _ r;have bs:∀m∈pre,K m.k:=λm hm=>G m (by rw[r];simp[hm]);have c5:pre.length<=L.length:=by rw[r];simp
  have bx:=pP pre [];have O:=wE pre (ps:=[]) ⟨List.Pairwise.nil,by simp⟩;obtain⟨w,cc,cl⟩:= @Q v (hU [] pre) ⟨aEL x.k y.k,x.U*y.U⟩ n (by simp only[kT] at bx;omega) (pD _ (by simp) bs) (G _ (by rw[r];simp)) gx (λhz t P cp=>by have B:=m7 O.g0 P;rw[yp,cp] at B;rw[<-B];exact gT (by rw[B];exact O.jD t P) hz)
  rw[gI,Df,j.len,dS,bO (a:=(k:Int)) (b:=(qs.length:Int)),bN,bL,aay,bZ,aV (z.met _ _),aV,aN,H,ko,aa7,aJ,aV,aN,ch,e8 a4,show(0:Nat)+0=0 from rfl,E.jV,
   bZ,aV (j.met _ _),aV,aN,M,ko,aJ,aV,aN,ch,e8 a5,show(0:Nat)+0=0 from rfl,E.jV,aV (kd (E.eU _)),aV (kd (E.eU _)),aN,bm (E.eU _),bm (E.eU _),av,av,aT wy,
   aac,bZ,aV (z.met _ _),aV,aN,H,ko,aJ,aV,aN,ch,bc (by simpa using E.kk x),bZ,aV (j.met _ _),aV,aN,M,ko,aJ,aV,aN,ch,bc (by simpa using E.kk y),
   ade,aV (E.CJ _ _ _),aV (E.CJ _ _ _),aN,E.dU,E.dU,av,av,aT sY,Jq E ⟨aEL x.k y.k,x.U*y.U⟩,hL,aV (n.met _ _),aV (kd (E.gw _)),aN,n.dU,bm (E.gw _),av,av,aT cl,bK,cK (a:=(k:Int)) (b:=1)]
  have cs:hU [] (pre++[(⟨aEL x.k y.k,x.U*y.U⟩:cw)])=mZ (hU [] pre) ⟨aEL x.k y.k,x.U*y.U⟩:=by simp[hU,List.foldl_append]
  obtain⟨o,c0,c1⟩:=Z N (k+1) w (pre++[⟨aEL x.k y.k,x.U*y.U⟩]) post a2 (by omega) (by rw[cs];exact cc) (by rw[A];simp) (by omega);exact⟨o,by simpa using c0,c1⟩
theorem aEp{E:cr}(w:z3 u E K D)(e:gx)(k:cA E p ps)(z:cA E q qs)(A:ps.length<100)(B:qs.length<100)(C:(eK aEL ps qs).length<400)(G:∀m∈eK aEL ps qs,K m.k)(H:wr u E D [] (eK aEL ps qs))
 (I:∀x∈ps,∀y∈qs,F4 u E aEL x.k y.k/\xY u E x.U y.U):∀(c:bE) (N i:Nat) (v:an),ps.drop i=c->i<=ps.length->cA E v (hU [] (eK aEL (ps.take i) qs))->c.length<N->
 ∃g,cA E g (hU [] (eK aEL ps qs))/\du 0 1 6 7 N (wl u b e) p q v (ao i) h=e g h:=by
 intro c;induction c with
 |nil=>intro N i v d hi j n;obtain⟨N,rfl⟩:=cN N;have o:ps.length<=i:=pZ.1 d;rw[pn o] at j;refine⟨v,j,?_⟩;rw[fj];generalize du 0 1 6 7 N (wl u b e)=j4;rw[wl,k.len,dS,bO (a:=(i:Int)) (b:=(ps.length:Int)),bk,a6]
 |cons x c J=>
  intro N i v d o j n;obtain⟨N,rfl⟩:=cN N;have hi:i<ps.length:=by
   rcases kW i ps.length with h|h
   ·exact h
   ·rw[lH h] at d;cases d
  rw[iK hi] at d;have r:ps[i]=x:=(kf d).1;have t:ps.drop (i+1)=c:=(kf d).2;have l:ps[i]? =some x:=by rw[dC hi,r]
  simp only[h9] at n;have L:ps=ps.take i++x::c:=by rw[<-t,<-r,<-iK hi,Es]
  have M:eK aEL ps qs=eK aEL (ps.take i) qs++(qs.map λy=>(⟨aEL x.k y.k,x.U*y.U⟩:cw))++eK aEL c qs:=by
   conv=>lhs;rw[L]
   simp[eK,List.flatMap_append]
  rw[fj,wl,k.len,dS,bO (a:=(i:Int)) (b:=(ps.length:Int)),bN,bL,aaR,bF,show(ao 0:an)=ao ((0:Nat):Int) from rfl];obtain⟨O,P,Q⟩:=aDa (b:=b) (u:=u) (E:=E) w (λR S T W X=>bR W aS λZ=>du 0 1 6 7 N (wl u b e) R S T Z X) (h:=h) k z l A B C G H (I x (dr l)) qs 1000000 0 v (eK aEL (ps.take i) qs) (eK aEL c qs) rfl (ik _) j M (by omega);rw[Q,bK,cK (a:=(i:Int)) (b:=1)];have a1:eK aEL (ps.take (i+1)) qs=eK aEL (ps.take i) qs++(qs.map λy=>(⟨aEL x.k y.k,x.U*y.U⟩:cw)):=by rw[oG,l];simp[eK,List.flatMap_append]
  obtain⟨g,a2,a3⟩:=J N (i+1) O t (by omega) (by rw[a1];exact P) (by omega);exact⟨g,a2,a3⟩
theorem axl{v:an}{es:aY}(a:dw 8 v es)(c:h.bQ=[]):∃s d,Qz 0 v (ao 0) h= .ok (.a0 [v,ao 0]) 0 s d:=by have e:Qz 0 v (ao 0) h=aD h.aj v λg s4=>aD h.aj (ao 0) λi j=>dJ 0 (.a0 [g,i]) (aA s4 (aA j [])) h:=rfl;rw[e,a.dU,b7,av,av];exact o0 c
theorem aju{E:cr}(i:z3 u E K D)(j:GS u E K D)(l:cA E p ps)(n:cA E q qs)(o:ps.length<100)(r:qs.length<100)(H:(eK aEL ps qs).length<=60)(c:∀m∈eK aEL ps qs,K m.k)(t:wr u E D [] (eK aEL ps qs))
 (w:∀x∈ps,∀y∈qs,F4 u E aEL x.k y.k/\xY u E x.U y.U)(z:∀k,D (cx (eK aEL ps qs) k)):
 ∃v,cA E v (hU [] (eK aEL ps qs))/\∃s d,CH u [p,q] 0 .nil= .ok (.a0 [v,ao 0]) 0 s d:=by
 obtain⟨v,a,A⟩:=aEp (b:=0) i (Im u 0) (h:=ba 0 .nil) l n o r (by omega) c t w ps 1000000 0 .aE rfl (ik _) (.inl ⟨rfl,by simp[eK,hU]⟩) (by omega);have e:=wE (eK aEL ps qs) (ps:=[]) ⟨List.Pairwise.nil,by simp⟩;have B:=pP (eK aEL ps qs) [];have C:∀k,cx (hU [] (eK aEL ps qs)) k=cx (eK aEL ps qs) k:=λk=>by rw[yp];simp[cx,nV]
 have G:=j a e (λm g=>⟨pD _ (by simp) c m g,by rw[<-m7 e.g0 g,C];exact z _⟩) (by simp only[kT] at B;omega);rw[aCq,bF,show(ao 0:an)=ao ((0:Nat):Int) from rfl,A,Im,bg,a.dU,av,aT G,e2 _ _ a.eh,e3 _ _ a.eh];exact⟨v,a,axl a rfl⟩
end
end
section
variable{E:cr} {c:Rat} {ps:bE} {p:an} {h:aI}
section
variable[Tok] {u:Fn} {b:Nat}
theorem ajB(l:gx){s3:Nat}(k:cA E p ps)(hl:ps.length<1000)(D:∀m∈ps,xY u E m.U c):∀(j:bE) (N i:Nat) (o:an) (h:aI),ps.drop i=j->i<=ps.length->db b 2079 120 8 false h o (((ps.take i).map λm=>(⟨m.k,m.U*c⟩:cw)).map E.bd)->h.aj (b+3)= .box s3 (E.num c)->h.ar=b+4096->j.length<N->
 ∃o' h',db b 2079 120 8 false h' o' ((ps.map λm=>(⟨m.k,m.U*c⟩:cw)).map E.bd)/\eY b [2078,2079] h h'/\du 0 3 6 7 N (Bz u b l) p (.bn (b+3) s3 0) o (ao i) h=l o' h':=by
 intro j;induction j with
 |nil=>intro N i o h g hi r n x y;obtain⟨N,rfl⟩:=cN N;have A:ps.length<=i:=pZ.1 g;rw[pn A] at r;refine⟨o,h,r,.refl,?_⟩;rw[fj];generalize du 0 3 6 7 N (Bz u b l)=j4;rw[Bz,k.len,dS,bO (a:=(i:Int)) (b:=(ps.length:Int)),bk,a6]
 |cons m j G=>
  intro N i o h g A r n x y;obtain⟨N,rfl⟩:=cN N;have hi:i<ps.length:=by
   rcases kW i ps.length with h|h
   ·exact h
   ·rw[lH h] at g;cases g
  rw[iK hi] at g;have H:ps[i]=m:=(kf g).1;have I:ps.drop (i+1)=j:=(kf g).2;have q:ps[i]? =some m:=by rw[dC hi,H]
  have J:(ps.map E.bd)[i]? =some (E.bd m):=by rw[fo,q];rfl
  have K:p= .aQ 8 (ps.map E.bd):=by
   rcases k with⟨_,e⟩|e
   ·rw[oM] at e;subst e;simp at hi
   ·exact e
  have B:∀ob:Nat->dM,∀t:an->aw,cb ob 8 p (ao (i:Int)) t=t (.ep (E.bd m) 0):=λob t=>by rw[K,eE J]
  simp only[h9] at y;have L:0+0+7<=(E.bd m).length:=by rw[E.eG];omega
  obtain⟨s1,s,a1,h',M,w,C,O,P,Q⟩:=G8 (z:=fX) (d1:=2078) (d2:=2079) (aEU:=some [2078]) (aEV:=some [2079,2079]) (bytes:=136) (r1:=false) r (E.gw ⟨m.k,m.U*c⟩) (E.eG ⟨m.k,m.U*c⟩)
   (λo=>mN (by omega) rfl) (λo=>mN (by omega) rfl) (by omega) (by omega) (by omega) (by simp;omega) (by simp;omega)
  have R:=r.jv M (by simp);rw[fj,Bz,k.len,dS,bO (a:=(i:Int)) (b:=(ps.length:Int)),bN,bL,X9,bZ,aV (k.met _ _),aV,aN,B,ko,adF,aJ,aV,aN,ch,e8 L,show(0:Nat)+0=0 from rfl,E.jV,
   aJ,m1,aN,aH n,be (E.len c),aV (kd (E.eU _)),aV (kd (E.eU _)),aN,bm (E.eU _),bm (E.eU _),av,av,aT (D m (dr q)),bZ,aV (k.met _ _),aV,aN,B,ko,
   ZE,aJ,aV,aN,ch,bc (by simpa using E.kk m),Jq E ⟨m.k,m.U*c⟩,hL,aV (kd (E.gw _)),aN,O,av,P,R.met (by omega) rfl,qM,aN,Q,bK,cK (a:=(i:Int)) (b:=1)]
  have S:((ps.take (i+1)).map λm=>(⟨m.k,m.U*c⟩:cw)).map E.bd=((ps.take i).map λm=>(⟨m.k,m.U*c⟩:cw)).map E.bd++[E.bd ⟨m.k,m.U*c⟩]:=by rw[oG,q];simp
  rw[<-S] at C;obtain⟨o',T,W,X,ew⟩:=G N (i+1) _ h' I (by omega) C (by rw[w.aj _ λd Z=>by simp at Z;omega];exact n) (by rw[w.ar];exact x) (by omega);exact⟨o',T,W,w.trans X,ew⟩
theorem db.yt{d e sz:Nat}{x:an}{aED:aY}(r:db b d e sz false h x aED):∃v,dw sz v aED/\∀f:an->eH->aw,aD h.aj x f=f v []:=by
 rcases r with⟨rfl,rfl⟩|⟨s,rfl,a⟩
 ·exact⟨.aE,.inl ⟨rfl,rfl⟩,λf=>rfl⟩
 ·exact⟨.aQ sz aED,.inr rfl,λf=>Ip a f⟩
theorem ao8{v:an}{es:aY}(a:dw 8 v es)(e:h.bQ=[]):∃s d,IS 0 v (ao 0) h= .ok (.a0 [v,ao 0]) 0 s d:=by have g:IS 0 v (ao 0) h=aD h.aj v λi s4=>aD h.aj (ao 0) λj k=>dJ 0 (.a0 [i,j]) (aA s4 (aA k [])) h:=rfl;rw[g,a.dU,b7,av,av];exact o0 e
theorem VL(c:Rat):∀(l:bE) (k:Nat),cx (l.map λm=>(⟨m.k,m.U*c⟩:cw)) k=cx l k*c
 |[],k=>by simp[cx,xW]
 |m::r,k=>by
  simp only[gm,cx,VL c r,Rat.add_mul];split
  ·rfl
  ·rw[xW]
theorem arW{K:Nat->Prop}{D:Rat->Prop}(q:yX u E D)(r:GS u E K D)(w:cA E p ps)(y:ps.length<=60)(j:g7 ps)(z:∀m∈ps,K m.k)(A:∀m∈ps,xY u E m.U c)(k:c≠0)(B:D c)(C:∀m∈ps,D (m.U*c)):
 ∃v,cA E v (ps.map λm=>(⟨m.k,m.U*c⟩:cw))/\g7 (ps.map λm=>(⟨m.k,m.U*c⟩:cw))/\∃s d,Do u [p,.agg (E.num c)] 0 .nil= .ok (.a0 [v,ao 0]) 0 s d:=by
 have Q:(ba 0 .nil).ar=4096:=rfl;obtain⟨s3,l,a1,a2,G⟩:=Qc (t:=54) (b:=0) (d:=3) (wk:=none) (cs:=E.num c) (h:=ba 0 .nil) (λo=>gs 0 _) (by omega);have H:l.ar=0+4096:=by rw[a1.ar];rfl
 obtain⟨o',R,I,J,L⟩:=ajB (u:=u) (b:=0) (E:=E) (OS u 0) (s3:=s3) (c:=c) w (by omega) A ps 1000000 0 .aE l rfl (ik _) (.inl ⟨rfl,rfl⟩) a2 H (by omega);have n:g7 (ps.map λm=>(⟨m.k,m.U*c⟩:cw)):=⟨L9 _ (λa b M=>M) j.g0,λm i=>by
  obtain⟨x,g,rfl⟩:=gp.1 i;intro N;rcases Rat.mul_eq_zero.1 N with h|h
  ·exact j.jD x g h
  ·exact k h⟩
 obtain⟨v,e,O⟩:=I.yt;have P:= @r v (ps.map λm:cw=>(⟨m.k,m.U*c⟩:cw)) e n (λm i=>by obtain⟨x,g,rfl⟩:=gp.1 i;exact⟨z x g,C x g⟩) (by simpa using y)
 rw[Do,dE,Xd,G,aH a2,be (E.len c),bg,bm (E.eU _),av,aT (q c B),gK k,a6,Y2,bF,show(ao 0:an)=ao ((0:Nat):Int) from rfl,L,OS,bg,O,av,aT P,e2 _ _ e.eh,e3 _ _ e.eh];exact⟨v,e,n,ao8 e (by rw[J.bQ,a1.bQ];rfl)⟩
end
end
section
variable[Tok] {u:Fn} {b:Nat}
def IX(u:Fn)(E:cr)(k:Nat):Prop:=∃l:aY,dw 11 (E.di k) l/\l.length<=8/\Good 11 l/\(∀t∈l,aK u 199 [.agg t] (.F true))/\∀i s t,l[i]? =some s->l[i+1]? =some t->∃c:Int,-9000<c/\c<=0/\aK u 188 [.agg s,.agg t] (ao c)
def Pk(u:Fn)(E:cr)(D:Rat->Prop):Prop:=∀c,D c->aK u 39 [.agg (E.num c)] (.F true)
theorem au7{E:cr}(j3:mj){s4:Nat}{m:cw}{l:aY}{h:aI}(n:h.aj (b+4)= .box s4 (E.bd m))(p:dw 11 (E.di m.k) l)(bs:l.length<=8)(D:Good 11 l)(X:∀t∈l,aK u 199 [.agg t] (.F true))(Z:∀i s t,l[i]? =some s->l[i+1]? =some t->∃c:Int,-9000<c/\c<=0/\aK u 188 [.agg s,.agg t] (ao c))(X1 X2:an):
 ∀(d N k:Nat),d+k=l.length->d<N->du 0 3 4 5 N (x0 u b j3) X1 X2 (.bn (b+4) s4 0) (ao k) h=j3 X1 X2 (.bn (b+4) s4 0) h:=by
 have gH:(E.bd m)[0+7]? =some (E.di m.k):=by simpa using E.kk m
 intro d;induction d with
 |zero=>intro N k hd a1;obtain⟨N,rfl⟩:=cN N;rw[fj];generalize du 0 3 4 5 N (x0 u b j3)=j4;rw[x0,bp,bb,aH n,bc gH,p.len,bO,bk,a6]
 |succ d G=>
  intro N k hd a1;obtain⟨N,rfl⟩:=cN N;have q:k<l.length:=by omega
  have j:l[k]? =some l[k]:=dC q;generalize l[k]=t at j;obtain⟨t1,t2⟩:=D t (dr j);have a2:E.di m.k= .aQ 11 l:=by
   rcases p with⟨_,e⟩|e
   ·rw[e] at q;simp at q
   ·exact e
  have r:∀(i:Nat) (s:aB),l[i]? =some s->∀ob:Nat->dM,∀g:an->aw,cb ob 11 (E.di m.k) (ao (i:Int)) g=g (.ep s 0):=λi s a3 ob g=>by rw[a2,eE a3]
  rw[fj,x0,bp,bb,aH n,bc gH,p.len,bO,bN,bL,XN,bb,aJ,m1,aN,aH n,bc gH,bZ,aV (E.CJ _ _ _),aV,aN,r k t j,aa1,aJ,aV,aN,ch,be t1,aV (kd t2),aN,bm t2,av,aT (X t (dr j)),hj,iz,gB,fZ,bF,hH,adO];have H:∀I J K L M O P Q R S T W:an,∀z:Bool,EG u b (λw x y A B=>bR A aS λC=>du 0 3 4 5 N (x0 u b j3) w x y C B) (.F false) X1 X2 (.bn (b+4) s4 0) (ao k) (.F z) I J K L M O P Q R S T W (.F false) h=j3 X1 X2 (.bn (b+4) s4 0) h:=by
   intro I J K L M O P Q R S T W z;have a4:∀g:an->aw,bX (.F z) (.F false) bG g=g (.F false):=λg=>by cases z<;>rfl
   rw[EG,gB,fZ,a4,NO,dO,a6,bK,cK (a:=(k:Int)) (b:=1)];exact G N (k+1) (by omega) (by omega)
  by_cases c0:k=0
  ·subst c0;have a5:EG u b (λw x y A B=>bR A aS λC=>du 0 3 4 5 N (x0 u b j3) w x y C B) (.F false) X1 X2 (.bn (b+4) s4 0) (ao ((0:Nat):Int)) (.F false) ay ay ay ay ay ay ay ay ay ay ay ay ay h=j3 X1 X2 (.bn (b+4) s4 0) h:=by rw[EG,gB,fZ,dO,NO,dO,show(bG:an)= .F false from rfl,a6,bK,cK (a:=((0:Nat):Int)) (b:=1)];exact G N 1 (by omega) (by omega)
   rw[bk,gB,iE];exact a5
  ·have o:l[k-1]? =some (l[k-1]'(by omega)):=dC _;generalize (l[k-1]'(by omega))=s at o;obtain⟨s1,s2⟩:=D s (dr o);obtain⟨c,c1,c2,c3⟩:=Z (k-1) s t o (by rw[show k-1+1=k by omega];exact j);rw[bN,gB,fi,Ua,bb,aJ,m1,aN,aH n,bc gH,bK,e1 (a:=(k:Int)) (b:=1),show(k:Int)-1=((k-1:Nat):Int) by omega,bZ,aV (E.CJ _ _ _),aV,aN,r (k-1) s o,aJ,aV,aN,ch,be s1,bb,
    V2,aJ,m1,aN,aH n,bc gH,bZ,aV (E.CJ _ _ _),aV,aN,r k t j,aJ,aV,aN,ch,be t1,aV (kd s2),aV (kd t2),aN,bm s2,bm t2,av,av,aT c3,bF,hH,bk]
   rw[bK] at H;exact H _ _ _ _ _ _ _ _ _ _ _ _ true
end
section
variable{E:cr} {K:Nat->Prop} {D:Rat->Prop} {p:an} {ps:bE}
section
variable[Tok] {u:Fn} {b:Nat}
theorem apK{d t n:Nat}{wk:Option (List Nat)}{h:aI}{x z:aB}(j:x.length=n)(l:z.length=n)(g:b+d<h.ar)(i:∀o,gO b wk [(b+d,o)]=true):∃s a c,eY b [d] h c/\c.aj (b+d)= .box s x/\(∀k:dg,ci t b d wk z h k=k (.bn (b+d) s 0) a)/\∀k:dg,aX b wk n (.bn (b+d) s 0) (.agg x) a k=k .undef c:=by
 obtain⟨s,a,a1,a2,q⟩:=C7 (t:=t) (b:=b) (d:=d) (wk:=wk) (cs:=z) (h:=h) i g;have e:b+d<a.ar:=by rw[a1.ar];exact g
 refine⟨s,a,_,a1.trans (eY.eW (o:= .ae (.box s x)) e),kB e,q,λk=>?_⟩;rw[tD (b:=b) (n:=n) (off:=0) (wk:=wk) (new:=x) a2 j (by rw[l];omega) i e,show z.take 0++x++z.drop (0+n)=x by rw[tF,lH (by omega)];simp]
theorem fO(ob:ej)(c:Bool)(f:jm):aD ob (.F c) f=f (.F c) []:=rfl
theorem azY(P:py u E K)(y:yX u E D)(Q:Pk u E D)(R:∀k,K k->IX u E k)(q:Ba)(j:cA E p ps)(r:g7 ps)(A:∀m∈ps,K m.k/\D m.U)(hl:ps.length<=60):
 ∀(d N i:Nat) (h:aI),d+i=ps.length->d<N->h.ar=b+4096->∃h',eY b [4] h h'/\oq 0 3 N (Bq u b q) p (ao i) h=q h':=by
 intro d;induction d with
 |zero=>intro N i h S y B;obtain⟨N,rfl⟩:=cN N;refine⟨h,.refl,?_⟩;rw[AN];generalize oq 0 3 N (Bq u b q)=j2;rw[Bq,j.len,dS,bO,bk,a6]
 |succ d T=>
  intro N i h S cs B;obtain⟨N,rfl⟩:=cN N;have hi:i<ps.length:=by omega
  have c:ps[i]? =some ps[i]:=dC hi;generalize ps[i]=m at c;have C:=dr c;obtain⟨G,H⟩:=A m C;have w:(ps.map E.bd)[i]? =some (E.bd m):=by rw[fo,c];rfl
  have W:p= .aQ 8 (ps.map E.bd):=by
   rcases j with⟨_,e⟩|e
   ·rw[oM] at e;subst e;simp at hi
   ·exact e
  have I:∀(i:Nat) (m:cw),(ps.map E.bd)[i]? =some (E.bd m)->∀ob:Nat->dM,∀x:an->aw,cb ob 8 p (ao (i:Int)) x=x (.ep (E.bd m) 0):=λi m w ob x=>by rw[W,eE w]
  have J:0+0+7<=(E.bd m).length:=by rw[E.eG];omega
  have gH:(E.bd m)[0+7]? =some (E.di m.k):=by simpa using E.kk m
  have c4:=E.eG m;have c5:=E.gw m;have dq:=E.eU m.U;obtain⟨s4,h1,L,a1,a2,X,a4⟩:=apK (t:=120) (n:=8) (d:=4) (wk:=none) (z:=fX) (E.eG m) rfl (h:=h) (by omega) (λo=>gs b _);have Z:L.ar=b+4096:=by rw[a1.ar];exact B
  obtain⟨l,M,a5,ew,bs,bx⟩:=R m.k G;have c1:=Q m.U H;have c2:=y m.U H;have c3:m.U≠0:=r.jD m C;obtain⟨h',cc,O⟩:=T N (i+1) L (by omega) (by omega) Z;refine⟨h',a1.trans cc,?_⟩;rw[AN];rw[Bq,j.len,dS,bO,bN,bL,UN,I i m w,ch,be,X,a4,bb,aH,e8 J,show(0:Nat)+0=0 from rfl,E.jV,aav,bg,bm,av,aT,hj,iz,gB,fZ,bb,aH,e8 J,show(0:Nat)+0=0 from rfl,E.jV,bg,bm,av,aT,RL,dO,gK c3,gB,fZ,bb,aH,bc,M.len,AK,hH,bk,RH,dO,a6,ab3];rw[bF,show(ao 0:an)=ao ((0:Nat):Int) from rfl];rw[au7 _ a2 M a5 ew bs bx p (ao i) l.length 1000000 0 (by omega) (by omega)];by_cases c0:i=0
  ·subst c0;rw[KS,bF,bK,hH,bk,gB,iE,MY,dO,show(bG:an)= .F false from rfl,a6,cK];exact O
  ·have g:ps[i-1]? =some (ps[i-1]'(by omega)):=dC _;generalize (ps[i-1]'(by omega))=s at g;have cl:(ps.map E.bd)[i-1]? =some (E.bd s):=by rw[fo,g];rfl
   obtain⟨o,eR,cn,ee,em⟩:=P s m (A s (dr g)).1 G (.inl (by have:=(zJ.1 r.g0) (i-1) i (by omega) hi (by omega);rw[(e6.1 g).2,(e6.1 c).2] at this;omega))
   have en:o<0:=cn.2 (by have:=(zJ.1 r.g0) (i-1) i (by omega) hi (by omega);rw[(e6.1 g).2,(e6.1 c).2] at this;exact this)
   have eq:=E.eG s;have es:=E.gw s;rw[KS,bF,hH,bN,gB,fi,bK,e1 (a:=(i:Int)) (b:=1),show(i:Int)-1=((i-1:Nat):Int) by omega,acq,bZ,aV (j.met _ _),aV,aN,I (i-1) s cl,aJ,aV,aN,ch,be,aJ,m1,aN,aH,be,aV,aV,aN,bm,bm,av,av,aT,bF,ix,bk,MY,dR,a6,cK];exact O
theorem abd(e:py u E K)(g:yX u E D)(h:Pk u E D)(i:∀k,K k->IX u E k)(c:cA E p ps)(j:g7 ps)(l:∀m∈ps,K m.k/\D m.U)(n:ps.length<=60):
 ∃s d,Ej u [p] 0 .nil= .ok (.F true) 0 s d:=by
 obtain⟨h',a1,a2⟩:=azY (u:=u) (b:=0) e g h i (λo=>wv 0 dh o) c j l n ps.length 1000000 0 (ba 0 .nil) rfl (by omega) rfl;have q:∀a:aI,wv 0 dh a=dJ 0 (.F true) [] a:=λa=>rfl;rw[Ej,dK,Tt,c.len,dS,Bp,hH,bk,a6,Xt];rw[bF,show(ao 0:an)=ao ((0:Nat):Int) from rfl,a2,q];exact o0 (by rw[a1.bQ];rfl)
theorem auA{es:aY}(g:dw 8 p es)(l:aK u 175 [p] (.F true)):
 ∃s d,Cr u [p] 0 .nil= .ok (.a0 [p,ao 0]) 0 s d:=by
 have h:∀c e a,Ov 0 c e a=aD a.aj c λi s4=>aD a.aj e λj k=>dJ 0 (.a0 [i,j]) (aA s4 (aA k [])) a:=λc e a=>rfl;rw[Cr,dK,Uh,bg,g.dU,av,aT,hj,iz,a6];rw[h,bF];rw[g.dU,b7];rw[av,av];exact o0 rfl
end
end
section
variable{d t s e sz d' ee n off len bytes:Nat} {o:e9} {cs new:aB} {es ys:aY} {aEQ:Bool} {z:dM} {l rk:List Nat} {wk:Option (List Nat)} {y:an}
section
variable[Tok] {u:Fn} {b:Nat}
class b4 (h:aI) (b:outParam Nat):Prop where
 eq:b+4096<=h.ar
class da (h:aI):Prop where
 eq:h.bQ=[]
theorem b4.lt{h:aI}[u:b4 h b](a:d<4096):b+d<h.ar:=by have:=u.eq;omega
noncomputable def qk(h:aI)(b d t:Nat):Nat:=jG (iH (h.aj (b+d))) t
noncomputable def ri(h:aI)(b d:Nat):Nat:=Nat.add (iH (h.aj (b+d))) 1
noncomputable def aI.g4(h:aI)(b d:Nat)(o:e9):aI:=h.eW b (b+d) o
noncomputable def aI.fz(h:aI)(b d t:Nat)(cs:aB):aI:=h.g4 b d (.ae (.box (qk h b d t) cs))
noncomputable def aI.eP(h:aI)(b d:Nat)(cs:aB):aI:=h.g4 b d (.ae (.box (iH (h.aj (b+d))) cs))
noncomputable def aI.fm(h:aI)(b d e sz:Nat)(es:aY)(aEQ:Bool):aI:=h.g4 b d (.ae (.az (ri h b d) e sz es aEQ))
theorem Kf(h:aI)(b d:Nat)(o:e9):(h.g4 b d o).ar=h.ar:=by obtain⟨ub,s,a⟩:=h;rfl
instance{h:aI}{d:Nat}{o:e9}[u:b4 h b]:b4 (h.g4 b d o) b:=⟨by rw[Kf];exact u.eq⟩
instance{h:aI}{d t:Nat}{cs:aB}[u:b4 h b]:b4 (h.fz b d t cs) b:=inferInstanceAs (b4 (h.g4 b d _) b)
instance{h:aI}{d:Nat}{cs:aB}[u:b4 h b]:b4 (h.eP b d cs) b:=inferInstanceAs (b4 (h.g4 b d _) b)
instance{h:aI}{d e sz:Nat}{es:aY}{aEQ:Bool}[u:b4 h b]:b4 (h.fm b d e sz es aEQ) b:=inferInstanceAs (b4 (h.g4 b d _) b)
instance{aET:b1}:b4 (ba b aET) b:=⟨cY _⟩
instance{aET:b1}:da (ba b aET):=⟨rfl⟩
theorem ng{h:aI}(a:b+d<h.ar):eY b [d] h (h.g4 b d o):=eY.eW a
theorem amv{h:aI}[n:da h]:(h.g4 b d o).bQ=[]:=by obtain⟨ub,s,a⟩:=h;have e:a=[]:=n.eq;subst e;show @Bool.rec (λ_=>List Nat) [] [b+d] (Nat.blt (b+d) b)=[];rw[oW,bk]
instance{h:aI}{d:Nat}{o:e9}[n:da h]:da (h.g4 b d o):=⟨amv⟩
instance{h:aI}{d t:Nat}{cs:aB}[n:da h]:da (h.fz b d t cs):=inferInstanceAs (da (h.g4 b d _))
instance{h:aI}{d:Nat}{cs:aB}[n:da h]:da (h.eP b d cs):=inferInstanceAs (da (h.g4 b d _))
instance{h:aI}{d e sz:Nat}{es:aY}{aEQ:Bool}[n:da h]:da (h.fm b d e sz es aEQ):=inferInstanceAs (da (h.g4 b d _))
theorem atQ{h:aI}[b4 h b](a:d<4096:=by decide):(h.g4 b d o).aj (b+d)=o.ag:=kB (b4.lt a)
theorem fE{h:aI}[b4 h b](a:d<4096:=by decide):(h.fz b d t cs).aj (b+d)= .box (qk h b d t) cs:=kB (b4.lt a)
theorem gS{h:aI}{a:aB}[b4 h b](c:h.aj (b+d)= .box s a)(g:d<4096:=by decide):(h.eP b d cs).aj (b+d)= .box s cs:=(kB (b4.lt g)).trans (by rw[c];rfl)
theorem i9{h:aI}[b4 h b](a:d<4096:=by decide):(h.fm b d e sz es aEQ).aj (b+d)= .az (ri h b d) e sz es aEQ:=kB (b4.lt a)
theorem Dr{h:aI}[b4 h b](e:h.aj (b+d')=z)(i:d≠d':=by decide)(a:d<4096:=by decide):(h.g4 b d o).aj (b+d')=z:=by rw[(ng (b4.lt a)).aj _ λc g=>by simp at g;omega];exact e
theorem gF{h:aI}[b4 h b](e:h.aj (b+d')=z)(a:d≠d':=by decide)(c:d<4096:=by decide):(h.fz b d t cs).aj (b+d')=z:=Dr e a c
theorem gi{h:aI}[b4 h b](e:h.aj (b+d')=z)(a:d≠d':=by decide)(c:d<4096:=by decide):(h.eP b d cs).aj (b+d')=z:=Dr e a c
theorem ga{h:aI}[b4 h b](e:h.aj (b+d')=z)(a:d≠d':=by decide)(c:d<4096:=by decide):(h.fm b d ee sz es aEQ).aj (b+d')=z:=Dr e a c
theorem de{h:aI}[b4 h b](k:dg)(a:d<4096:=by decide):ci t b d none cs h k=k (.bn (b+d) (qk h b d t) 0) (h.fz b d t cs):=by have e:ci t b d none cs h k=eF (b+d) λq=>eF (jG (iH (h.aj q)) t) λs=>ky b none q (.ae (.box s cs)) h λh'=>k (.bn q s 0) h':=rfl;rw[e,fd,fd,td (gs b _) (b4.lt a)];rfl
theorem tw{h:aI}[b4 h b](k:dg)(c:eb l d=true:=by rfl)(a:d<4096:=by decide):ci t b d (some l) cs h k=k (.bn (b+d) (qk h b d t) 0) (h.fz b d t cs):=by have e:ci t b d (some l) cs h k=eF (b+d) λq=>eF (jG (iH (h.aj q)) t) λs=>ky b (some l) q (.ae (.box s cs)) h λh'=>k (.bn q s 0) h':=rfl;rw[e,fd,fd,td (mN a c) (b4.lt a)];rfl
theorem cy{h:aI}[b4 h b](k:dg)(a:d<4096:=by decide):dz t b d none (.agg cs) h k=k (.bn (b+d) (qk h b d t) 0) (h.fz b d t cs):=by have e:dz t b d none (.agg cs) h k=lG cs λcs=>ci t b d none cs h k:=rfl;rw[e,lu,de k a]
theorem dc{h:aI}[b4 h b](c:new.length=n:=by first|assumption|rfl)(a:h.aj (b+d)= .box s cs:=by repeat first|assumption|with_reducible first|exact fE|exact i9|exact pi|exact vl|apply gS|refine gF ?_|refine gi ?_|refine ga ?_|refine l5 ?_|refine rA ?_|refine rK ?_|refine vn ?_|refine j ?_|decide)(g:cs.length=n:=by first|assumption|rfl)(k:dg)(i:d<4096:=by decide):aX b none n (.bn (b+d) s 0) (.agg new) h k=k .undef (h.eP b d new):=by rw[tD (b:=b) (n:=n) (off:=0) (wk:=none) (new:=new) a c (by rw[g];omega) (λo=>gs b _) (b4.lt i),show cs.take 0++new++cs.drop (0+n)=new by rw[tF,lH (by omega)];simp];unfold aI.eP;rw[a];rfl
theorem hD{h:aI}[b4 h b](g:new.length=n:=by first|assumption|rfl)(a:h.aj (b+d)= .box s cs:=by repeat first|assumption|with_reducible first|exact fE|exact i9|exact pi|exact vl|apply gS|refine gF ?_|refine gi ?_|refine ga ?_|refine l5 ?_|refine rA ?_|refine rK ?_|refine vn ?_|refine p ?_|decide)(i:cs.length=n:=by first|assumption|rfl)(k:dg)(j:eb l d=true:=by rfl)(c:d<4096:=by decide):aX b (some l) n (.bn (b+d) s 0) (.agg new) h k=k .undef (h.eP b d new):=by rw[tD (b:=b) (n:=n) (off:=0) (wk:=some l) (new:=new) a g (by rw[i];omega) (λo=>mN c j) (b4.lt c),show cs.take 0++new++cs.drop (0+n)=new by rw[tF,lH (by omega)];simp];unfold aI.eP;rw[a];rfl
theorem GD{h:aI}[b4 h b](c:new.length=n:=by assumption)(a:h.aj (b+d)= .box s cs)(g:off+n<=cs.length:=by assumption)(k:dg)(i:d<4096:=by decide):aX b none n (.bn (b+d) s off) (.agg new) h k=k .undef (h.eP b d (cs.take off++new++cs.drop (off+n))):=by rw[tD (b:=b) (n:=n) (off:=off) (wk:=none) (new:=new) a c g (λo=>gs b _) (b4.lt i)];unfold aI.eP;rw[a];rfl
theorem gW{h:aI}[b4 h b](k:dg)(a:d<4096:=by decide):c6 b d none e sz len aEQ es [] h k=k (.az (b+d) (ri h b d) 0 len) (h.fm b d e sz es aEQ):=by have c:c6 b d none e sz len aEQ es [] h k=eF (b+d) λq=>eF (Nat.add (iH (h.aj q)) 1) λs=>lG es λes=>lk b none [(q,.az s e sz es aEQ)] h λh'=>k (.az q s 0 len) h':=rfl;rw[c,fd,fd,lu,K7 (gs b _) (b4.lt a)];rfl
theorem n5{h:aI}[b4 h b](k:dg)(c:eb l d=true:=by rfl)(a:d<4096:=by decide):c6 b d (some l) e sz len aEQ es [] h k=k (.az (b+d) (ri h b d) 0 len) (h.fm b d e sz es aEQ):=by have g:c6 b d (some l) e sz len aEQ es [] h k=eF (b+d) λq=>eF (Nat.add (iH (h.aj q)) 1) λs=>lG es λes=>lk b (some l) [(q,.az s e sz es aEQ)] h λh'=>k (.az q s 0 len) h':=rfl;rw[g,fd,fd,lu,K7 (mN a c) (b4.lt a)];rfl
def Pj(s e sz:Nat)(es:aY)(aEQ:Bool):e9:= .kr s e sz es.reverse aEQ
theorem afA(s e sz:Nat)(es:aY)(aEQ:Bool):(Pj s e sz es aEQ).ag= .az s e sz es aEQ:=by show dM.az s e sz (nx es.reverse) aEQ=_;rw[qL,qc]
noncomputable def aI.ow(h:aI)(b d s e sz:Nat)(es:aY)(aEQ:Bool):aI:=h.g4 b d (Pj s e sz es aEQ)
instance{h:aI}{d s e sz:Nat}{es:aY}{aEQ:Bool}[u:b4 h b]:b4 (h.ow b d s e sz es aEQ) b:=inferInstanceAs (b4 (h.g4 b d _) b)
instance{h:aI}{d s e sz:Nat}{es:aY}{aEQ:Bool}[n:da h]:da (h.ow b d s e sz es aEQ):=inferInstanceAs (da (h.g4 b d _))
theorem pi{h:aI}[b4 h b](a:d<4096:=by decide):(h.ow b d s e sz es aEQ).aj (b+d)= .az s e sz es aEQ:=(kB (b4.lt a)).trans (afA _ _ _ _ _)
theorem l5{h:aI}[b4 h b](e:h.aj (b+d')=z)(a:d≠d':=by decide)(c:d<4096:=by decide):(h.ow b d s ee sz es aEQ).aj (b+d')=z:=Dr e a c
theorem Gm{h:aI}{aED:aY}[b4 h b](a:h.aj (b+d)= .az s e sz aED aEQ)(c:∀f:aY->aw,ke h.aj sz y f=f ys)(g:n=aED.length)
 (i:∀o,gO b wk [(b+d,o)]=true)(j:(aED.length+ys.length)*bytes<=1099511627776)(p:aED.length+ys.length<=1099511627776)(k:dg)(q:d<4096:=by decide):
 eC b d' wk e sz bytes (.az (b+d) s 0 n) y aEQ h k=k (.az (b+d) (Nat.add s 1) 0 (aED.length+ys.length)) (h.ow b d (Nat.add s 1) e sz (aED++ys) aEQ):=by
 subst g;have w:eC b d' wk e sz bytes (.az (b+d) s 0 aED.length) y aEQ h k=ke h.aj sz y λys=>lG ys λys=>eF (ea ys) λn=>
  bf (Nat.beq 0 0) (wm (h.Bo (b+d)) λx A B rs r=>bf (Nat.beq s x) (bf (Nat.beq A e) (bf (Nat.beq B sz)
   (@Bool.rec (λ_=>aw) (bf r (bf (Nat.ble aED.length (ea rs)) (lB b wk bytes (b+d) s e sz (lK (Nat.sub (ea rs) aED.length) rs) n ys r aED.length h k) .ax) .ax) (lB b wk bytes (b+d) s e sz rs n ys r aED.length h k) (Nat.beq aED.length (ea rs))) .ax) .ax) .ax) .ax:=rfl
 rw[w,c,lu,fd,gr,gb,cM,NN (by rw[aI.Hb];exact a),gb,cM,gb,cM,gb,cM,gr,AR,gb];show lB b wk bytes (b+d) s e sz aED.reverse ys.length ys aEQ aED.length h k=_;unfold lB;rw[fd,ek,dm (by rw[st,hZ];exact j),cM,ek,dm (by rw[hZ];exact p),cM,fd,sf,td (i _) (b4.lt q)];unfold aI.ow Pj;rw[List.reverse_append];rfl
theorem ak5{h:aI}[b4 h b](c:∀f:aY->aw,ke h.aj sz y f=f ys)(g:ys≠[])
 (i:∀o,gO b wk [(b+d,o)]=true)(j:ys.length*bytes<=1099511627776)(p:ys.length<=1099511627776)(k:dg)(r:d<4096:=by decide):
 eC b d wk e sz bytes .aE y aEQ h k=k (.az (b+d) (ri h b d) 0 ys.length) (h.ow b d (ri h b d) e sz ys aEQ):=by
 have w:eC b d wk e sz bytes .aE y aEQ h k=ke h.aj sz y λys=>lG ys λys=>eF (ea ys) λn=>
  (bf (Nat.ble (Nat.mul n bytes) 1099511627776) (bf (Nat.ble n 1099511627776)
   (@List.rec aB (λ_=>aw) (lk b wk [] h λh'=>k .aE h') (λ_ _ _=>eF (Nat.add b d) λq=>eF (Nat.add (iH (h.aj q)) 1) λaM=>nQ ys [] λrs=>ky b wk q (.kr aM e sz rs aEQ) h λh'=>k (.az q aM 0 n) h') ys) .ax) .ax):=rfl
 rw[w,c,lu,fd,gr,ek,dm (by rw[st];exact j),cM,ek,dm p,cM];cases ys with
 |nil=>exact absurd rfl g
 |cons a r0=>show(eF (b+d) λq=>eF (Nat.add (iH (h.aj q)) 1) λaM=>nQ (a::r0) [] λrs=>ky b wk q (.kr aM e sz rs aEQ) h λh'=>k (.az q aM 0 (a::r0).length) h')=_;rw[fd,fd,sf,nj,td (i _) (b4.lt r)];rfl
theorem gh{ob:ej}{a:Bool}{q:Nat}(c:ob q= .box s cs:=by repeat first|assumption|with_reducible first|exact fE|exact i9|exact pi|exact vl|apply gS|refine gF ?_|refine gi ?_|refine ga ?_|refine l5 ?_|refine rA ?_|refine rK ?_|refine vn ?_|refine h ?_|decide)(k:an->aw):fK ob (.bn q s off) a n k=kJ a n cs off k:=by have e:fK ob (.bn q s off) a n k=nA (ob q) λg cs=>bf (Nat.beq s g) (kJ a n cs off k) .ax:=rfl;rw[e,c,acZ,gb,cM]
theorem yg(ob:ej)(f:jm):aD ob .aE f=f .aE []:=rfl
theorem DQ(ob:ej)(a c:Nat)(f:jm):aD ob (.s a c) f=f (.s a c) []:=rfl
theorem mg(ob:ej)(sz:Nat)(es:aY)(f:jm):aD ob (.aQ sz es) f=f (.aQ sz es) []:=rfl
theorem cH(s o:Nat)(xs:aB)(z:aw)(h:eb rk d=true:=by rfl)(a:d<4096:=by decide):met b rk (.bn (b+d) s o::xs) z=met b rk xs z:=m1 a h s o xs z
theorem hO(s o l:Nat)(xs:aB)(z:aw)(h:eb rk d=true:=by rfl)(a:d<4096:=by decide):met b rk (.az (b+d) s o l::xs) z=met b rk xs z:=qM a h s o l xs z
theorem b9{r:an}{h:aI}[n:da h]:∃s d,dJ 0 r [] h= .ok r 0 s d:=o0 n.eq
theorem oA{a c:aB}(h:b8 a=true):b8 (a++c)=b8 c:=by
 induction a with
 |nil=>rfl
 |cons x r g=>cases x<;>first|exact g h|exact absurd h (by intro h;cases h)
end
end
section
variable{t o cs:aB} {k:Int} {p n a:an} {ob:ej} {sz:Nat} {es:aY}
section
variable[Tok] {u:Fn} {b:Nat}
def yb(p n:an):aB:=[aS,p,n,aL,.s 0 0,.s 0 0,.s 0 0,.s 0 0,.s 0 0,.aE,.aE]
def cW(o:aB):aB:=[cZ,.s 0 0,.s 0 0]++o++[.aE]
def bU(p n:an)(l:aY):aB:=[gg,p,n,aL,.s 0 0,.s 0 0,.s 0 0,.s 0 0,.s 0 0,.aE,.aQ 11 l]
structure fk (t:aB) (k:Int) (p n:an) (o:aB) (a:an):Prop where
 eq:t=[ao k,p,n]++o++[a]
 len:o.length=7
 e5:b8 t=true
theorem fk.aa(h:fk t k p n o a):t.length=11:=by rw[h.eq];simp[h.len]
theorem fk.eO(h:fk t k p n o a):t[0+0]? =some (ao k):=by rw[h.eq];rfl
theorem fk.cT(h:fk t k p n o a):t[0+1+1]? =some n:=by rw[h.eq];rfl
theorem fk.gP(h:fk t k p n o a):t[0+10]? =some a:=by rw[h.eq,sH (by simp[h.len])];simp[h.len]
theorem fk.t1(h:fk t k p n o a):(t.drop (0+1)).take 2=[p,n]:=by rw[h.eq];rfl
theorem fk.t3(h:fk t k p n o a):(t.drop (0+3)).take 7=o:=by rw[h.eq];simp[<-h.len]
theorem fk.eV(h:fk t k p n o a):0+3+7<=t.length:=by rw[h.aa];omega
theorem fk.eD(h:fk t k p n o a):0+1+2<=t.length:=by rw[h.aa];omega
theorem O3:∀{a c:aB},b8 (a++c)=true->b8 a=true/\b8 c=true
 |[],c,h=>⟨rfl,h⟩
 |x::r,c,h=>by cases x<;>first|exact O3 (a:=r) h|exact absurd h (by intro h;cases h)
theorem fk.b2(h:fk t k p n o a):b8 o=true:=(O3 (O3 (h.eq▸h.e5)).1).2
theorem hu(hi:es[0]? =some cs:=by rfl)(k:an->aw):cb ob sz (.aQ sz es) (ao 0) k=k (.ep cs 0):=by rw[show(0:Int)=((0:Nat):Int) from rfl];exact eE hi k
theorem of(hi:es[1]? =some cs:=by rfl)(k:an->aw):cb ob sz (.aQ sz es) (ao 1) k=k (.ep cs 0):=by rw[show(1:Int)=((1:Nat):Int) from rfl];exact eE hi k
theorem yH(h:b8 [p,n]=true):fk (yb p n) 1 p n dx .aE:=
 ⟨by rw[<-bK];rfl,rfl,by show b8 ([aS]++([p,n]++fX))=true;rw[oA rfl,oA h];rfl⟩
theorem ff:(cZ:an)=ao 2:=by rw[cX];rfl
theorem i2:(gg:an)=ao 3:=by rw[cX];rfl
theorem p7:(jf:an)=ao 4:=by rw[cX];rfl
theorem iA(c:o.length=7)(h:b8 o=true):fk (cW o) 2 (.s 0 0) (.s 0 0) o .aE:=
 ⟨by rw[<-ff];rfl,c,by show b8 ([cZ,.s 0 0,.s 0 0]++(o++[.aE]))=true;rw[oA rfl,oA h];rfl⟩
theorem ks{l:aY}(h:b8 [p,n]=true):fk (bU p n l) 3 p n dx (.aQ 11 l):=
 ⟨by rw[<-i2];rfl,rfl,by show b8 ([gg]++([p,n]++[aL,.s 0 0,.s 0 0,.s 0 0,.s 0 0,.s 0 0,.aE,.aQ 11 l]))=true;rw[oA rfl,oA h];rfl⟩
theorem fQ:(bG:an)= .F false:=rfl
theorem gE:(dh:an)= .F true:=rfl
end
end
section
variable{r l:bE} {K:Nat->Prop} {D:Rat->Prop} {h:aI}
def ei(l:bE):bE:=hU [] l
theorem rf(l:bE):g7 (ei l):=wE l ⟨List.Pairwise.nil,by simp⟩
theorem tv(l:bE)(k:Nat):cx (ei l) k=cx l k:=by unfold ei;rw[yp];simp[cx,Rat.zero_add]
theorem AD(h:g7 r)(a:∀k,cx r k=cx l k):r=ei l:=M7 h (rf l) λk=>by rw[a,tv]
theorem Yv(h:g7 r):ei r=r:=(AD h λ_=>rfl).symm
theorem LW{a:bE}(c:∀k,cx l k=cx a k):ei l=ei a:=AD (rf l) λk=>by rw[tv,c]
section
variable[Tok] {u:Fn} {b:Nat}
theorem akH{E:cr}(a:w5 u E K D){q s:Nat}{ms:bE}(c:q<h.ar)(d:2048<=q%4096)(e:h.aj q= .az s 120 8 (ms.map E.bd) true)(g:ms.length<=39)(i:ms≠[])(j:∀m∈ms,K m.k)
 (H:∀l m o,(l++m::o).Perm ms->l≠[]->(∀x∈l,x.k=m.k)->rd u E (lN l) m.U/\E.s m.k)(p:∀k,D (cx ms k)):
 ∃v h',cA E v (ei ms)/\(∀m∈ei ms,K m.k)/\(ei ms).length<=ms.length/\h'.bQ=h.bQ/\∀(n:Nat) (k:dg),n=ms.length->dd u 0 184 [.az q s 0 n] [] h k=k (.a0 [v,ao 0]) h':=by
 obtain⟨t,I⟩:=a;obtain⟨r,r1,w,y,z,fp⟩:= @t h.ar h.au q s ms c d (by rw[aI.vZ];exact e) g i j H p;obtain⟨A,J,B,L,C⟩:=Jf (b:=0) fp (ik _);obtain rfl:=AD r1 w;exact⟨_,A,.inr rfl,y,z,B,λn k G=>by subst G;exact C k⟩
theorem awA{v:an}{es:aY}(a:dw 8 v es)(c:h.bQ=[]):∃s d,Hn 0 v (ao 0) h= .ok (.a0 [v,ao 0]) 0 s d:=by have e:Hn 0 v (ao 0) h=aD h.aj v λg s4=>aD h.aj (ao 0) λi j=>dJ 0 (.a0 [g,i]) (aA s4 (aA j [])) h:=rfl;rw[e,a.dU,b7,av,av];exact o0 c
structure cr.AF (E:cr) (k0:Nat):Prop where
 kind:∀c,(E.num c)[0+0]? =some (ao 1)
 nil:E.di k0= .aE
theorem ate{E:cr}{a:Nat}(g:E.AF a)(i:w5 u E K D){c:Rat}(j:K a)(n:∀k,D (cx [⟨a,c⟩] k)):
 ∃v,cA E v (ei [⟨a,c⟩])/\∃s d,BA u [.agg (E.num c)] 0 .nil= .ok (.a0 [v,ao 0]) 0 s d:=by
 have y:=g.kind c;have o:∀f:aB->aw,cC 0 7 (.agg (E.num c)) fX f=f (E.bd ⟨a,c⟩):=λf=>by rw[tZ (E.len c),tF,kP,oc,oc,oc,oc,oc,oc,oc];unfold cr.bd;rw[g.nil];rfl
 have z:=E.gw ⟨a,c⟩;have el:=E.eG ⟨a,c⟩;rw[BA,dK,Zp,cy,bp,bb,aH,bc,bK,bF,dF,bk,a6,ack,aH,be (E.len _),o,hL,hX,av,gW];obtain⟨v,h',e,A,B,p,t⟩:=akH i (ms:=[⟨a,c⟩]) (h:=((ba 0 b1.nil).fz 0 1 54 (E.num c)).fm 0 2057 120 8 [E.bd ⟨a,c⟩] true) (q:=0+2057) (b4.lt (by decide)) (by omega) i9 (by simp) (by simp) (by simpa using j) (λl m C w x _=>by have:=w.length_eq;have G:0<l.length:=rH.2 x;simp at this;omega) n
 rw[t 1 _ rfl,e2 _ _ e.eh,e3 _ _ e.eh];exact⟨v,e,awA e (p.trans da.eq)⟩
end
end
section
variable{ob:ej} {sz q s e:Nat} {pre x y:aB} {es:aY}
section
variable[Tok] {u:Fn} {b:Nat}
theorem Zn{c n:Nat}{z:aB}(d:b8 pre=true)(i:pre.length+1=sz)(j:ob q= .az s e c es false)(k:n=es.length:=by rfl)(f:aY->eH->aw):
 cj ob sz 0 (.agg (pre++[.az q s 0 n])) (cG 1 z) f=f [pre++[.aQ c es]] []:=by
 subst k;have l:cj ob sz 0 (.agg (pre++[.az q s 0 es.length])) (cG 1 z) f=aD ob (.agg (pre++[.az q s 0 es.length])) λq e0=>lp q λnew=>bf (Nat.beq (ea new) sz) (bf (Nat.blt 0 (ea (cG 1 z))) (f (tO (cG 1 z) 0 new) e0) .ax) .ax:=rfl;have r:∀g,aD ob (.agg (pre++[.az q s 0 es.length])) g=bf (b8 (pre++[.az q s 0 es.length])) (g (.agg (pre++[.az q s 0 es.length])) []) (k3 ob (pre++[.az q s 0 es.length]) λqs us=>g (.agg qs) us):=λ_=>rfl;have w:∀g:aB->eH->aw,k3 ob [.az q s 0 es.length] g=jQ (ob q) λh e sz aEK aEQ=>bf (Nat.beq s h) (bf (Nat.ble (Nat.add 0 es.length) (ea aEK)) (g [.aQ sz (l3 aEK 0 es.length)] (@Bool.rec (λ_=>eH) [] ((q,.az h e sz aEK false)::[]) aEQ)) .ax) .ax:=λ_=>rfl;rw[l,r,Hl d,Kh,I6 ob _ _ d,w,j,qC,gb,cM,gr,ek,dm (by rw[hZ];omega),cM,zj,By,gr,lh,Bk,i,gb,cM];rfl
theorem Yn(b:Nat)(d:List Nat)(r:aB):∀{cs:aB},b8 cs=true->nU b d (cs++r)=nU b d r
 |[],_=>rfl
 |c::cs,h=>by
  have g:b8 cs=true/\∀l,nU b d (c::l)=nU b d l:=by cases c<;>first|exact⟨h,λ_=>rfl⟩|exact absurd h (by intro h;cases h)
  rw[pL,g.2,Yn b d r g.1]
theorem adY{d:Nat}{c:List Nat}(g:b8 pre=true)(i:d<4096:=by omega)(h:eb c d=true)(s o l:Nat)(xs:aB)(z:aw):met b c (.agg (pre++[.az (b+d) s o l])::xs) z=met b c xs z:=aV (by
 have e:nU b c [.az (b+d) s o l]=true:=by show cS (eb c (iD b (b+d))) true=true;rw[Gu i h];rfl
 show nU b c (pre++[.az (b+d) s o l])=true;rw[Yn b c _ g,e]) xs z
theorem gX{n:Nat}(c:ob q= .az s e sz es false:=by repeat first|assumption|with_reducible first|exact fE|exact i9|exact pi|exact vl|apply gS|refine gF ?_|refine gi ?_|refine ga ?_|refine l5 ?_|refine rA ?_|refine rK ?_|refine vn ?_|refine g ?_|decide)(d:n=es.length:=by rfl)(f:jm):aD ob (.az q s 0 n) f=f (.aQ sz es) []:=by subst d;exact Ip c f
theorem F0{v:an}{h:aI}(c:dw 8 v es)(g:h.bQ=[]):∃s d,pC 0 v (ao 0) h= .ok (.a0 [v,ao 0]) 0 s d:=by have i:pC 0 v (ao 0) h=aD h.aj v λj s4=>aD h.aj (ao 0) λk l=>dJ 0 (.a0 [j,k]) (aA s4 (aA l [])) h:=rfl;rw[i,c.dU,b7,av,av];exact o0 g
def fy(u:Fn)(f:Nat)(E:cr)(x:aB)(ps:bE):Prop:=∃v,cA E v ps/\aK u f x (.a0 [v,ao 0])
section
variable{E:cr} {t:aB} {p n a:an} {o:aB} {ps qs rs:bE}
theorem avJ(c:fk t 2 p n o a)(H:fy u 204 E [.agg o] ps):∃v,cA E v ps/\∃s d,lV u [.agg t] 0 .nil= .ok (.a0 [v,ao 0]) 0 s d:=by obtain⟨v,g,h⟩:=H;have eO:=c.eO;have eV:=c.eV;have i:=c.b2;rw[lV,dK,A0,cy,bp,bb,aH,bc,ff,bK,dj,bN,bL,XA,bb,aH,e8 eV,c.t3,bg,bm,av,aT];rw[e2 _ _ g.eh,e3 _ _ g.eh];exact⟨v,g,F0 g da.eq⟩
def fv:an:= .s 8 0x62696e6172792d2b
def eM:an:= .s 8 0x62696e6172792d2a
def jy:an:= .s 7 0x756e6172792d2d
def y3:an:= .s 7 0x756e6172792d2f
theorem adI(k:an->aw):bY fv (.s 8 0x62696e6172792d2b) k=k (.F true):=rfl
theorem acH(k:an->aw):bY eM (.s 8 0x62696e6172792d2b) k=k (.F false):=rfl
def cq(x:aB):Prop:=x.length=11/\b8 x=true
theorem RU(c:fk t 3 p fv o (.aQ 11 [x,y]))(j:cq x)(k:cq y)(B:aK u 98 [.agg t,fv,ao 2] (.F true))(l:fy u 154 E [.agg x] ps)(r:fy u 154 E [.agg y] qs)(A:∀v w,cA E v ps->cA E w qs->fy u 156 E [v,w] rs):
 ∃v,cA E v rs/\∃s d,lV u [.agg t] 0 .nil= .ok (.a0 [v,ao 0]) 0 s d:=by
 obtain⟨v,g,C⟩:=l;obtain⟨w,h,D⟩:=r;obtain⟨z,i,G⟩:=A v w g h;obtain⟨H,I⟩:=j;obtain⟨J,K⟩:=k;have eO:=c.eO;have cT:=c.cT;have gP:=c.gP;have tl:=c.aa;have L:=c.e5;have M:=g.eh;have N:=h.eh;have O:=i.eh;rw[lV,dK,A0,cy,bp,bb,aH,bc,ff,bK,dj,bk,a6,El,aH,be,bm,av,ff,aT,bL,bL,Ib,bp,bb,aH,bc,bF,hu,Ow,ch,be,bg,bm,av,aT,e2 _ _,e3 _ _,bF,dF,bk,a6,O6,bp,bb,aH,bc,bK,of,Ns,ch,be,bg,bm,av,aT,e2 _ _,e3 _ _,bF,dF,bk,a6,Qo,bb,bp,bb,aH,bc,adI,bL,abh,ce,g.dU,h.dU,av,av,aT,e2 _ _,e3 _ _];exact⟨z,i,F0 i da.eq⟩
theorem acf(c:fk t 3 p eM o (.aQ 11 [x,y]))(j:cq x)(k:cq y)(B:aK u 98 [.agg t,fv,ao 2] (.F false))(C:aK u 98 [.agg t,eM,ao 2] (.F true))(l:fy u 154 E [.agg x] ps)(r:fy u 154 E [.agg y] qs)(A:∀v w,cA E v ps->cA E w qs->fy u 118 E [v,w] rs):
 ∃v,cA E v rs/\∃s d,lV u [.agg t] 0 .nil= .ok (.a0 [v,ao 0]) 0 s d:=by
 obtain⟨v,g,D⟩:=l;obtain⟨w,h,G⟩:=r;obtain⟨z,i,H⟩:=A v w g h;obtain⟨I,J⟩:=j;obtain⟨K,L⟩:=k;have eO:=c.eO;have cT:=c.cT;have gP:=c.gP;have tl:=c.aa;have M:=c.e5;have N:=g.eh;have O:=h.eh;have P:=i.eh;rw[lV,dK,A0,cy,bp,bb,aH,bc,ff,bK,dj,bk,a6,El,aH,be,bm,av,ff,aT,a6,GY,aH,be,bm,av,ff,aT,bL,Ib,bp,bb,aH,bc,bF,hu,Ow,ch,be,bg,bm,av,aT,e2 _ _,e3 _ _,bF,dF,bk,a6,O6,bp,bb,aH,bc,bK,of,Ns,ch,be,bg,bm,av,aT,e2 _ _,e3 _ _,bF,dF,bk,a6,Qo,bb,bp,bb,aH,bc,acH,a6,Sz,ce,g.dU,h.dU,av,av,aT,e2 _ _,e3 _ _];exact⟨z,i,F0 i da.eq⟩
theorem aiz{m:aB}(c:fk t 3 p n o (.aQ 11 [x]))(i:cq x)(r:aK u 98 [.agg t,fv,ao 2] (.F false))(w:aK u 98 [.agg t,eM,ao 2] (.F false))(A:aK u 98 [.agg t,jy,ao 1] (.F true))(j:aK u 37 [ao (-1)] (.agg m))(B:b8 m=true)(k:fy u 154 E [.agg x] ps)(l:∀v,cA E v ps->fy u 155 E [v,.agg m] rs):
 ∃v,cA E v rs/\∃s d,lV u [.agg t] 0 .nil= .ok (.a0 [v,ao 0]) 0 s d:=by
 obtain⟨v,g,C⟩:=k;obtain⟨z,h,D⟩:=l v g;obtain⟨G,H⟩:=i;have eO:=c.eO;have gP:=c.gP;have tl:=c.aa;have I:=c.e5;have J:=g.eh;have K:=h.eh;rw[lV,dK,A0,cy,bp,bb,aH,bc,ff,bK,dj,bk,a6,El,aH,be,bm,av,ff,aT,a6,GY,aH,be,bm,av,ff,aT,a6,Hk,aH,be,bm,av,bK,aT,bL,Z7,bp,bb,aH,bc,bF,hu,Us,ch,be,bg,bm,av,aT,e2 _ _,e3 _ _,bF,dF,bk,a6,ad3,pE,aT j,ce,g.dU,bm,av,av,aT,e2 _ _,e3 _ _];exact⟨z,h,F0 h da.eq⟩
theorem ayK{k:Int}{g:Nat}(l:E.di g= .aQ 11 [t])(h:fk t k p n o a)(C:0<=k/\k<100/\k≠2)(D:aK u 98 [.agg t,fv,ao 2] (.F false))(G:aK u 98 [.agg t,eM,ao 2] (.F false))(c:aK u 98 [.agg t,jy,ao 1] (.F false))(H:aK u 98 [.agg t,y3,ao 1] (.F false))(I:aK u 37 [ao 1] (.agg (E.num 1))):
 ∃v,cA E v [⟨g,1⟩]/\∃s d,lV u [.agg t] 0 .nil= .ok (.a0 [v,ao 0]) 0 s d:=by
 have eO:=h.eO;have tl:=h.aa;have J:=h.e5;rw[lV,dK,A0,cy,bp,bb,aH,bc,ff,bK,dj,bk,a6,El,aH,be,bm,av,ff,aT,a6,GY,aH,be,bm,av,ff,aT,a6,Hk,aH,be,bm,av,bK,aT,a6,Tl,aH,be,bm,av,bK,aT,iE,N5,fQ,dO,a6,aT,abw,aJ,cH,aN,aH,be,aV,aN,hX,av,n5,LO E 1 _ (λf=>rfl),hL,adY (E.eU 1) (by omega) rfl,aN,Zn (E.eU 1) (by rw[E.len]) i9,av,n5];have r:E.num 1++[.aQ 11 [t]]=E.bd ⟨g,1⟩:=by unfold cr.bd;rw[l]
 rw[r];have w:∀i j c,pC 0 i j c=aD c.aj i λz s4=>aD c.aj j λA B=>dJ 0 (.a0 [z,A]) (aA s4 (aA B [])) c:=λ_ _ _=>rfl
 skip
 rw[w,gX,bF,b7,av,av];exact⟨_,.inr rfl,b9⟩
end
end
end
section
variable{x y s:aB} {p' n' o':_} {v:an}
section
variable[Tok] {u:Fn} {b:Nat}
section
variable{E:cr} {ps qs rs ss:bE}
theorem anq{m:aB}(l:cq x)(q:cq y)(r:aK u 37 [ao (-1)] (.agg m))(L:b8 m=true)(A:fy u 154 E [.agg x] ps)(B:fy u 154 E [.agg y] qs)(C:∀v,cA E v qs->fy u 155 E [v,.agg m] rs)(D:∀v w,cA E v ps->cA E w rs->fy u 156 E [v,w] ss):
 ∃v,cA E v ss/\∃s d,DG u [.agg x,.agg y] 0 .nil= .ok (.a0 [v,ao 0]) 0 s d:=by
 obtain⟨v,e,M⟩:=A;obtain⟨w,g,N⟩:=B;obtain⟨G,h,O⟩:=C w g;obtain⟨z,i,P⟩:=D v G e h;obtain⟨Q,R⟩:=l;obtain⟨S,T⟩:=q;have W:=e.eh;have X:=g.eh;have Z:=h.eh;have nz:=i.eh;have H:∀j k c,Ev 0 j k c=aD c.aj j λI s4=>aD c.aj k λJ K=>dJ 0 (.a0 [I,J]) (aA s4 (aA K [])) c:=λ_ _ _=>rfl;rw[DG,dE,aak,cy,cy,TN,aH,be,bg,bm,av,aT,e2 _ _,e3 _ _,bF,dF,bk,a6,abH,aH,be,bg,bm,av,aT,e2 _ _,e3 _ _,bF,dF,bk,a6,aek,pE,aT r,ce,g.dU,bm,av,av,aT,e2 _ _,e3 _ _,bF,dF,bk,a6,Tp,ce,e.dU,h.dU,av,av,aT,e2 _ _,e3 _ _];rw[H,i.dU,b7,av,av];exact⟨z,i,b9⟩
end
def eu:an:= .s 1 0x3c
def fe:an:= .s 3 0x6e6f74
def iB:an:= .s 5 0x657175616c
section
variable{E:cr} {ps:bE} {t:aB} {p n a:an} {o:aB}
theorem axz(c:fk t 3 p n o (.aQ 11 [x,y]))(g:cq x)(h:cq y)(i:aK u 98 [.agg t,eu,ao 2] (.F true))(H:fy u 99 E [.agg x,.agg y] ps):∃v,cA E v ps/\∃s d,qU u [.agg t] 0 .nil= .ok (.a0 [v,ao 2,ao 0]) 0 s d:=by have gP:=c.gP;have tl:=c.aa;have j:=c.e5;obtain⟨v,e,k⟩:=H;obtain⟨l,q⟩:=g;obtain⟨r,w⟩:=h;have z:=e.eh;rw[qU,dK,Km,cy,hL,hL,de,de,dc,GU,dc,aH,be,bm,av,ff,aT,bL,V5,bb,aJ,cH,aN,aH,bc,aV,aN,bF,hu,aJ,aV,aN,ch,be,bb,Uc,aJ,cH,aN,aH,bc,aV,aN,bK,of,aJ,aV,aN,ch,be,cH,aN,hD,cH,aN,hD,aH,be,aH,be,EF,ce,bm,bm,av,av,aT,e2 _ _,e3 _ _,bF,dF,bk,a6,yO,e.dU,ff,b7,b7,av,av,av];exact⟨v,e,b9⟩
theorem avg(c:fk t 3 p n o (.aQ 11 [s]))(e:fk s 3 p' n' o' (.aQ 11 [x,y]))(h:cq x)(i:cq y)(j:aK u 98 [.agg t,eu,ao 2] (.F false))(k:aK u 98 [.agg t,fe,ao 1] (.F true))(l:aK u 98 [.agg s,eu,ao 2] (.F true))(H:fy u 99 E [.agg y,.agg x] ps):∃v,cA E v ps/\∃s d,qU u [.agg t] 0 .nil= .ok (.a0 [v,ao 1,ao 0]) 0 s d:=by have gP:=c.gP;have tl:=c.aa;have q:=c.e5;have r:=e.gP;have sl:=e.aa;have w:=e.e5;obtain⟨v,g,z⟩:=H;obtain⟨A,B⟩:=h;obtain⟨C,D⟩:=i;have G:=g.eh;rw[qU,dK,Km,cy,hL,hL,de,de,dc,GU,dc,aH,be,bm,av,ff,aT,a6,PS,aH,be,bm,av,bK,aT,fi,Pv,bb,aH,bc,bF,hu,ch,be,bm,av,ff,aT,Hx,fQ,dR,bL,aef,bb,aJ,cH,aN,aH,bc,aV,aN,bF,hu,ko,aJ,aV,aN,ch,bc,acp,aV,aN,bF,bK,of,aJ,aV,aN,ch,be,bb,aJ,cH,aN,aH,bc,aV,aN,hu,ko,XK,aJ,aV,aN,ch,bc,aV,aN,bF,hu,aJ,aV,aN,ch,be,cH,aN,hD,cH,aN,hD,aH,be,aH,be,EF,ce,bm,bm,av,av,aT,e2 _ _,e3 _ _,bF,dF,bk,a6,yO,g.dU,bK,b7,b7,av,av,av];exact⟨v,g,b9⟩
theorem avh(c:fk t 3 p n o (.aQ 11 [s]))(e:fk s 3 p' n' o' (.aQ 11 [x,y]))(h:cq x)(i:cq y)(j:aK u 98 [.agg t,eu,ao 2] (.F false))(k:aK u 98 [.agg t,fe,ao 1] (.F true))(l:aK u 98 [.agg s,eu,ao 2] (.F false))(q:aK u 98 [.agg s,iB,ao 2] (.F true))(H:fy u 99 E [.agg x,.agg y] ps):∃v,cA E v ps/\∃s d,qU u [.agg t] 0 .nil= .ok (.a0 [v,ao 3,ao 0]) 0 s d:=by have gP:=c.gP;have tl:=c.aa;have r:=c.e5;have w:=e.gP;have sl:=e.aa;have z:=e.e5;obtain⟨v,g,A⟩:=H;obtain⟨B,C⟩:=h;obtain⟨D,G⟩:=i;have I:=g.eh;rw[qU,dK,Km,cy,hL,hL,de,de,dc,GU,dc,aH,be,bm,av,ff,aT,a6,PS,aH,be,bm,av,bK,aT,fi,Pv,bb,aH,bc,bF,hu,ch,be,bm,av,ff,aT,Hx,fQ,dR,a6,VB,aH,be,bm,av,bK,aT,fi,aaJ,bb,aH,bc,bF,hu,ch,be,bm,av,ff,aT,MM,fQ,dR,bL,YD,bb,aJ,cH,aN,aH,bc,aV,aN,bF,hu,ko,aJ,aV,aN,ch,bc,VV,aV,aN,bF,hu,aJ,aV,aN,ch,be,bb,aJ,cH,aN,aH,bc,aV,aN,hu,ko,YN,aJ,aV,aN,ch,bc,aV,aN,bK,of,aJ,aV,aN,ch,be,cH,aN,hD,cH,aN,hD,aH,be,aH,be,EF,ce,bm,bm,av,av,aT,e2 _ _,e3 _ _,bF,dF,bk,a6,yO,g.dU,i2,b7,b7,av,av,av];exact⟨v,g,b9⟩
end
theorem rq(r c d:an)(g:r≠ .undef:=by assumption)(k:an->aw):bS (.a0 [r,c,d]) 0 k=k r:=CG rfl (λx e=>by cases e;exact g rfl) (by simp) k
theorem rr(r c d:an)(g:r≠ .undef:=by assumption)(k:an->aw):bS (.a0 [r,c,d]) 1 k=k c:=CG rfl (λx e=>by cases e;exact g rfl) (by simp) k
theorem rN(r c d:an)(g:r≠ .undef:=by assumption)(k:an->aw):bS (.a0 [r,c,d]) 2 k=k d:=CG rfl (λx e=>by cases e;exact g rfl) (by simp) k
theorem PI{t:aB}{es:aY}{k:Int}(e:cq t)(c:dw 8 v es)(g:0<=k/\k<100)(h:aK u 35 [.agg t] (.a0 [v,ao k,ao 0])):∃s d,yo u [.agg t] 0 .nil= .ok (.a0 [v,ao k,.F (decide (k≠0))]) 0 s d:=by obtain⟨t1,t2⟩:=e;have i:=c.eh;rw[yo,dK,W3,cy,aH,be,UA,bg,bm,av,aT,rq _ _ _,rr _ _ _,rN _ _ _,bF,dj,fQ,bN,fi,dF,dR,P3,c.dU,b7,fO,av,av,av];exact b9
def h6(c:Nat):bE->Bool
 |[]=>true
 |[m]=>m.k==c
 |_=>false
theorem av8{E:cr}{g:Nat}(z:E.AF g){ps:bE}(i:∀m∈ps,m.k≠g->∃t l,E.di m.k= .aQ 11 (t::l)/\l.length<1000)(h:cA E v ps)(j:ps.length<1000)(D:aK u 37 [ao 0] (.agg (E.num 0))):∃w:aB,w.length=7/\∃s d,uL u [v] 0 .nil= .ok (.a0 [.agg w,.F (h6 g ps)]) 0 s d:=by
 match ps,h,j,i with
 |[],h,j,i=>
  have c:∀k:an->aw,bq false v k=k (ao 0):=λk=>h.len k;have A:=E.eU 0;rw[show h6 g []=true from rfl];rw[uL,dK,Cj,de,FB,c,bF,dj,bN,bL,aT,dc (E.len _),wu,gh,be (E.len _),bm,gE,fO,av,av];refine⟨_,?_,b9⟩
  first|rfl|exact E.len _
 |[m],h,j,i=>
  have c:∀k:an->aw,bq false v k=k (ao 1):=λk=>h.len k;rcases h with⟨_,e⟩|rfl
  ·cases e
  have G:(List.map E.bd [m])[0]? =some (E.bd m):=rfl;have gH:(E.bd m)[0+7]? =some (E.di m.k):=by simpa using E.kk m
  have B:0+0+7<=(E.bd m).length:=by rw[E.eG];omega
  have A:=E.eU m.U;by_cases q:m.k=g
  ·rw[show h6 g [m]=true by simp[h6,q]];have cS:E.di m.k= .aE:=by rw[q,z.nil]
   rw[cS] at gH;rw[uL,dK,Cj,de,FB,c,bF,dj,bk,a6,Gs,c,bF,bK,dj,fQ,bN,fi,hu,ko,ch,bc,hy,dj,Bs,fQ,dR,bN,bL,SM,bF,hu,ko,ch,e8 B,show(0:Nat)+0=0 from rfl,E.jV,dc (E.len _),wu,gh,be (E.len _),bm,gE,fO,av,av];refine⟨_,?_,b9⟩
   first|rfl|exact E.len _
  ·obtain⟨t,l,a1,a2⟩:=i m eS q;rw[show h6 g [m]=false by simp[h6,q]];rw[a1] at gH;rw[uL,dK,Cj,de,FB,c,bF,dj,bk,a6,Gs,c,bF,bK,dj,fQ,bN,fi,hu,ko,ch,bc,eA,h9,dj,Bs,fQ,dR,bk,a6,hL,dc,wu,gh,be,bm,fO,av,av];refine⟨_,?_,b9⟩
   first|rfl|exact E.len _
 |m::C::r,h,j,i=>
  have c:∀k:an->aw,bq false v k=k (ao ((r.length+2:Nat):Int)):=λk=>by rw[h.len,dS];rfl
  rw[show h6 g (m::C::r)=false from rfl];simp only[h9] at j;rw[uL,dK,Cj,de,FB,c,bF,dj,bk,a6,Gs,c,bF,bK,dj,fQ,bk,iE,Bs,fQ,dO,a6,hL,dc,wu,gh,be,bm,fO,av,av];refine⟨_,?_,b9⟩
  first|rfl|exact E.len _
end
end
section
variable{o:aB}
section
variable[Tok] {u:Fn} {b:Nat}
def bP:an:= .s 4 0x6c697370
theorem amu{t:aB}(c:cq t)(e:aK u 122 [fe,.aQ 11 [t]] (.agg (bU bP fe [t]))):∃s d,Cd u [.agg t] 0 .nil= .ok (.agg (bU bP fe [t])) 0 s d:=by obtain⟨g,h⟩:=c;have a:b8 [bP,fe]=true:=rfl;have i:=(ks (l:=[t]) a).e5;have tl:=(ks (l:=[t]) a).aa;rw[Cd,dK,aeB,cy,de,aH,be,hX,av,gW,gX,av,aT,dc,WG,gh,be,bj,bm,av];exact b9
theorem ah0(a:o.length=7)(c:b8 o=true):∃s d,Fk u [.agg o] 0 .nil= .ok (.agg (cW o)) 0 s d:=by
 have h:=(iA a c).e5;have tl:=(iA a c).aa;have e:∀f:aB->aw,cC 0 1 cZ ca f=f [cZ,(.s 0 0),(.s 0 0),aL,(.s 0 0),(.s 0 0),(.s 0 0),(.s 0 0),(.s 0 0),.aE,.aE]:=λf=>rfl;have g:∀f:aB->aw,cC 3 7 (.agg o) [cZ,(.s 0 0),(.s 0 0),aL,(.s 0 0),(.s 0 0),(.s 0 0),(.s 0 0),(.s 0 0),.aE,.aE] f=f (cW o):=λf=>by rw[tZ a];rfl
 rw[Fk,dK,Rx,cy,de,aH,be,e,g,hL,dc,XM,gh,be,bj,bm,av];exact b9
theorem avr(a:o.length=7)(c:b8 o=true)(e:aK u 185 [.agg o] (.agg (cW o))):∃s d,BY u [.agg o] 0 .nil= .ok (.agg (cW o)) 0 s d:=by have g:=(iA a c).e5;have tl:=(iA a c).aa;rw[BY,dK,abS,cy,de,aH,be,bg,bm,av,aT,dc,Xu,gh,be,bj,bm,av];exact b9
theorem ajv(a:o.length=7)(c:b8 o=true)(e:aK u 37 [ao 0] (.agg o)):∃s d,Da u [] 0 .nil= .ok (.agg o) 0 s d:=by rw[Da,akc,SY,de,bF,aT,dc,TG,gh,be,bj,bm,av];exact b9
end
end
section
variable{ob:ej} {sz e len q s:Nat} {x z:aB} {l es:aY} {h:aI} {aEQ:Bool} {aET:b1}
def mu[Tok](n:an)(l:aY)(t:aB):aB:=l.foldr (λx t=>bU bP n [x,t]) t
def mz[Tok](n:an):aY->aB
 |[]=>[]
 |[x]=>x
 |x::y::r=>bU bP n [x,mz n (y::r)]
theorem A9[Tok](n:an):∀{l:aY} {x:aB},l[l.length-1]? =some x->mz n l=mu n (l.take (l.length-1)) x
 |[],x,h=>by simp at h
 |[y],x,h=>by simp at h;subst h;rfl
 |y::z::r,x,h=>by
  have h':(z::r)[(z::r).length-1]? =some x:=by simpa using h
  show bU bP n [y,mz n (z::r)]=_;rw[A9 n h'];rfl
section
variable[Tok] {u:Fn} {b:Nat}
theorem lb(a:b8 x=true:=by assumption)(c:x.length=sz:=by assumption)(f:aY->eH->aw):cj ob sz 0 (.agg x) (cG 2 z) f=f [x,z] []:=by have e:cj ob sz 0 (.agg x) (cG 2 z) f=aD ob (.agg x) λq e0=>lp q λnew=>bf (Nat.beq (ea new) sz) (bf (Nat.blt 0 (ea (cG 2 z))) (f (tO (cG 2 z) 0 new) e0) .ax) .ax:=rfl;rw[e,bm a,By,gr,c,gb,cM];rfl
theorem lw{y:aB}(a:b8 y=true:=by assumption)(c:y.length=sz:=by assumption)(f:aY->eH->aw):cj ob sz 1 (.agg y) [x,z] f=f [x,y] []:=by have e:cj ob sz 1 (.agg y) [x,z] f=aD ob (.agg y) λq e0=>lp q λnew=>bf (Nat.beq (ea new) sz) (bf (Nat.blt 1 (ea [x,z])) (f (tO [x,z] 1 new) e0) .ax) .ax:=rfl;rw[e,bm a,By,gr,c,gb,cM];rfl
theorem BW{n x y:_}(a:b8 [bP,n]=true):cq (bU bP n [x,y]):=⟨(ks a).aa,(ks a).e5⟩
theorem B8:b8 [bP,fv]=true:=rfl
theorem z1:b8 [bP,eM]=true:=rfl
def o3(u:Fn)(f:Nat):Prop:=∀(n:an),(n=fv\/n=eM\/n=eu\/n=fe)->∀l,aK u f [n,.aQ 11 l] (.agg (bU bP n l))
theorem az7(p:o3 u 122)(a:gT){s3:Nat}{X2:an}(K:l.length<1000)(r:∀t∈l,cq t):∀(k N:Nat) (h:aI) (t:aB) [b4 h b],k<=l.length->k<N->cq t->h.aj (b+3)= .box s3 t->
 ∃h',eY b [3,2071] h h'/\h'.aj (b+3)= .box s3 (mu eM (l.take k) t)/\du 0 2 3 4 N (tK u b a) (.aQ 11 l) X2 (.bn (b+3) s3 0) (ao ((k:Int)-1)) h=a X2 (.bn (b+3) s3 0) h':=by
 intro k;induction k with
 |zero=>intro N h t ub w A i d;obtain⟨N,rfl⟩:=cN N;refine⟨h,.refl,d,?_⟩;rw[fj];generalize du 0 2 3 4 N (tK u b a)=j4;rw[tK,bF,ix,bk,a6]
 |succ k B=>
  intro N h t ub w A i d;obtain⟨N,rfl⟩:=cN N;have g:l[k]? =some (l[k]'(by omega)):=dC _;have j:=r _ (dr g);have o:mu eM (l.take (k+1)) t=mu eM (l.take k) (bU bP eM [l[k]'(by omega),t]):=by unfold mu;rw[oG,g,JO];rfl
  generalize (l[k]'(by omega))=x at g j o;obtain⟨L,M⟩:=j;obtain⟨t1,t2⟩:=i;obtain⟨C,D⟩:=BW (n:=eM) (x:=x) (y:=t) z1;have O:=p eM (.inr (.inl rfl)) [x,t];have E:∃c,eY b [3,2071] h c/\c.aj (b+3)= .box s3 (bU bP eM [x,t])/\du 0 2 3 4 (N+1) (tK u b a) (.aQ 11 l) X2 (.bn (b+3) s3 0) (ao (((k+1:Nat):Int)-1)) h=du 0 2 3 4 N (tK u b a) (.aQ 11 l) X2 (.bn (b+3) s3 0) (ao ((k:Int)-1)) c:=by rw[fj,show((k+1:Nat):Int)-1=(k:Int) by omega];generalize du 0 2 3 4 N (tK u b a)=j4;refine⟨(h.fm b 2071 56 11 [x,t] false).eP b 3 (bU bP eM [x,t]),((ng (b4.lt (by decide))).mono (by simp)).trans ((ng (b4.lt (by decide))).mono (by simp)),gS (ga d),?_⟩;rw[tK,bF,ix,bN,bL,aap,bZ,aV,aV,aN,bK,eE,aJ,aV,aN,ch,be,U2,aJ,cH,aN,aH,be,aV,aV,aN,lb,lw,av,av,n5,hO,aN,gX,av,aT,cH,aN,hD,e1]
  obtain⟨c,a1,a2,G⟩:=E
  haveI:b4 c b:=⟨by rw[a1.ar];exact ub.eq⟩
  obtain⟨h',H,I,J⟩:=B N c _ (by omega) (by omega) ⟨C,D⟩ a2;exact⟨h',a1.trans H,by rw[o];exact I,by rw[G];exact J⟩
theorem DV{n:an}(a:b8 [bP,n]=true):∀{l:aY} {t:aB},cq t->cq (mu n l t)
 |[],t,h=>h
 |x::l,t,h=>BW a
theorem asZ(w:o3 u 122)(y:l.length<1000)(r:∀t∈l,cq t)(A:l≠[]):∃s d,CI u [.aQ 11 l] 0 .nil= .ok (.agg (mz eM l)) 0 s d:=by
 have P:0<l.length:=rH.2 A;have i:l[l.length-1]? =some (l[l.length-1]'(by omega)):=dC _;have j:=r _ (dr i);have k:=A9 eM i;generalize (l[l.length-1]'(by omega))=x at i j k;have B:cq (mz eM l):=by rw[k];exact DV z1 j
 have C:=k.symm;obtain⟨D,E⟩:=j;have G:∀a:an->aw,cP (ao (l.length:Int)) (ao 2) a=a (ao (((l.length-1:Nat):Int)-1)):=λa=>by rw[e1,show(l.length:Int)-2=((l.length-1:Nat):Int)-1 by omega]
 have H:∀a:an->aw,cP (ao (l.length:Int)) (ao 1) a=a (ao ((l.length-1:Nat):Int)):=λa=>by rw[e1,show(l.length:Int)-1=((l.length-1:Nat):Int) by omega]
 have I:∀(h:aI) (s3 s2:Nat) (Z:aB),b4 h 0->da h->h.aj (0+3)= .box s3 x->h.aj (0+2)= .box s2 Z->Z.length=11->∃s d,du 0 2 3 4 1000000 (tK u 0 λc n g=>aW g.aj true 11 n λo=>aX 0 none 11 c o g λx p=>JP 0 c p) (.aQ 11 l) (.bn (0+2) s2 0) (.bn (0+3) s3 0) (ao (((l.length-1:Nat):Int)-1)) h= .ok (.agg (mz eM l)) 0 s d:=by
  intro h s3 s2 Z J K L M Q;obtain⟨h',a1,a2,N⟩:=az7 (b:=0) w (λc n g=>aW g.aj true 11 n λo=>aX 0 none 11 c o g λx p=>JP 0 c p) (X2:= .bn (0+2) s2 0) y r (l.length-1) 1000000 h x (by omega) (by omega) ⟨D,E⟩ L
  haveI:b4 h' 0:=⟨by rw[a1.ar];exact J.eq⟩
  haveI:da h':=⟨by rw[a1.bQ];exact K.eq⟩
  have R:h'.aj (0+2)= .box s2 Z:=by rw[a1.aj _ λd O=>by simp at O;omega];exact M
  rw[N];rw[C] at a2;obtain⟨r1,S⟩:=B;rw[aH,be,dc,JP,gh,be,bj,bm,av];exact b9
 rw[CI,dK,acV,de,eA,bK,H,eE,aec,ch,be,de,dc,eA,ff,G];exact I _ _ _ _ inferInstance inferInstance (gS fE) (gi (gF fE)) rfl
def ww(a:aw)(b:Nat)(aET:b1)(e sz len:Nat)(es:aY)(aEQ:Bool):Prop:=
 ∃c d q s,a= .ok (.az q s 0 len) c d []/\b<=q/\q<c/\b<=c/\cE c d q= .az s e sz es aEQ/\∀k,k<b->cE c d k=cE b aET k
theorem YQ{f:Nat}{ps:aB}(H:ww (u f ps h.ar h.au) h.ar h.au e sz len es aEQ):
 ∃h' q s,h.ar<=h'.ar/\h'.aj q= .az s e sz es aEQ/\(∀k,k<h.ar->h'.aj k=h.aj k)/\h'.bQ=h.bQ/\h.ar<=q/\q<h'.ar/\∀k:dg,dd u b f ps [] h k=k (.az q s 0 len) h':=by
 obtain⟨a,d,q,s,i,j,n,g,o,p⟩:=H;obtain⟨ub,a8,c⟩:=h;have r:u f ps ub a8= .ok (.az q s 0 len) a d []:=i;refine⟨.mk a d c,q,s,g,o,λk t=>p k t,rfl,j,n,λk=>?_⟩;have zI:dd u b f ps [] (.mk ub a8 c) k=jT b ub c k (u f ps ub a8):=rfl;rw[zI,r];have w:jT b ub c k (.ok (.az q s 0 len) a d [])=bf (Nat.ble ub a) (k (.az q s 0 len) (.mk a d c)) .ax:=rfl;have y:ub<=a:=g;rw[w,ek,dm y,cM]
theorem Sy(c:b<=q)(a:q<h.ar)(g:b<=h.ar)(i:h.aj q= .az s e sz es aEQ)(j:h.bQ=[])(n:∀k,k<b->h.aj k=cE b aET k):
 ww (mH b [.az q s 0 len] [] h) b aET e sz len es aEQ:=by
 obtain⟨ub,a8,d⟩:=h;have o:d=[]:=j;subst o;have p:mH b [.az q s 0 len] [] (.mk ub a8 [])= @Bool.rec (λ_=>aw) (bf (Nat.ble (Nat.succ q) ub) (.ok (.az q s 0 len) ub a8 []) .ax) (.ok (.az q s 0 len) b (a8.drop b) []) (cS (Nat.ble (Nat.succ q) b) true):=rfl;have r:q<ub:=a;rw[p,ek (Nat.succ q) b,bk,ek,bN];exact⟨ub,a8,q,s,rfl,c,a,g,i,n⟩
theorem Ck{d d' bytes o l:Nat}{wk:Option (List Nat)}{y:an}(k:dg):eC b d wk e sz bytes (.az q s o l) y aEQ h k=eC b d' wk e sz bytes (.az q s o l) y aEQ h k:=rfl
theorem anf(sz:Nat)(es:aY)(k:an->aw):Fc false (.aQ sz es) k=k (.F false):=rfl
theorem aCO:gD (vv u [.aE] b aET) b aET .aE:=by have a:vv u [.aE] b aET=Fi b .aE (ba b aET):=rfl;rw[a,Fi];exact yR (by show b<=b+4096;omega) rfl λk c=>kz aET c
theorem apq(n:l.length<1000)(c:l≠[]):ww (vv u [.aQ 11 l] b aET) b aET 56 11 l.length l false:=by
 have g:cG 0 ca=[]:=rfl;rw[vv,dK,UB,anf,a6,gW];rw[g,Ck (d':=2053)];obtain⟨p,h',a1,a2,i⟩:=Jb (b:=b) (d:=2053) (e:=56) (sz:=11) (bytes:=176) (wk:=none) (aEQ:=false) (h:=(ba b aET).fm b 2053 56 11 [] false) (x:= .az (b+2053) (ri (ba b aET) b 2053) 0 0) (y:= .aQ 11 l) (aED:=[]) (ys:=l) (.inr ⟨_,rfl,i9⟩) (λf=>QH _ _ _ _) c (λo=>gs b _) (b4.lt (by decide)) (by simp;omega) (by simp;omega);rw[i,Fi];have r:h'.ar=b+4096:=by rw[a1.ar];exact Kf _ _ _ _
 simp only[kT,kM,kP] at a2 ⊢;refine Sy (by omega) (by omega) (by omega) a2 (by rw[a1.bQ];exact da.eq) λk j=>?_;rw[a1.aj k λd a=>by omega];have:=(ng (b:=b) (h:=ba b aET) (d:=2053) (o:= .ae (.az (ri (ba b aET) b 2053) 56 11 [] false)) (b4.lt (by decide))).aj k λd a=>by simp at a;omega
 exact this.trans (kz aET j)
end
end
section
variable{c Z:aB} {one:Bool} {l:aY} {h:aI} {s2:Nat} {v:an} {E:cr} {m:cw}
section
variable[Tok] {u:Fn} {b:Nat}
def mr[Tok](c:aB)(one:Bool)(l:aY):aY:=if l=[]\/one=false then cW c::l else l
def qF[Tok](c:aB)(one:Bool)(l:aY):aB:=mz eM (mr c one l)
def nT(v:an)(l:aY):Prop:=(v= .aE/\l=[])\/(v= .aQ 11 l/\l≠[])
theorem aqB(d:c.length=7)(e:b8 c=true)(g:∀t∈l,cq t):∀t∈mr c one l,cq t:=by
 intro t a;unfold mr at a;split at a
 ·rcases gy.1 a with rfl|h
  ·exact⟨(iA d e).aa,(iA d e).e5⟩
  ·exact g t h
 ·exact g t a
theorem MG{n:an}(d:b8 [bP,n]=true)(e:l≠[])(g:∀t∈l,cq t):cq (mz n l):=by have i:0<l.length:=rH.2 e;have a:l[l.length-1]? =some (l[l.length-1]'(by omega)):=dC _;rw[A9 n a];exact DV d (g _ (dr a))
theorem TZ:mr c one l≠[]:=by
 unfold mr;split
 ·simp
 ·rename_i h;intro e;exact h (.inl e)
theorem avC:(mr c one l).length<=l.length+1:=by unfold mr;split<;>simp
def Jr(u:Fn)(f:Nat):Prop:=∀l:aY,l.length<1000->(∀t∈l,cq t)->l≠[]->aK u f [.aQ 11 l] (.agg (mz eM l))
def aeO(u:Fn)(f:Nat):Prop:=(∀b aET,gD (u f [.aE] b aET) b aET .aE)/\∀b aET (l:aY),l.length<1000->l≠[]->ww (u f [.aQ 11 l] b aET) b aET 56 11 l.length l false
def q0(u:Fn)(f:Nat):Prop:=∀o:aB,o.length=7->b8 o=true->aK u f [.agg o] (.agg (cW o))
theorem VY(g:Jr u 241){L:aY}(k:b4 h 0)(n:da h)(o:h.aj (0+2)= .box s2 Z)(p:Z.length=11)(i:L.length<1000)(a:∀t∈L,cq t)(e:L≠[])(j:∀f,aD h.aj v f=f (.aQ 11 L) []):
 ∃s d,Cq u 0 (.bn (0+2) s2 0) v h= .ok (.agg (mz eM L)) 0 s d:=by
 obtain⟨r1,q⟩:=MG z1 e a;have r:=g L i a e;rw[Cq,bg,j,av,aT,dc,YI,gh,be,bj,bm,av];exact b9
theorem S1(g:Jr u 241)(i:q0 u 185){s1:Nat}(x:b4 h 0)(y:da h)(A:h.aj (0+1)= .box s1 (E.bd m))(j:h.aj (0+2)= .box s2 Z)(k:Z.length=11)(B:l.length<900)(n:∀t∈l,cq t)(p:∀o (f:aY->aw),ke (h.g4 0 2068 o).aj 11 v f=f l):
 ∃s d,QP u 0 (Cq u 0) (.bn (0+1) s1 0) v (.bn (0+2) s2 0) h= .ok (.agg (mz eM (cW (E.num m.U)::l))) 0 s d:=by
 have C:=i _ (E.len m.U) (E.eU m.U);have a:=iA (E.len m.U) (E.eU m.U);have D:=E.eU m.U;have cl:=a.aa;have e:=a.e5;have q:0+0+7<=(E.bd m).length:=by rw[E.eG];omega
 have r:∀f:aY->eH->aw,∀ob:Nat->dM,∀z,cj ob 11 0 (.agg (cW (E.num m.U))) (cG 1 z) f=f [cW (E.num m.U)] []:=λf ob z=>hX e cl f;rw[QP,bb,aH,e8 q,show(0:Nat)+0=0 from rfl,E.jV,bg,bm,av,aT,r,av,gW];rw[Ck (d':=2070),Gm (d:=2068) (d':=2070) (aED:=[cW (E.num m.U)]) i9 (λf=>p _ f) (by rfl) (λo=>gs 0 _) (by simp;omega) (by simp;omega) _];refine VY g inferInstance inferInstance (l5 (ga j)) k ?_ ?_ (by simp) (λf=>gX pi (by simp;omega) f)
 ·simp;omega
 ·intro t w;rcases gy.1 w with h|h
  ·subst h;exact⟨cl,e⟩
  ·exact n t h
theorem axi(k:Jr u 241)(A:q0 u 185)(B:aeO u 240)(J:nT (E.di m.k) l)(K:l.length<900)(C:∀t∈l,cq t)(O:aK u 37 [ao 1] (.agg (E.num 1)))(D:aK u 207 [.agg (E.num m.U),.agg (E.num 1)] (.F (decide (m.U=1)))):
 ∃s d,AL u [.agg (E.bd m)] 0 .nil= .ok (.agg (qF (E.num m.U) (decide (m.U=1)) l)) 0 s d:=by
 have P:=E.eG m;have mp:=E.gw m;have gH:(E.bd m)[0+7]? =some (E.di m.k):=by simpa using E.kk m
 have G:0+0+7<=(E.bd m).length:=by rw[E.eG];omega
 have Q:=E.eU m.U;have R:=E.eU 1;rcases J with⟨n,rfl⟩|⟨n,g⟩
 ·have p:∀(h:aI) (s1 s2:Nat) (Z:aB),b4 h 0->da h->h.aj (0+1)= .box s1 (E.bd m)->h.aj (0+2)= .box s2 Z->Z.length=11->∃s d,DO u 0 (.bn (0+1) s1 7) (.bn (0+1) s1 0) (.bn (0+2) s2 0) h= .ok (.agg (qF (E.num m.U) (decide (m.U=1)) [])) 0 s d:=by
   intro h s1 s2 Z a r w x i;rw[DO,aH,bc gH,n,yg,av];obtain⟨h',a1,a2⟩:=my (u:=u) (b:=0) (h:=h) (B.1 h.ar h.au)
   haveI:b4 h' 0:=⟨by rw[a1.ar];exact a.eq⟩
   haveI:da h':=⟨by rw[a1.bQ];exact r.eq⟩
   have y:h'.aj (0+1)= .box s1 (E.bd m):=by rw[a1.aj _ λd e=>by simp at e];exact w
   have j:h'.aj (0+2)= .box s2 Z:=by rw[a1.aj _ λd e=>by simp at e];exact x
   rw[a2];rw[hy,bF,dj,bN,lL,Ei,gE,dR,bL];exact S1 (E:=E) (m:=m) k A (h:=h') (l:=[]) inferInstance inferInstance y j i (by simp) (by simp) (λo f=>rfl)
  rw[AL,dK,Mt,cy,de,bb];refine p _ _ _ _ inferInstance inferInstance (gF fE) fE ?_;rfl
 ·have p:∀(h:aI) (s1 s2:Nat) (Z:aB),b4 h 0->da h->h.aj (0+1)= .box s1 (E.bd m)->h.aj (0+2)= .box s2 Z->Z.length=11->∃s d,DO u 0 (.bn (0+1) s1 7) (.bn (0+1) s1 0) (.bn (0+2) s2 0) h= .ok (.agg (qF (E.num m.U) (decide (m.U=1)) l)) 0 s d:=by
   intro h s1 s2 Z a r w x i;rw[DO,aH,bc gH,n,mg,av];obtain⟨h',q,s,a1,a2,H,a4,S,T,M⟩:=YQ (u:=u) (b:=0) (h:=h) (B.2 h.ar h.au l (by omega) g)
   haveI:b4 h' 0:=⟨by have:=a.eq;omega⟩
   haveI:da h':=⟨by rw[a4];exact r.eq⟩
   have y:h'.aj (0+1)= .box s1 (E.bd m):=by rw[H _ (by have:=a.eq;omega)];exact w
   have j:h'.aj (0+2)= .box s2 Z:=by rw[H _ (by have:=a.eq;omega)];exact x
   have W:0<l.length:=rH.2 g;have N:∀o (f:aY->aw),ke (h'.g4 0 2068 o).aj 11 (.az q s 0 l.length) f=f l:=λo f=>yq (by rw[(ng (b:=0) (h:=h') (d:=2068) (o:=o) (b4.lt (by decide))).aj q λd e=>by simp at e;have:=a.eq;omega];exact a2) f;rw[M];by_cases I:m.U=1
   ·rw[dm I] at D ⊢;rw[jw,bF,dj,bk,fZ,OA,bb,aJ,cH,aN,aH,e8 G,show(0:Nat)+0=0 from rfl,E.jV,bK,aT,aV,aV,aN,bm,bm,av,av,aT,hj,iz,Ei,gE,dO,a6];have z:mr (E.num m.U) true l=l:=by unfold mr;rw[if_neg (by simp[g])]
    unfold qF;rw[z];exact VY k (h:=h') (L:=l) inferInstance inferInstance j i (by omega) C g (λf=>gX a2 rfl f)
   ·rw[gK I] at D ⊢;rw[jw,bF,dj,bk,fZ,OA,bb,aJ,cH,aN,aH,e8 G,show(0:Nat)+0=0 from rfl,E.jV,bK,aT,aV,aV,aN,bm,bm,av,av,aT,hj,mG,Ei,gE,dO,bL];have z:mr (E.num m.U) false l=cW (E.num m.U)::l:=by unfold mr;rw[if_pos (by simp)]
    unfold qF;rw[z];exact S1 (E:=E) (m:=m) k A (h:=h') (l:=l) inferInstance inferInstance y j i K C N
  rw[AL,dK,Mt,cy,de,bb];refine p _ _ _ _ inferInstance inferInstance (gF fE) fE ?_;rfl
end
end
section
variable{E:cr} {T:cw->aB} {ps:bE} {v:an}
section
variable[Tok] {u:Fn} {b:Nat}
def jC[Tok](E:cr)(T:cw->aB):bE->aB
 |[]=>cW (E.num 0)
 |m::r=>mz fv ((m::r).map T)
theorem abI(E:cr)(T:cw->aB):jC E T []=cW (E.num 0):=rfl
theorem K9(h:ps≠[]):jC E T ps=mz fv (ps.map T):=by
 cases ps with
 |nil=>exact absurd rfl h
 |cons m r=>rfl
theorem XQ(h:∀m∈ps,cq (T m)):cq (jC E T ps):=by
 cases ps with
 |nil=>exact⟨(iA (E.len 0) (E.eU 0)).aa,(iA (E.len 0) (E.eU 0)).e5⟩
 |cons m r=>rw[K9 (by simp)];refine MG B8 (by simp) λt a=>?_;obtain⟨c,d,rfl⟩:=gp.1 a;exact h c d
theorem ayu(e:cA E v ps)(K:ps.length<1000)(o:o3 u 122)(p:∀m∈ps,aK u 186 [.agg (E.bd m)] (.agg (T m))/\cq (T m))(a:gT){s3:Nat}{X2:an}:∀(k N:Nat) (h:aI) (t:aB) [b4 h b],k<=ps.length->k<N->cq t->h.aj (b+3)= .box s3 t->
 ∃h',eY b [3,2078] h h'/\h'.aj (b+3)= .box s3 (mu fv ((ps.map T).take k) t)/\du 0 2 3 4 N (tq u b a) v X2 (.bn (b+3) s3 0) (ao ((k:Int)-1)) h=a X2 (.bn (b+3) s3 0) h':=by
 intro k;induction k with
 |zero=>intro N h t ub q r i g;obtain⟨N,rfl⟩:=cN N;refine⟨h,.refl,g,?_⟩;rw[fj];generalize du 0 2 3 4 N (tq u b a)=j4;rw[tq,bF,ix,bk,a6]
 |succ k w=>
  intro N h t ub q r i g;obtain⟨N,rfl⟩:=cN N;have d:ps[k]? =some (ps[k]'(by omega)):=dC _;have j:=p _ (dr d);generalize (ps[k]'(by omega))=m at d j;have l:(ps.map E.bd)[k]? =some (E.bd m):=by rw[fo,d];rfl
  have z:mu fv ((ps.map T).take (k+1)) t=mu fv ((ps.map T).take k) (bU bP fv [T m,t]):=by unfold mu;rw[oG,fo,d,JO];rfl
  obtain⟨L,M,O⟩:=j;obtain⟨t1,t2⟩:=i;obtain⟨A,B⟩:=BW (n:=fv) (x:=T m) (y:=t) B8;have P:=o fv (.inl rfl) [T m,t];have Q:=E.eG m;have mp:=E.gw m;rcases e with⟨R,C⟩|e
  ·rw[C] at l;cases l
  have D:∃c,eY b [3,2078] h c/\c.aj (b+3)= .box s3 (bU bP fv [T m,t])/\du 0 2 3 4 (N+1) (tq u b a) v X2 (.bn (b+3) s3 0) (ao (((k+1:Nat):Int)-1)) h=du 0 2 3 4 N (tq u b a) v X2 (.bn (b+3) s3 0) (ao ((k:Int)-1)) c:=by rw[fj,show((k+1:Nat):Int)-1=(k:Int) by omega];generalize du 0 2 3 4 N (tq u b a)=j4;subst e;refine⟨(h.fm b 2078 56 11 [T m,t] false).eP b 3 (bU bP fv [T m,t]),((ng (b4.lt (by decide))).mono (by simp)).trans ((ng (b4.lt (by decide))).mono (by simp)),gS (ga g),?_⟩;rw[tq,bF,ix,bN,bL,TR,bZ,aV,aV,aN,bK,eE,aJ,aV,aN,ch,be,aV,aN,bm,av,aT,SL,aJ,cH,aN,aH,be,aV,aV,aN,lb,lw,av,av,n5,hO,aN,gX,av,aT,cH,aN,hD,e1]
  obtain⟨c,a1,a2,G⟩:=D
  haveI:b4 c b:=⟨by rw[a1.ar];exact ub.eq⟩
  obtain⟨h',H,I,J⟩:=w N c _ (by omega) (by omega) ⟨A,B⟩ a2;exact⟨h',a1.trans H,by rw[z];exact I,by rw[G];exact J⟩
theorem avv(c:cA E v ps)(C:ps.length<1000)(D:o3 u 122)(t:∀m∈ps,aK u 186 [.agg (E.bd m)] (.agg (T m))/\cq (T m))(S:aK u 37 [ao 0] (.agg (E.num 0)))(G:q0 u 185):
 ∃s d,y9 u [v] 0 .nil= .ok (.agg (jC E T ps)) 0 s d:=by
 by_cases j:ps=[]
 ·subst j;have ev:v= .aE\/v= .aQ 8 []:=by
   rcases c with⟨e,_⟩|e
   ·exact .inl e
   ·exact .inr e
  have el:∀k:an->aw,bq false v k=k (ao 0):=λk=>c.len k;have W:=G _ (E.len 0) (E.eU 0);have w:=iA (E.len 0) (E.eU 0);have X:=E.eU 0;have cl:=w.aa;have cp:=w.e5;rw[abI];rw[y9,dK,OV,de,el,bF,dj,bN,bL,Vx,bF,aT,bg,bm,av,aT,dc,yF,gh,be,bj,bm,av];exact b9
 have a4:0<ps.length:=rH.2 j;have l:ps[ps.length-1]? =some (ps[ps.length-1]'(by omega)):=dC _;have y:=t _ (dr l);generalize (ps[ps.length-1]'(by omega))=m at l y;have H:(ps.map T)[(ps.map T).length-1]? =some (T m):=by rw[dS,fo,l];rfl
 have a5:(ps.map E.bd)[ps.length-1]? =some (E.bd m):=by rw[fo,l];rfl
 have o:=A9 fv H;rw[<-K9 j,dS] at o;have I:=o.symm;obtain⟨bs,z,A⟩:=y;have J:cq (jC E T ps):=by rw[o];exact DV B8 ⟨z,A⟩
 have K:v= .aQ 8 (ps.map E.bd):=by
  rcases c with⟨_,n⟩|c
  ·simp at n;exact absurd n j
  ·exact c
 have bx:=E.eG m;have mp:=E.gw m;have n:∀a:an->aw,cP (ao (ps.length:Int)) (ao 2) a=a (ao (((ps.length-1:Nat):Int)-1)):=λa=>by rw[e1,show(ps.length:Int)-2=((ps.length-1:Nat):Int)-1 by omega]
 have L:∀a:an->aw,cP (ao (ps.length:Int)) (ao 1) a=a (ao ((ps.length-1:Nat):Int)):=λa=>by rw[e1,show(ps.length:Int)-1=((ps.length-1:Nat):Int) by omega]
 have B:∀(h:aI) (s3 s2:Nat) (Z:aB),b4 h 0->da h->h.aj (0+3)= .box s3 (T m)->h.aj (0+2)= .box s2 Z->Z.length=11->∃s d,du 0 2 3 4 1000000 (tq u 0 λg p i=>aW i.aj true 11 p λq=>aX 0 none 11 g q i λx r=>yF 0 g r) v (.bn (0+2) s2 0) (.bn (0+3) s3 0) (ao (((ps.length-1:Nat):Int)-1)) h= .ok (.agg (jC E T ps)) 0 s d:=by
  intro h s3 s2 Z M N O P hz;obtain⟨h',a1,a2,Q⟩:=ayu (b:=0) c C D t (λg p i=>aW i.aj true 11 p λq=>aX 0 none 11 g q i λx r=>yF 0 g r) (X2:= .bn (0+2) s2 0) (ps.length-1) 1000000 h (T m) (by omega) (by omega) ⟨z,A⟩ O
  haveI:b4 h' 0:=⟨by rw[a1.ar];exact M.eq⟩
  haveI:da h':=⟨by rw[a1.bQ];exact N.eq⟩
  have cc:h'.aj (0+2)= .box s2 Z:=by rw[a1.aj _ λd R=>by simp at R;omega];exact P
  rw[Q];rw[I] at a2;obtain⟨r1,cn⟩:=J;rw[aH,be,dc,yF,gh,be,bj,bm,av];exact b9
 rw[K] at B ⊢;rw[y9,dK,OV,de,eA,dS,bF,dj,bk,a6,Sh,eA,dS,bK,L,eE,ch,be,Vj,bg,bm,av,aT,de,dc,eA,dS,ff,n];refine B _ _ _ _ inferInstance inferInstance (gS fE) (gi (gF fE)) ?_;rfl
end
end
section
variable{d d' e sz:Nat} {aEQ:Bool} {h:aI} {x v:an} {aED rs:aY} {cs:aB} {E:cr} {A:Nat->aY} {ps:bE}
section
variable[Tok] {u:Fn} {b:Nat}
theorem xf:(tz:an)=ao 12:=by rw[cX];rfl
theorem db.fz{b t:Nat}[b4 h b](r:db b d e sz aEQ h x aED)(a:d'≠d:=by decide)(c:d'<4096:=by decide):db b d e sz aEQ (h.fz b d' t cs) x aED:=by
 rcases r with r|⟨s,r1,g⟩
 ·exact .inl r
 ·exact .inr ⟨s,r1,gF g a c⟩
theorem db.eP{b:Nat}[b4 h b](r:db b d e sz aEQ h x aED)(a:d'≠d:=by decide)(c:d'<4096:=by decide):db b d e sz aEQ (h.eP b d' cs) x aED:=by
 rcases r with r|⟨s,r1,g⟩
 ·exact .inl r
 ·exact .inr ⟨s,r1,gi g a c⟩
theorem db.fm{b a c:Nat}{aER:Bool}{es:aY}[b4 h b](r:db b d e sz aEQ h x aED)(g:d'≠d:=by decide)(i:d'<4096:=by decide):db b d e sz aEQ (h.fm b d' a c es aER) x aED:=by
 rcases r with r|⟨s,r1,j⟩
 ·exact .inl r
 ·exact .inr ⟨s,r1,ga j g i⟩
theorem tR{d1 bytes s1:Nat}{wk:Option (List Nat)}{r1:Bool}{y:aB}[ub:b4 h b][a:da h](r:db b d e sz aEQ h x aED)(c:h.aj (b+d1)= .az s1 e sz [y] r1)(g:∀o,gO b wk [(b+d,o)]=true)(l:aED.length<100000)(n:bytes<1000)(i:d<4096:=by decide):
 ∃s h',b4 h' b/\da h'/\eY b [d] h h'/\db b d e sz aEQ h' (.az (b+d) s 0 (aED.length+1)) (aED++[y])/\∀k:dg,eC b d wk e sz bytes x (.az (b+d1) s1 0 1) aEQ h k=k (.az (b+d) s 0 (aED.length+1)) h':=by
 obtain⟨s,h',a1,a2,j⟩:=Jb (bytes:=bytes) (wk:=wk) r (y:= .az (b+d1) s1 0 1) (ys:=[y]) (λf=>yq c f) (by simp) g (b4.lt i) (by have:(aED.length+1)*bytes<=100000*1000:=s5 (by omega) (by omega);simp only[Bk];omega) (by simp only[Bk];omega)
 exact⟨s,h',⟨by rw[a1.ar];exact ub.eq⟩,⟨by rw[a1.bQ];exact a.eq⟩,a1,.inr ⟨s,by simp,a2⟩,j⟩
theorem nT.len{l:aY}(h:nT v l)(k:an->aw):bq false v k=k (ao l.length):=by
 rcases h with⟨rfl,rfl⟩|⟨rfl,_⟩
 ·exact hy k
 ·exact eA _ _ k
def nI(A:Nat->aY)(ps:bE):Bool:=ps.any λm=>decide (4<(A m.k).length)
theorem axh(o:∀m∈ps,nT (E.di m.k) (A m.k)/\(A m.k).length<1000)(p:v= .aQ 8 (ps.map E.bd))(B:ps.length<1000):∀(n k N:Nat) (h:aI) [b4 h 0] [da h],n+k=ps.length->n<N->
 ∃s d,fM 5 6 7 N (wX u 0 (λc=>wF 0 bG c)) v (ao ps.length) (ao k) h= .ok (.F (nI A (ps.drop k))) 0 s d:=by
 intro n;induction n with
 |zero=>intro k N h ub q r t;obtain⟨N,rfl⟩:=cN N;rw[hI,lO];rw[wX,bO,bk,a6,wF,fQ,bj,fO,av];exact b9
 |succ n w=>
  intro k N h ub q r t;obtain⟨N,rfl⟩:=cN N;have g:ps[k]? =some (ps[k]'(by omega)):=dC _;have a:=o _ (dr g);have j:ps.drop k=ps[k]'(by omega)::ps.drop (k+1):=iK (by omega);generalize (ps[k]'(by omega))=m at g a j;have C:(ps.map E.bd)[k]? =some (E.bd m):=by rw[fo,g];rfl
  have gH:(E.bd m)[0+7]? =some (E.di m.k):=by simpa using E.kk m
  have D:=E.eG m;have y:nI A (ps.drop k)=(decide (4<(A m.k).length)||nI A (ps.drop (k+1))):=by rw[j];rfl
  rw[hI,y];have G:=a.2;have i:=λ(h:aI) (H:b4 h 0) (I:da h)=>w (k+1) N h (by omega) (by omega);have z:((k+1:Nat):Int)=(k:Int)+1:=by omega
  rw[z] at i;generalize fM 5 6 7 N (wX u 0 (λc=>wF 0 bG c))=j3 at i;subst p;by_cases l:4<(A m.k).length
  ·rw[dm l,Bool.true_or];rw[wX,bO,bN,bL,P5,bK,eE,ch,be,de,dc,bp,bb,aH,bc,a.1.len,p7,hH,bN,bL,wF,gE,bj,fO,av];exact b9
  ·rw[gK l,Fa];rw[wX,bO,bN,bL,P5,bK,eE,ch,be,de,dc,bp,bb,aH,bc,a.1.len,p7,hH,bk,a6,cK];exact i _ inferInstance inferInstance
theorem akt(c:∀m∈ps,nT (E.di m.k) (A m.k)/\(A m.k).length<1000)(a:cA E v ps)(g:ps.length<1000):
 ∃s d,yK u [v] 0 .nil= .ok (.F (nI A ps)) 0 s d:=by
 rcases a with⟨rfl,e⟩|a
 ·have:ps=[]:=by simpa using e
  subst this;rw[show nI A []=false from rfl];rw[yK,dK,NR,hy];rw[hQ,hI];rw[wX,bF,bO,bk,a6,wF,fQ,bj,fO,av];exact b9
 ·have:=axh (u:=u) c a g ps.length 0 1000000 (ba 0 .nil) (by omega) (by omega);subst a;rw[yK,dK,NR,eA,dS];rw[bF];exact this
theorem Il(u:Fn)(a:an)(b:Nat)(aET:b1):xu u [a] b aET=HX u b a (ba b aET):=rfl
theorem apl(q:∀t∈rs,t.length=37/\cq ((t.drop (0+26)).take 11))(W:rs.length<1000):∀(n k N:Nat) (h:aI) (aED:an) [b4 h 0] [da h],n+k=rs.length->n<N->db 0 2065 56 11 false h aED ((rs.take k).map λt=>(t.drop (0+26)).take 11)->
 ∃v,dw 11 v (rs.map λt=>(t.drop (0+26)).take 11)/\∃s d,du 3 7 8 9 N (y2 u 0 (λc g=>Ef 0 c g)) aED (.aQ 37 rs) (ao rs.length) (ao k) h= .ok v 0 s d:=by
 intro n;induction n with
 |zero=>intro k N h aED ub r w y a;obtain⟨N,rfl⟩:=cN N;rw[fj];rw[nY] at a;obtain⟨v,z,B⟩:=a.yt;refine⟨v,z,?_⟩;rw[y2,bO,bk,a6,Ef,bj,B,av];exact b9
 |succ n C=>
  intro k N h aED ub r w y a;obtain⟨N,rfl⟩:=cN N;have i:rs[k]? =some (rs[k]'(by omega)):=dC _;have l:=q _ (dr i);have p:(rs.take (k+1)).map (λt=>(t.drop (0+26)).take 11)=(rs.take k).map (λt=>(t.drop (0+26)).take 11)++[((rs[k]'(by omega)).drop (0+26)).take 11]:=by rw[oG,i,ly];rfl
  generalize (rs[k]'(by omega))=m at i l p;obtain⟨fC,X,a1⟩:=l;rw[fj];have j:=λ(h:aI) (aED:an) (D:b4 h 0) (G:da h)=>C (k+1) N h aED (by omega) (by omega);have H:((k+1:Nat):Int)=(k:Int)+1:=by omega
  rw[H] at j;have eX:((rs.take k).map (λt=>(t.drop (0+26)).take 11)).length<100000:=by simp;omega
  generalize du 3 7 8 9 N (y2 u 0 (λc g=>Ef 0 c g))=j4 at j;have I:0+26+11<=m.length:=by omega
  have Z:∀(h':aI),b4 h' 0->da h'->∀s1,db 0 2065 56 11 false h' aED ((rs.take k).map λt=>(t.drop (0+26)).take 11)->h'.aj (0+2064)= .az s1 56 11 [(m.drop (0+26)).take 11] false->
   ∃v,dw 11 v (rs.map λt=>(t.drop (0+26)).take 11)/\∃s d,(eC 0 2065 none 56 11 176 aED (.az (0+2064) s1 0 1) false h' λJ K=>(bR (ao k) (ao 1) λL=>j4 J (.aQ 37 rs) (ao rs.length) L K))= .ok v 0 s d:=by
   intro h' D G s1 M O;obtain⟨s',P,Q,R,a2,S,T⟩:=tR (bytes:=176) M O (λo=>gs 0 _) eX (by omega);rw[T];rw[cK];exact j P _ Q R (by rw[p];exact S)
  rw[y2,bO,bN,bL,Yf,bK,eE,ch,be,de,dc,bb,aH,e8 I,hX,av,gW];refine Z _ ?_ ?_ _ ?_ ?_
  ·infer_instance
  ·infer_instance
  ·((repeat(first|exact a|refine db.fm ?_ ?_ ?_|refine db.eP ?_ ?_ ?_|refine db.fz ?_ ?_ ?_))<;>decide)
  ·exact i9
theorem arV(a:∀ob (f:jm),aD ob x f=f x [])(l:aK u 57 [x] v)(c:dw 37 v rs)(g:∀t∈rs,t.length=37/\cq ((t.drop (0+26)).take 11))(i:rs.length<1000):
 ∃w,dw 11 w (rs.map λt=>(t.drop (0+26)).take 11)/\∃s d,xu u [x] 0 .nil= .ok w 0 s d:=by
 rcases c with⟨rfl,e⟩|rfl
 ·subst e;refine⟨.aE,.inl ⟨rfl,rfl⟩,?_⟩;rw[xu,dK,HX,bg,a,av,aT,hy];rw[hQ,fj];rw[y2,bF,bO,bk,a6,Ef,bj,yg,av];exact b9
 ·obtain⟨w,j,k⟩:=apl (u:=u) g i rs.length 0 1000000 (ba 0 .nil) .aE (by omega) (by omega) (.inl ⟨rfl,rfl⟩);refine⟨w,j,?_⟩;rw[xu,dK,HX,bg,a,av,aT,eA];rw[bF];exact k
end
end
end Go.Hf

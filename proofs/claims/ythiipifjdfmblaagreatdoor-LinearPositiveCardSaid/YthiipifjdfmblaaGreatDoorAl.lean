import Derived.Test.YthiipifjdfmblaaGreatDoorAk
set_option linter.all false
set_option maxRecDepth 100000
namespace Go.Hf
open Go.RowKit
section
variable{atf:b1}
section
variable[Tok] {u:Fn} {b:Nat}
theorem af3{n:Nat}(o:b%4096=0)(p:n<100000):(n=0/\gD (zK u [.aE,ao n] b atf) b atf .aE)\/(0<n/\∃es,q7 (zK u [.aE,ao n] b atf) b atf 120 8 0 es):=by
 have q:(ba b atf).bh=b+4096:=rfl;rw[zK,dE,ZA,bF,bO,bk,a6,ad4,Kd,tH,hy,e1 (a:=0) (b:=0),show(0:Int)-0=0 from rfl,e1 (a:=(n:Int)) (b:=0),Int.sub_zero,bF,hH];by_cases c:0<n
 ·rw[bN,bL,acQ,Kd,tH,aaP];obtain⟨s,h',g,j,l⟩:=SI (b:=b) (d:=2070) (e:=120) (sz:=8) (bytes:=136) (z:=fX) (h:=ba b atf) c (by omega) (by omega) (by omega);rw[l,hy,show(ao 0:an)=ao ((0:Nat):Int) from rfl,G9 j (λf=>uH 0 f) (λf=>uW n 0 f) (sm 0) (xW n),kM];have r:h'.bh=b+4096:=by rw[g.bh];rfl
  exact .inr ⟨c,_,Jc (by omega) (by omega) (by omega) (by omega) (by omega) j (by rw[g.bQ];rfl) λk i=>by rw[g.aj k λd hd=>by omega];exact kz atf i⟩
 ·rw[bk,a6];exact .inl ⟨by omega,yR (by omega) rfl λk i=>kz atf i⟩
def XP(u:Fn):Prop:=∀{b:Nat} {atf:b1} {n:Nat},b%4096=0->n<100000->(n=0/\gD (u 262 [.aE,ao n] b atf) b atf .aE)\/(0<n/\∃es,q7 (u 262 [.aE,ao n] b atf) b atf 120 8 0 es)
theorem avT(u:Fn)(a:an)(b:Nat)(atf:b1):xJ u [a] b atf=bq false a λc=>fs 0 3 9 10 11 1000000 (Fy u b (FO u b)) a aL a c aL (ba b atf):=by kernel_rfl
theorem aw7(G:XP u){p q:an}{es g:aY}(hb:b%4096=0)(j:dw 8 p es)(l:dw 8 q g)(h1:es.length+g.length<=1000):
 (es++g=[]/\gD (xJ u [.aQ 1 [[p],[q]]] b atf) b atf .aE)\/(es++g≠[]/\q7 (xJ u [.aQ 1 [[p],[q]]] b atf) b atf 120 8 (es++g).length (es++g)):=by
 have ar:(ba b atf).bh=b+4096:=rfl;have eO:([[p],[q]]:aY)[0]? =some [p]:=rfl;have dB:([[p],[q]]:aY)[1]? =some [q]:=rfl;have n:∀ob:Nat->dM,∀k:an->aw,cb ob 1 (.aQ 1 [[p],[q]]) (ao 0) k=k (.ep [p] 0):=λob k=>eE (i:=0) eO k;have r:∀ob:Nat->dM,∀k:an->aw,cb ob 1 (.aQ 1 [[p],[q]]) (ao 1) k=k (.ep [q] 0):=λob k=>eE (i:=1) dB k;have t:∀ob:Nat->dM,∀k:an->aw,aW ob false 1 (.ep [p] 0) k=k p:=λob k=>by rw[ch,bc]
 have w:∀ob:Nat->dM,∀k:an->aw,aW ob false 1 (.ep [q] 0) k=k q:=λob k=>by rw[ch,bc]
 have x:∀k:an->aw,bq false (.aQ 1 [[p],[q]]) k=k (ao 2):=λk=>eA _ _ k;have head:xJ u [.aQ 1 [[p],[q]]] b atf=FO u b (.aQ 1 [[p],[q]]) (ao ((es.length+g.length:Nat):Int)) (ba b atf):=by
  rw[avT,x,bF,show(1000000:Nat)=999997+1+1+1 from rfl,gI,Fy,bO (a:=0) (b:=2),bN,bL,Ps,n,t,j.len,cK (a:=0) (b:=(es.length:Int)),bF,bO,bk,a6,bK,cK (a:=0) (b:=1),show(0:Int)+1=1 from rfl,
   gI,Fy,bO (a:=1) (b:=2),bN,bL,Ps,r,w,l.len,cK (a:=0+(es.length:Int)) (b:=(g.length:Int)),bF,bO,bk,a6,bK,cK (a:=1) (b:=1),show(1:Int)+1=2 from rfl,
   gI,Fy,bO (a:=2) (b:=2),bk,a6,show(0:Int)+(es.length:Int)+(g.length:Int)=((es.length+g.length:Nat):Int) by omega]
 rw[head,FO,b7,av];have h:= @G (ba b atf).bh (ba b atf).au (es.length+g.length) (by omega) (by omega);rcases h with⟨c,h⟩|⟨c,H,h⟩
 ·obtain⟨B,z,I⟩:=my (b:=b) h;have J:es=[]:=uw (by omega);have bG:g=[]:=uw (by omega);subst J bG;rw[I,x,bF,show(1000000:Nat)=999997+1+1+1 from rfl,fj,yn,bO (a:=0) (b:=2),bN,bL,DU,n,t,Ik (λf=>j.iZ _ f) rfl,bK,cK (a:=0) (b:=1),show(0:Int)+1=1 from rfl,
   fj,yn,bO (a:=1) (b:=2),bN,bL,DU,r,w,Ik (λf=>l.iZ _ f) rfl,bK,cK (a:=1) (b:=1),show(1:Int)+1=2 from rfl,
   fj,yn,bO (a:=2) (b:=2),bk,a6]
  exact .inl ⟨rfl,yR (by rw[z.bh];omega) (by rw[z.bQ];rfl) λk A=>by rw[z.aj k λd hd=>by cases hd];exact kz atf A⟩
 ·obtain⟨B,C,s,a3,D,K,a4,a5,L,M,N,O⟩:=F7 (b:=b) h;have P:es++g≠[]:=by intro e;have:=oT List.length e;rw[OD,Md] at this;omega
  have E:∀o,gO b none [(C,o)]=true:=λo=>gs b _;obtain⟨s2,Q,t1,t2,t3,t4⟩:=sG (b:=b) (d:=2081) (wk:=none) (as0:=true) (bytes:=136) (y:=p) (ys:=es) (len:=0) L (xW _) (λf=>j.iZ _ f) E D (by omega) (by omega);have R:H.take 0++es=es:=by simp
  rw[R] at t3;have S:C<Q.bh:=by rw[t1.bh];exact D
  obtain⟨s3,T,F,W,ew,X⟩:=sG (b:=b) (d:=2081) (wk:=none) (as0:=true) (bytes:=136) (y:=q) (ys:=g) (len:=0+es.length) t3 (by omega) (λf=>l.iZ _ f) E S (by omega) (by omega);have Z:es.take (0+es.length)++g=es++g:=by simp
  rw[Z] at ew;rw[O,x,bF,show(1000000:Nat)=999997+1+1+1 from rfl,fj,yn,bO (a:=0) (b:=2),bN,bL,DU,n,t,t4,bK,cK (a:=0) (b:=1),show(0:Int)+1=1 from rfl,
   fj,yn,bO (a:=1) (b:=2),bN,bL,DU,r,w,X,bK,cK (a:=1) (b:=1),show(1:Int)+1=2 from rfl,
   fj,yn,bO (a:=2) (b:=2),bk,a6,show 0+es.length+g.length=(es++g).length by simp]
  have bd:T.bh=B.bh:=by rw[F.bh,t1.bh]
  refine .inr ⟨P,Jc (by omega) (by omega) K (by omega) (by omega) ew (by rw[W (by omega),t2 (by omega),N];rfl) λk A=>?_⟩;rw[F.aj k (by omega),t1.aj k (by omega),M k (by omega)];exact kz atf A
def Rl(u:Fn):Prop:=∀{b:Nat} {atf:b1} {p q:an} {es a:aY},b%4096=0->dw 8 p es->dw 8 q a->es.length+a.length<=1000->
 (es++a=[]/\gD (u 205 [.aQ 1 [[p],[q]]] b atf) b atf .aE)\/(es++a≠[]/\q7 (u 205 [.aQ 1 [[p],[q]]] b atf) b atf 120 8 (es++a).length (es++a))
end
end
section
variable{f sz:Nat} {atf:b1} {r v:an} {h:aI} {ob:ej} {es:aY}
section
variable[Tok] {u:Fn} {b:Nat}
theorem aC7:gD (vV u [.aE,ao 0,ao 0,dI f] b atf) b atf (.a0 []):=by rw[vV,GH,Ln,bK,cK (a:=0) (b:=1),show(0:Int)+1=1 from rfl,hQ,gI,sR,bO (a:=1) (b:=0),bk,a6];exact rp .refl (S:=[])
theorem aAF(c:∀{b:Nat} {atf:b1},gD (u 335 [.aE,ao 0,ao 0,dI f] b atf) b atf (.a0 [])):gD (xM u [.aE,ao 0,dI f] b atf) b atf (.a0 []):=by obtain⟨g,d,e⟩:=my (b:=b) (@c (ba b atf).bh (ba b atf).au);rw[ad0,GI,bF,hQ,mb,wG,qd (a:=20) (b:=0),bk,a6,w9,b7,b7,lY,av,av,av,e,hQ,fj,ym,bO (a:=20) (b:=0),bk,a6];exact rp d
theorem alF(a:∀{b:Nat} {atf:b1},gD (u 284 [.aE,ao 0,dI f] b atf) b atf (.a0 [])):gD (v9 u [.aE,dI f] b atf) b atf (.a0 []):=by obtain⟨e,c,d⟩:=my (b:=b) (@a (ba b atf).bh (ba b atf).au);rw[v9,dE,QR,hy,b7,lY,av,av,d];exact rp c
theorem aqY(e:∀{b:Nat} {atf:b1},gD (u 236 [.aE,dI 237] b atf) b atf (.a0 []))(g:∀{b:Nat} {atf:b1},gD (u 238 [.aE,dI 239] b atf) b atf .aE):gD (v4 u [.aE] b atf) b atf (.a0 [.aE,ao 0]):=by
 obtain⟨d,i,j⟩:=my (b:=b) (@e (ba b atf).bh (ba b atf).au);obtain⟨c,c1,k⟩:=my (b:=b) (@g d.bh d.au);rw[aa2,j,hy,bF,hQ,fj,uX,bO (a:=0) (b:=0),bk,a6,Bg,k,hy,Bp,hH (a:=0) (b:=60),bk,a6,Q6,hy,bF,
  hQ,fj,yv,bO (a:=0) (b:=0),bk,a6]
 have l:uG b .aE (ao 0) c=dJ b (.a0 [.aE,ao 0]) [] c:=by have n:uG b .aE (ao 0) c=aD c.aj (ao 0) λo s6=>dJ b (.a0 [.aE,o]) (aA [] (aA s6 [])) c:=rfl;rw[n,b7,av,av]
 rw[l];exact rp (i.trans c1)
def w5(u:Fn)(E:cr)(K:Nat->Prop)(D:Rat->Prop):Prop:=(∀{b:Nat} {atf:b1} {ql sl:Nat} {ms:bE},ql<b->2048<=ql%4096->cE b atf ql= .az sl 120 8 (ms.map E.fp) true->ms.length<=39->ms≠[]->(∀m∈ms,K m.k)->
 (∀l m a,(l++m::a).Perm ms->l≠[]->(∀x∈l,x.k=m.k)->rd u E (lN l) m.U/\E.s m.k)->(∀k,D (cx ms k))->
 ∃r:bE,g7 r/\(∀k,cx r k=cx ms k)/\(∀m∈r,K m.k)/\r.length<=ms.length/\CZ (u 184 [.az ql sl 0 ms.length] b atf) b atf ql (.aQ 8 (r.map E.fp)))/\
 ∀{b:Nat} {atf:b1},gD (u 184 [.aE] b atf) b atf (.a0 [.aE,ao 0])
theorem o0(hd:h.bQ=[]):∃s d,dJ 0 r [] h= .ok r 0 s d:=by obtain⟨ub,a8,d⟩:=h;have a:d=[]:=hd;subst a;exact⟨a8.drop 0,[],rfl⟩
theorem Jf{a:aB}{ql:Nat}(H:CZ (u f a h.bh h.au) h.bh h.au ql r)(q:b<=ql):∃h',h'.bh=h.bh/\h'.bQ=h.bQ/\(∀k,k≠ql->h'.aj k=h.aj k)/\∀k:dg,fD u b f a [] h k=k (.a0 [r,ao 0]) h':=by
 obtain⟨c,d,g,i,j⟩:=H;obtain⟨ub,a8,dd⟩:=h;have l:u f a ub a8= .ok (.a0 [r,ao 0]) ub c d:=g;have n:gZ b d=[]:=by rw[AY];intro k e;have t:=EE e;have w:=j k (uC e);omega
 refine⟨.mk ub c dd,rfl,rfl,λk e=>i k e,λk=>?_⟩;have o:fD u b f a [] (.mk ub a8 dd) k=jT b ub dd k (u f a ub a8):=rfl;rw[o,l];have p:jT b ub dd k (.ok (.a0 [r,ao 0]) ub c d)=bf (Nat.ble ub ub) (k (.a0 [r,ao 0]) (.mk ub c (aA (gZ b d) dd))) .ax:=rfl;rw[p,ek,pl (sm ub),cM,n,av]
def cA(E:cr)(v:an)(r:bE):Prop:=dw 8 v (r.map E.fp)
theorem e2(r c:an)(a:r≠ .undef:=by first|assumption|exact(Sl _)|exact(d _)|simp)(k:an->aw):bS (.a0 [r,c]) 0 k=k r:=CG rfl (λx e=>by cases e;exact a rfl) (by simp) k
theorem e3(r c:an)(a:r≠ .undef:=by first|assumption|exact(Sl _)|exact(d _)|simp)(k:an->aw):bS (.a0 [r,c]) 1 k=k c:=CG rfl (λx e=>by cases e;exact a rfl) (by simp) k
theorem HE{i:Nat}{x:an}(a:∀f:an->eH->aw,aD ob x f=f x [])(c:∀f:aB->aw,lp x f=f [x])(d:sz=1)(hi:i<es.length)(f:aY->eH->aw):cj ob sz i x es f=f (es.set i [x]) []:=by subst d;have e:cj ob 1 i x es f=aD ob x λq e0=>lp q λnew=>bf (Nat.beq (ea new) 1) (bf (Nat.blt i (ea es)) (f (tO es i new) e0) .ax) .ax:=rfl;rw[e,a,c,gr,gr,oW,pl hi,OZ];rfl
theorem dw.cells(h:dw sz v es)(f:aB->aw):lp v f=f [v]:=by rcases h with⟨rfl,rfl⟩|rfl<;>rfl
theorem dw.eh(h:dw sz v es):v≠ .undef:=by rcases h with⟨rfl,rfl⟩|rfl<;>exactλe=>by cases e
theorem aqI(u:Fn)(a c:an)(b:Nat)(atf:b1):CV u [a,c] b atf=cj (ba b atf).aj 1 0 a (cG 2 [.aE]) λg i=>cj (ba b atf).aj 1 1 c g λj k=>c6 b 2056 none 98 1 2 false j (aA i (aA k [])) (ba b atf) λl d=>aD d.aj l λn o=>fD u b 205 [n] (aA o []) d λp q=>
 fD u b 184 [p] [] q λe t=>bS e 0 λw=>bS e 1 λx=>G0 b w x t:=rfl
theorem Ip{q s e:Nat}(c:ob q= .az s e sz es false)(f:jm):aD ob (.az q s 0 es.length) f=f (.aQ sz es) []:=by have d:aD ob (.az q s 0 es.length) f=jQ (ob q) λa e sz asH as0=>bf (Nat.beq s a) (bf (Nat.ble (Nat.add 0 es.length) (ea asH)) (f (.aQ sz (l3 asH 0 es.length)) (@Bool.rec (λ_=>eH) [] [(q,.az a e sz asH false)] as0)) .ax) .ax:=rfl;rw[d,c,qC,wT,cM,gr,ek,pl (by rw[Ct];omega),cM,zj]
theorem Xj(a:dw 8 v es)(hd:h.bQ=[]):∃s d,G0 0 v (ao 0) h= .ok (.a0 [v,ao 0]) 0 s d:=by have c:G0 0 v (ao 0) h=aD h.aj v λe s4=>aD h.aj (ao 0) λg s6=>dJ 0 (.a0 [e,g]) (aA s4 (aA s6 [])) h:=rfl;rw[c,a.dU,b7,av,av];exact o0 hd
theorem awP{E:cr}{K:Nat->Prop}{D:Rat->Prop}(F:Rl u)(G:w5 u E K D){p q:an}{a g:bE}(t:cA E p a)(w:cA E q g)(I:a.length+g.length<=39)(J:∀m∈a,K m.k)(L:∀m∈g,K m.k)
 (H:∀l m M,(l++m::M).Perm (a++g)->l≠[]->(∀x∈l,x.k=m.k)->rd u E (lN l) m.U/\E.s m.k)(N:∀k,D (cx (a++g) k)):
 ∃(v:an) (r:bE),cA E v r/\g7 r/\(∀k,cx r k=cx (a++g) k)/\(∀m∈r,K m.k)/\r.length<=a.length+g.length/\∃s d,CV u [p,q] 0 .nil= .ok (.a0 [v,ao 0]) 0 s d:=by
 have dd:(ba 0 .nil).bh=4096:=rfl;obtain⟨O,n,y,P,Q⟩:=Bm (b:=0) (d:=2056) (wk:=none) (e:=98) (sz:=1) (len:=2) (as0:=false) (es:=[[p],[q]]) (h:=ba 0 .nil) (λo=>gs 0 _) (by omega);have dq:n.bh=4096:=by rw[y.bh];rfl
 have R:=λf=>HE (ob:=(ba 0 .nil).aj) (i:=0) (es:=cG 2 [.aE]) (t.dU _) t.cells rfl (by rw[x3];simp) f;have S:=λf=>HE (ob:=(ba 0 .nil).aj) (i:=1) (es:=(cG 2 [.aE]).set 0 [p]) (w.dU _) w.cells rfl (by rw[x3];simp) f;have T:((cG 2 [an.aE]).set 0 [p]).set 1 [q]=[[p],[q]]:=by rw[x3];rfl
 have W:∀f:an->eH->aw,aD n.aj (.az (0+2056) O 0 2) f=f (.aQ 1 [[p],[q]]) []:=λf=>Ip P f;rw[aqI,R,S,T,av,av,Q,W,av];have C:= @F n.bh n.au p q _ _ (by omega) t w (by rw[ER,ER];omega);obtain⟨X,Z⟩:=G;rcases C with⟨c,C⟩|⟨c,C⟩
 ·obtain⟨j,ar,a4⟩:=my (b:=0) C;obtain⟨z,c1,c2⟩:=my (b:=0) (@Z j.bh j.au);have a5:a++g=[]:=by rw[<-LZ] at c;exact Nr.1 c
  rw[a4,c2,e2 _ _,e3 _ _];obtain⟨s,d,e⟩:=Xj (v:= .aE) (es:=[]) (h:=z) (.inl ⟨rfl,rfl⟩) (by rw[c1.bQ,ar.bQ,y.bQ];rfl);exact⟨.aE,[],.inl ⟨rfl,rfl⟩,⟨List.Pairwise.nil,by simp⟩,λk=>by rw[a5],by simp,xW _,s,d,e⟩
 ·obtain⟨j,bd,bs,dt,bx,cc,dz,em,A,en,cl,B⟩:=F7 (b:=0) C;rw[<-LZ] at A c B;have cn:a++g≠[]:=λe=>c (by rw[e];rfl);obtain⟨r,r1,cp,cs,c0,c3⟩:= @X j.bh j.au bd bs (a++g) bx cc (by rw[aI.vZ];exact A) (by rw[OD];exact I) cn (λm hm=>(Ic.1 hm).elim (J m) (L m)) H N;obtain⟨z,eq,c4,ev,c5⟩:=Jf (b:=0) c3 (xW _);rw[B,ER,c5,e2 _ _,e3 _ _];obtain⟨s,d,e⟩:=Xj (v:= .aQ 8 (r.map E.fp)) (es:=r.map E.fp) (h:=z) (.inr rfl) (by rw[c4,cl,y.bQ];rfl);exact⟨_,r,.inr rfl,r1,cp,cs,by rw[<-OD];exact c0,s,d,e⟩
end
end
section
variable{x p:an} {h:aI} {c:Rat} {ps:bE}
section
variable[Tok] {u:Fn} {b:Nat}
theorem cr.cells(E:cr)(k:Nat)(f:aB->aw):lp (E.di k) f=f [E.di k]:=by rcases E.IM k with h|⟨es,h⟩<;>rw[h]<;>rfl
theorem r4{off:Nat}{cs:aB}(a:∀f:aB->aw,lp x f=f [x])(d:off+1<=cs.length)(f:aB->aw):cC off 1 x cs f=f (cs.take off++[x]++cs.drop (off+1)):=by have e:cC off 1 x cs f=lp x λnew=>bf (Nat.beq (ea new) 1) (bf (Nat.ble (Nat.add off 1) (ea cs)) (f (ug off cs new)) .ax) .ax:=rfl;rw[e,a,gr,gr,ek,pl (by rw[Ct];exact d),Ah];rfl
theorem Jq(E:cr)(m:cw)(f:aB->aw):(cC 0 7 (.agg (E.num m.U)) fX λKs=>cC 7 1 (E.di m.k) Ks f)=f (E.fp m):=by rw[tZ (E.len _),r4 (E.cells _) (by simp[E.len])];congr 1;have l:=E.len m.U;simp only[GN,Pt];rw[rV (by omega),nY,iL (by simp;omega)];simp[cr.fp]
def uA(u:Fn)(E:cr)(c d:Rat):Prop:=aK u 160 [.agg (E.num c),.agg (E.num d)] (.agg (E.num (c*d)))
theorem db.met{b d e sz:Nat}{as0:Bool}{arZ:aY}(r:db b d e sz as0 h x arZ)(hd:d<4096){rk:List Nat}(a:eb rk d=true)(xs:aB)(z:aw):met b rk (x::xs) z=Go.Hf.met b rk xs z:=by
 rcases r with⟨rfl,_⟩|⟨s,rfl,_⟩
 ·exact aV (ajQ _ _) xs z
 ·exact qM hd a _ _ _ xs z
theorem atr(u:Fn)(a d:an)(b:Nat)(atf:b1):C0 u [a,d] b atf=ip 54 b 3 none d (ba b atf) λe g=>bq false a λi=>fs 3 6 9 10 11 1000000 (yh u b (Bf u b)) e .aE a i aL g:=by kernel_rfl
theorem agt{E:cr}(l:gx){s3:Nat}(I:cA E p ps)(hl:ps.length<1000)(J:∀m∈ps,uA u E m.U c):∀(j:bE) (N i:Nat) (o:an) (h:aI),ps.drop i=j->i<=ps.length->db b 2072 120 8 true h o (((ps.take i).map λm=>(⟨m.k,m.U*c⟩:cw)).map E.fp)->h.aj (b+3)= .box s3 (E.num c)->h.bh=b+4096->j.length<N->
 ∃o' h',db b 2072 120 8 true h' o' ((ps.map λm=>(⟨m.k,m.U*c⟩:cw)).map E.fp)/\eY b [8,2071,2072] h h'/\fs 3 6 9 10 11 N (yh u b l) (.bn (b+3) s3 0) o p (ao ps.length) (ao i) h=l o' h':=by
 intro j;induction j with
 |nil=>intro N i o h g hi r w y A;obtain⟨N,rfl⟩:=cN N;have B:ps.length<=i:=jJ.1 g;rw[lH B] at r;refine⟨o,h,r,.refl,?_⟩;rw[gI];generalize fs 3 6 9 10 11 N (yh u b l)=j5;rw[yh,bO (a:=(i:Int)) (b:=(ps.length:Int)),bk,a6]
 |cons m j K=>
  intro N i o h g B r w y A;obtain⟨N,rfl⟩:=cN N;have hi:i<ps.length:=by
   rcases DL i ps.length with h|h
   ·exact h
   ·rw[iL h] at g;cases g
  rw[iK hi] at g;have L:ps[i]=m:=(s5 g).1;have M:ps.drop (i+1)=j:=(s5 g).2;have n:ps[i]? =some m:=by rw[dC hi,L]
  have O:(ps.map E.fp)[i]? =some (E.fp m):=by rw[O8,n];rfl
  have C:p= .aQ 8 (ps.map E.fp):=by
   rcases I with⟨_,e⟩|e
   ·rw[Nr] at e;subst e;simp at hi
   ·exact e
  obtain⟨s8,h1,D,k,F,P,a4⟩:=zr (b:=b) (d:=8) (t:=120) (h:=h) (z:=fX) (E.eG m) rfl (by omega);have Q:D.bh=b+4096:=by rw[k.bh];exact y
  have G:D.aj (b+3)= .box s3 (E.num c):=by rw[k.aj _ λd hd=>by simp at hd;omega];exact w
  have R:0+0+7<=(E.fp m).length:=by rw[E.eG];omega
  obtain⟨s1,s,bx,h',S,q,H,T,W,X⟩:=G8 (z:=fX) (d1:=2071) (d2:=2072) (atm:=some [2071]) (atn:=some [2072,2072]) (bytes:=136) (r1:=false) (r.jv k (by simp)) (E.gw ⟨m.k,m.U*c⟩) (E.eG ⟨m.k,m.U*c⟩)
   (λo=>mN (by omega) rfl) (λo=>mN (by omega) rfl) (by omega) (by omega) (by omega) (by simp;omega) (by simp;omega)
  have Z:=(r.jv k (by simp)).jv S (by simp);rw[gI,yh,bO (a:=(i:Int)) (b:=(ps.length:Int)),bN,bL,Xh,C,eE O,ch,be (E.eG m),P,a4,aeJ,bb,aJ,m1,aN,aH F,e8 R,show(0:Nat)+0=0 from rfl,E.jV,
   aJ,m1,aN,aH G,be (E.len c),aV (kd (E.eU _)),aV (kd (E.eU _)),aN,bm (E.eU _),bm (E.eU _),av,av,aT (J m (On n)),bb,
   XI,aJ,m1,aN,aH F,bc (by simpa using E.kk m),Jq E ⟨m.k,m.U*c⟩,hL,aV (kd (E.gw _)),aN,T,av,W,Z.met (by omega) rfl,qM,aN,X,bK,cK (a:=(i:Int)) (b:=1)]
  have ar:((ps.take (i+1)).map λm=>(⟨m.k,m.U*c⟩:cw)).map E.fp=((ps.take i).map λm=>(⟨m.k,m.U*c⟩:cw)).map E.fp++[E.fp ⟨m.k,m.U*c⟩]:=by rw[kh,n];simp
  rw[<-ar] at H;have a5:h'.aj (b+3)= .box s3 (E.num c):=by rw[q.aj _ λd hd=>by simp at hd;omega];exact G
  obtain⟨o',h4,bd,bs,ew⟩:=K N (i+1) _ h' M (by omega) H a5 (by rw[q.bh];exact Q) (by simp at A;omega);refine⟨o',h4,bd,((k.mono (by simp)).trans (q.mono (by simp))).trans bs,?_⟩;rw[C] at ew;exact ew
theorem Sn{v:an}{es:aY}(a:dw 8 v es)(hd:h.bQ=[]):∃s d,KV 0 v (ao 0) h= .ok (.a0 [v,ao 0]) 0 s d:=by have e:KV 0 v (ao 0) h=aD h.aj v λg s4=>aD h.aj (ao 0) λi s6=>dJ 0 (.a0 [g,i]) (aA s4 (aA s6 [])) h:=rfl;rw[e,a.dU,b7,av,av];exact o0 hd
theorem anG{E:cr}{K:Nat->Prop}{D:Rat->Prop}(G:w5 u E K D)(y:cA E p ps)(hl:ps.length<=39)(H:∀m∈ps,K m.k)(I:∀m∈ps,uA u E m.U c)(J:lI ps)(L:∀k,D (cx ps k*c)):
 ∃(v:an) (r:bE),cA E v r/\g7 r/\(∀k,cx r k=cx ps k*c)/\(∀m∈r,K m.k)/\r.length<=ps.length/\∃s d,C0 u [p,.agg (E.num c)] 0 .nil= .ok (.a0 [v,ao 0]) 0 s d:=by
 have c0:(ba 0 .nil).bh=4096:=rfl;obtain⟨s3,g,i,M,N⟩:=Qc (t:=54) (b:=0) (d:=3) (wk:=none) (cs:=E.num c) (h:=ba 0 .nil) (λo=>gs 0 _) (by omega);have A:g.bh=0+4096:=by rw[i.bh];rfl
 obtain⟨o',j,O,B,P⟩:=agt (u:=u) (b:=0) (E:=E) (Bf u 0) (s3:=s3) (c:=c) y (by omega) I ps 1000000 0 .aE g rfl (xW _) (.inl ⟨rfl,rfl⟩) M A (by omega);have C:∀(l:bE) (k:Nat),cx (l.map λm=>(⟨m.k,m.U*c⟩:cw)) k=cx l k*c:=by
  intro l k;induction l with
  |nil=>simp[cx,jb]
  |cons m r Q=>
   simp only[mG,cx,Q,Rat.add_mul];split
   ·rfl
   ·rw[jb]
 obtain⟨R,S⟩:=G;rw[atr,N,y.len,ER,bF,show(ao 0:an)=ao ((0:Nat):Int) from rfl];by_cases n:ps=[]
 ·subst n;rw[hQ,gI,yh,bO,GG (by simp),a6,Bf];obtain⟨q,c1,T⟩:=my (b:=0) (@S g.bh g.au);rw[T,e2 _ _,e3 _ _];obtain⟨s,d,e⟩:=Sn (v:= .aE) (es:=[]) (h:=q) (.inl ⟨rfl,rfl⟩) (by rw[c1.bQ,i.bQ];rfl);exact⟨.aE,[],.inl ⟨rfl,rfl⟩,⟨List.Pairwise.nil,by simp⟩,λk=>by simp[cx,jb],by simp,xW _,s,d,e⟩
 rw[P,Bf];rcases O with⟨rfl,e⟩|⟨W,rfl,X⟩
 ·exact absurd (by simpa using e) n
 ·have c3:j.bh=4096:=by rw[B.bh];exact A
  have Z:lI (ps.map λm=>(⟨m.k,m.U*c⟩:cw)):=List.Pairwise.map _ (λa b w=>w) J;obtain⟨r,r1,ar,a4,a5,bd⟩:= @R j.bh j.au (0+2072) W (ps.map λm=>(⟨m.k,m.U*c⟩:cw)) (by omega) (by omega) (by rw[aI.vZ];exact X) (by simp;omega) (by simpa using n) (λm hm=>by obtain⟨x,hx,rfl⟩:=yd.1 hm;exact H x hx)
   (λl m bs bx cc cl=>by
    exfalso;cases l with
    |nil=>exact cc rfl
    |cons x l'=>
     have F:((x::l'++m::bs).map λz:cw=>z.k).Nodup:=by refine((bx.map _).nodup_iff).2 ?_;have g:((ps.map λm=>(⟨m.k,m.U*c⟩:cw)).map λz:cw=>z.k).Pairwise (· < ·):=List.Pairwise.map _ (λa b w=>w) Z;exact g.imp λh=>Nat.ne_of_lt h
     rw[LH,mG,List.nodup_cons] at F;exact F.1 (by rw[cl x HO];simp))
   (λk=>by rw[C];exact L k)
  obtain⟨q,c4,cn,c5,cp⟩:=Jf (b:=0) bd (xW _);rw[ER,cp,e2 _ _,e3 _ _];obtain⟨s,d,e⟩:=Sn (v:= .aQ 8 (r.map E.fp)) (es:=r.map E.fp) (h:=q) (.inr rfl) (by rw[cn,B.bQ,i.bQ];rfl);exact⟨_,r,.inr rfl,r1,λk=>by rw[ar,C],a4,by simpa using a5,s,d,e⟩
end
end
section
variable{u:Fn} {b f q s e a:Nat} {ρ:jS}
section
variable[Tok]
theorem awa(g:kb){i:Nat}(X:an):∀(k N:Nat) (es:aY) (h:aI),eL b h q s e 11 es->iq u f ρ es->a+k<es.length->k<N->
 ∃h',eL b h' q s e 11 (mo ρ.ai a k es)/\g6 q h h'/\ih 0 1 2 3 8 9 N (Ao u b g) (.az q s 0 es.length) (ao a) X (dI f) (ao i) (ao (a+k:Nat)) h=g (.az q s 0 es.length) (ao a) X (dI f) (ao i) h':=by
 intro k;induction k with
 |zero=>intro N es h d n r t;obtain⟨N,rfl⟩:=cN N;have:=d.le;refine⟨h,d,.refl,?_⟩;rw[mb];generalize ih 0 1 2 3 8 9 N (Ao u b g)=j6;unfold Ao;simp only[aJ,bZ,bp,bg,ce,bj,gB,hH (a:=((a+0:Nat):Int)) (b:=(a:Int)) (by omega) (by omega),GG (show¬(a:Int)<((a+0:Nat):Int) by omega),iE];unfold IJ;rw[show(ay:an)= .a0 [] from rfl,dO,show(bG:an)= .a9 false from rfl,a6]
 |succ k w=>
  intro N es h d n r t;obtain⟨N,rfl⟩:=cN N;have:=d.le;rw[mb];have hi:mo ρ.ai a (k+1) es=if ρ.ai (el es (a+k+1))<ρ.ai (el es (a+k)) then mo ρ.ai a k (kn es (a+k+1) (a+k)) else es:=rfl;rw[hi];have o:((a+(k+1):Nat):Int)-1=((a+k:Nat):Int):=by omega
  have t1:((a+(k+1):Nat):Int).toNat=a+k+1:=by omega
  have t2:((a+k:Nat):Int).toNat=a+k:=by omega
  generalize x:ih 0 1 2 3 8 9 N (Ao u b g)=j6;unfold Ao;simp only[aJ,bZ,bp,bg,ce,bj,gB,hH (a:=((a+(k+1):Nat):Int)) (b:=(a:Int)) (by omega) (by omega),pl (show(a:Int)<((a+(k+1):Nat):Int) by omega),fi];unfold TE;simp only[aJ,bZ,bp,bg,ce,bj,d.met,d.zQ,aV (yr _ _ _),aN,bK,bF,d.ji (i:=((a+(k+1):Nat):Int)) (by omega) (by omega),t1,d.load (i:=a+k+1) (by omega),e1 (a:=((a+(k+1):Nat):Int)) (b:=1) (by omega) (by omega) (by omega) (by omega),o,
   d.ji (i:=((a+k:Nat):Int)) (by omega) (by omega),t2,d.load (i:=a+k) (by omega)]
  obtain⟨c,c1,y⟩:=d.mP n (i:=a+k+1) (j:=a+k) (by omega) (by omega) (by omega);rw[y,c1];unfold IJ;rw[dR];by_cases l:ρ.ai (el es (a+k+1))<ρ.ai (el es (a+k))
  ·rw[pl l,bL,y1 l];unfold Oc;simp only[aJ,bZ,bp,bg,ce,bj,gB,bK,e1 (a:=((a+(k+1):Nat):Int)) (b:=1) (by omega) (by omega) (by omega) (by omega),o];unfold To;simp only[aJ,bZ];rw[d.swap (i:=((a+(k+1):Nat):Int)) (j:=((a+k:Nat):Int)) (by omega) (by omega) (by omega) (by omega),t1,t2];simp only[bK,e1 (a:=((a+(k+1):Nat):Int)) (b:=1) (by omega) (by omega) (by omega) (by omega),o];obtain⟨z,A⟩:=d.Dn (i:=a+k+1) (j:=a+k) (by omega) (by omega);obtain⟨h',r1,B,p⟩:=w N _ _ z (n.mono (AE es (i:=a+k+1) (j:=a+k) (by omega) (by omega))) (by rw[jo];omega) (by omega);rw[jo] at p;subst x;exact⟨h',r1,A.trans B,p⟩
  ·rw[GG l,a6,Ca l];exact⟨h,d,.refl,rfl⟩
theorem amX{B:Nat}:∀(m N i:Nat) (es:aY) (h:aI),eL b h q s e 11 es->iq u f ρ es->a<=i->i+m=B->B<=es.length->m<N->
 ∃h',eL b h' q s e 11 (jx ρ.ai a m i es)/\g6 q h h'/\fs 0 1 2 3 8 N (su u b) (.az q s 0 es.length) (ao a) (ao B) (dI f) (ao i) h=SF b h':=by
 intro m;induction m with
 |zero=>intro N i es h c d l n o p;have:=c.le;obtain⟨N,rfl⟩:=cN N;refine⟨h,c,.refl,?_⟩;rw[gI];generalize fs 0 1 2 3 8 N (su u b)=j;rw[su,bO (a:=(i:Int)) (b:=(B:Int)),GG (show¬(i:Int)<(B:Int) by omega),a6]
 |succ m r=>
  intro N i es h c d l n o p;have:=c.le;obtain⟨N,rfl⟩:=cN N;rw[gI,su,bO (a:=(i:Int)) (b:=(B:Int)),pl (show(i:Int)<(B:Int) by omega),bL,R3];have t:i=a+(i-a):=by omega
  obtain⟨w,x,y,g⟩:=awa (u:=u) (b:=b) (f:=f) (ρ:=ρ) (λz A C D E F=>bR E aS λG=>fs 0 1 2 3 8 N (su u b) z A C D G F) (q:=q) (s:=s) (e:=e) (a:=a) (i:=i) (ao B) (i-a) 1000000 es h c d (by omega) (by omega);rw[<-t] at g;rw[g];simp only[bK,cK (a:=(i:Int)) (b:=1) (by omega) (by omega) (by omega) (by omega)];obtain⟨h',r1,H,k⟩:=r N (i+1) _ w x (d.mono (GM ρ.ai a (i-a) es (by omega))) (by omega) (by omega) (by rw[sF];omega) (by omega);refine⟨h',r1,y.trans H,?_⟩;rw[show((i:Int)+1)=((i+1:Nat):Int) by omega];rw[sF] at k;exact k
end
end
section
variable{u:Fn} {f b q s e:Nat} {ρ:jS} {atf:b1} {es:aY}
section
variable[Tok]
theorem amo{a B:Nat}(c:q<b)(g:2048<=q%4096)(h:cE b atf q= .az s e 11 es true)(i:Good 11 es)(k:es.length<1000000)(l:iq u f ρ es)(w:a<=B)(n:B<=es.length):
 kA (uj u [.az q s 0 es.length,ao a,ao B,dI f] b atf) b atf q s e 11 (jx ρ.ai a (B-(a+1)) (a+1) es):=by
 have d:=eL.rF c g h i k;rw[uj,GH,Pu,bK,cK (a:=(a:Int)) (b:=1),show((a:Int)+1)=((a+1:Nat):Int) by omega];by_cases x:a<B
 ·obtain⟨h',r1,o,p⟩:=amX (u:=u) (b:=b) (f:=f) (ρ:=ρ) (q:=q) (s:=s) (e:=e) (a:=a) (B:=B) (B-(a+1)) 1000000 (a+1) es (ba b atf) d l (by omega) (by omega) n (by omega);rw[p];exact oL o c r1.aj
 ·have r:B=a:=by omega
  subst r;have t:B-(B+1)=0:=by omega
  rw[t,hQ,gI];generalize fs 0 1 2 3 8 999999 (su u b)=j;rw[su,bO (a:=((B+1:Nat):Int)) (b:=(B:Int)),GG (show¬((B+1:Nat):Int)<(B:Int) by omega),a6];exact oL .refl c d.aj
def UJ(u:Fn)(f:Nat)(ρ:jS):Prop:=∀{b:Nat} {atf:b1} {q s e a B:Nat} {es:aY},q<b->2048<=q%4096->cE b atf q= .az s e 11 es true->Good 11 es->es.length<1000000->iq u f ρ es->a<=B->B<=es.length->
 kA (u 279 [.az q s 0 es.length,ao a,ao B,dI f] b atf) b atf q s e 11 (jx ρ.ai a (B-(a+1)) (a+1) es)
theorem aes(u:Fn)(a c d:an)(b:Nat)(atf:b1):wS u [a,c,d] b atf=ih 0 1 2 6 7 8 1000000 (Hg u b (IP u b)) a c d n20 aL n20 (ba b atf):=by kernel_rfl
theorem WA(i:UJ u f ρ)(c:q<b)(d:2048<=q%4096)(j:cE b atf q= .az s e 11 es true)(g:Good 11 es)(l:es.length<=19)(k:iq u f ρ es):
 kA (wS u [.az q s 0 es.length,ao es.length,dI f] b atf) b atf q s e 11 (jx ρ.ai 0 (es.length-1) 1 es):=by
 have h:=eL.rF c d j g (by omega);rw[aes,GI,bF,hQ,mb,Hg,qd (a:=20) (b:=(es.length:Int)),bk,a6,IP];have I:= @i (ba b atf).bh (ba b atf).au q s e 0 es.length es h.sub.1 d h.sub.2 g (by omega) k (xW _) (sm _);obtain⟨h',t1,t2,t3⟩:=qm (b:=b) I;rw[b7,b7,lY,av,av,av,JN,t3,hQ,fj,M0,bO (a:=20) (b:=(es.length:Int)),bk,a6];exact oL t1 c t2
theorem am2:gD (uj u [.aE,ao 0,ao 0,dI f] b atf) b atf (.a0 []):=by rw[uj,GH,Pu,bK,cK (a:=0) (b:=1),show(0:Int)+1=1 from rfl,hQ,gI,su,bO (a:=1) (b:=0),bk,a6];exact rp .refl (S:=[])
theorem aDD(c:∀{b:Nat} {atf:b1},gD (u 279 [.aE,ao 0,ao 0,dI f] b atf) b atf (.a0 [])):gD (wS u [.aE,ao 0,dI f] b atf) b atf (.a0 []):=by obtain⟨h,d,g⟩:=my (b:=b) (@c (ba b atf).bh (ba b atf).au);rw[aes,GI,bF,hQ,mb,Hg,qd (a:=20) (b:=0),bk,a6,IP,b7,b7,lY,av,av,av,g,hQ,fj,M0,bO (a:=20) (b:=0),bk,a6];exact rp d
def xD(u:Fn)(n:Nat)(f:Nat)(ρ:jS):Prop:=∀{b:Nat} {atf:b1} {q s e:Nat} {es:aY},q<b->2048<=q%4096->cE b atf q= .az s e 11 es true->Good 11 es->es.length<=19->iq u f ρ es->
 kA (u n (if n=232 then[.az q s 0 es.length,ao es.length,dI f] else[.az q s 0 es.length,dI f]) b atf) b atf q s e 11 (jx ρ.ai 0 (es.length-1) 1 es)
theorem ag6(h:xD u 232 f ρ)(a:q<b)(c:2048<=q%4096)(i:cE b atf q= .az s e 11 es true)(d:Good 11 es)(j:es.length<=19)(k:iq u f ρ es):
 kA (uO u [.az q s 0 es.length,dI f] b atf) b atf q s e 11 (jx ρ.ai 0 (es.length-1) 1 es):=by
 have g:=eL.rF a c i d (by omega);have I:= @h (ba b atf).bh (ba b atf).au q s e es g.sub.1 c g.sub.2 d j k;rw[y1 rfl] at I;obtain⟨h',t1,t2,t3⟩:=qm (b:=b) I;rw[uO,dE,M8,jw,b7,lY,av,av,t3];exact oL t1 a t2
theorem agc(a:∀{b:Nat} {atf:b1},gD (u 232 [.aE,ao 0,dI f] b atf) b atf (.a0 [])):gD (uO u [.aE,dI f] b atf) b atf (.a0 []):=by obtain⟨g,c,d⟩:=my (b:=b) (@a (ba b atf).bh (ba b atf).au);rw[uO,dE,M8,hy,b7,lY,av,av,d];exact rp c
end
end
section
variable{S:List Nat} {h h':aI} {d e sz q s:Nat} {as0:Bool} {arZ es:aY}
section
variable[Tok] {u:Fn} {b:Nat}
structure jc (b:Nat) (S:List Nat) (h h':aI):Prop where
 bh:h.bh<=h'.bh
 ld:h'.bh%4096=0
 bQ:h'.bQ=h.bQ
 aj:∀k,k<h.bh->(∀d∈S,k≠b+d)->h'.aj k=h.aj k
theorem jc.trans{S:List Nat}{h h' a:aI}(x:jc b S h h')(y:jc b S h' a):jc b S h a:=
 ⟨y4 x.bh y.bh,y.ld,y.bQ.trans x.bQ,λk c hd=>(y.aj k (iC c x.bh) hd).trans (x.aj k c hd)⟩
theorem jc.jv{a:List Nat}(x:eY b a h h')(c:h.bh%4096=0)(g:∀d∈a,d∈S):jc b S h h':=⟨by rw[x.bh];exact sm _,by rw[x.bh];exact c,x.bQ,λk _ hd=>x.aj k λd i=>hd d (g d i)⟩
theorem db.asO{x:an}(r:db b d e sz as0 h x arZ)(o:jc b S h h')(hd:d∉S)(a:b+d<h.bh):db b d e sz as0 h' x arZ:=by
 rcases r with r|⟨s,r1,g⟩
 ·exact .inl r
 ·refine .inr ⟨s,r1,?_⟩;rw[o.aj _ a λc i=>?_]
  ·exact g
  ·intro e;have:c=d:=by omega
   exact hd (this▸i)
theorem afu{f:Nat}{a:aB}(H:kA (u f a h.bh h.au) h.bh h.au q s e sz es)(w:b<=q):
 ∃h',h'.bh=h.bh/\h'.bQ=h.bQ/\(∀k,k≠q->h'.aj k=h.aj k)/\h'.aj q= .az s e sz es true/\∀k:dg,fD u b f a [] h k=k (.a0 []) h':=by
 obtain⟨c,d,i,j,l,n⟩:=H;obtain⟨ub,a8,dd⟩:=h;have o:u f a ub a8= .ok (.a0 []) ub c d:=i;have p:gZ b d=[]:=by rw[AY];intro k g;have x:=EE g;have y:=n k (uC g);omega
 refine⟨.mk ub c dd,rfl,rfl,λk g=>j k g,l,λk=>?_⟩;have r:fD u b f a [] (.mk ub a8 dd) k=jT b ub dd k (u f a ub a8):=rfl;rw[r,o];have t:jT b ub dd k (.ok (.a0 []) ub c d)=bf (Nat.ble ub ub) (k (.a0 []) (.mk ub c (aA (gZ b d) dd))) .ax:=rfl;rw[t,ek,pl (sm ub),cM,p,av]
theorem I6(ob:ej):∀{pre:aB} (r:aB) (f:aB->eH->aw),b8 pre=true->k3 ob (pre++r) f=k3 ob r λa us=>f (pre++a) us
 |[],_,_,_=>rfl
 |c::pre,r,f,h=>by
  have g:b8 pre=true/\∀l f,k3 ob (c::l) f=k3 ob l λa us=>f (c::a) us:=by cases c<;>first|exact⟨h,λ_ _=>rfl⟩|exact absurd h (by intro h;cases h)
  rw[LH,g.2,I6 ob r _ g.1];rfl
theorem Hl:∀{pre:aB} {q s o l:Nat},b8 pre=true->b8 (pre++[.az q s o l])=false
 |[],_,_,_,_,_=>rfl
 |c::pre,q,s,o,l,h=>by
  have a:b8 pre=true/\∀r,b8 (c::r)=b8 r:=by cases c<;>first|exact⟨h,λ_=>rfl⟩|exact absurd h (by intro h;cases h)
  rw[LH,a.2];exact Hl a.1
theorem agr{ob:ej}{a:Nat}{pre z:aB}(c:b8 pre=true)(j:pre.length+1=sz)(k:ob q= .az s e a es true)(f:aY->eH->aw):
 cj ob sz 0 (.agg (pre++[.az q s 0 es.length])) (cG 1 z) f=f [pre++[.aQ a es]] [(q,.az s e a es false)]:=by
 have l:cj ob sz 0 (.agg (pre++[.az q s 0 es.length])) (cG 1 z) f=aD ob (.agg (pre++[.az q s 0 es.length])) λq e0=>lp q λnew=>bf (Nat.beq (ea new) sz) (bf (Nat.blt 0 (ea (cG 1 z))) (f (tO (cG 1 z) 0 new) e0) .ax) .ax:=rfl;have n:∀g,aD ob (.agg (pre++[.az q s 0 es.length])) g=bf (b8 (pre++[.az q s 0 es.length])) (g (.agg (pre++[.az q s 0 es.length])) []) (k3 ob (pre++[.az q s 0 es.length]) λo us=>g (.agg o) us):=λ_=>rfl;have p:∀g:aB->eH->aw,k3 ob [.az q s 0 es.length] g=jQ (ob q) λi e sz asH as0=>bf (Nat.beq s i) (bf (Nat.ble (Nat.add 0 es.length) (ea asH)) (g [.aQ sz (l3 asH 0 es.length)] (@Bool.rec (λ_=>eH) [] ((q,.az i e sz asH false)::[]) as0)) .ax) .ax:=λ_=>rfl;rw[l,n,Hl c,Kh,I6 ob _ _ c,p,k,qC,wT,cM,gr,ek,pl (by rw[Ct];omega),cM,zj,By,gr,OD,yc,j,wT,cM];rfl
theorem aAN{len:Nat}{wk:Option (List Nat)}{o:dM}(l:∀us,gO b wk us=true)(hd:b+d<h.bh)(j:q<h.bh)(w:b<=q)(y:q≠b+d):
 ∃s h',h'.bh=h.bh/\h'.bQ=h.bQ/\(∀k,k≠q->k≠b+d->h'.aj k=h.aj k)/\h'.aj (b+d)= .az s e sz es as0/\∀k:dg,c6 b d wk e sz len as0 es [(q,o)] h k=k (.az (b+d) s 0 len) h':=by
 have g:b+d<(h.eW b q (.ae o)).bh:=by rw[aI.qv];exact hd
 refine⟨Nat.add (iH (h.aj (b+d))) 1,(h.eW b q (.ae o)).eW b (b+d) (.ae (.az (Nat.add (iH (h.aj (b+d))) 1) e sz es as0)),by rw[aI.qv,aI.qv],?_,λk n p=>?_,kB g,λk=>?_⟩
 ·obtain⟨ub,a8,dd⟩:=h;show @Bool.rec (λ_=>List Nat) (@Bool.rec (λ_=>List Nat) dd (q::dd) (Nat.blt q b)) ((b+d):: @Bool.rec (λ_=>List Nat) dd (q::dd) (Nat.blt q b)) (Nat.blt (b+d) b)=dd;rw[oW,oW,bk,bk]
 ·rw[aI.tS g,aI.tS j];simp[Go.Hf.dl,n,p]
 ·have r:c6 b d wk e sz len as0 es [(q,o)] h k=eF (b+d) λi=>eF (Nat.add (iH (h.aj i)) 1) λs=>lG es λes=>lk b wk [(q,o),(i,.az s e sz es as0)] h λh'=>k (.az i s 0 len) h':=rfl;have t:∀(a c:Nat×dM) (k:aI->aw),lk b wk [a,c] h k=bf (gO b wk [a,c]) (bf (Nat.ble (Nat.succ a.1) h.bh) (bf (Nat.ble (Nat.succ c.1) (h.eW b a.1 (.ae a.2)).bh) (k ((h.eW b a.1 (.ae a.2)).eW b c.1 (.ae c.2))) .ax) .ax) .ax:=λ_ _ _=>rfl;rw[r,fd,fd,lu,t,l,cM,ek,pl (nM j),cM,ek,pl (nM g),cM]
def EH(u:Fn)(E:cr)(ρ:jS)(asL:Nat->Nat->Nat)(g i:Nat):Prop:=∃a c:aY,dw 11 (E.di g) a/\dw 11 (E.di i) c/\a.length+c.length<=19/\Good 11 (a++c)/\iq u 183 ρ (a++c)/\
 (a++c=[]->E.di (asL g i)= .aE)/\(a++c≠[]->E.di (asL g i)= .aQ 11 (jx ρ.ai 0 ((a++c).length-1) 1 (a++c)))
theorem LO(E:cr)(c:Rat)(x:an)(a:∀f:aB->aw,lp x f=f [x])(f:aB->aw):(cC 0 7 (.agg (E.num c)) fX λNx=>cC 7 1 x Nx f)=f (E.num c++[x]):=by rw[tZ (E.len _),r4 a (by simp[E.len])];congr 1;have l:=E.len c;simp only[GN,Pt];rw[rV (by omega),nY,iL (by simp;omega)];simp
theorem arG{E:cr}{ρ:jS}{asL:Nat->Nat->Nat}(dq:Ft u)(dt:xD u 182 183 ρ)(dz:∀{b:Nat} {atf:b1},gD (u 182 [.aE,dI 183] b atf) b atf (.a0 []))(J:sZ){o q:an}{n j:Nat}{D:bE}{x y:cw}(K X2 L X4 no M:an)
 (en:q= .aQ 8 (D.map E.fp))(eq:D[j]? =some y)(np:j<100000)(r:db b 2089 120 8 true h o arZ)(ev:h.aj (b+8)= .box n (E.fp x))(ex:b+4096<=h.bh)(A:h.bh%4096=0)(nu:arZ.length<100000)(fn:EH u E ρ asL x.k y.k)(ge:uA u E x.U y.U):
 ∃o' h',db b 2089 120 8 true h' o' (arZ++[E.fp ⟨asL x.k y.k,x.U*y.U⟩])/\jc b [10,2076,2088,2089] h h'/\
  Pf u b J K o (.bn (b+8) n 0) X2 L X4 q M (ao j) h=J K o' (.bn (b+8) n 0) X2 L X4 q M (ao (j+1:Nat)) h':=by
 subst en;obtain⟨F,G,fC,P,gl,go,gt,hb,hc⟩:=fn;have he:(D.map E.fp)[j]? =some (E.fp y):=by rw[O8,eq];rfl
 obtain⟨Q,h1,H,N,a2,a3,a4⟩:=zr (b:=b) (d:=10) (t:=120) (h:=h) (z:=fX) (E.eG y) rfl (by omega);have bx:H.aj (b+8)= .box n (E.fp x):=by rw[N.aj _ λd hd=>by simp at hd;omega];exact ev
 have R:H.bh=h.bh:=N.bh;obtain⟨hf,g,c1,c2,c3⟩:=Bm (b:=b) (d:=2076) (wk:=none) (e:=30) (sz:=1) (len:=2) (as0:=false) (es:=[[E.di x.k],[E.di y.k]]) (h:=H) (λo=>gs b _) (by omega);have cc:g.bh=h.bh:=by rw[c1.bh];exact R
 have k0:=λf=>HE (ob:=H.aj) (i:=0) (es:=cG 2 [.aE]) (fC.dU _) fC.cells rfl (by rw[x3];simp) f;have k1:=λf=>HE (ob:=H.aj) (i:=1) (es:=(cG 2 [.aE]).set 0 [E.di x.k]) (P.dU _) P.cells rfl (by rw[x3];simp) f;have ee:((cG 2 [an.aE]).set 0 [E.di x.k]).set 1 [E.di y.k]=[[E.di x.k],[E.di y.k]]:=by rw[x3];rfl
 have hh:∀f:an->eH->aw,aD g.aj (.az (b+2076) hf 0 2) f=f (.aQ 1 [[E.di x.k],[E.di y.k]]) []:=λf=>Ip c2 f;have cl:g.aj (b+8)= .box n (E.fp x):=by rw[c1.aj _ λd hd=>by simp at hd;omega];exact bx
 have cn:g.aj (b+10)= .box Q (E.fp y):=by rw[c1.aj _ λd hd=>by simp at hd;omega];exact a2
 have hi:0+0+7<=(E.fp x).length:=by rw[E.eG];omega
 have hl:0+0+7<=(E.fp y).length:=by rw[E.eG];omega
 have n2:jc b [10,2076,2088,2089] h g:=(jc.jv N A (by simp)).trans (jc.jv c1 (by rw[R];exact A) (by simp));rw[Pf,eE he,ch,be (E.eG y),a3,a4,bp,bb,aH bx,bc (by simpa using E.kk x),bb,Uw,aH a2,bc (by simpa using E.kk y),k0,k1,ee,av,av,c3,hh,av];have cp:∀(c:aI) (w:an),jc b [10,2076] h c->c.aj (b+8)= .box n (E.fp x)->c.aj (b+10)= .box Q (E.fp y)->
  ((w= .aE/\E.di (asL x.k y.k)= .aE)\/∃l p es,w= .az l p 0 es.length/\h.bh<=l/\l<c.bh/\c.aj l= .az p 56 11 es true/\E.di (asL x.k y.k)= .aQ 11 es)->
  ∃o' h',db b 2089 120 8 true h' o' (arZ++[E.fp ⟨asL x.k y.k,x.U*y.U⟩])/\jc b [10,2076,2088,2089] h h'/\
   (bt 0 (.bn (b+8) n 0) λhm=>aW c.aj true 7 hm λhn=>bt 0 (.bn (b+10) Q 0) λho=>Qb u b (λhp hr ht hv hw hz hA hD is i8=>bR is aS λjn=>J hp hr ht hv hw hz hA hD jn i8) ho hn w o K (.bn (b+8) n 0) X2 L X4 (.aQ 8 (D.map E.fp)) M (ao j) c)=
    J K o' (.bn (b+8) n 0) X2 L X4 (.aQ 8 (D.map E.fp)) M (ao (j+1:Nat)) h':=by
  intro c w mw j0 j1 hx;have nz:b+4096<=c.bh:=y4 ex mw.bh;have cs:=r.asO mw (by simp) (by omega);have c0:jc b [10,2076,2088,2089] h c:=⟨mw.bh,mw.ld,mw.bQ,λk I hd=>mw.aj k I λd O=>hd d (by simp at O ⊢;omega)⟩;have j2:∀f:aB->aw,lp w f=f [w]:=by rcases hx with⟨rfl,_⟩|⟨l,p,es,rfl,_⟩<;>exactλ_=>rfl
  rw[bb,aH j0,e8 hi,show(0:Nat)+0=0 from rfl,E.jV,bb,Qb,aH j1,e8 hl,show(0:Nat)+0=0 from rfl,E.jV,ce,bm (E.eU _),bm (E.eU _),av,av,aT ge,LO E (x.U*y.U) w j2,hL];rcases hx with⟨rfl,W⟩|⟨l,p,es,rfl,j3,X,Z,W⟩
  ·have em:E.num (x.U*y.U)++[.aE]=E.fp ⟨asL x.k y.k,x.U*y.U⟩:=by unfold cr.fp;rw[W]
   obtain⟨s1,s,od,h',ok,j4,j5,j6,j7,j8⟩:=G8 (z:=fX) (d1:=2088) (atm:=none) (atn:=none) (bytes:=136) (r1:=false) cs (E.gw ⟨asL x.k y.k,x.U*y.U⟩) (E.eG ⟨asL x.k y.k,x.U*y.U⟩) (λo=>gs b _) (λo=>gs b _) (by omega) (by omega) (by omega) (by omega) (by omega);rw[em,j6,av,j7,j8,bK,cK (a:=(j:Int)) (b:=1)];exact⟨_,h',j5,c0.trans (jc.jv j4 mw.ld (by simp)),rfl⟩
  ·have em:E.num (x.U*y.U)++[.aQ 11 es]=E.fp ⟨asL x.k y.k,x.U*y.U⟩:=by unfold cr.fp;rw[W]
   rw[agr (E.eU _) (by rw[E.len]) Z,em,Pa];obtain⟨kp,kq,k2,la,ew,le,lf⟩:=aAN (b:=b) (d:=2088) (wk:=none) (e:=120) (sz:=8) (len:=1) (as0:=false) (es:=[E.fp ⟨asL x.k y.k,x.U*y.U⟩]) (h:=c) (q:=l) (o:= .az p 56 11 es false) (λus=>gs b us) (by omega) X (by omega) (by omega);have py:db b 2089 120 8 true kq o arZ:=by
    rcases cs with r|⟨s,r1,ll⟩
    ·exact .inl r
    ·exact .inr ⟨s,r1,by rw[ew _ (by omega) (by omega)];exact ll⟩
   obtain⟨s,h',ar,lo,lq⟩:=Jb (b:=b) (wk:=none) (bytes:=136) py (y:= .az (b+2088) kp 0 1) (ys:=[E.fp ⟨asL x.k y.k,x.U*y.U⟩]) (λf=>yq le f) (by simp) (λo=>gs b _) (by omega) (by simp;omega) (by simp;omega);rw[lf,lq,bK,cK (a:=(j:Int)) (b:=1)];have c4:h'.bh=c.bh:=by rw[ar.bh,k2]
   refine⟨_,h',.inr ⟨s,by simp,lo⟩,⟨by rw[c4];exact mw.bh,by rw[c4];exact mw.ld,by rw[ar.bQ,la];exact mw.bQ,λk I hd=>?_⟩,rfl⟩;rw[ar.aj k λd O=>by simp at O;rw[O];exact hd 2089 (by simp),ew k (by omega) (hd 2088 (by simp)),c0.aj k I hd]
 have c5:jc b [10,2076] h g:=(jc.jv N A (by simp)).trans (jc.jv c1 (by rw[R];exact A) (by simp));have C:= @dq g.bh g.au (E.di x.k) (E.di y.k) F G (by rw[cc];exact A) fC P (by omega);rcases C with⟨a5,C⟩|⟨a5,C⟩
 ·obtain⟨B,d1,d2⟩:=my (b:=b) C;obtain⟨c,f1,f2⟩:=my (b:=b) (@dz B.bh B.au);rw[d2,f2];have bd:eY b [] g c:=d1.trans f1;exact cp c .aE (c5.trans (jc.jv bd (by rw[cc];exact A) (λd hd=>by cases hd))) (by rw[bd.aj _ λd hd=>by cases hd];exact cl) (by rw[bd.aj _ λd hd=>by cases hd];exact cn) (.inl ⟨rfl,hb a5⟩)
 ·obtain⟨B,l,p,j3,X,Z,ls,lt,lv,bs,md,ms⟩:=F7 (b:=b) C;have T:= @dt B.bh B.au l p 56 (F++G) X Z (by rw[aI.vZ];exact lv) go (by rw[OD];exact gl) gt;rw[Ca (by decide)] at T;obtain⟨c,t1,t2,t3,t4,t5⟩:=afu (b:=b) T (by omega);rw[ms,t5];have dd:c.bh=B.bh:=t1;have mx:jc b [10,2076] g c:=⟨by rw[dd];exact lt,by rw[dd];exact ls,t2.trans md,λk I _=>by rw[t3 k (by omega),bs k I]⟩;have nn:(jx ρ.ai 0 ((F++G).length-1) 1 (F++G)).length=(F++G).length:=Ry _ _ _ _ _;refine cp c _ (c5.trans mx) (by rw[t3 _ (by omega),bs _ (by omega)];exact cl) (by rw[t3 _ (by omega),bs _ (by omega)];exact cn) (.inr ⟨l,p,_,by rw[nn],by omega,by omega,t4,hc a5⟩)
end
end
section
variable{h:aI} {E:cr} {ρ:jS} {asL:Nat->Nat->Nat} {q p:an} {qs ps:bE}
def eK(asL:Nat->Nat->Nat)(ps qs:bE):bE:=ps.flatMap λx=>qs.map λy=>⟨asL x.k y.k,x.U*y.U⟩
section
variable[Tok] {u:Fn} {b:Nat}
theorem LV(u:Fn)(a c:an)(b:Nat)(atf:b1):w1 u [a,c] b atf=bq false a λd=>fs 1 6 12 13 14 1000000 (p2 u b (xz u b)) c .aE a d aL (ba b atf):=by kernel_rfl
theorem jc.mono{S a:List Nat}{h':aI}(x:jc b S h h')(c:∀d∈S,d∈a):jc b a h h':=⟨x.bh,x.ld,x.bQ,λk e hd=>x.aj k e λd g=>hd d (c d g)⟩
theorem an3(F:Ft u)(G:xD u 182 183 ρ)(H:∀{b:Nat} {atf:b1},gD (u 182 [.aE,dI 183] b atf) b atf (.a0 []))(g:kb){A:Nat}{x:cw}(k X2 l X4:an)
 (I:q= .aQ 8 (qs.map E.fp))(hl:qs.length<1000)(J:∀y∈qs,EH u E ρ asL x.k y.k/\uA u E x.U y.U):∀(c:bE) (N j:Nat) (o:an) (arZ:aY) (h:aI),qs.drop j=c->j<=qs.length->db b 2089 120 8 true h o arZ->h.aj (b+8)= .box A (E.fp x)->b+4096<=h.bh->h.bh%4096=0->
 arZ.length+c.length<100000->c.length<N->
 ∃o' h',db b 2089 120 8 true h' o' (arZ++(c.map λy=>(⟨asL x.k y.k,x.U*y.U⟩:cw)).map E.fp)/\jc b [10,2076,2088,2089] h h'/\zl 1 6 8 12 13 14 18 19 20 N (wQ u b g) k o (.bn (b+8) A 0) X2 l X4 q (ao qs.length) (ao j) h=g k o' X2 l X4 h':=by
 intro c;induction c with
 |nil=>intro N j o arZ h e n r t w z B C;obtain⟨N,rfl⟩:=cN N;have K:qs.length<=j:=jJ.1 e;refine⟨o,h,by simpa using r,⟨sm _,z,rfl,λ_ _ _=>rfl⟩,?_⟩;rw[Mv];generalize zl 1 6 8 12 13 14 18 19 20 N (wQ u b g)=j9;rw[wQ,bO (a:=(j:Int)) (b:=(qs.length:Int)),bk,a6]
 |cons y c L=>
  intro N j o arZ h e K r t w z B C;obtain⟨N,rfl⟩:=cN N;have n:j<qs.length:=by
   rcases DL j qs.length with h|h
   ·exact h
   ·rw[iL h] at e;cases e
  rw[iK n] at e;have M:qs[j]=y:=(s5 e).1;have O:qs.drop (j+1)=c:=(s5 e).2;have D:qs[j]? =some y:=by rw[dC n,M]
  obtain⟨sY,wy⟩:=J y (On D);simp only[JO] at B C;rw[Mv,wQ,bO (a:=(j:Int)) (b:=(qs.length:Int)),bN,bL];obtain⟨eR,P,Q,i,R⟩:=arG (b:=b) F G H (zl 1 6 8 12 13 14 18 19 20 N (wQ u b g)) k X2 l X4 (.aE) (ao qs.length) I D (by omega) r t w z (by omega) sY wy;rw[R];obtain⟨S,T,W,X,Z⟩:=L N (j+1) eR (arZ++[E.fp ⟨asL x.k y.k,x.U*y.U⟩]) P O (by omega) Q (by rw[i.aj _ (by omega) λd hd=>by simp at hd;omega];exact t) (y4 w i.bh) i.ld (by simp;omega) (by omega);exact⟨S,T,by simpa using W,i.trans X,Z⟩
theorem akM(G:Ft u)(H:xD u 182 183 ρ)(I:∀{b:Nat} {atf:b1},gD (u 182 [.aE,dI 183] b atf) b atf (.a0 []))(g:gx)(w:p= .aQ 8 (ps.map E.fp))(A:q= .aQ 8 (qs.map E.fp))(c1:ps.length<100)(c2:qs.length<100)
 (J:∀x∈ps,∀y∈qs,EH u E ρ asL x.k y.k/\uA u E x.U y.U):∀(c:bE) (N i:Nat) (o:an) (arZ:aY) (h:aI),ps.drop i=c->i<=ps.length->db b 2089 120 8 true h o arZ->b+4096<=h.bh->h.bh%4096=0->
 arZ.length+c.length*qs.length<50000->c.length<N->
 ∃o' h',db b 2089 120 8 true h' o' (arZ++(eK asL c qs).map E.fp)/\jc b [8,10,2076,2088,2089] h h'/\fs 1 6 12 13 14 N (p2 u b g) q o p (ao ps.length) (ao i) h=g o' h':=by
 intro c;induction c with
 |nil=>intro N i o arZ h e hi r K j B C;obtain⟨N,rfl⟩:=cN N;have L:ps.length<=i:=jJ.1 e;refine⟨o,h,by simpa[eK] using r,⟨sm _,j,rfl,λ_ _ _=>rfl⟩,?_⟩;rw[gI];generalize fs 1 6 12 13 14 N (p2 u b g)=j5;rw[p2,bO (a:=(i:Int)) (b:=(ps.length:Int)),bk,a6]
 |cons x c M=>
  intro N i o arZ h e L r K j B C;obtain⟨N,rfl⟩:=cN N;have hi:i<ps.length:=by
   rcases DL i ps.length with h|h
   ·exact h
   ·rw[iL h] at e;cases e
  rw[iK hi] at e;have O:ps[i]=x:=(s5 e).1;have P:ps.drop (i+1)=c:=(s5 e).2;have D:ps[i]? =some x:=by rw[dC hi,O]
  have Q:(ps.map E.fp)[i]? =some (E.fp x):=by rw[O8,D];rfl
  simp only[JO,xB,yy] at B C;obtain⟨s8,h1,k,l,R,S,a4⟩:=zr (b:=b) (d:=8) (t:=120) (h:=h) (z:=fX) (E.eG x) rfl (by omega);have T:k.bh=h.bh:=l.bh;have cT:jc b [8,10,2076,2088,2089] h k:=jc.jv l j (by simp);rw[gI,p2,bO (a:=(i:Int)) (b:=(ps.length:Int)),bN,bL,Qq,w,eE Q,ch,be (E.eG x),S,a4,A,eA,ER,bF,show(ao 0:an)=ao ((0:Nat):Int) from rfl];obtain⟨eR,W,X,n,Z⟩:=an3 (b:=b) (u:=u) G H I (λar a5 bd bs bx cc=>bR bx aS λcl=>fs 1 6 12 13 14 N (p2 u b g) ar a5 bd bs cl cc) (.aQ 8 (qs.map E.fp)) (.aQ 8 (ps.map E.fp)) (ao ps.length) (ao i) rfl (by omega) (λy cn=>J x (On D) y cn) qs 1000000 0 o arZ k rfl (xW _)
   (r.jv l (by simp)) R (by omega) (by rw[T];exact j) (by omega) (by omega)
  rw[Z,bK,cK (a:=(i:Int)) (b:=1)];obtain⟨cp,h4,cs,c0,F⟩:=M N (i+1) eR _ W P (by omega) X (by have:=n.bh;omega) n.ld (by simp;omega) (by omega);refine⟨cp,h4,?_,(cT.trans (n.mono (by simp))).trans c0,?_⟩
  ·simpa[eK,dD] using cs
  ·rw[w,A] at F;exact F
theorem asN(g:gx)(j:p= .aQ 8 (ps.map E.fp))(r:dw 8 q [])(J:ps.length<100):∀(e:bE) (N i:Nat) (h:aI),ps.drop i=e->i<=ps.length->h.bh=b+4096->e.length<N->
 ∃h',eY b [8] h h'/\fs 1 6 12 13 14 N (p2 u b g) q .aE p (ao ps.length) (ao i) h=g .aE h':=by
 intro e;induction e with
 |nil=>intro N i h c hi k l;obtain⟨N,rfl⟩:=cN N;have w:ps.length<=i:=jJ.1 c;refine⟨h,.refl,?_⟩;rw[gI];generalize fs 1 6 12 13 14 N (p2 u b g)=K;rw[p2,bO (a:=(i:Int)) (b:=(ps.length:Int)),bk,a6]
 |cons x e y=>
  intro N i h c w k l;obtain⟨N,rfl⟩:=cN N;have hi:i<ps.length:=by
   rcases DL i ps.length with h|h
   ·exact h
   ·rw[iL h] at c;cases c
  rw[iK hi] at c;have A:ps[i]=x:=(s5 c).1;have B:ps.drop (i+1)=e:=(s5 c).2;have C:ps[i]? =some x:=by rw[dC hi,A]
  have D:(ps.map E.fp)[i]? =some (E.fp x):=by rw[O8,C];rfl
  simp only[JO] at l;obtain⟨L,M,F,n,O,G,a4⟩:=zr (b:=b) (d:=8) (t:=120) (h:=h) (z:=fX) (E.eG x) rfl (by omega);rw[gI,p2,bO (a:=(i:Int)) (b:=(ps.length:Int)),bN,bL,Qq,j,eE D,ch,be (E.eG x),G,a4,r.len,bF,hQ,Mv,wQ,bO,GG (by simp),a6,bK,cK (a:=(i:Int)) (b:=1)];obtain⟨H,I,o⟩:=y N (i+1) F B (by omega) (by rw[n.bh];exact k) (by omega);rw[j] at o;exact⟨H,n.trans I,o⟩
theorem Sg{v:an}{es:aY}(a:dw 8 v es)(hd:h.bQ=[]):∃s d,QX 0 v (ao 0) h= .ok (.a0 [v,ao 0]) 0 s d:=by have c:QX 0 v (ao 0) h=aD h.aj v λe s4=>aD h.aj (ao 0) λg s6=>dJ 0 (.a0 [e,g]) (aA s4 (aA s6 [])) h:=rfl;rw[c,a.dU,b7,av,av];exact o0 hd
theorem aiQ{K:Nat->Prop}{D:Rat->Prop}(Q:w5 u E K D)(R:Ft u)(S:xD u 182 183 ρ)(T:∀{b:Nat} {atf:b1},gD (u 182 [.aE,dI 183] b atf) b atf (.a0 []))(t:cA E p ps)(F:cA E q qs)
 (G:ps.length*qs.length<=39)(w:ps.length<100)(W:qs.length<100)(i:∀x∈ps,∀y∈qs,EH u E ρ asL x.k y.k/\uA u E x.U y.U/\K (asL x.k y.k))
 (H:∀l m X,(l++m::X).Perm (eK asL ps qs)->l≠[]->(∀x∈l,x.k=m.k)->rd u E (lN l) m.U/\E.s m.k)(I:∀k,D (cx (eK asL ps qs) k)):
 ∃(v:an) (r:bE),cA E v r/\g7 r/\(∀k,cx r k=cx (eK asL ps qs) k)/\(∀m∈r,K m.k)/\r.length<=ps.length*qs.length/\∃s d,w1 u [p,q] 0 .nil= .ok (.a0 [v,ao 0]) 0 s d:=by
 have cl:(ba 0 .nil).bh=4096:=rfl;obtain⟨Z,ar⟩:=Q;have z:(eK asL ps qs).length=ps.length*qs.length:=by
  unfold eK;clear t G w i H I;induction ps with
  |nil=>simp
  |cons a r a3=>simp only[Ph,OD,ER,JO,a3,xB,yy];omega
 have none:eK asL ps qs=[]->∀c:aI,c.bQ=[]->w1 u [p,q] 0 .nil=xz u 0 .aE c->∃(v:an) (r:bE),cA E v r/\g7 r/\(∀k,cx r k=cx (eK asL ps qs) k)/\(∀m∈r,K m.k)/\r.length<=ps.length*qs.length/\∃s d,w1 u [p,q] 0 .nil= .ok (.a0 [v,ao 0]) 0 s d:=by intro hn c hd he;obtain⟨A,c1,c2⟩:=my (b:=0) (@ar c.bh c.au);rw[he,xz,c2,e2 _ _,e3 _ _];obtain⟨s,d,e⟩:=Sg (v:= .aE) (es:=[]) (h:=A) (.inl ⟨rfl,rfl⟩) (by rw[c1.bQ];exact hd);exact⟨.aE,[],.inl ⟨rfl,rfl⟩,⟨List.Pairwise.nil,by simp⟩,λk=>by rw[hn],by simp,xW _,s,d,e⟩
 by_cases B:ps=[]
 ·subst B;refine none rfl (ba 0 .nil) rfl ?_;rw[LV,t.len,bF,hQ,gI,p2,bO,GG (by simp),a6]
 have g:p= .aQ 8 (ps.map E.fp):=by
  rcases t with⟨_,e⟩|e
  ·rw[Nr] at e;exact absurd e B
  ·exact e
 by_cases C:qs=[]
 ·subst C;obtain⟨c,a1,J⟩:=asN (b:=0) (u:=u) (E:=E) (xz u 0) g F w ps 1000000 0 (ba 0 .nil) rfl (xW _) rfl (by omega);refine none (by simp[eK]) c (by rw[a1.bQ];rfl) ?_;rw[LV,g,eA,ER,bF,show(ao 0:an)=ao ((0:Nat):Int) from rfl];rw[g] at J;exact J
 have ql:q= .aQ 8 (qs.map E.fp):=by
  rcases F with⟨_,e⟩|e
  ·rw[Nr] at e;exact absurd e C
  ·exact e
 obtain⟨o',L,M,N,O⟩:=akM (b:=0) (u:=u) (E:=E) (ρ:=ρ) (asL:=asL) R S T (xz u 0) g ql w W (λx j y n=>⟨(i x j y n).1,(i x j y n).2.1⟩) ps 1000000 0 .aE [] (ba 0 .nil) rfl (xW _) (.inl ⟨rfl,rfl⟩) (by omega) (by omega) (by simp;omega) (by omega);rw[LV,g,eA,ER,bF,show(ao 0:an)=ao ((0:Nat):Int) from rfl];rw[g] at O;rw[O,xz];have P:eK asL ps qs≠[]:=by
  intro e;have:=oT List.length e;rw[z,Md] at this;rcases Nat.mul_eq_zero.1 this with h|h
  ·exact B (uw h)
  ·exact C (uw h)
 rw[Pt] at M;rcases M with⟨_,e⟩|⟨so,rfl,ho⟩
 ·exact absurd (Nr.1 e) P
 obtain⟨r,r1,a4,a5,bd,bs⟩:= @Z L.bh L.au (0+2089) so (eK asL ps qs) (by have:=N.bh;omega) (by omega) (by rw[aI.vZ];exact ho) (by rw[z];exact G) P (λm o=>by unfold eK at o;obtain⟨x,j,o⟩:=Ij.1 o;obtain⟨y,n,rfl⟩:=yd.1 o;exact(i x j y n).2.2) H I
 obtain⟨A,cn,bx,cp,cc⟩:=Jf (b:=0) bs (xW _);rw[ER,cc,e2 _ _,e3 _ _];obtain⟨s,d,e⟩:=Sg (v:= .aQ 8 (r.map E.fp)) (es:=r.map E.fp) (h:=A) (.inr rfl) (by rw[bx,N.bQ];rfl);exact⟨_,r,.inr rfl,r1,a4,a5,by rw[<-z];exact bd,s,d,e⟩
end
end
section
variable{sz c:Nat}
section
variable[Tok] {u:Fn} {b:Nat}
theorem SH(n:Nat):Nat.sub ((n:Int)+18446744073709551616).toNat 18446744073709551616=n:=by rw[cY];omega
theorem SE{d e bytes l:Nat}{wk:Option (List Nat)}{z:aB}{h:aI}(q:l<=c)(a:c*bytes<=1099511627776)(g:c<=1099511627776)(i:∀o,gO b wk [(b+d,o)]=true)(hd:b+d<h.bh):
 ∃s h',eY b [d] h h'/\h'.aj (b+d)= .az s e sz (List.replicate l z) true/\∀k:dg,i3 b wk (nf (Nat.add b d) e sz bytes (h.aj (Nat.add b d)).cd z (ao l) (ao c)) h k=k (.az (b+d) s 0 l) h':=by
 refine⟨Nat.add (h.aj (b+d)).cd 1,_,eY.eW (o:= .ae (.az (Nat.add (h.aj (b+d)).cd 1) e sz (List.replicate l z) true)) hd,kB hd,λk=>?_⟩;have j:Nat.sub ((l:Int)+18446744073709551616).toNat 18446744073709551616=l:=SH l;have n:Nat.sub ((c:Int)+18446744073709551616).toNat 18446744073709551616=c:=SH c;have p:nf (Nat.add b d) e sz bytes (h.aj (Nat.add b d)).cd z (ao l) (ao c)=some (.az (b+d) (Nat.add (h.aj (b+d)).cd 1) 0 l,[(b+d,.az (Nat.add (h.aj (b+d)).cd 1) e sz (List.replicate l z) true)]):=by rw[cX,cX];simp only[nf,j,n];rw[ek,bN,ek,bN,ek,pl (by rw[hW];exact a),ek,pl g];rfl
 rw[p,zm (i _) hd]
theorem KI{v:an}{es:aY}(p:dw sz v es)(ob:ej){lo hi:Option an}{a:Nat}(i:∀f,jY 0 lo f=f a)(j:∀d f,d=es.length->jY d hi f=f c)(q:a<=c)(n:c<=es.length):∃o,dw sz o ((es.drop a).take (c-a))/\∀k:an->aw,k7 ob sz v lo hi k=k o:=by
 rcases p with⟨rfl,rfl⟩|rfl
 ·have r:c=0:=by simpa using n
  have t:a=0:=by omega
  subst r t;refine⟨.aE,.inl ⟨rfl,by simp⟩,λk=>?_⟩;have e:k7 ob sz .aE lo hi k=jY 0 lo λa=>jY 0 hi λb=>bf (Nat.beq a 0) (bf (Nat.beq b 0) (k .aE) .ax) .ax:=rfl;rw[e,i,j 0 _ rfl];rfl
 ·refine⟨.aQ sz (l3 es a (c-a)),.inr ?_,λk=>?_⟩
  ·rw[yk];simp only[part];cases g:(Nat.beq a 0&&Nat.beq (c-a) es.length) with
   |true=>rw[Hi] at g;have w:=dp g.1;have x:=dp g.2;subst w;rw[lR,x,dm,nG]
   |false=>rfl
  ·have e:k7 ob sz (.aQ sz es) lo hi k=jY 0 lo λl=>jY (ea es) hi λh=>bf (Nat.beq sz sz) (bf (Nat.ble l h) (bf (Nat.ble h (ea es)) (k (.aQ sz (l3 es l (Nat.sub h l)))) .ax) .ax) .ax:=rfl;rw[e,i,j _ _ (gr es),wT,cM,ek,pl q,cM,gr,ek,pl n,cM,cY]
end
end
section
variable[Tok] {u:Fn} {b:Nat}
section
variable{E:cr} {p:an} {ps pre rest:bE} {m:cw} {s3 s1:Nat} {h:aI}
end
def mq(ps:bE)(m:cw):bE:=match ps with
 |[]=>[m]
 |t::r=>if t.k<m.k then t::mq r m else if t.k=m.k then(if t.U+m.U=0 then r else⟨m.k,t.U+m.U⟩::r) else m::t::r
end
section
variable{ps:bE}
theorem acd(m:cw):∀(ps:bE) (k:Nat),cx (mq ps m) k=cx ps k+(if m.k=k then m.U else 0)
 |[],k=>by simp only[mq,cx,gb,As]
 |t::r,k=>by
  simp only[mq];split
  ·simp only[cx,acd m r k,z6]
  ·split
   ·rename_i d a;split
    ·rename_i c;simp only[cx,a];split
     ·rw[mC t.U,z6,c,As]
     ·rw[gb,As]
    ·simp only[cx,a];split
     ·rw[z6,z6,mC m.U]
     ·rw[gb,As]
   ·simp only[cx];rw[mC]
theorem NE(m:cw):∀(ps:bE) (t:cw),t∈mq ps m->t.k=m.k\/t∈ps
 |[],t,h=>by simp[mq] at h;exact .inl (by rw[h])
 |x::r,t,h=>by
  simp only[mq] at h;split at h
  ·rcases pG.1 h with rfl|h
   ·exact .inr HO
   ·exact(NE m r t h).imp id (OJ _)
  ·split at h
   ·split at h
    ·exact .inr (OJ _ h)
    ·rcases pG.1 h with rfl|h
     ·exact .inl rfl
     ·exact .inr (OJ _ h)
   ·rcases pG.1 h with rfl|h
    ·exact .inl rfl
    ·exact .inr h
theorem Th{m:cw}(c:m.U≠0):∀{ps:bE},g7 ps->g7 (mq ps m)
 |[],_=>⟨s7 _ _,λx a=>by simp[mq] at a;rw[a];exact c⟩
 |t::r,h=>by
  obtain⟨d,i⟩:=ku.1 h.g0;have g:g7 r:=⟨i,λx a=>h.jD x (OJ _ a)⟩;simp only[mq];split
  ·rename_i o;have j:=Th c g;refine⟨ku.2 ⟨λx a=>?_,j.g0⟩,λx a=>?_⟩
   ·rcases NE m r x a with e|a
    ·omega
    ·exact d x a
   ·rcases pG.1 a with rfl|a
    ·exact h.jD _ HO
    ·exact j.jD x a
  ·split
   ·rename_i k l;split
    ·exact g
    ·rename_i n;refine⟨ku.2 ⟨λx a=>by have:=d x a;simp only;omega,i⟩,λx a=>?_⟩;rcases pG.1 a with rfl|a
     ·exact n
     ·exact g.jD x a
   ·rename_i k l;refine⟨ku.2 ⟨λx a=>?_,h.g0⟩,λx a=>?_⟩
    ·rcases pG.1 a with rfl|a
     ·omega
     ·have:=d x a;omega
    ·rcases pG.1 a with rfl|a
     ·exact c
     ·exact h.jD x a
theorem Vb(m:cw):∀(ps:bE),(mq ps m).length<=ps.length+1
 |[]=>by simp[mq]
 |t::r=>by
  have:=Vb m r;simp only[mq];split
  ·simp only[JO];omega
  ·split
   ·split
    ·simp only[JO];omega
    ·simp only[JO];omega
   ·simp only[JO];omega
def mZ(ps:bE)(m:cw):bE:=if m.U=0 then ps else mq ps m
def hU(ps L:bE):bE:=L.foldl mZ ps
theorem aAb(ps:bE)(m:cw)(k:Nat):cx (mZ ps m) k=cx ps k+(if m.k=k then m.U else 0):=by
 unfold mZ;split
 ·rename_i h;rw[h];split<;>rw[As]
 ·exact acd m ps k
theorem avS(m:cw)(h:g7 ps):g7 (mZ ps m):=by
 unfold mZ;split
 ·exact h
 ·rename_i a;exact Th a h
theorem aB2{K:Nat->Prop}{m:cw}(h:∀t∈ps,K t.k)(c:K m.k):∀t∈mZ ps m,K t.k:=by
 unfold mZ;split
 ·exact h
 ·intro t a;rcases NE m ps t a with e|a
  ·rw[e];exact c
  ·exact h t a
theorem ati(ps:bE)(m:cw):(mZ ps m).length<=ps.length+1:=by
 unfold mZ;split
 ·omega
 ·exact Vb m ps
theorem yp:∀(L ps:bE) (k:Nat),cx (hU ps L) k=cx ps k+cx L k
 |[],ps,k=>by simp[hU,cx,As]
 |m::L,ps,k=>by show cx (hU (mZ ps m) L) k=_;rw[yp L,aAb,z6];rfl
theorem wE:∀(L:bE) {ps:bE},g7 ps->g7 (hU ps L)
 |[],_,h=>h
 |m::L,ps,h=>wE L (avS m h)
theorem pD{K:Nat->Prop}:∀(L:bE) {ps:bE},(∀t∈ps,K t.k)->(∀m∈L,K m.k)->∀t∈hU ps L,K t.k
 |[],_,h,_=>h
 |m::L,ps,h,a=>pD L (aB2 h (a m HO)) λx c=>a x (OJ _ c)
theorem pP:∀(L ps:bE),(hU ps L).length<=ps.length+L.length
 |[],ps=>by simp[hU]
 |m::L,ps=>by have a:=pP L (mZ ps m);have c:=ati ps m;show(hU (mZ ps m) L).length<=_;simp only[JO];omega
section
variable[Tok] {u:Fn} {b:Nat}
end
end
section
variable[Tok] {u:Fn} {b:Nat}
theorem db.yt{d e sz:Nat}{h:aI}{x:an}{arZ:aY}(r:db b d e sz false h x arZ):∃v,dw sz v arZ/\∀f:an->eH->aw,aD h.aj x f=f v []:=by
 rcases r with⟨rfl,rfl⟩|⟨s,rfl,a⟩
 ·exact⟨.aE,.inl ⟨rfl,rfl⟩,λf=>rfl⟩
 ·exact⟨.aQ sz arZ,.inr rfl,λf=>Ip a f⟩
end
section
variable[Tok] {u:Fn} {b:Nat}
theorem fO(ob:ej)(c:Bool)(f:jm):aD ob (.a9 c) f=f (.a9 c) []:=rfl
end
section
variable{d t s e sz d' ee n off len bytes:Nat} {o:e9} {cs new:aB} {es ys:aY} {as0:Bool} {z:dM} {l rk:List Nat} {wk:Option (List Nat)} {y:an}
section
variable[Tok] {u:Fn} {b:Nat}
class b4 (h:aI) (b:outParam Nat):Prop where
 eq:b+4096<=h.bh
class da (h:aI):Prop where
 eq:h.bQ=[]
theorem b4.lt{h:aI}[u:b4 h b](hd:d<4096):b+d<h.bh:=by have:=u.eq;omega
noncomputable def qk(h:aI)(b d t:Nat):Nat:=jG (iH (h.aj (b+d))) t
noncomputable def ri(h:aI)(b d:Nat):Nat:=Nat.add (iH (h.aj (b+d))) 1
noncomputable def aI.g4(h:aI)(b d:Nat)(o:e9):aI:=h.eW b (b+d) o
noncomputable def aI.fz(h:aI)(b d t:Nat)(cs:aB):aI:=h.g4 b d (.ae (.box (qk h b d t) cs))
noncomputable def aI.eP(h:aI)(b d:Nat)(cs:aB):aI:=h.g4 b d (.ae (.box (iH (h.aj (b+d))) cs))
noncomputable def aI.fm(h:aI)(b d e sz:Nat)(es:aY)(as0:Bool):aI:=h.g4 b d (.ae (.az (ri h b d) e sz es as0))
theorem Kf(h:aI)(b d:Nat)(o:e9):(h.g4 b d o).bh=h.bh:=by obtain⟨ub,s,dd⟩:=h;rfl
instance{h:aI}{d:Nat}{o:e9}[u:b4 h b]:b4 (h.g4 b d o) b:=⟨by rw[Kf];exact u.eq⟩
instance{h:aI}{d t:Nat}{cs:aB}[u:b4 h b]:b4 (h.fz b d t cs) b:=inferInstanceAs (b4 (h.g4 b d _) b)
instance{h:aI}{d:Nat}{cs:aB}[u:b4 h b]:b4 (h.eP b d cs) b:=inferInstanceAs (b4 (h.g4 b d _) b)
instance{h:aI}{d e sz:Nat}{es:aY}{as0:Bool}[u:b4 h b]:b4 (h.fm b d e sz es as0) b:=inferInstanceAs (b4 (h.g4 b d _) b)
instance{atf:b1}:b4 (ba b atf) b:=⟨sm _⟩
instance{atf:b1}:da (ba b atf):=⟨rfl⟩
theorem ng{h:aI}(hd:b+d<h.bh):eY b [d] h (h.g4 b d o):=eY.eW hd
theorem amv{h:aI}[n:da h]:(h.g4 b d o).bQ=[]:=by obtain⟨ub,s,dd⟩:=h;have e:dd=[]:=n.eq;subst e;show @Bool.rec (λ_=>List Nat) [] [b+d] (Nat.blt (b+d) b)=[];rw[oW,bk]
instance{h:aI}{d:Nat}{o:e9}[n:da h]:da (h.g4 b d o):=⟨amv⟩
instance{h:aI}{d t:Nat}{cs:aB}[n:da h]:da (h.fz b d t cs):=inferInstanceAs (da (h.g4 b d _))
instance{h:aI}{d:Nat}{cs:aB}[n:da h]:da (h.eP b d cs):=inferInstanceAs (da (h.g4 b d _))
instance{h:aI}{d e sz:Nat}{es:aY}{as0:Bool}[n:da h]:da (h.fm b d e sz es as0):=inferInstanceAs (da (h.g4 b d _))
theorem atQ{h:aI}[b4 h b](hd:d<4096:=by decide):(h.g4 b d o).aj (b+d)=o.ag:=kB (b4.lt hd)
theorem fE{h:aI}[b4 h b](hd:d<4096:=by decide):(h.fz b d t cs).aj (b+d)= .box (qk h b d t) cs:=kB (b4.lt hd)
theorem gS{h:aI}{a:aB}[b4 h b](c:h.aj (b+d)= .box s a)(hd:d<4096:=by decide):(h.eP b d cs).aj (b+d)= .box s cs:=(kB (b4.lt hd)).trans (by rw[c];rfl)
theorem i9{h:aI}[b4 h b](hd:d<4096:=by decide):(h.fm b d e sz es as0).aj (b+d)= .az (ri h b d) e sz es as0:=kB (b4.lt hd)
theorem Dr{h:aI}[b4 h b](e:h.aj (b+d')=z)(g:d≠d':=by decide)(hd:d<4096:=by decide):(h.g4 b d o).aj (b+d')=z:=by rw[(ng (b4.lt hd)).aj _ λc a=>by simp at a;omega];exact e
theorem gF{h:aI}[b4 h b](e:h.aj (b+d')=z)(a:d≠d':=by decide)(hd:d<4096:=by decide):(h.fz b d t cs).aj (b+d')=z:=Dr e a hd
theorem gi{h:aI}[b4 h b](e:h.aj (b+d')=z)(a:d≠d':=by decide)(hd:d<4096:=by decide):(h.eP b d cs).aj (b+d')=z:=Dr e a hd
theorem ga{h:aI}[b4 h b](e:h.aj (b+d')=z)(a:d≠d':=by decide)(hd:d<4096:=by decide):(h.fm b d ee sz es as0).aj (b+d')=z:=Dr e a hd
theorem de{h:aI}[b4 h b](k:dg)(hd:d<4096:=by decide):ci t b d none cs h k=k (.bn (b+d) (qk h b d t) 0) (h.fz b d t cs):=by have e:ci t b d none cs h k=eF (b+d) λq=>eF (jG (iH (h.aj q)) t) λs=>ky b none q (.ae (.box s cs)) h λh'=>k (.bn q s 0) h':=rfl;rw[e,fd,fd,td (gs b _) (b4.lt hd)];rfl
theorem tw{h:aI}[b4 h b](k:dg)(c:eb l d=true:=by rfl)(a:d<4096:=by decide):ci t b d (some l) cs h k=k (.bn (b+d) (qk h b d t) 0) (h.fz b d t cs):=by have e:ci t b d (some l) cs h k=eF (b+d) λq=>eF (jG (iH (h.aj q)) t) λs=>ky b (some l) q (.ae (.box s cs)) h λh'=>k (.bn q s 0) h':=rfl;rw[e,fd,fd,td (mN a c) (b4.lt a)];rfl
theorem cy{h:aI}[b4 h b](k:dg)(hd:d<4096:=by decide):ip t b d none (.agg cs) h k=k (.bn (b+d) (qk h b d t) 0) (h.fz b d t cs):=by have e:ip t b d none (.agg cs) h k=lG cs λcs=>ci t b d none cs h k:=rfl;rw[e,lu,de k hd]
theorem dc{h:aI}[b4 h b](c:new.length=n:=by first|assumption|rfl)(a:h.aj (b+d)= .box s cs:=by repeat first|assumption|with_reducible first|exact fE|exact i9|exact pi|exact vl|apply gS|refine gF ?_|refine gi ?_|refine ga ?_|refine l5 ?_|refine i ?_|refine j ?_|refine p ?_|refine q ?_|decide)(g:cs.length=n:=by first|assumption|rfl)(k:dg)(hd:d<4096:=by decide):aX b none n (.bn (b+d) s 0) (.agg new) h k=k .undef (h.eP b d new):=by rw[tD (b:=b) (n:=n) (off:=0) (wk:=none) (new:=new) a c (by rw[g];omega) (λo=>gs b _) (b4.lt hd),show cs.take 0++new++cs.drop (0+n)=new by rw[GN,iL (by omega)];simp];unfold aI.eP;rw[a];rfl
theorem pf{h:aI}[b4 h b](g:new.length=n:=by first|assumption|rfl)(a:h.aj (b+d)= .box s cs:=by repeat first|assumption|with_reducible first|exact fE|exact i9|exact pi|exact vl|apply gS|refine gF ?_|refine gi ?_|refine ga ?_|refine l5 ?_|refine p ?_|refine q ?_|refine r ?_|refine w ?_|decide)(i:cs.length=n:=by first|assumption|rfl)(k:dg)(j:eb l d=true:=by rfl)(c:d<4096:=by decide):aX b (some l) n (.bn (b+d) s 0) (.agg new) h k=k .undef (h.eP b d new):=by rw[tD (b:=b) (n:=n) (off:=0) (wk:=some l) (new:=new) a g (by rw[i];omega) (λo=>mN c j) (b4.lt c),show cs.take 0++new++cs.drop (0+n)=new by rw[GN,iL (by omega)];simp];unfold aI.eP;rw[a];rfl
theorem GD{h:aI}[b4 h b](c:new.length=n:=by assumption)(a:h.aj (b+d)= .box s cs)(g:off+n<=cs.length:=by assumption)(k:dg)(hd:d<4096:=by decide):aX b none n (.bn (b+d) s off) (.agg new) h k=k .undef (h.eP b d (cs.take off++new++cs.drop (off+n))):=by rw[tD (b:=b) (n:=n) (off:=off) (wk:=none) (new:=new) a c g (λo=>gs b _) (b4.lt hd)];unfold aI.eP;rw[a];rfl
theorem gW{h:aI}[b4 h b](k:dg)(hd:d<4096:=by decide):c6 b d none e sz len as0 es [] h k=k (.az (b+d) (ri h b d) 0 len) (h.fm b d e sz es as0):=by have a:c6 b d none e sz len as0 es [] h k=eF (b+d) λq=>eF (Nat.add (iH (h.aj q)) 1) λs=>lG es λes=>lk b none [(q,.az s e sz es as0)] h λh'=>k (.az q s 0 len) h':=rfl;rw[a,fd,fd,lu,K7 (gs b _) (b4.lt hd)];rfl
theorem n5{h:aI}[b4 h b](k:dg)(c:eb l d=true:=by rfl)(a:d<4096:=by decide):c6 b d (some l) e sz len as0 es [] h k=k (.az (b+d) (ri h b d) 0 len) (h.fm b d e sz es as0):=by have g:c6 b d (some l) e sz len as0 es [] h k=eF (b+d) λq=>eF (Nat.add (iH (h.aj q)) 1) λs=>lG es λes=>lk b (some l) [(q,.az s e sz es as0)] h λh'=>k (.az q s 0 len) h':=rfl;rw[g,fd,fd,lu,K7 (mN a c) (b4.lt a)];rfl
def Pj(s e sz:Nat)(es:aY)(as0:Bool):e9:= .kr s e sz es.reverse as0
theorem afA(s e sz:Nat)(es:aY)(as0:Bool):(Pj s e sz es as0).ag= .az s e sz es as0:=by show dM.az s e sz (nx es.reverse) as0=_;rw[qL,o2]
noncomputable def aI.ow(h:aI)(b d s e sz:Nat)(es:aY)(as0:Bool):aI:=h.g4 b d (Pj s e sz es as0)
instance{h:aI}{d s e sz:Nat}{es:aY}{as0:Bool}[u:b4 h b]:b4 (h.ow b d s e sz es as0) b:=inferInstanceAs (b4 (h.g4 b d _) b)
instance{h:aI}{d s e sz:Nat}{es:aY}{as0:Bool}[n:da h]:da (h.ow b d s e sz es as0):=inferInstanceAs (da (h.g4 b d _))
theorem pi{h:aI}[b4 h b](hd:d<4096:=by decide):(h.ow b d s e sz es as0).aj (b+d)= .az s e sz es as0:=(kB (b4.lt hd)).trans (afA _ _ _ _ _)
theorem l5{h:aI}[b4 h b](e:h.aj (b+d')=z)(a:d≠d':=by decide)(hd:d<4096:=by decide):(h.ow b d s ee sz es as0).aj (b+d')=z:=Dr e a hd
theorem Gm{h:aI}{arZ:aY}[b4 h b](a:h.aj (b+d)= .az s e sz arZ as0)(c:∀f:aY->aw,ke h.aj sz y f=f ys)(g:n=arZ.length)
 (i:∀o,gO b wk [(b+d,o)]=true)(j:(arZ.length+ys.length)*bytes<=1099511627776)(p:arZ.length+ys.length<=1099511627776)(k:dg)(hd:d<4096:=by decide):
 eC b d' wk e sz bytes (.az (b+d) s 0 n) y as0 h k=k (.az (b+d) (Nat.add s 1) 0 (arZ.length+ys.length)) (h.ow b d (Nat.add s 1) e sz (arZ++ys) as0):=by
 subst g;have q:eC b d' wk e sz bytes (.az (b+d) s 0 arZ.length) y as0 h k=ke h.aj sz y λys=>lG ys λys=>eF (ea ys) λn=>
  bf (Nat.beq 0 0) (wm (h.Bo (b+d)) λw x A rs r=>bf (Nat.beq s w) (bf (Nat.beq x e) (bf (Nat.beq A sz)
   (@Bool.rec (λ_=>aw) (bf r (bf (Nat.ble arZ.length (ea rs)) (lB b wk bytes (b+d) s e sz (lK (Nat.sub (ea rs) arZ.length) rs) n ys r arZ.length h k) .ax) .ax) (lB b wk bytes (b+d) s e sz rs n ys r arZ.length h k) (Nat.beq arZ.length (ea rs))) .ax) .ax) .ax) .ax:=rfl
 rw[q,c,lu,fd,gr,wT,cM,NN (by rw[aI.Hb];exact a),wT,cM,wT,cM,wT,cM,gr,oM,wT];show lB b wk bytes (b+d) s e sz arZ.reverse ys.length ys as0 arZ.length h k=_;unfold lB;rw[fd,ek,pl (by rw[hW,Ct];exact j),cM,ek,pl (by rw[Ct];exact p),cM,fd,sf,td (i _) (b4.lt hd)];unfold aI.ow Pj;rw[List.reverse_append];rfl
theorem ak5{h:aI}[b4 h b](c:∀f:aY->aw,ke h.aj sz y f=f ys)(g:ys≠[])
 (i:∀o,gO b wk [(b+d,o)]=true)(j:ys.length*bytes<=1099511627776)(p:ys.length<=1099511627776)(k:dg)(hd:d<4096:=by decide):
 eC b d wk e sz bytes .aE y as0 h k=k (.az (b+d) (ri h b d) 0 ys.length) (h.ow b d (ri h b d) e sz ys as0):=by
 have r:eC b d wk e sz bytes .aE y as0 h k=ke h.aj sz y λys=>lG ys λys=>eF (ea ys) λn=>
  (bf (Nat.ble (Nat.mul n bytes) 1099511627776) (bf (Nat.ble n 1099511627776)
   (@List.rec aB (λ_=>aw) (lk b wk [] h λh'=>k .aE h') (λ_ _ _=>eF (Nat.add b d) λq=>eF (Nat.add (iH (h.aj q)) 1) λaM=>nQ ys [] λrs=>ky b wk q (.kr aM e sz rs as0) h λh'=>k (.az q aM 0 n) h') ys) .ax) .ax):=rfl
 rw[r,c,lu,fd,gr,ek,pl (by rw[hW];exact j),cM,ek,pl p,cM];cases ys with
 |nil=>exact absurd rfl g
 |cons a r0=>show(eF (b+d) λq=>eF (Nat.add (iH (h.aj q)) 1) λaM=>nQ (a::r0) [] λrs=>ky b wk q (.kr aM e sz rs as0) h λh'=>k (.az q aM 0 (a::r0).length) h')=_;rw[fd,fd,sf,fr,td (i _) (b4.lt hd)];rfl
theorem gh{ob:ej}{a:Bool}{q:Nat}(c:ob q= .box s cs:=by repeat first|assumption|with_reducible first|exact fE|exact i9|exact pi|exact vl|apply gS|refine gF ?_|refine gi ?_|refine ga ?_|refine l5 ?_|refine h ?_|refine i ?_|refine j ?_|refine p ?_|decide)(k:an->aw):fK ob (.bn q s off) a n k=kJ a n cs off k:=by have e:fK ob (.bn q s off) a n k=nA (ob q) λg cs=>bf (Nat.beq s g) (kJ a n cs off k) .ax:=rfl;rw[e,c,acZ,wT,cM]
theorem yg(ob:ej)(f:jm):aD ob .aE f=f .aE []:=rfl
theorem DQ(ob:ej)(a c:Nat)(f:jm):aD ob (.s a c) f=f (.s a c) []:=rfl
theorem mg(ob:ej)(sz:Nat)(es:aY)(f:jm):aD ob (.aQ sz es) f=f (.aQ sz es) []:=rfl
theorem cH(s o:Nat)(xs:aB)(z:aw)(h:eb rk d=true:=by rfl)(hd:d<4096:=by decide):met b rk (.bn (b+d) s o::xs) z=met b rk xs z:=m1 hd h s o xs z
theorem hO(s o l:Nat)(xs:aB)(z:aw)(h:eb rk d=true:=by rfl)(hd:d<4096:=by decide):met b rk (.az (b+d) s o l::xs) z=met b rk xs z:=qM hd h s o l xs z
theorem b9{r:an}{h:aI}[n:da h]:∃s d,dJ 0 r [] h= .ok r 0 s d:=o0 n.eq
theorem oA{a c:aB}(h:b8 a=true):b8 (a++c)=b8 c:=by
 induction a with
 |nil=>rfl
 |cons x r g=>cases x<;>first|exact g h|exact absurd h (by intro h;cases h)
end
end
section
variable{t o cs:aB} {k:Int} {p n a:an} {ob:ej} {sz:Nat} {es:aY}
section
variable[Tok] {u:Fn} {b:Nat}
def yb(p n:an):aB:=[aS,p,n,aL,.s 0 0,.s 0 0,.s 0 0,.s 0 0,.s 0 0,.aE,.aE]
def cW(o:aB):aB:=[cZ,.s 0 0,.s 0 0]++o++[.aE]
def bU(p n:an)(l:aY):aB:=[gg,p,n,aL,.s 0 0,.s 0 0,.s 0 0,.s 0 0,.s 0 0,.aE,.aQ 11 l]
structure fk (t:aB) (k:Int) (p n:an) (o:aB) (a:an):Prop where
 eq:t=[ao k,p,n]++o++[a]
 len:o.length=7
 e5:b8 t=true
theorem fk.aa(h:fk t k p n o a):t.length=11:=by rw[h.eq];simp[h.len]
theorem fk.eO(h:fk t k p n o a):t[0+0]? =some (ao k):=by rw[h.eq];rfl
theorem fk.cT(h:fk t k p n o a):t[0+1+1]? =some n:=by rw[h.eq];rfl
theorem fk.gP(h:fk t k p n o a):t[0+10]? =some a:=by rw[h.eq,sH (by simp[h.len])];simp[h.len]
theorem fk.t1(h:fk t k p n o a):(t.drop (0+1)).take 2=[p,n]:=by rw[h.eq];rfl
theorem fk.t3(h:fk t k p n o a):(t.drop (0+3)).take 7=o:=by rw[h.eq];simp[<-h.len]
theorem fk.eV(h:fk t k p n o a):0+3+7<=t.length:=by rw[h.aa];omega
theorem fk.eD(h:fk t k p n o a):0+1+2<=t.length:=by rw[h.aa];omega
theorem O3:∀{a c:aB},b8 (a++c)=true->b8 a=true/\b8 c=true
 |[],c,h=>⟨rfl,h⟩
 |x::r,c,h=>by cases x<;>first|exact O3 (a:=r) h|exact absurd h (by intro h;cases h)
theorem fk.b2(h:fk t k p n o a):b8 o=true:=(O3 (O3 (h.eq▸h.e5)).1).2
theorem hu(hi:es[0]? =some cs:=by rfl)(k:an->aw):cb ob sz (.aQ sz es) (ao 0) k=k (.ep cs 0):=by rw[show(0:Int)=((0:Nat):Int) from rfl];exact eE hi k
theorem of(hi:es[1]? =some cs:=by rfl)(k:an->aw):cb ob sz (.aQ sz es) (ao 1) k=k (.ep cs 0):=by rw[show(1:Int)=((1:Nat):Int) from rfl];exact eE hi k
theorem yH(h:b8 [p,n]=true):fk (yb p n) 1 p n dx .aE:=
 ⟨by rw[<-bK];rfl,rfl,by show b8 ([aS]++([p,n]++fX))=true;rw[oA rfl,oA h];rfl⟩
theorem ff:(cZ:an)=ao 2:=by rw[cX];rfl
theorem i2:(gg:an)=ao 3:=by rw[cX];rfl
theorem p7:(jf:an)=ao 4:=by rw[cX];rfl
theorem iA(c:o.length=7)(h:b8 o=true):fk (cW o) 2 (.s 0 0) (.s 0 0) o .aE:=
 ⟨by rw[<-ff];rfl,c,by show b8 ([cZ,.s 0 0,.s 0 0]++(o++[.aE]))=true;rw[oA rfl,oA h];rfl⟩
theorem ks{l:aY}(h:b8 [p,n]=true):fk (bU p n l) 3 p n dx (.aQ 11 l):=
 ⟨by rw[<-i2];rfl,rfl,by show b8 ([gg]++([p,n]++[aL,.s 0 0,.s 0 0,.s 0 0,.s 0 0,.s 0 0,.aE,.aQ 11 l]))=true;rw[oA rfl,oA h];rfl⟩
theorem fQ:(bG:an)= .a9 false:=rfl
theorem gE:(dh:an)= .a9 true:=rfl
end
end
section
variable{r l:bE} {K:Nat->Prop} {D:Rat->Prop} {h:aI}
def ei(l:bE):bE:=hU [] l
theorem rf(l:bE):g7 (ei l):=wE l ⟨List.Pairwise.nil,by simp⟩
theorem tv(l:bE)(k:Nat):cx (ei l) k=cx l k:=by unfold ei;rw[yp];simp[cx,Rat.zero_add]
theorem AD(h:g7 r)(a:∀k,cx r k=cx l k):r=ei l:=M7 h (rf l) λk=>by rw[a,tv]
theorem Yv(h:g7 r):ei r=r:=(AD h λ_=>rfl).symm
theorem LW{a:bE}(c:∀k,cx l k=cx a k):ei l=ei a:=AD (rf l) λk=>by rw[tv,c]
section
variable[Tok] {u:Fn} {b:Nat}
theorem akH{E:cr}(a:w5 u E K D){q s:Nat}{ms:bE}(c:q<h.bh)(d:2048<=q%4096)(e:h.aj q= .az s 120 8 (ms.map E.fp) true)(g:ms.length<=39)(i:ms≠[])(j:∀m∈ms,K m.k)
 (H:∀l m o,(l++m::o).Perm ms->l≠[]->(∀x∈l,x.k=m.k)->rd u E (lN l) m.U/\E.s m.k)(p:∀k,D (cx ms k)):
 ∃v h',cA E v (ei ms)/\(∀m∈ei ms,K m.k)/\(ei ms).length<=ms.length/\h'.bQ=h.bQ/\∀(n:Nat) (k:dg),n=ms.length->fD u 0 184 [.az q s 0 n] [] h k=k (.a0 [v,ao 0]) h':=by
 obtain⟨t,I⟩:=a;obtain⟨r,r1,w,y,z,A⟩:= @t h.bh h.au q s ms c d (by rw[aI.vZ];exact e) g i j H p;obtain⟨B,J,C,L,F⟩:=Jf (b:=0) A (xW _);obtain rfl:=AD r1 w;exact⟨_,B,.inr rfl,y,z,C,λn k G=>by subst G;exact F k⟩
theorem awA{v:an}{es:aY}(a:dw 8 v es)(hd:h.bQ=[]):∃s d,Hn 0 v (ao 0) h= .ok (.a0 [v,ao 0]) 0 s d:=by have c:Hn 0 v (ao 0) h=aD h.aj v λe s4=>aD h.aj (ao 0) λg s6=>dJ 0 (.a0 [e,g]) (aA s4 (aA s6 [])) h:=rfl;rw[c,a.dU,b7,av,av];exact o0 hd
structure cr.AF (E:cr) (k0:Nat):Prop where
 Cm:∀c,(E.num c)[0+0]? =some (ao 1)
 nil:E.di k0= .aE
theorem ate{E:cr}{a:Nat}(g:E.AF a)(i:w5 u E K D){c:Rat}(j:K a)(n:∀k,D (cx [⟨a,c⟩] k)):
 ∃v,cA E v (ei [⟨a,c⟩])/\∃s d,BA u [.agg (E.num c)] 0 .nil= .ok (.a0 [v,ao 0]) 0 s d:=by
 have y:=g.Cm c;have o:∀f:aB->aw,cC 0 7 (.agg (E.num c)) fX f=f (E.fp ⟨a,c⟩):=λf=>by rw[tZ (E.len c),GN,Pt,O7,O7,O7,O7,O7,O7,O7];unfold cr.fp;rw[g.nil];rfl
 have z:=E.gw ⟨a,c⟩;have el:=E.eG ⟨a,c⟩;rw[BA,dK,Zp,cy,bp,bb,aH,bc,bK,bF,dF,bk,a6,ack,aH,be (E.len _),o,hL,hX,av,gW];obtain⟨v,h',e,A,B,p,t⟩:=akH i (ms:=[⟨a,c⟩]) (h:=((ba 0 b1.nil).fz 0 1 54 (E.num c)).fm 0 2057 120 8 [E.fp ⟨a,c⟩] true) (q:=0+2057) (b4.lt (by decide)) (by omega) i9 (by simp) (by simp) (by simpa using j) (λl m C w x _=>by have:=w.length_eq;have F:0<l.length:=Nb.2 x;simp at this;omega) n
 rw[t 1 _ rfl,e2 _ _ e.eh,e3 _ _ e.eh];exact⟨v,e,awA e (p.trans da.eq)⟩
end
end
end Go.Hf

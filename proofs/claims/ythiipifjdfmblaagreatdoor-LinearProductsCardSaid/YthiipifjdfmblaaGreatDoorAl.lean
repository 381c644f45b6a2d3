import Derived.Test.YthiipifjdfmblaaGreatDoorAk
set_option linter.all false
set_option maxRecDepth 100000
namespace Go.Hf
open Go.RowKit
section
variable{aET:b1}
section
variable[Tok] {u:Fn} {b:Nat}
theorem af3{n:Nat}(j:b%4096=0)(l:n<100000):(n=0/\gD (zK u [.aE,ao n] b aET) b aET .aE)\/(0<n/\∃es,q7 (zK u [.aE,ao n] b aET) b aET 120 8 0 es):=by
 have o:(ba b aET).ar=b+4096:=rfl;rw[zK,dE,ZA,bF,bO,bk,a6,ad4,Kd,tH,hy,e1 (a:=0) (b:=0),show(0:Int)-0=0 from rfl,e1 (a:=(n:Int)) (b:=0),Int.sub_zero,bF,hH];by_cases c:0<n
 ·rw[bN,bL,acQ,Kd,tH,aaP];obtain⟨s,h',a1,a2,i⟩:=SI (b:=b) (d:=2070) (e:=120) (sz:=8) (bytes:=136) (z:=fX) (h:=ba b aET) c (by omega) (by omega) (by omega);rw[i,hy,show(ao 0:an)=ao ((0:Nat):Int) from rfl,G9 a2 (λf=>uH 0 f) (λf=>uW n 0 f) (cY 0) (ik n),D4];have p:h'.ar=b+4096:=by rw[a1.ar];rfl
  exact .inr ⟨c,_,Jc (by omega) (by omega) (by omega) (by omega) (by omega) a2 (by rw[a1.bQ];rfl) λk g=>by rw[a1.aj k λd q=>by omega];exact kz aET g⟩
 ·rw[bk,a6];exact .inl ⟨by omega,yR (by omega) rfl λk g=>kz aET g⟩
def XP(u:Fn):Prop:=∀{b:Nat} {aET:b1} {n:Nat},b%4096=0->n<100000->(n=0/\gD (u 262 [.aE,ao n] b aET) b aET .aE)\/(0<n/\∃es,q7 (u 262 [.aE,ao n] b aET) b aET 120 8 0 es)
theorem avT(u:Fn)(a:an)(b:Nat)(aET:b1):xJ u [a] b aET=bq false a λc=>fs 0 3 9 10 11 1000000 (Fy u b (FO u b)) a aL a c aL (ba b aET):=by kernel_rfl
theorem aw7(E:XP u){p q:an}{es g:aY}(Z:b%4096=0)(j:dw 8 p es)(l:dw 8 q g)(h1:es.length+g.length<=1000):
 (es++g=[]/\gD (xJ u [.aQ 1 [[p],[q]]] b aET) b aET .aE)\/(es++g≠[]/\q7 (xJ u [.aQ 1 [[p],[q]]] b aET) b aET 120 8 (es++g).length (es++g)):=by
 have a3:(ba b aET).ar=b+4096:=rfl;have eO:([[p],[q]]:aY)[0]? =some [p]:=rfl;have dB:([[p],[q]]:aY)[1]? =some [q]:=rfl;have n:∀ob:Nat->dM,∀k:an->aw,cb ob 1 (.aQ 1 [[p],[q]]) (ao 0) k=k (.ep [p] 0):=λob k=>eE (i:=0) eO k;have r:∀ob:Nat->dM,∀k:an->aw,cb ob 1 (.aQ 1 [[p],[q]]) (ao 1) k=k (.ep [q] 0):=λob k=>eE (i:=1) dB k;have v0:∀ob:Nat->dM,∀k:an->aw,aW ob false 1 (.ep [p] 0) k=k p:=λob k=>by rw[ch,bc]
 have t:∀ob:Nat->dM,∀k:an->aw,aW ob false 1 (.ep [q] 0) k=k q:=λob k=>by rw[ch,bc]
 have w:∀k:an->aw,bq false (.aQ 1 [[p],[q]]) k=k (ao 2):=λk=>eA _ _ k;have head:xJ u [.aQ 1 [[p],[q]]] b aET=FO u b (.aQ 1 [[p],[q]]) (ao ((es.length+g.length:Nat):Int)) (ba b aET):=by
  rw[avT,w,bF,show(1000000:Nat)=999997+1+1+1 from rfl,gI,Fy,bO (a:=0) (b:=2),bN,bL,Ps,n,v0,j.len,cK (a:=0) (b:=(es.length:Int)),bF,bO,bk,a6,bK,cK (a:=0) (b:=1),show(0:Int)+1=1 from rfl,
   gI,Fy,bO (a:=1) (b:=2),bN,bL,Ps,r,t,l.len,cK (a:=0+(es.length:Int)) (b:=(g.length:Int)),bF,bO,bk,a6,bK,cK (a:=1) (b:=1),show(1:Int)+1=2 from rfl,
   gI,Fy,bO (a:=2) (b:=2),bk,a6,show(0:Int)+(es.length:Int)+(g.length:Int)=((es.length+g.length:Nat):Int) by omega]
 rw[head,FO,b7,av];have h:= @E (ba b aET).ar (ba b aET).au (es.length+g.length) (by omega) (by omega);rcases h with⟨c,h⟩|⟨c,G,h⟩
 ·obtain⟨z,a1,a2⟩:=my (b:=b) h;have H:es=[]:=uw (by omega);have bG:g=[]:=uw (by omega);subst H bG;rw[a2,w,bF,show(1000000:Nat)=999997+1+1+1 from rfl,fj,yn,bO (a:=0) (b:=2),bN,bL,DU,n,v0,Ik (λf=>j.iZ _ f) rfl,bK,cK (a:=0) (b:=1),show(0:Int)+1=1 from rfl,
   fj,yn,bO (a:=1) (b:=2),bN,bL,DU,r,t,Ik (λf=>l.iZ _ f) rfl,bK,cK (a:=1) (b:=1),show(1:Int)+1=2 from rfl,
   fj,yn,bO (a:=2) (b:=2),bk,a6]
  exact .inl ⟨rfl,yR (by rw[a1.ar];omega) (by rw[a1.bQ];rfl) λk x=>by rw[a1.aj k λd I=>by cases I];exact kz aET x⟩
 ·obtain⟨z,A,s,a4,B,J,a5,bs,K,L,M,N⟩:=F7 (b:=b) h;have O:es++g≠[]:=by intro e;have:=dt List.length e;rw[lh,kT] at this;omega
  have C:∀o,gO b none [(A,o)]=true:=λo=>gs b _;obtain⟨s2,P,t1,t2,t3,t4⟩:=sG (b:=b) (d:=2081) (wk:=none) (aEQ:=true) (bytes:=136) (y:=p) (ys:=es) (len:=0) K (ik _) (λf=>j.iZ _ f) C B (by omega) (by omega);have Q:G.take 0++es=es:=by simp
  rw[Q] at t3;have R:A<P.ar:=by rw[t1.ar];exact B
  obtain⟨s3,S,D,T,ew,W⟩:=sG (b:=b) (d:=2081) (wk:=none) (aEQ:=true) (bytes:=136) (y:=q) (ys:=g) (len:=0+es.length) t3 (by omega) (λf=>l.iZ _ f) C R (by omega) (by omega);have X:es.take (0+es.length)++g=es++g:=by simp
  rw[X] at ew;rw[N,w,bF,show(1000000:Nat)=999997+1+1+1 from rfl,fj,yn,bO (a:=0) (b:=2),bN,bL,DU,n,v0,t4,bK,cK (a:=0) (b:=1),show(0:Int)+1=1 from rfl,
   fj,yn,bO (a:=1) (b:=2),bN,bL,DU,r,t,W,bK,cK (a:=1) (b:=1),show(1:Int)+1=2 from rfl,
   fj,yn,bO (a:=2) (b:=2),bk,a6,show 0+es.length+g.length=(es++g).length by simp]
  have bx:S.ar=z.ar:=by rw[D.ar,t1.ar]
  refine .inr ⟨O,Jc (by omega) (by omega) J (by omega) (by omega) ew (by rw[T (by omega),t2 (by omega),M];rfl) λk x=>?_⟩;rw[D.aj k (by omega),t1.aj k (by omega),L k (by omega)];exact kz aET x
def Rl(u:Fn):Prop:=∀{b:Nat} {aET:b1} {p q:an} {es a:aY},b%4096=0->dw 8 p es->dw 8 q a->es.length+a.length<=1000->
 (es++a=[]/\gD (u 205 [.aQ 1 [[p],[q]]] b aET) b aET .aE)\/(es++a≠[]/\q7 (u 205 [.aQ 1 [[p],[q]]] b aET) b aET 120 8 (es++a).length (es++a))
end
end
section
variable{f sz:Nat} {aET:b1} {r v:an} {h:aI} {ob:ej} {es:aY}
section
variable[Tok] {u:Fn} {b:Nat}
theorem aC7:gD (vV u [.aE,ao 0,ao 0,dI f] b aET) b aET (.a0 []):=by rw[vV,GH,Ln,bK,cK (a:=0) (b:=1),show(0:Int)+1=1 from rfl,hQ,gI,sR,bO (a:=1) (b:=0),bk,a6];exact rp .refl (S:=[])
theorem aAF(c:∀{b:Nat} {aET:b1},gD (u 335 [.aE,ao 0,ao 0,dI f] b aET) b aET (.a0 [])):gD (xM u [.aE,ao 0,dI f] b aET) b aET (.a0 []):=by obtain⟨d,a1,a2⟩:=my (b:=b) (@c (ba b aET).ar (ba b aET).au);rw[ad0,GI,bF,hQ,mb,wG,qd (a:=20) (b:=0),bk,a6,w9,b7,b7,lY,av,av,av,a2,hQ,fj,ym,bO (a:=20) (b:=0),bk,a6];exact rp a1
theorem alF(a:∀{b:Nat} {aET:b1},gD (u 284 [.aE,ao 0,dI f] b aET) b aET (.a0 [])):gD (v9 u [.aE,dI f] b aET) b aET (.a0 []):=by obtain⟨c,a1,a2⟩:=my (b:=b) (@a (ba b aET).ar (ba b aET).au);rw[v9,dE,QR,hy,b7,lY,av,av,a2];exact rp a1
theorem aqY(e:∀{b:Nat} {aET:b1},gD (u 236 [.aE,dI 237] b aET) b aET (.a0 []))(g:∀{b:Nat} {aET:b1},gD (u 238 [.aE,dI 239] b aET) b aET .aE):gD (v4 u [.aE] b aET) b aET (.a0 [.aE,ao 0]):=by
 obtain⟨d,a1,a2⟩:=my (b:=b) (@e (ba b aET).ar (ba b aET).au);obtain⟨c,c1,c2⟩:=my (b:=b) (@g d.ar d.au);rw[aa2,a2,hy,bF,hQ,fj,uX,bO (a:=0) (b:=0),bk,a6,Bg,c2,hy,Bp,hH (a:=0) (b:=60),bk,a6,Q6,hy,bF,
  hQ,fj,yv,bO (a:=0) (b:=0),bk,a6]
 have i:uG b .aE (ao 0) c=dJ b (.a0 [.aE,ao 0]) [] c:=by have j:uG b .aE (ao 0) c=aD c.aj (ao 0) λk l=>dJ b (.a0 [.aE,k]) (aA [] (aA l [])) c:=rfl;rw[j,b7,av,av]
 rw[i];exact rp (a1.trans c1)
def w5(u:Fn)(E:cr)(K:Nat->Prop)(D:Rat->Prop):Prop:=(∀{b:Nat} {aET:b1} {ql sl:Nat} {ms:bE},ql<b->2048<=ql%4096->cE b aET ql= .az sl 120 8 (ms.map E.bd) true->ms.length<=39->ms≠[]->(∀m∈ms,K m.k)->
 (∀l m a,(l++m::a).Perm ms->l≠[]->(∀x∈l,x.k=m.k)->rd u E (lN l) m.U/\E.s m.k)->(∀k,D (cx ms k))->
 ∃r:bE,g7 r/\(∀k,cx r k=cx ms k)/\(∀m∈r,K m.k)/\r.length<=ms.length/\CZ (u 184 [.az ql sl 0 ms.length] b aET) b aET ql (.aQ 8 (r.map E.bd)))/\
 ∀{b:Nat} {aET:b1},gD (u 184 [.aE] b aET) b aET (.a0 [.aE,ao 0])
theorem o0(a:h.bQ=[]):∃s d,dJ 0 r [] h= .ok r 0 s d:=by obtain⟨ub,a8,d⟩:=h;have c:d=[]:=a;subst c;exact⟨a8.drop 0,[],rfl⟩
theorem Jf{ps:aB}{ql:Nat}(H:CZ (u f ps h.ar h.au) h.ar h.au ql r)(p:b<=ql):∃h',h'.ar=h.ar/\h'.bQ=h.bQ/\(∀k,k≠ql->h'.aj k=h.aj k)/\∀k:dg,dd u b f ps [] h k=k (.a0 [r,ao 0]) h':=by
 obtain⟨c,d,g,i,j⟩:=H;obtain⟨ub,a8,a⟩:=h;have l:u f ps ub a8= .ok (.a0 [r,ao 0]) ub c d:=g;have n:gZ b d=[]:=by rw[AY];intro k e;have q:=EE e;have t:=j k (uC e);omega
 refine⟨.mk ub c a,rfl,rfl,λk e=>i k e,λk=>?_⟩;have fD:dd u b f ps [] (.mk ub a8 a) k=jT b ub a k (u f ps ub a8):=rfl;rw[fD,l];have o:jT b ub a k (.ok (.a0 [r,ao 0]) ub c d)=bf (Nat.ble ub ub) (k (.a0 [r,ao 0]) (.mk ub c (aA (gZ b d) a))) .ax:=rfl;rw[o,ek,dm (cY ub),cM,n,av]
def cA(E:cr)(v:an)(r:bE):Prop:=dw 8 v (r.map E.bd)
theorem e2(r c:an)(a:r≠ .undef:=by first|assumption|exact(Sl _)|exact(VF _)|simp)(k:an->aw):bS (.a0 [r,c]) 0 k=k r:=CG rfl (λx e=>by cases e;exact a rfl) (by simp) k
theorem e3(r c:an)(a:r≠ .undef:=by first|assumption|exact(Sl _)|exact(VF _)|simp)(k:an->aw):bS (.a0 [r,c]) 1 k=k c:=CG rfl (λx e=>by cases e;exact a rfl) (by simp) k
theorem HE{i:Nat}{x:an}(a:∀f:an->eH->aw,aD ob x f=f x [])(c:∀f:aB->aw,lp x f=f [x])(d:sz=1)(hi:i<es.length)(f:aY->eH->aw):cj ob sz i x es f=f (es.set i [x]) []:=by subst d;have e:cj ob 1 i x es f=aD ob x λq e0=>lp q λnew=>bf (Nat.beq (ea new) 1) (bf (Nat.blt i (ea es)) (f (tO es i new) e0) .ax) .ax:=rfl;rw[e,a,c,gr,gr,oW,dm hi,OZ];rfl
theorem dw.cells(h:dw sz v es)(f:aB->aw):lp v f=f [v]:=by rcases h with⟨rfl,rfl⟩|rfl<;>rfl
theorem dw.eh(h:dw sz v es):v≠ .undef:=by rcases h with⟨rfl,rfl⟩|rfl<;>exactλe=>by cases e
theorem aqI(u:Fn)(a c:an)(b:Nat)(aET:b1):CV u [a,c] b aET=cj (ba b aET).aj 1 0 a (cG 2 [.aE]) λg i=>cj (ba b aET).aj 1 1 c g λj k=>c6 b 2056 none 98 1 2 false j (aA i (aA k [])) (ba b aET) λl d=>aD d.aj l λn o=>dd u b 205 [n] (aA o []) d λp q=>
 dd u b 184 [p] [] q λe t=>bS e 0 λw=>bS e 1 λx=>G0 b w x t:=rfl
theorem Ip{q s e:Nat}(c:ob q= .az s e sz es false)(f:jm):aD ob (.az q s 0 es.length) f=f (.aQ sz es) []:=by have d:aD ob (.az q s 0 es.length) f=jQ (ob q) λa e sz aEK aEQ=>bf (Nat.beq s a) (bf (Nat.ble (Nat.add 0 es.length) (ea aEK)) (f (.aQ sz (l3 aEK 0 es.length)) (@Bool.rec (λ_=>eH) [] [(q,.az a e sz aEK false)] aEQ)) .ax) .ax:=rfl;rw[d,c,qC,gb,cM,gr,ek,dm (by rw[hZ];omega),cM,zj]
theorem Xj(a:dw 8 v es)(c:h.bQ=[]):∃s d,G0 0 v (ao 0) h= .ok (.a0 [v,ao 0]) 0 s d:=by have e:G0 0 v (ao 0) h=aD h.aj v λg s4=>aD h.aj (ao 0) λi j=>dJ 0 (.a0 [g,i]) (aA s4 (aA j [])) h:=rfl;rw[e,a.dU,b7,av,av];exact o0 c
theorem awP{E:cr}{K:Nat->Prop}{D:Rat->Prop}(A:Rl u)(B:w5 u E K D){p q:an}{ps a:bE}(n:cA E p ps)(t:cA E q a)(G:ps.length+a.length<=39)(I:∀m∈ps,K m.k)(J:∀m∈a,K m.k)
 (H:∀l m L,(l++m::L).Perm (ps++a)->l≠[]->(∀x∈l,x.k=m.k)->rd u E (lN l) m.U/\E.s m.k)(M:∀k,D (cx (ps++a) k)):
 ∃(v:an) (r:bE),cA E v r/\g7 r/\(∀k,cx r k=cx (ps++a) k)/\(∀m∈r,K m.k)/\r.length<=ps.length+a.length/\∃s d,CV u [p,q] 0 .nil= .ok (.a0 [v,ao 0]) 0 s d:=by
 have c4:(ba 0 .nil).ar=4096:=rfl;obtain⟨s1,j,a1,a2,N⟩:=Bm (b:=0) (d:=2056) (wk:=none) (e:=98) (sz:=1) (len:=2) (aEQ:=false) (es:=[[p],[q]]) (h:=ba 0 .nil) (λo=>gs 0 _) (by omega);have c5:j.ar=4096:=by rw[a1.ar];rfl
 have O:=λf=>HE (ob:=(ba 0 .nil).aj) (i:=0) (es:=cG 2 [.aE]) (n.dU _) n.cells rfl (by rw[x3];simp) f;have P:=λf=>HE (ob:=(ba 0 .nil).aj) (i:=1) (es:=(cG 2 [.aE]).set 0 [p]) (t.dU _) t.cells rfl (by rw[x3];simp) f;have Q:((cG 2 [an.aE]).set 0 [p]).set 1 [q]=[[p],[q]]:=by rw[x3];rfl
 have R:∀f:an->eH->aw,aD j.aj (.az (0+2056) s1 0 2) f=f (.aQ 1 [[p],[q]]) []:=λf=>Ip a2 f;rw[aqI,O,P,Q,av,av,N,R,av];have C:= @A j.ar j.au p q _ _ (by omega) n t (by rw[dS,dS];omega);obtain⟨S,T⟩:=B;rcases C with⟨c,C⟩|⟨c,C⟩
 ·obtain⟨g,W,X⟩:=my (b:=0) C;obtain⟨w,c1,c2⟩:=my (b:=0) (@T g.ar g.au);have Z:ps++a=[]:=by rw[<-ly] at c;exact oM.1 c
  rw[X,c2,e2 _ _,e3 _ _];obtain⟨s,d,e⟩:=Xj (v:= .aE) (es:=[]) (h:=w) (.inl ⟨rfl,rfl⟩) (by rw[c1.bQ,W.bQ,a1.bQ];rfl);exact⟨.aE,[],.inl ⟨rfl,rfl⟩,⟨List.Pairwise.nil,by simp⟩,λk=>by rw[Z],by simp,ik _,s,d,e⟩
 ·obtain⟨g,a4,a5,dq,bs,bx,em,en,y,eq,cc,z⟩:=F7 (b:=0) C;rw[<-ly] at y c z;have cl:ps++a≠[]:=λe=>c (by rw[e];rfl);obtain⟨r,r1,cn,cp,cs,fp⟩:= @S g.ar g.au a4 a5 (ps++a) bs bx (by rw[aI.vZ];exact y) (by rw[lh];exact G) cl (λm hm=>(fr.1 hm).elim (I m) (J m)) H M;obtain⟨w,ev,c0,ex,c3⟩:=Jf (b:=0) fp (ik _);rw[z,dS,c3,e2 _ _,e3 _ _];obtain⟨s,d,e⟩:=Xj (v:= .aQ 8 (r.map E.bd)) (es:=r.map E.bd) (h:=w) (.inr rfl) (by rw[c0,cc,a1.bQ];rfl);exact⟨_,r,.inr rfl,r1,cn,cp,by rw[<-lh];exact cs,s,d,e⟩
end
end
section
variable{x p:an} {h:aI} {c:Rat} {ps:bE}
section
variable[Tok] {u:Fn} {b:Nat}
theorem cr.cells(E:cr)(k:Nat)(f:aB->aw):lp (E.di k) f=f [E.di k]:=by rcases E.IM k with h|⟨es,h⟩<;>rw[h]<;>rfl
theorem r4{off:Nat}{cs:aB}(a:∀f:aB->aw,lp x f=f [x])(d:off+1<=cs.length)(f:aB->aw):cC off 1 x cs f=f (cs.take off++[x]++cs.drop (off+1)):=by have e:cC off 1 x cs f=lp x λnew=>bf (Nat.beq (ea new) 1) (bf (Nat.ble (Nat.add off 1) (ea cs)) (f (ug off cs new)) .ax) .ax:=rfl;rw[e,a,gr,gr,ek,dm (by rw[hZ];exact d),Ah];rfl
theorem Jq(E:cr)(m:cw)(f:aB->aw):(cC 0 7 (.agg (E.num m.U)) fX λKs=>cC 7 1 (E.di m.k) Ks f)=f (E.bd m):=by rw[tZ (E.len _),r4 (E.cells _) (by simp[E.len])];congr 1;have l:=E.len m.U;simp only[tF,kP];rw[rV (by omega),nY,lH (by simp;omega)];simp[cr.bd]
def uA(u:Fn)(E:cr)(c d:Rat):Prop:=aK u 160 [.agg (E.num c),.agg (E.num d)] (.agg (E.num (c*d)))
theorem db.met{b d e sz:Nat}{aEQ:Bool}{aED:aY}(r:db b d e sz aEQ h x aED)(g:d<4096){a:List Nat}(i:eb a d=true)(xs:aB)(z:aw):met b a (x::xs) z=Go.Hf.met b a xs z:=by
 rcases r with⟨rfl,_⟩|⟨s,rfl,_⟩
 ·exact aV (ajQ _ _) xs z
 ·exact qM g i _ _ _ xs z
theorem atr(u:Fn)(a d:an)(b:Nat)(aET:b1):C0 u [a,d] b aET=dz 54 b 3 none d (ba b aET) λe g=>bq false a λi=>fs 3 6 9 10 11 1000000 (yh u b (Bf u b)) e .aE a i aL g:=by kernel_rfl
theorem agt{E:cr}(k:gx){s3:Nat}(I:cA E p ps)(hl:ps.length<1000)(J:∀m∈ps,uA u E m.U c):∀(j:bE) (N i:Nat) (o:an) (h:aI),ps.drop i=j->i<=ps.length->db b 2072 120 8 true h o (((ps.take i).map λm=>(⟨m.k,m.U*c⟩:cw)).map E.bd)->h.aj (b+3)= .box s3 (E.num c)->h.ar=b+4096->j.length<N->
 ∃o' h',db b 2072 120 8 true h' o' ((ps.map λm=>(⟨m.k,m.U*c⟩:cw)).map E.bd)/\eY b [8,2071,2072] h h'/\fs 3 6 9 10 11 N (yh u b k) (.bn (b+3) s3 0) o p (ao ps.length) (ao i) h=k o' h':=by
 intro j;induction j with
 |nil=>intro N i o h g hi r w y A;obtain⟨N,rfl⟩:=cN N;have B:ps.length<=i:=pZ.1 g;rw[pn B] at r;refine⟨o,h,r,.refl,?_⟩;rw[gI];generalize fs 3 6 9 10 11 N (yh u b k)=j5;rw[yh,bO (a:=(i:Int)) (b:=(ps.length:Int)),bk,a6]
 |cons m j K=>
  intro N i o h g B r w y A;obtain⟨N,rfl⟩:=cN N;have hi:i<ps.length:=by
   rcases kW i ps.length with h|h
   ·exact h
   ·rw[lH h] at g;cases g
  rw[iK hi] at g;have L:ps[i]=m:=(kf g).1;have M:ps.drop (i+1)=j:=(kf g).2;have l:ps[i]? =some m:=by rw[dC hi,L]
  have O:(ps.map E.bd)[i]? =some (E.bd m):=by rw[fo,l];rfl
  have C:p= .aQ 8 (ps.map E.bd):=by
   rcases I with⟨_,e⟩|e
   ·rw[oM] at e;subst e;simp at hi
   ·exact e
  obtain⟨s8,h1,D,a1,a2,P,a4⟩:=zr (b:=b) (d:=8) (t:=120) (h:=h) (z:=fX) (E.eG m) rfl (by omega);have Q:D.ar=b+4096:=by rw[a1.ar];exact y
  have G:D.aj (b+3)= .box s3 (E.num c):=by rw[a1.aj _ λd n=>by simp at n;omega];exact w
  have R:0+0+7<=(E.bd m).length:=by rw[E.eG];omega
  obtain⟨s1,s,cl,h',S,q,H,T,W,X⟩:=G8 (z:=fX) (d1:=2071) (d2:=2072) (aEU:=some [2071]) (aEV:=some [2072,2072]) (bytes:=136) (r1:=false) (r.jv a1 (by simp)) (E.gw ⟨m.k,m.U*c⟩) (E.eG ⟨m.k,m.U*c⟩)
   (λo=>mN (by omega) rfl) (λo=>mN (by omega) rfl) (by omega) (by omega) (by omega) (by simp;omega) (by simp;omega)
  have Z:=(r.jv a1 (by simp)).jv S (by simp);rw[gI,yh,bO (a:=(i:Int)) (b:=(ps.length:Int)),bN,bL,Xh,C,eE O,ch,be (E.eG m),P,a4,aeJ,bb,aJ,m1,aN,aH a2,e8 R,show(0:Nat)+0=0 from rfl,E.jV,
   aJ,m1,aN,aH G,be (E.len c),aV (kd (E.eU _)),aV (kd (E.eU _)),aN,bm (E.eU _),bm (E.eU _),av,av,aT (J m (dr l)),bb,
   XI,aJ,m1,aN,aH a2,bc (by simpa using E.kk m),Jq E ⟨m.k,m.U*c⟩,hL,aV (kd (E.gw _)),aN,T,av,W,Z.met (by omega) rfl,qM,aN,X,bK,cK (a:=(i:Int)) (b:=1)]
  have a5:((ps.take (i+1)).map λm=>(⟨m.k,m.U*c⟩:cw)).map E.bd=((ps.take i).map λm=>(⟨m.k,m.U*c⟩:cw)).map E.bd++[E.bd ⟨m.k,m.U*c⟩]:=by rw[oG,l];simp
  rw[<-a5] at H;have bs:h'.aj (b+3)= .box s3 (E.num c):=by rw[q.aj _ λd n=>by simp at n;omega];exact G
  obtain⟨o',h4,bx,cc,ew⟩:=K N (i+1) _ h' M (by omega) H bs (by rw[q.ar];exact Q) (by simp at A;omega);refine⟨o',h4,bx,((a1.mono (by simp)).trans (q.mono (by simp))).trans cc,?_⟩;rw[C] at ew;exact ew
theorem Sn{v:an}{es:aY}(a:dw 8 v es)(e:h.bQ=[]):∃s d,KV 0 v (ao 0) h= .ok (.a0 [v,ao 0]) 0 s d:=by have g:KV 0 v (ao 0) h=aD h.aj v λi s4=>aD h.aj (ao 0) λj k=>dJ 0 (.a0 [i,j]) (aA s4 (aA k [])) h:=rfl;rw[g,a.dU,b7,av,av];exact o0 e
theorem anG{E:cr}{K:Nat->Prop}{D:Rat->Prop}(G:w5 u E K D)(w:cA E p ps)(hl:ps.length<=39)(H:∀m∈ps,K m.k)(I:∀m∈ps,uA u E m.U c)(J:lI ps)(L:∀k,D (cx ps k*c)):
 ∃(v:an) (r:bE),cA E v r/\g7 r/\(∀k,cx r k=cx ps k*c)/\(∀m∈r,K m.k)/\r.length<=ps.length/\∃s d,C0 u [p,.agg (E.num c)] 0 .nil= .ok (.a0 [v,ao 0]) 0 s d:=by
 have cp:(ba 0 .nil).ar=4096:=rfl;obtain⟨s3,g,a1,a2,M⟩:=Qc (t:=54) (b:=0) (d:=3) (wk:=none) (cs:=E.num c) (h:=ba 0 .nil) (λo=>gs 0 _) (by omega);have y:g.ar=0+4096:=by rw[a1.ar];rfl
 obtain⟨o',i,N,A,O⟩:=agt (u:=u) (b:=0) (E:=E) (Bf u 0) (s3:=s3) (c:=c) w (by omega) I ps 1000000 0 .aE g rfl (ik _) (.inl ⟨rfl,rfl⟩) a2 y (by omega);have B:∀(l:bE) (k:Nat),cx (l.map λm=>(⟨m.k,m.U*c⟩:cw)) k=cx l k*c:=by
  intro l k;induction l with
  |nil=>simp[cx,xW]
  |cons m r P=>
   simp only[gm,cx,P,Rat.add_mul];split
   ·rfl
   ·rw[xW]
 obtain⟨Q,R⟩:=G;rw[atr,M,w.len,dS,bF,show(ao 0:an)=ao ((0:Nat):Int) from rfl];by_cases j:ps=[]
 ·subst j;rw[hQ,gI,yh,bO,gK (by simp),a6,Bf];obtain⟨n,c1,c2⟩:=my (b:=0) (@R g.ar g.au);rw[c2,e2 _ _,e3 _ _];obtain⟨s,d,e⟩:=Sn (v:= .aE) (es:=[]) (h:=n) (.inl ⟨rfl,rfl⟩) (by rw[c1.bQ,a1.bQ];rfl);exact⟨.aE,[],.inl ⟨rfl,rfl⟩,⟨List.Pairwise.nil,by simp⟩,λk=>by simp[cx,xW],by simp,ik _,s,d,e⟩
 rw[O,Bf];rcases N with⟨rfl,e⟩|⟨S,rfl,T⟩
 ·exact absurd (by simpa using e) j
 ·have c0:i.ar=4096:=by rw[A.ar];exact y
  have W:lI (ps.map λm=>(⟨m.k,m.U*c⟩:cw)):=L9 _ (λa b q=>q) J;obtain⟨r,r1,X,Z,a4,fp⟩:= @Q i.ar i.au (0+2072) S (ps.map λm=>(⟨m.k,m.U*c⟩:cw)) (by omega) (by omega) (by rw[aI.vZ];exact T) (by simp;omega) (by simpa using j) (λm hm=>by obtain⟨x,hx,rfl⟩:=gp.1 hm;exact H x hx)
   (λl m a5 bs bx cc=>by
    exfalso;cases l with
    |nil=>exact bx rfl
    |cons x l'=>
     have C:((x::l'++m::a5).map λz:cw=>z.k).Nodup:=by refine((bs.map _).nodup_iff).2 ?_;have g:((ps.map λm=>(⟨m.k,m.U*c⟩:cw)).map λz:cw=>z.k).Pairwise (· < ·):=L9 _ (λa b q=>q) W;exact g.imp λh=>Nat.ne_of_lt h
     rw[pL,gm,List.nodup_cons] at C;exact C.1 (by rw[cc x eS];simp))
   (λk=>by rw[B];exact L k)
  obtain⟨n,c3,cl,c4,cn⟩:=Jf (b:=0) fp (ik _);rw[dS,cn,e2 _ _,e3 _ _];obtain⟨s,d,e⟩:=Sn (v:= .aQ 8 (r.map E.bd)) (es:=r.map E.bd) (h:=n) (.inr rfl) (by rw[cl,A.bQ,a1.bQ];rfl);exact⟨_,r,.inr rfl,r1,λk=>by rw[X,B],Z,by simpa using a4,s,d,e⟩
end
end
section
variable{u:Fn} {b f q s e a:Nat} {ρ:jS}
section
variable[Tok]
theorem awa(g:kb){i:Nat}(X:an):∀(k N:Nat) (es:aY) (h:aI),eL b h q s e 11 es->iq u f ρ es->a+k<es.length->k<N->
 ∃h',eL b h' q s e 11 (mo ρ.ai a k es)/\g6 q h h'/\ih 0 1 2 3 8 9 N (Ao u b g) (.az q s 0 es.length) (ao a) X (dI f) (ao i) (ao (a+k:Nat)) h=g (.az q s 0 es.length) (ao a) X (dI f) (ao i) h':=by
 intro k;induction k with
 |zero=>intro N es h d n r t;obtain⟨N,rfl⟩:=cN N;have:=d.le;refine⟨h,d,.refl,?_⟩;rw[mb];generalize ih 0 1 2 3 8 9 N (Ao u b g)=j6;unfold Ao;simp only[aJ,bZ,bp,bg,ce,bj,gB,hH (a:=((a+0:Nat):Int)) (b:=(a:Int)) (by omega) (by omega),gK (show¬(a:Int)<((a+0:Nat):Int) by omega),iE];unfold IJ;rw[show(ay:an)= .a0 [] from rfl,dO,show(bG:an)= .F false from rfl,a6]
 |succ k w=>
  intro N es h d n r t;obtain⟨N,rfl⟩:=cN N;have:=d.le;rw[mb];have hi:mo ρ.ai a (k+1) es=if ρ.ai (el es (a+k+1))<ρ.ai (el es (a+k)) then mo ρ.ai a k (kn es (a+k+1) (a+k)) else es:=rfl;rw[hi];have o:((a+(k+1):Nat):Int)-1=((a+k:Nat):Int):=by omega
  have t1:((a+(k+1):Nat):Int).toNat=a+k+1:=by omega
  have t2:((a+k:Nat):Int).toNat=a+k:=by omega
  generalize x:ih 0 1 2 3 8 9 N (Ao u b g)=j6;unfold Ao;simp only[aJ,bZ,bp,bg,ce,bj,gB,hH (a:=((a+(k+1):Nat):Int)) (b:=(a:Int)) (by omega) (by omega),dm (show(a:Int)<((a+(k+1):Nat):Int) by omega),fi];unfold TE;simp only[aJ,bZ,bp,bg,ce,bj,d.met,d.zQ,aV (yr _ _ _),aN,bK,bF,d.ji (i:=((a+(k+1):Nat):Int)) (by omega) (by omega),t1,d.load (i:=a+k+1) (by omega),e1 (a:=((a+(k+1):Nat):Int)) (b:=1) (by omega) (by omega) (by omega) (by omega),o,
   d.ji (i:=((a+k:Nat):Int)) (by omega) (by omega),t2,d.load (i:=a+k) (by omega)]
  obtain⟨c,c1,c2⟩:=d.mP n (i:=a+k+1) (j:=a+k) (by omega) (by omega) (by omega);rw[c2,c1];unfold IJ;rw[dR];by_cases l:ρ.ai (el es (a+k+1))<ρ.ai (el es (a+k))
  ·rw[dm l,bL,cv l];unfold Oc;simp only[aJ,bZ,bp,bg,ce,bj,gB,bK,e1 (a:=((a+(k+1):Nat):Int)) (b:=1) (by omega) (by omega) (by omega) (by omega),o];unfold To;simp only[aJ,bZ];rw[d.swap (i:=((a+(k+1):Nat):Int)) (j:=((a+k:Nat):Int)) (by omega) (by omega) (by omega) (by omega),t1,t2];simp only[bK,e1 (a:=((a+(k+1):Nat):Int)) (b:=1) (by omega) (by omega) (by omega) (by omega),o];obtain⟨y,z⟩:=d.Dn (i:=a+k+1) (j:=a+k) (by omega) (by omega);obtain⟨h',r1,A,p⟩:=w N _ _ y (n.mono (AE es (i:=a+k+1) (j:=a+k) (by omega) (by omega))) (by rw[jo];omega) (by omega);rw[jo] at p;subst x;exact⟨h',r1,z.trans A,p⟩
  ·rw[gK l,a6,cU l];exact⟨h,d,.refl,rfl⟩
theorem amX{B:Nat}:∀(m N i:Nat) (es:aY) (h:aI),eL b h q s e 11 es->iq u f ρ es->a<=i->i+m=B->B<=es.length->m<N->
 ∃h',eL b h' q s e 11 (jx ρ.ai a m i es)/\g6 q h h'/\fs 0 1 2 3 8 N (su u b) (.az q s 0 es.length) (ao a) (ao B) (dI f) (ao i) h=SF b h':=by
 intro m;induction m with
 |zero=>intro N i es h c d l n o p;have:=c.le;obtain⟨N,rfl⟩:=cN N;refine⟨h,c,.refl,?_⟩;rw[gI];generalize fs 0 1 2 3 8 N (su u b)=j;rw[su,bO (a:=(i:Int)) (b:=(B:Int)),gK (show¬(i:Int)<(B:Int) by omega),a6]
 |succ m r=>
  intro N i es h c d l n o p;have:=c.le;obtain⟨N,rfl⟩:=cN N;rw[gI,su,bO (a:=(i:Int)) (b:=(B:Int)),dm (show(i:Int)<(B:Int) by omega),bL,R3];have t:i=a+(i-a):=by omega
  obtain⟨w,x,y,g⟩:=awa (u:=u) (b:=b) (f:=f) (ρ:=ρ) (λz A C D E G=>bR E aS λH=>fs 0 1 2 3 8 N (su u b) z A C D H G) (q:=q) (s:=s) (e:=e) (a:=a) (i:=i) (ao B) (i-a) 1000000 es h c d (by omega) (by omega);rw[<-t] at g;rw[g];simp only[bK,cK (a:=(i:Int)) (b:=1) (by omega) (by omega) (by omega) (by omega)];obtain⟨h',r1,I,k⟩:=r N (i+1) _ w x (d.mono (GM ρ.ai a (i-a) es (by omega))) (by omega) (by omega) (by rw[sF];omega) (by omega);refine⟨h',r1,y.trans I,?_⟩;rw[show((i:Int)+1)=((i+1:Nat):Int) by omega];rw[sF] at k;exact k
end
end
section
variable{u:Fn} {f b q s e:Nat} {ρ:jS} {aET:b1} {es:aY}
section
variable[Tok]
theorem amo{a B:Nat}(c:q<b)(g:2048<=q%4096)(h:cE b aET q= .az s e 11 es true)(i:Good 11 es)(k:es.length<1000000)(l:iq u f ρ es)(w:a<=B)(n:B<=es.length):
 kA (uj u [.az q s 0 es.length,ao a,ao B,dI f] b aET) b aET q s e 11 (jx ρ.ai a (B-(a+1)) (a+1) es):=by
 have d:=eL.rF c g h i k;rw[uj,GH,Pu,bK,cK (a:=(a:Int)) (b:=1),show((a:Int)+1)=((a+1:Nat):Int) by omega];by_cases x:a<B
 ·obtain⟨h',r1,o,p⟩:=amX (u:=u) (b:=b) (f:=f) (ρ:=ρ) (q:=q) (s:=s) (e:=e) (a:=a) (B:=B) (B-(a+1)) 1000000 (a+1) es (ba b aET) d l (by omega) (by omega) n (by omega);rw[p];exact oL o c r1.aj
 ·have r:B=a:=by omega
  subst r;have t:B-(B+1)=0:=by omega
  rw[t,hQ,gI];generalize fs 0 1 2 3 8 999999 (su u b)=j;rw[su,bO (a:=((B+1:Nat):Int)) (b:=(B:Int)),gK (show¬((B+1:Nat):Int)<(B:Int) by omega),a6];exact oL .refl c d.aj
def UJ(u:Fn)(f:Nat)(ρ:jS):Prop:=∀{b:Nat} {aET:b1} {q s e a B:Nat} {es:aY},q<b->2048<=q%4096->cE b aET q= .az s e 11 es true->Good 11 es->es.length<1000000->iq u f ρ es->a<=B->B<=es.length->
 kA (u 279 [.az q s 0 es.length,ao a,ao B,dI f] b aET) b aET q s e 11 (jx ρ.ai a (B-(a+1)) (a+1) es)
theorem aes(u:Fn)(a c d:an)(b:Nat)(aET:b1):wS u [a,c,d] b aET=ih 0 1 2 6 7 8 1000000 (Hg u b (IP u b)) a c d n20 aL n20 (ba b aET):=by kernel_rfl
theorem WA(i:UJ u f ρ)(c:q<b)(d:2048<=q%4096)(j:cE b aET q= .az s e 11 es true)(g:Good 11 es)(l:es.length<=19)(k:iq u f ρ es):
 kA (wS u [.az q s 0 es.length,ao es.length,dI f] b aET) b aET q s e 11 (jx ρ.ai 0 (es.length-1) 1 es):=by
 have h:=eL.rF c d j g (by omega);rw[aes,GI,bF,hQ,mb,Hg,qd (a:=20) (b:=(es.length:Int)),bk,a6,IP];have I:= @i (ba b aET).ar (ba b aET).au q s e 0 es.length es h.sub.1 d h.sub.2 g (by omega) k (ik _) (cY _);obtain⟨h',t1,t2,t3⟩:=qm (b:=b) I;rw[b7,b7,lY,av,av,av,JN,t3,hQ,fj,M0,bO (a:=20) (b:=(es.length:Int)),bk,a6];exact oL t1 c t2
theorem am2:gD (uj u [.aE,ao 0,ao 0,dI f] b aET) b aET (.a0 []):=by rw[uj,GH,Pu,bK,cK (a:=0) (b:=1),show(0:Int)+1=1 from rfl,hQ,gI,su,bO (a:=1) (b:=0),bk,a6];exact rp .refl (S:=[])
theorem aDD(c:∀{b:Nat} {aET:b1},gD (u 279 [.aE,ao 0,ao 0,dI f] b aET) b aET (.a0 [])):gD (wS u [.aE,ao 0,dI f] b aET) b aET (.a0 []):=by obtain⟨d,a1,a2⟩:=my (b:=b) (@c (ba b aET).ar (ba b aET).au);rw[aes,GI,bF,hQ,mb,Hg,qd (a:=20) (b:=0),bk,a6,IP,b7,b7,lY,av,av,av,a2,hQ,fj,M0,bO (a:=20) (b:=0),bk,a6];exact rp a1
def xD(u:Fn)(n:Nat)(f:Nat)(ρ:jS):Prop:=∀{b:Nat} {aET:b1} {q s e:Nat} {es:aY},q<b->2048<=q%4096->cE b aET q= .az s e 11 es true->Good 11 es->es.length<=19->iq u f ρ es->
 kA (u n (if n=232 then[.az q s 0 es.length,ao es.length,dI f] else[.az q s 0 es.length,dI f]) b aET) b aET q s e 11 (jx ρ.ai 0 (es.length-1) 1 es)
theorem ag6(h:xD u 232 f ρ)(a:q<b)(c:2048<=q%4096)(i:cE b aET q= .az s e 11 es true)(d:Good 11 es)(j:es.length<=19)(k:iq u f ρ es):
 kA (uO u [.az q s 0 es.length,dI f] b aET) b aET q s e 11 (jx ρ.ai 0 (es.length-1) 1 es):=by
 have g:=eL.rF a c i d (by omega);have I:= @h (ba b aET).ar (ba b aET).au q s e es g.sub.1 c g.sub.2 d j k;rw[cv rfl] at I;obtain⟨h',t1,t2,t3⟩:=qm (b:=b) I;rw[uO,dE,M8,jw,b7,lY,av,av,t3];exact oL t1 a t2
theorem agc(a:∀{b:Nat} {aET:b1},gD (u 232 [.aE,ao 0,dI f] b aET) b aET (.a0 [])):gD (uO u [.aE,dI f] b aET) b aET (.a0 []):=by obtain⟨c,a1,a2⟩:=my (b:=b) (@a (ba b aET).ar (ba b aET).au);rw[uO,dE,M8,hy,b7,lY,av,av,a2];exact rp a1
end
end
section
variable{S:List Nat} {h h':aI} {d e sz q s:Nat} {aEQ:Bool} {aED es:aY}
section
variable[Tok] {u:Fn} {b:Nat}
structure jc (b:Nat) (S:List Nat) (h h':aI):Prop where
 ar:h.ar<=h'.ar
 ld:h'.ar%4096=0
 bQ:h'.bQ=h.bQ
 aj:∀k,k<h.ar->(∀d∈S,k≠b+d)->h'.aj k=h.aj k
theorem jc.trans{S:List Nat}{h h' a:aI}(x:jc b S h h')(y:jc b S h' a):jc b S h a:=
 ⟨ie x.ar y.ar,y.ld,y.bQ.trans x.bQ,λk c g=>(y.aj k (nJ c x.ar) g).trans (x.aj k c g)⟩
theorem jc.jv{a:List Nat}(x:eY b a h h')(c:h.ar%4096=0)(g:∀d∈a,d∈S):jc b S h h':=⟨by rw[x.ar];exact cY _,by rw[x.ar];exact c,x.bQ,λk _ i=>x.aj k λd j=>i d (g d j)⟩
theorem db.asO{x:an}(r:db b d e sz aEQ h x aED)(o:jc b S h h')(a:d∉S)(g:b+d<h.ar):db b d e sz aEQ h' x aED:=by
 rcases r with r|⟨s,r1,i⟩
 ·exact .inl r
 ·refine .inr ⟨s,r1,?_⟩;rw[o.aj _ g λc j=>?_]
  ·exact i
  ·intro e;have:c=d:=by omega
   exact a (this▸j)
theorem afu{f:Nat}{ps:aB}(H:kA (u f ps h.ar h.au) h.ar h.au q s e sz es)(t:b<=q):
 ∃h',h'.ar=h.ar/\h'.bQ=h.bQ/\(∀k,k≠q->h'.aj k=h.aj k)/\h'.aj q= .az s e sz es true/\∀k:dg,dd u b f ps [] h k=k (.a0 []) h':=by
 obtain⟨c,d,i,j,l,n⟩:=H;obtain⟨ub,a8,a⟩:=h;have o:u f ps ub a8= .ok (.a0 []) ub c d:=i;have p:gZ b d=[]:=by rw[AY];intro k g;have w:=EE g;have x:=n k (uC g);omega
 refine⟨.mk ub c a,rfl,rfl,λk g=>j k g,l,λk=>?_⟩;have fD:dd u b f ps [] (.mk ub a8 a) k=jT b ub a k (u f ps ub a8):=rfl;rw[fD,o];have r:jT b ub a k (.ok (.a0 []) ub c d)=bf (Nat.ble ub ub) (k (.a0 []) (.mk ub c (aA (gZ b d) a))) .ax:=rfl;rw[r,ek,dm (cY ub),cM,p,av]
theorem I6(ob:ej):∀{pre:aB} (r:aB) (f:aB->eH->aw),b8 pre=true->k3 ob (pre++r) f=k3 ob r λa us=>f (pre++a) us
 |[],_,_,_=>rfl
 |c::pre,r,f,h=>by
  have g:b8 pre=true/\∀l f,k3 ob (c::l) f=k3 ob l λa us=>f (c::a) us:=by cases c<;>first|exact⟨h,λ_ _=>rfl⟩|exact absurd h (by intro h;cases h)
  rw[pL,g.2,I6 ob r _ g.1];rfl
theorem Hl:∀{pre:aB} {q s o l:Nat},b8 pre=true->b8 (pre++[.az q s o l])=false
 |[],_,_,_,_,_=>rfl
 |c::pre,q,s,o,l,h=>by
  have a:b8 pre=true/\∀r,b8 (c::r)=b8 r:=by cases c<;>first|exact⟨h,λ_=>rfl⟩|exact absurd h (by intro h;cases h)
  rw[pL,a.2];exact Hl a.1
theorem agr{ob:ej}{a:Nat}{pre z:aB}(c:b8 pre=true)(j:pre.length+1=sz)(k:ob q= .az s e a es true)(f:aY->eH->aw):
 cj ob sz 0 (.agg (pre++[.az q s 0 es.length])) (cG 1 z) f=f [pre++[.aQ a es]] [(q,.az s e a es false)]:=by
 have l:cj ob sz 0 (.agg (pre++[.az q s 0 es.length])) (cG 1 z) f=aD ob (.agg (pre++[.az q s 0 es.length])) λq e0=>lp q λnew=>bf (Nat.beq (ea new) sz) (bf (Nat.blt 0 (ea (cG 1 z))) (f (tO (cG 1 z) 0 new) e0) .ax) .ax:=rfl;have n:∀g,aD ob (.agg (pre++[.az q s 0 es.length])) g=bf (b8 (pre++[.az q s 0 es.length])) (g (.agg (pre++[.az q s 0 es.length])) []) (k3 ob (pre++[.az q s 0 es.length]) λo us=>g (.agg o) us):=λ_=>rfl;have p:∀g:aB->eH->aw,k3 ob [.az q s 0 es.length] g=jQ (ob q) λi e sz aEK aEQ=>bf (Nat.beq s i) (bf (Nat.ble (Nat.add 0 es.length) (ea aEK)) (g [.aQ sz (l3 aEK 0 es.length)] (@Bool.rec (λ_=>eH) [] ((q,.az i e sz aEK false)::[]) aEQ)) .ax) .ax:=λ_=>rfl;rw[l,n,Hl c,Kh,I6 ob _ _ c,p,k,qC,gb,cM,gr,ek,dm (by rw[hZ];omega),cM,zj,By,gr,lh,Bk,j,gb,cM];rfl
theorem aAN{len:Nat}{wk:Option (List Nat)}{o:dM}(j:∀us,gO b wk us=true)(l:b+d<h.ar)(i:q<h.ar)(w:b<=q)(y:q≠b+d):
 ∃s h',h'.ar=h.ar/\h'.bQ=h.bQ/\(∀k,k≠q->k≠b+d->h'.aj k=h.aj k)/\h'.aj (b+d)= .az s e sz es aEQ/\∀k:dg,c6 b d wk e sz len aEQ es [(q,o)] h k=k (.az (b+d) s 0 len) h':=by
 have c:b+d<(h.eW b q (.ae o)).ar:=by rw[aI.qv];exact l
 refine⟨Nat.add (iH (h.aj (b+d))) 1,(h.eW b q (.ae o)).eW b (b+d) (.ae (.az (Nat.add (iH (h.aj (b+d))) 1) e sz es aEQ)),by rw[aI.qv,aI.qv],?_,λk n p=>?_,kB c,λk=>?_⟩
 ·obtain⟨ub,a8,a⟩:=h;show @Bool.rec (λ_=>List Nat) (@Bool.rec (λ_=>List Nat) a (q::a) (Nat.blt q b)) ((b+d):: @Bool.rec (λ_=>List Nat) a (q::a) (Nat.blt q b)) (Nat.blt (b+d) b)=a;rw[oW,oW,bk,bk]
 ·rw[aI.tS c,aI.tS i];simp[Go.Hf.dl,n,p]
 ·have r:c6 b d wk e sz len aEQ es [(q,o)] h k=eF (b+d) λg=>eF (Nat.add (iH (h.aj g)) 1) λs=>lG es λes=>lk b wk [(q,o),(g,.az s e sz es aEQ)] h λh'=>k (.az g s 0 len) h':=rfl;have t:∀(a1 a2:Nat×dM) (k:aI->aw),lk b wk [a1,a2] h k=bf (gO b wk [a1,a2]) (bf (Nat.ble (Nat.succ a1.1) h.ar) (bf (Nat.ble (Nat.succ a2.1) (h.eW b a1.1 (.ae a1.2)).ar) (k ((h.eW b a1.1 (.ae a1.2)).eW b a2.1 (.ae a2.2))) .ax) .ax) .ax:=λ_ _ _=>rfl;rw[r,fd,fd,lu,t,j,cM,ek,dm (xh i),cM,ek,dm (xh c),cM]
def EH(u:Fn)(E:cr)(ρ:jS)(aEL:Nat->Nat->Nat)(g i:Nat):Prop:=∃a c:aY,dw 11 (E.di g) a/\dw 11 (E.di i) c/\a.length+c.length<=19/\Good 11 (a++c)/\iq u 183 ρ (a++c)/\
 (a++c=[]->E.di (aEL g i)= .aE)/\(a++c≠[]->E.di (aEL g i)= .aQ 11 (jx ρ.ai 0 ((a++c).length-1) 1 (a++c)))
theorem LO(E:cr)(c:Rat)(x:an)(a:∀f:aB->aw,lp x f=f [x])(f:aB->aw):(cC 0 7 (.agg (E.num c)) fX λNx=>cC 7 1 x Nx f)=f (E.num c++[x]):=by rw[tZ (E.len _),r4 a (by simp[E.len])];congr 1;have l:=E.len c;simp only[tF,kP];rw[rV (by omega),nY,lH (by simp;omega)];simp
theorem arG{E:cr}{ρ:jS}{aEL:Nat->Nat->Nat}(eq:Ft u)(ev:xD u 182 183 ρ)(ex:∀{b:Nat} {aET:b1},gD (u 182 [.aE,dI 183] b aET) b aET (.a0 []))(L:sZ){o q:an}{p j:Nat}{G:bE}{x y:cw}(X1 X2 M X4 oo N:an)
 (fn:q= .aQ 8 (G.map E.bd))(ge:G[j]? =some y)(op:j<100000)(r:db b 2089 120 8 true h o aED)(gl:h.aj (b+8)= .box p (E.bd x))(go:b+4096<=h.ar)(B:h.ar%4096=0)(os:aED.length<100000)(gt:EH u E ρ aEL x.k y.k)(hb:uA u E x.U y.U):
 ∃o' h',db b 2089 120 8 true h' o' (aED++[E.bd ⟨aEL x.k y.k,x.U*y.U⟩])/\jc b [10,2076,2088,2089] h h'/\
  Pf u b L X1 o (.bn (b+8) p 0) X2 M X4 q N (ao j) h=L X1 o' (.bn (b+8) p 0) X2 M X4 q N (ao (j+1:Nat)) h':=by
 subst fn;obtain⟨H,I,fC,P,hc,he,hf,hh,hi⟩:=gt;have hl:(G.map E.bd)[j]? =some (E.bd y):=by rw[fo,ge];rfl
 obtain⟨Q,h1,J,a1,a2,a3,a4⟩:=zr (b:=b) (d:=10) (t:=120) (h:=h) (z:=fX) (E.eG y) rfl (by omega);have cl:J.aj (b+8)= .box p (E.bd x):=by rw[a1.aj _ λd g=>by simp at g;omega];exact gl
 have R:J.ar=h.ar:=a1.ar;obtain⟨hm,l,c1,c2,c3⟩:=Bm (b:=b) (d:=2076) (wk:=none) (e:=30) (sz:=1) (len:=2) (aEQ:=false) (es:=[[E.di x.k],[E.di y.k]]) (h:=J) (λo=>gs b _) (by omega);have cn:l.ar=h.ar:=by rw[c1.ar];exact R
 have k0:=λf=>HE (ob:=J.aj) (i:=0) (es:=cG 2 [.aE]) (fC.dU _) fC.cells rfl (by rw[x3];simp) f;have k1:=λf=>HE (ob:=J.aj) (i:=1) (es:=(cG 2 [.aE]).set 0 [E.di x.k]) (P.dU _) P.cells rfl (by rw[x3];simp) f;have ee:((cG 2 [an.aE]).set 0 [E.di x.k]).set 1 [E.di y.k]=[[E.di x.k],[E.di y.k]]:=by rw[x3];rfl
 have hn:∀f:an->eH->aw,aD l.aj (.az (b+2076) hm 0 2) f=f (.aQ 1 [[E.di x.k],[E.di y.k]]) []:=λf=>Ip c2 f;have cp:l.aj (b+8)= .box p (E.bd x):=by rw[c1.aj _ λd g=>by simp at g;omega];exact cl
 have cs:l.aj (b+10)= .box Q (E.bd y):=by rw[c1.aj _ λd g=>by simp at g;omega];exact a2
 have ho:0+0+7<=(E.bd x).length:=by rw[E.eG];omega
 have hp:0+0+7<=(E.bd y).length:=by rw[E.eG];omega
 have n2:jc b [10,2076,2088,2089] h l:=(jc.jv a1 B (by simp)).trans (jc.jv c1 (by rw[R];exact B) (by simp));rw[Pf,eE hl,ch,be (E.eG y),a3,a4,bp,bb,aH cl,bc (by simpa using E.kk x),bb,Uw,aH a2,bc (by simpa using E.kk y),k0,k1,ee,av,av,c3,hn,av];have c0:∀(c:aI) (A:an),jc b [10,2076] h c->c.aj (b+8)= .box p (E.bd x)->c.aj (b+10)= .box Q (E.bd y)->
  ((A= .aE/\E.di (aEL x.k y.k)= .aE)\/∃n w es,A= .az n w 0 es.length/\h.ar<=n/\n<c.ar/\c.aj n= .az w 56 11 es true/\E.di (aEL x.k y.k)= .aQ 11 es)->
  ∃o' h',db b 2089 120 8 true h' o' (aED++[E.bd ⟨aEL x.k y.k,x.U*y.U⟩])/\jc b [10,2076,2088,2089] h h'/\
   (bt 0 (.bn (b+8) p 0) λhr=>aW c.aj true 7 hr λhv=>bt 0 (.bn (b+10) Q 0) λhw=>Qb u b (λhz hA i8 jn j0 j1 j2 j3 j4 j5=>bR j4 aS λj6=>L hz hA i8 jn j0 j1 j2 j3 j6 j5) hw hv A o X1 (.bn (b+8) p 0) X2 M X4 (.aQ 8 (G.map E.bd)) N (ao j) c)=
    L X1 o' (.bn (b+8) p 0) X2 M X4 (.aQ 8 (G.map E.bd)) N (ao (j+1:Nat)) h':=by
  intro c A mw j7 j8 hx;have ox:b+4096<=c.ar:=ie go mw.ar;have fp:=r.asO mw (by simp) (by omega);have c4:jc b [10,2076,2088,2089] h c:=⟨mw.ar,mw.ld,mw.bQ,λk K g=>mw.aj k K λd O=>g d (by simp at O ⊢;omega)⟩;have kp:∀f:aB->aw,lp A f=f [A]:=by rcases hx with⟨rfl,_⟩|⟨n,w,es,rfl,_⟩<;>exactλ_=>rfl
  rw[bb,aH j7,e8 ho,show(0:Nat)+0=0 from rfl,E.jV,bb,Qb,aH j8,e8 hp,show(0:Nat)+0=0 from rfl,E.jV,ce,bm (E.eU _),bm (E.eU _),av,av,aT hb,LO E (x.U*y.U) A kp,hL];rcases hx with⟨rfl,W⟩|⟨n,w,es,rfl,kq,X,Z,W⟩
  ·have em:E.num (x.U*y.U)++[.aE]=E.bd ⟨aEL x.k y.k,x.U*y.U⟩:=by unfold cr.bd;rw[W]
   obtain⟨s1,s,pa,h',pc,k2,la,le,lf,ll⟩:=G8 (z:=fX) (d1:=2088) (aEU:=none) (aEV:=none) (bytes:=136) (r1:=false) fp (E.gw ⟨aEL x.k y.k,x.U*y.U⟩) (E.eG ⟨aEL x.k y.k,x.U*y.U⟩) (λo=>gs b _) (λo=>gs b _) (by omega) (by omega) (by omega) (by omega) (by omega);rw[em,le,av,lf,ll,bK,cK (a:=(j:Int)) (b:=1)];exact⟨_,h',la,c4.trans (jc.jv k2 mw.ld (by simp)),rfl⟩
  ·have em:E.num (x.U*y.U)++[.aQ 11 es]=E.bd ⟨aEL x.k y.k,x.U*y.U⟩:=by unfold cr.bd;rw[W]
   rw[agr (E.eU _) (by rw[E.len]) Z,em,Pa];obtain⟨lo,lq,lt,lv,ew,md,mn⟩:=aAN (b:=b) (d:=2088) (wk:=none) (e:=120) (sz:=8) (len:=1) (aEQ:=false) (es:=[E.bd ⟨aEL x.k y.k,x.U*y.U⟩]) (h:=c) (q:=n) (o:= .az w 56 11 es false) (λus=>gs b us) (by omega) X (by omega) (by omega);have ms:db b 2089 120 8 true lq o aED:=by
    rcases fp with r|⟨s,r1,mv⟩
    ·exact .inl r
    ·exact .inr ⟨s,r1,by rw[ew _ (by omega) (by omega)];exact mv⟩
   obtain⟨s,h',a5,mx,nn⟩:=Jb (b:=b) (wk:=none) (bytes:=136) ms (y:= .az (b+2088) lo 0 1) (ys:=[E.bd ⟨aEL x.k y.k,x.U*y.U⟩]) (λf=>yq md f) (by simp) (λo=>gs b _) (by omega) (by simp;omega) (by simp;omega);rw[mn,nn,bK,cK (a:=(j:Int)) (b:=1)];have c5:h'.ar=c.ar:=by rw[a5.ar,lt]
   refine⟨_,h',.inr ⟨s,by simp,mx⟩,⟨by rw[c5];exact mw.ar,by rw[c5];exact mw.ld,by rw[a5.bQ,lv];exact mw.bQ,λk K g=>?_⟩,rfl⟩;rw[a5.aj k λd O=>by simp at O;rw[O];exact g 2089 (by simp),ew k (by omega) (g 2088 (by simp)),c4.aj k K g]
 have dq:jc b [10,2076] h l:=(jc.jv a1 B (by simp)).trans (jc.jv c1 (by rw[R];exact B) (by simp));have C:= @eq l.ar l.au (E.di x.k) (E.di y.k) H I (by rw[cn];exact B) fC P (by omega);rcases C with⟨bs,C⟩|⟨bs,C⟩
 ·obtain⟨D,d1,d2⟩:=my (b:=b) C;obtain⟨c,f1,f2⟩:=my (b:=b) (@ex D.ar D.au);rw[d2,f2];have bx:eY b [] l c:=d1.trans f1;exact c0 c .aE (dq.trans (jc.jv bx (by rw[cn];exact B) (λd g=>by cases g))) (by rw[bx.aj _ λd g=>by cases g];exact cp) (by rw[bx.aj _ λd g=>by cases g];exact cs) (.inl ⟨rfl,hh bs⟩)
 ·obtain⟨D,n,w,kq,X,Z,no,np,nu,cc,nz,ok⟩:=F7 (b:=b) C;have T:= @ev D.ar D.au n w 56 (H++I) X Z (by rw[aI.vZ];exact nu) he (by rw[lh];exact hc) hf;rw[cU (by decide)] at T;obtain⟨c,t1,t2,t3,t4,t5⟩:=afu (b:=b) T (by omega);rw[ok,t5];have en:c.ar=D.ar:=t1;have ol:jc b [10,2076] l c:=⟨by rw[en];exact np,by rw[en];exact no,t2.trans nz,λk K _=>by rw[t3 k (by omega),cc k K]⟩;have on:(jx ρ.ai 0 ((H++I).length-1) 1 (H++I)).length=(H++I).length:=Ry _ _ _ _ _;refine c0 c _ (dq.trans ol) (by rw[t3 _ (by omega),cc _ (by omega)];exact cp) (by rw[t3 _ (by omega),cc _ (by omega)];exact cs) (.inr ⟨n,w,_,by rw[on],by omega,by omega,t4,hi bs⟩)
end
end
section
variable{h:aI} {E:cr} {ρ:jS} {aEL:Nat->Nat->Nat} {q p:an} {qs ps:bE}
def eK(aEL:Nat->Nat->Nat)(ps qs:bE):bE:=ps.flatMap λx=>qs.map λy=>⟨aEL x.k y.k,x.U*y.U⟩
section
variable[Tok] {u:Fn} {b:Nat}
theorem LV(u:Fn)(a c:an)(b:Nat)(aET:b1):w1 u [a,c] b aET=bq false a λd=>fs 1 6 12 13 14 1000000 (p2 u b (xz u b)) c .aE a d aL (ba b aET):=by kernel_rfl
theorem jc.mono{S a:List Nat}{h':aI}(x:jc b S h h')(c:∀d∈S,d∈a):jc b a h h':=⟨x.ar,x.ld,x.bQ,λk e g=>x.aj k e λd i=>g d (c d i)⟩
theorem an3(D:Ft u)(G:xD u 182 183 ρ)(H:∀{b:Nat} {aET:b1},gD (u 182 [.aE,dI 183] b aET) b aET (.a0 []))(g:kb){z:Nat}{x:cw}(X1 X2 k X4:an)
 (I:q= .aQ 8 (qs.map E.bd))(hl:qs.length<1000)(J:∀y∈qs,EH u E ρ aEL x.k y.k/\uA u E x.U y.U):∀(c:bE) (N j:Nat) (o:an) (aED:aY) (h:aI),qs.drop j=c->j<=qs.length->db b 2089 120 8 true h o aED->h.aj (b+8)= .box z (E.bd x)->b+4096<=h.ar->h.ar%4096=0->
 aED.length+c.length<100000->c.length<N->
 ∃o' h',db b 2089 120 8 true h' o' (aED++(c.map λy=>(⟨aEL x.k y.k,x.U*y.U⟩:cw)).map E.bd)/\jc b [10,2076,2088,2089] h h'/\zl 1 6 8 12 13 14 18 19 20 N (wQ u b g) X1 o (.bn (b+8) z 0) X2 k X4 q (ao qs.length) (ao j) h=g X1 o' X2 k X4 h':=by
 intro c;induction c with
 |nil=>intro N j o aED h e l r n t w A B;obtain⟨N,rfl⟩:=cN N;have K:qs.length<=j:=pZ.1 e;refine⟨o,h,by simpa using r,⟨cY _,w,rfl,λ_ _ _=>rfl⟩,?_⟩;rw[Mv];generalize zl 1 6 8 12 13 14 18 19 20 N (wQ u b g)=j9;rw[wQ,bO (a:=(j:Int)) (b:=(qs.length:Int)),bk,a6]
 |cons y c L=>
  intro N j o aED h e K r n t w A B;obtain⟨N,rfl⟩:=cN N;have l:j<qs.length:=by
   rcases kW j qs.length with h|h
   ·exact h
   ·rw[lH h] at e;cases e
  rw[iK l] at e;have M:qs[j]=y:=(kf e).1;have O:qs.drop (j+1)=c:=(kf e).2;have C:qs[j]? =some y:=by rw[dC l,M]
  obtain⟨sY,wy⟩:=J y (dr C);simp only[h9] at A B;rw[Mv,wQ,bO (a:=(j:Int)) (b:=(qs.length:Int)),bN,bL];obtain⟨eR,P,Q,i,R⟩:=arG (b:=b) D G H (zl 1 6 8 12 13 14 18 19 20 N (wQ u b g)) X1 X2 k X4 (.aE) (ao qs.length) I C (by omega) r n t w (by omega) sY wy;rw[R];obtain⟨S,T,W,X,Z⟩:=L N (j+1) eR (aED++[E.bd ⟨aEL x.k y.k,x.U*y.U⟩]) P O (by omega) Q (by rw[i.aj _ (by omega) λd hd=>by simp at hd;omega];exact n) (ie t i.ar) i.ld (by simp;omega) (by omega);exact⟨S,T,by simpa using W,i.trans X,Z⟩
theorem akM(G:Ft u)(H:xD u 182 183 ρ)(I:∀{b:Nat} {aET:b1},gD (u 182 [.aE,dI 183] b aET) b aET (.a0 []))(g:gx)(n:p= .aQ 8 (ps.map E.bd))(w:q= .aQ 8 (qs.map E.bd))(c2:ps.length<100)(c3:qs.length<100)
 (J:∀x∈ps,∀y∈qs,EH u E ρ aEL x.k y.k/\uA u E x.U y.U):∀(c:bE) (N i:Nat) (o:an) (aED:aY) (h:aI),ps.drop i=c->i<=ps.length->db b 2089 120 8 true h o aED->b+4096<=h.ar->h.ar%4096=0->
 aED.length+c.length*qs.length<50000->c.length<N->
 ∃o' h',db b 2089 120 8 true h' o' (aED++(eK aEL c qs).map E.bd)/\jc b [8,10,2076,2088,2089] h h'/\fs 1 6 12 13 14 N (p2 u b g) q o p (ao ps.length) (ao i) h=g o' h':=by
 intro c;induction c with
 |nil=>intro N i o aED h e hi r K j A B;obtain⟨N,rfl⟩:=cN N;have L:ps.length<=i:=pZ.1 e;refine⟨o,h,by simpa[eK] using r,⟨cY _,j,rfl,λ_ _ _=>rfl⟩,?_⟩;rw[gI];generalize fs 1 6 12 13 14 N (p2 u b g)=j5;rw[p2,bO (a:=(i:Int)) (b:=(ps.length:Int)),bk,a6]
 |cons x c M=>
  intro N i o aED h e L r K j A B;obtain⟨N,rfl⟩:=cN N;have hi:i<ps.length:=by
   rcases kW i ps.length with h|h
   ·exact h
   ·rw[lH h] at e;cases e
  rw[iK hi] at e;have O:ps[i]=x:=(kf e).1;have P:ps.drop (i+1)=c:=(kf e).2;have C:ps[i]? =some x:=by rw[dC hi,O]
  have Q:(ps.map E.bd)[i]? =some (E.bd x):=by rw[fo,C];rfl
  simp only[h9,hW,m2] at A B;obtain⟨s8,h1,k,a1,a2,R,a4⟩:=zr (b:=b) (d:=8) (t:=120) (h:=h) (z:=fX) (E.eG x) rfl (by omega);have S:k.ar=h.ar:=a1.ar;have cT:jc b [8,10,2076,2088,2089] h k:=jc.jv a1 j (by simp);rw[gI,p2,bO (a:=(i:Int)) (b:=(ps.length:Int)),bN,bL,Qq,n,eE Q,ch,be (E.eG x),R,a4,w,eA,dS,bF,show(ao 0:an)=ao ((0:Nat):Int) from rfl];obtain⟨eR,T,W,l,X⟩:=an3 (b:=b) (u:=u) G H I (λZ a5 bs bx cc cl=>bR cc aS λcn=>fs 1 6 12 13 14 N (p2 u b g) Z a5 bs bx cn cl) (.aQ 8 (qs.map E.bd)) (.aQ 8 (ps.map E.bd)) (ao ps.length) (ao i) rfl (by omega) (λy cp=>J x (dr C) y cp) qs 1000000 0 o aED k rfl (ik _)
   (r.jv a1 (by simp)) a2 (by omega) (by rw[S];exact j) (by omega) (by omega)
  rw[X,bK,cK (a:=(i:Int)) (b:=1)];obtain⟨cs,h4,c0,c1,D⟩:=M N (i+1) eR _ T P (by omega) W (by have:=l.ar;omega) l.ld (by simp;omega) (by omega);refine⟨cs,h4,?_,(cT.trans (l.mono (by simp))).trans c1,?_⟩
  ·simpa[eK,kD] using c0
  ·rw[n,w] at D;exact D
theorem asN(g:gx)(j:p= .aQ 8 (ps.map E.bd))(o:dw 8 q [])(J:ps.length<100):∀(e:bE) (N i:Nat) (h:aI),ps.drop i=e->i<=ps.length->h.ar=b+4096->e.length<N->
 ∃h',eY b [8] h h'/\fs 1 6 12 13 14 N (p2 u b g) q .aE p (ao ps.length) (ao i) h=g .aE h':=by
 intro e;induction e with
 |nil=>intro N i h c hi k l;obtain⟨N,rfl⟩:=cN N;have r:ps.length<=i:=pZ.1 c;refine⟨h,.refl,?_⟩;rw[gI];generalize fs 1 6 12 13 14 N (p2 u b g)=K;rw[p2,bO (a:=(i:Int)) (b:=(ps.length:Int)),bk,a6]
 |cons x e w=>
  intro N i h c r k l;obtain⟨N,rfl⟩:=cN N;have hi:i<ps.length:=by
   rcases kW i ps.length with h|h
   ·exact h
   ·rw[lH h] at c;cases c
  rw[iK hi] at c;have y:ps[i]=x:=(kf c).1;have A:ps.drop (i+1)=e:=(kf c).2;have B:ps[i]? =some x:=by rw[dC hi,y]
  have C:(ps.map E.bd)[i]? =some (E.bd x):=by rw[fo,B];rfl
  simp only[h9] at l;obtain⟨L,M,D,a1,a2,G,a4⟩:=zr (b:=b) (d:=8) (t:=120) (h:=h) (z:=fX) (E.eG x) rfl (by omega);rw[gI,p2,bO (a:=(i:Int)) (b:=(ps.length:Int)),bN,bL,Qq,j,eE C,ch,be (E.eG x),G,a4,o.len,bF,hQ,Mv,wQ,bO,gK (by simp),a6,bK,cK (a:=(i:Int)) (b:=1)];obtain⟨H,I,n⟩:=w N (i+1) D A (by omega) (by rw[a1.ar];exact k) (by omega);rw[j] at n;exact⟨H,a1.trans I,n⟩
theorem Sg{v:an}{es:aY}(a:dw 8 v es)(c:h.bQ=[]):∃s d,QX 0 v (ao 0) h= .ok (.a0 [v,ao 0]) 0 s d:=by have e:QX 0 v (ao 0) h=aD h.aj v λg s4=>aD h.aj (ao 0) λi j=>dJ 0 (.a0 [g,i]) (aA s4 (aA j [])) h:=rfl;rw[e,a.dU,b7,av,av];exact o0 c
theorem aiQ{K:Nat->Prop}{D:Rat->Prop}(Q:w5 u E K D)(R:Ft u)(S:xD u 182 183 ρ)(T:∀{b:Nat} {aET:b1},gD (u 182 [.aE,dI 183] b aET) b aET (.a0 []))(t:cA E p ps)(G:cA E q qs)
 (I:ps.length*qs.length<=39)(w:ps.length<100)(W:qs.length<100)(i:∀x∈ps,∀y∈qs,EH u E ρ aEL x.k y.k/\uA u E x.U y.U/\K (aEL x.k y.k))
 (H:∀l m X,(l++m::X).Perm (eK aEL ps qs)->l≠[]->(∀x∈l,x.k=m.k)->rd u E (lN l) m.U/\E.s m.k)(J:∀k,D (cx (eK aEL ps qs) k)):
 ∃(v:an) (r:bE),cA E v r/\g7 r/\(∀k,cx r k=cx (eK aEL ps qs) k)/\(∀m∈r,K m.k)/\r.length<=ps.length*qs.length/\∃s d,w1 u [p,q] 0 .nil= .ok (.a0 [v,ao 0]) 0 s d:=by
 have cn:(ba 0 .nil).ar=4096:=rfl;obtain⟨Z,a3⟩:=Q;have z:(eK aEL ps qs).length=ps.length*qs.length:=by
  unfold eK;clear t I w i H J;induction ps with
  |nil=>simp
  |cons a r a4=>simp only[kh,lh,dS,h9,a4,hW,m2];omega
 have none:eK aEL ps qs=[]->∀c:aI,c.bQ=[]->w1 u [p,q] 0 .nil=xz u 0 .aE c->∃(v:an) (r:bE),cA E v r/\g7 r/\(∀k,cx r k=cx (eK aEL ps qs) k)/\(∀m∈r,K m.k)/\r.length<=ps.length*qs.length/\∃s d,w1 u [p,q] 0 .nil= .ok (.a0 [v,ao 0]) 0 s d:=by intro hn c hd he;obtain⟨A,c1,c2⟩:=my (b:=0) (@a3 c.ar c.au);rw[he,xz,c2,e2 _ _,e3 _ _];obtain⟨s,d,e⟩:=Sg (v:= .aE) (es:=[]) (h:=A) (.inl ⟨rfl,rfl⟩) (by rw[c1.bQ];exact hd);exact⟨.aE,[],.inl ⟨rfl,rfl⟩,⟨List.Pairwise.nil,by simp⟩,λk=>by rw[hn],by simp,ik _,s,d,e⟩
 by_cases B:ps=[]
 ·subst B;refine none rfl (ba 0 .nil) rfl ?_;rw[LV,t.len,bF,hQ,gI,p2,bO,gK (by simp),a6]
 have g:p= .aQ 8 (ps.map E.bd):=by
  rcases t with⟨_,e⟩|e
  ·rw[oM] at e;exact absurd e B
  ·exact e
 by_cases C:qs=[]
 ·subst C;obtain⟨c,a1,a2⟩:=asN (b:=0) (u:=u) (E:=E) (xz u 0) g G w ps 1000000 0 (ba 0 .nil) rfl (ik _) rfl (by omega);refine none (by simp[eK]) c (by rw[a1.bQ];rfl) ?_;rw[LV,g,eA,dS,bF,show(ao 0:an)=ao ((0:Nat):Int) from rfl];rw[g] at a2;exact a2
 have ql:q= .aQ 8 (qs.map E.bd):=by
  rcases G with⟨_,e⟩|e
  ·rw[oM] at e;exact absurd e C
  ·exact e
 obtain⟨o',L,M,N,O⟩:=akM (b:=0) (u:=u) (E:=E) (ρ:=ρ) (aEL:=aEL) R S T (xz u 0) g ql w W (λx j y n=>⟨(i x j y n).1,(i x j y n).2.1⟩) ps 1000000 0 .aE [] (ba 0 .nil) rfl (ik _) (.inl ⟨rfl,rfl⟩) (by omega) (by omega) (by simp;omega) (by omega);rw[LV,g,eA,dS,bF,show(ao 0:an)=ao ((0:Nat):Int) from rfl];rw[g] at O;rw[O,xz];have P:eK aEL ps qs≠[]:=by
  intro e;have:=dt List.length e;rw[z,kT] at this;rcases Nat.mul_eq_zero.1 this with h|h
  ·exact B (uw h)
  ·exact C (uw h)
 rw[kP] at M;rcases M with⟨_,e⟩|⟨so,rfl,ho⟩
 ·exact absurd (oM.1 e) P
 obtain⟨r,r1,a5,bs,bx,fp⟩:= @Z L.ar L.au (0+2089) so (eK aEL ps qs) (by have:=N.ar;omega) (by omega) (by rw[aI.vZ];exact ho) (by rw[z];exact I) P (λm o=>by unfold eK at o;obtain⟨x,j,o⟩:=nG.1 o;obtain⟨y,n,rfl⟩:=gp.1 o;exact(i x j y n).2.2) H J
 obtain⟨A,cp,cc,cs,cl⟩:=Jf (b:=0) fp (ik _);rw[dS,cl,e2 _ _,e3 _ _];obtain⟨s,d,e⟩:=Sg (v:= .aQ 8 (r.map E.bd)) (es:=r.map E.bd) (h:=A) (.inr rfl) (by rw[cc,N.bQ];rfl);exact⟨_,r,.inr rfl,r1,a5,bs,by rw[<-z];exact bx,s,d,e⟩
end
end
section
variable{h:aI} {sz c:Nat}
section
variable[Tok] {u:Fn} {b:Nat}
def py(u:Fn)(E:cr)(K:Nat->Prop):Prop:=∀x y:cw,K x.k->K y.k->(x.k≠y.k\/E.s x.k)->∃c:Int,(-9000<c/\c<9000)/\(c<0↔x.k<y.k)/\(c=0↔x.k=y.k)/\aK u 176 [.agg (E.bd x),.agg (E.bd y)] (ao c)
def yX(u:Fn)(E:cr)(D:Rat->Prop):Prop:=∀c,D c->aK u 41 [.agg (E.num c)] (.F (decide (c=0)))
def D7(u:Fn)(E:cr)(c d:Rat):Prop:=E.Y u/\∀u,E.Y u->aK u 177 [.agg (E.num c),.agg (E.num d)] (.agg (E.num (c+d)))
theorem ape{E:cr}{K:Nat->Prop}(C:py u E K)(j3:mj){p:an}{s3:Nat}{ps:bE}{m:cw}(i:cA E p ps)(S:ps.length<1000)(D:∀x∈ps,K x.k)(G:K m.k)(H:∀x∈ps,x.k≠m.k\/E.s x.k)(I:h.aj (b+3)= .box s3 (E.bd m)):∀(j pre:bE) (N:Nat),ps=pre++j->(∀x∈pre,x.k<m.k)->j.length<N->
 ∃g k,ps=g++k/\(∀x∈g,x.k<m.k)/\(∀t r,k=t::r->m.k<=t.k)/\fM 0 3 5 N (BB u b j3) p (.bn (b+3) s3 0) (ao pre.length) h=j3 p (.bn (b+3) s3 0) (ao g.length) h:=by
 intro j;induction j with
 |nil=>
  intro pre N e l y;obtain⟨N,rfl⟩:=cN N;refine⟨pre,[],e,l,λt r h=>(by cases h),?_⟩;have o:ps.length=pre.length:=by rw[e];simp
  rw[hI];generalize fM 0 3 5 N (BB u b j3)=j4;rw[BB,i.len,dS,bO (a:=(pre.length:Int)) (b:=(ps.length:Int)),bk,iE,HW,show(ay:an)= .a0 [] from rfl,dO,show(bG:an)= .F false from rfl,a6]
 |cons t r J=>
  intro pre N e l y;obtain⟨N,rfl⟩:=cN N;have o:pre.length<ps.length:=by rw[e];simp
  have q:ps[pre.length]? =some t:=by rw[e];simp
  have L:(ps.map E.bd)[pre.length]? =some (E.bd t):=by rw[fo,q];rfl
  have z:p= .aQ 8 (ps.map E.bd):=by
   rcases i with⟨_,n⟩|n
   ·rw[oM] at n;rw[n] at o;simp at o
   ·exact n
  have mp:jP b [] p=true:=i.met b [];obtain⟨c,⟨c1,c2⟩,A,T,M⟩:=C t m (D t (dr q)) G (H t (dr q));simp only[h9] at y;rw[hI,BB,i.len,dS,bO (a:=(pre.length:Int)) (b:=(ps.length:Int)),bN,fi,TY,bZ,aV mp,aV,aN];rw[z,eE L,aJ,aV,aN,ch,be (E.eG t),aJ,m1,aN,aH I,be (E.eG m),aV (kd (E.gw t)),aV (kd (E.gw m)),aN,bm (E.gw t),bm (E.gw m),av,av,aT M,bF,bO,HW,dR];by_cases w:t.k<m.k
  ·rw[dm (A.2 w),bL,bK,cK (a:=(pre.length:Int)) (b:=1)];obtain⟨g,k,O,P,Q,B⟩:=J (pre++[t]) N (by rw[e];simp) (λx d=>by
    rcases fr.1 d with d|d
    ·exact l x d
    ·simp at d;rw[d];exact w) (by omega)
   refine⟨g,k,O,P,Q,?_⟩;rw[z] at B;rw[show((pre.length:Int)+1)=(((pre++[t]).length:Nat):Int) by simp];exact B
  ·rw[gK (λR=>w (A.1 R)),a6];exact⟨pre,t::r,e,l,λW X h=>by cases h;omega,rfl⟩
theorem SH(n:Nat):Nat.sub ((n:Int)+18446744073709551616).toNat 18446744073709551616=n:=by rw[oT];omega
theorem SE{d e bytes l:Nat}{wk:Option (List Nat)}{z:aB}(r:l<=c)(g:c*bytes<=1099511627776)(i:c<=1099511627776)(j:∀o,gO b wk [(b+d,o)]=true)(a:b+d<h.ar):
 ∃s h',eY b [d] h h'/\h'.aj (b+d)= .az s e sz (List.replicate l z) true/\∀k:dg,i3 b wk (nf (Nat.add b d) e sz bytes (h.aj (Nat.add b d)).cd z (ao l) (ao c)) h k=k (.az (b+d) s 0 l) h':=by
 refine⟨Nat.add (h.aj (b+d)).cd 1,_,eY.eW (o:= .ae (.az (Nat.add (h.aj (b+d)).cd 1) e sz (List.replicate l z) true)) a,kB a,λk=>?_⟩;have n:Nat.sub ((l:Int)+18446744073709551616).toNat 18446744073709551616=l:=SH l;have p:Nat.sub ((c:Int)+18446744073709551616).toNat 18446744073709551616=c:=SH c;have q:nf (Nat.add b d) e sz bytes (h.aj (Nat.add b d)).cd z (ao l) (ao c)=some (.az (b+d) (Nat.add (h.aj (b+d)).cd 1) 0 l,[(b+d,.az (Nat.add (h.aj (b+d)).cd 1) e sz (List.replicate l z) true)]):=by rw[cX,cX];simp only[nf,n,p];rw[ek,bN,ek,bN,ek,dm (by rw[st];exact g),ek,dm i];rfl
 rw[q,zm (j _) a]
theorem KI{v:an}{es:aY}(p:dw sz v es)(ob:ej){lo hi:Option an}{a:Nat}(i:∀f,jY 0 lo f=f a)(j:∀d f,d=es.length->jY d hi f=f c)(q:a<=c)(n:c<=es.length):∃o,dw sz o ((es.drop a).take (c-a))/\∀k:an->aw,k7 ob sz v lo hi k=k o:=by
 rcases p with⟨rfl,rfl⟩|rfl
 ·have r:c=0:=by simpa using n
  have t:a=0:=by omega
  subst r t;refine⟨.aE,.inl ⟨rfl,by simp⟩,λk=>?_⟩;have e:k7 ob sz .aE lo hi k=jY 0 lo λa=>jY 0 hi λb=>bf (Nat.beq a 0) (bf (Nat.beq b 0) (k .aE) .ax) .ax:=rfl;rw[e,i,j 0 _ rfl];rfl
 ·refine⟨.aQ sz (l3 es a (c-a)),.inr ?_,λk=>?_⟩
  ·rw[yk];simp only[part];cases g:(Nat.beq a 0&&Nat.beq (c-a) es.length) with
   |true=>rw[cg] at g;have w:=gz g.1;have x:=gz g.2;subst w;rw[dN,x,u7,vw]
   |false=>rfl
  ·have e:k7 ob sz (.aQ sz es) lo hi k=jY 0 lo λl=>jY (ea es) hi λh=>bf (Nat.beq sz sz) (bf (Nat.ble l h) (bf (Nat.ble h (ea es)) (k (.aQ sz (l3 es l (Nat.sub h l)))) .ax) .ax) .ax:=rfl;rw[e,i,j _ _ (gr es),gb,cM,ek,dm q,cM,gr,ek,dm n,cM,oT]
end
end
section
variable{k:Nat} {es:aY} {D:Rat->Prop}
section
variable[Tok] {u:Fn} {b:Nat}
def Ew(b:Nat)(a:aw)(es:aY):Prop:=∃s h',h'.ar=b+4096/\h'.bQ=[]/\h'.aj (b+2078)= .az s 120 8 es true/\a=zC b (.az (b+2078) s 0 es.length) h'
section
variable{E:cr} {p:an} {ps pre rest:bE} {m:cw} {s3 s1:Nat} {h:aI}
theorem acu(i:cA E p ps)(t:k+1<=ps.length)(w:ps.length<1000)(x:es.length<2000)(j:h.aj (b+2078)= .az s1 120 8 es true)(l:h.ar=b+4096)(e:h.bQ=[]):
 Ew b (FU u b p (ao k) (.az (b+2078) s1 0 es.length) h) (es++(ps.drop (k+1)).map E.bd):=by
 obtain⟨v,g,n⟩:=KI i h.aj (lo:=some (ao ((k+1:Nat):Int))) (hi:=none) (a:=k+1) (c:=ps.length) (λf=>uW 0 _ f) (λd f e=>by rw[uH,e,dS]) (by omega) (by rw[dS];exact cY _);have ev:((ps.map E.bd).drop (k+1)).take (ps.length-(k+1))=(ps.drop (k+1)).map E.bd:=by rw[<-wd,pn (by rw[dS,ER];exact cY _)]
 rw[ev] at g;obtain⟨s2,q,a1,a2,r,a4⟩:=sG (b:=b) (d:=2119) (wk:=none) (aEQ:=false) (bytes:=136) (y:=v) (ys:=(ps.drop (k+1)).map E.bd) (len:=es.length) j (cY _) (λf=>g.iZ _ f) (λo=>gs b _) (by omega) (by rw[dS,ER];omega) (by rw[dS,ER];omega);rw[FU,bK,cK (a:=(k:Int)) (b:=1),show(k:Int)+1=((k+1:Nat):Int) by omega,n,a4];refine⟨s2,q,by rw[a1.ar];exact l,by rw[a2 (by omega)];exact e,?_,by rw[lh]⟩;rw[r,vw]
theorem R7(j:cA E p ps)(q:k<=ps.length)(I:ps.length<1000)(J:es.length<1000)(r:h.aj (b+3)= .box s3 (E.bd m))(t:h.aj (b+2078)= .az s1 120 8 es true)(w:h.ar=b+4096)(g:h.bQ=[]):
 Ew b (IG u b p (.bn (b+3) s3 0) (ao k) (.az (b+2078) s1 0 es.length) h) (es++[E.bd m]++(ps.drop k).map E.bd):=by
 obtain⟨x,z,c1,c2,A⟩:=Bm (b:=b) (d:=2122) (wk:=some [2122]) (e:=120) (sz:=8) (len:=1) (aEQ:=false) (es:=[E.bd m]) (h:=h) (λo=>mN (by omega) rfl) (by omega);have B:z.aj (b+2078)= .az s1 120 8 es true:=by rw[c1.aj _ λd g=>by simp at g;omega];exact t
 obtain⟨s2,l,a1,a2,n,a4⟩:=sG (b:=b) (d:=2123) (wk:=some [2123,2078,2082,2113]) (aEQ:=false) (bytes:=136) (y:= .az (b+2122) x 0 1) (ys:=[E.bd m]) (len:=es.length) B (cY _) (λf=>yq c2 f) (λo=>mN (by omega) rfl) (by rw[c1.ar];omega) (by simp;omega) (by simp;omega);rw[vw] at n;have C:l.ar=b+4096:=by rw[a1.ar,c1.ar];exact w
 obtain⟨v,i,G⟩:=KI j l.aj (lo:=some (ao (k:Int))) (hi:=none) (a:=k) (c:=ps.length) (λf=>uW 0 _ f) (λd f g=>by rw[uH,g,dS]) q (by rw[dS];exact cY _);have ev:((ps.map E.bd).drop k).take (ps.length-k)=(ps.drop k).map E.bd:=by rw[<-wd,pn (by rw[dS,ER];exact cY _)]
 rw[ev] at i;obtain⟨s4,H,d1,d2,d3,d4⟩:=sG (b:=b) (d:=2127) (wk:=some [2127,2078,2082,2113,2123]) (aEQ:=false) (bytes:=136) (y:=v) (ys:=(ps.drop k).map E.bd) (len:=es.length+[E.bd m].length) n (by simp) (λf=>i.iZ _ f) (λo=>mN (by omega) rfl) (by omega) (by simp;omega) (by simp;omega);rw[IG,aJ,m1,aN,aH r,be (E.eG m),aV (kd (E.gw m)),aN,hX (E.gw m) (E.eG m),av,A,qM,qM,aN,a4,aV (j.met _ _),aV,aN,G,qM,aV (i.met _ _),aN,d4];refine⟨s4,H,by rw[d1.ar];exact C,by rw[d2 (by omega),a2 (by omega),c1.bQ];exact g,?_,by rw[lh,lh]⟩;rw[d3,pn (by simp)]
theorem afH(O:yX u E D){t:cw}(j:cA E p ps)(z:ps[k]? =some t)(A:ps.length<1000)(bx:es.length<1000)(B:h.aj (b+3)= .box s3 (E.bd m))(P:h.aj (b+2078)= .az s1 120 8 es true)(C:h.ar=b+4096)(a:h.bQ=[])(G:D7 u E t.U m.U)(Q:D (t.U+m.U)):
 Ew b (Rb u b p (ao k) (.bn (b+3) s3 0) (.az (b+2078) s1 0 es.length) h) (es++(if t.U+m.U=0 then[] else[E.bd ⟨m.k,t.U+m.U⟩])++(ps.drop (k+1)).map E.bd):=by
 have H:k<ps.length:=(e6.1 z).1;have R:(ps.map E.bd)[k]? =some (E.bd t):=by rw[fo,z];rfl
 have I:p= .aQ 8 (ps.map E.bd):=by
  rcases j with⟨_,l⟩|l
  ·rw[oM] at l;rw[l] at H;simp at H
  ·exact l
 have S:0+0+7<=(E.bd t).length:=by rw[E.eG];omega
 have T:0+0+7<=(E.bd m).length:=by rw[E.eG];omega
 obtain⟨c,g,c1,c2,W⟩:=C7 (t:=54) (b:=b) (d:=7) (wk:=some [7]) (cs:=dx) (h:=h) (λo=>mN (by omega) rfl) (by omega);have cc:g.ar=b+4096:=by rw[c1.ar];exact C
 have aM:∀w:dg,aX b (some [7]) 7 (.bn (b+7) c 0) (.agg (E.num (t.U+m.U))) g w=w .undef (g.eW b (b+7) (.ae (.box c (E.num (t.U+m.U))))):=by intro w;rw[tD (b:=b) (n:=7) (off:=0) (wk:=some [7]) (new:=E.num (t.U+m.U)) c2 (E.len _) (by simp) (λo=>mN (by omega) rfl) (by omega)];simp
 have J:=eY.eW (b:=b) (d:=7) (h:=g) (o:= .ae (.box c (E.num (t.U+m.U)))) (by omega);have AM:(g.eW b (b+7) (.ae (.box c (E.num (t.U+m.U))))).aj (b+7)= .box c (E.num (t.U+m.U)):=kB (by omega);generalize g.eW b (b+7) (.ae (.box c (E.num (t.U+m.U))))=i at aM J AM;have cT:=c1.trans J;have K:i.ar=b+4096:=by rw[cT.ar];exact C
 have L:i.aj (b+2078)= .az s1 120 8 es true:=by rw[cT.aj _ λd a=>by simp at a;omega];exact P
 have X:i.aj (b+3)= .box s3 (E.bd m):=by rw[cT.aj _ λd a=>by simp at a;omega];exact B
 have M:i.bQ=[]:=by rw[cT.bQ];exact a
 rw[Rb,bZ,aV (j.met _ _),aV,aN];rw[I,eE R,ko,Y3,aJ,aV,aN,ch,e8 S,show(0:Nat)+0=0 from rfl,E.jV,bb,aJ,m1,aN,aH B,e8 T,show(0:Nat)+0=0 from rfl,E.jV,aV (kd (E.eU _)),aV (kd (E.eU _)),aN,bm (E.eU _),bm (E.eU _),av,av,aT (G.2 u G.1),W,
  aaK,m1,aN,aM,aH AM,be (E.len _),bg,bm (E.eU _),av,aT (O _ Q),hj]
 rw[<-I];by_cases q:t.U+m.U=0
 ·rw[dm q,iz,a6,cv q,nj];exact acu j (by omega) A (by omega) L K M
 ·rw[gK q,mG,bL,cU q];obtain⟨Z,h4,r,a5,ew⟩:=Bm (b:=b) (d:=2112) (wk:=none) (e:=120) (sz:=8) (len:=1) (aEQ:=false) (es:=[E.bd ⟨m.k,t.U+m.U⟩]) (h:=i) (λo=>gs b _) (by omega);have bs:h4.aj (b+2078)= .az s1 120 8 es true:=by rw[r.aj _ λd a=>by simp at a;omega];exact L
  obtain⟨s2,h5,a1,a2,N,a4⟩:=sG (b:=b) (d:=2113) (wk:=none) (aEQ:=false) (bytes:=136) (y:= .az (b+2112) Z 0 1) (ys:=[E.bd ⟨m.k,t.U+m.U⟩]) (len:=es.length) bs (cY _) (λf=>yq a5 f) (λo=>gs b _) (by rw[r.ar];omega) (by simp;omega) (by simp;omega);rw[vw] at N;rw[aab,aH AM,be (E.len _),bp,bb,aH X,bc (by simpa using E.kk m),Jq E ⟨m.k,t.U+m.U⟩,hL,hX (E.gw _) (E.eG _),av,ew,a4];have:=acu (u:=u) (b:=b) (h:=h5) (s1:=s2) j (k:=k) (es:=es++[E.bd ⟨m.k,t.U+m.U⟩]) (by omega) A (by simp;omega) N (by rw[a1.ar,r.ar];exact K) (by rw[a2 (by omega),r.bQ];exact M);rw[lh] at this;exact this
end
def mq(ps:bE)(m:cw):bE:=match ps with
 |[]=>[m]
 |t::r=>if t.k<m.k then t::mq r m else if t.k=m.k then(if t.U+m.U=0 then r else⟨m.k,t.U+m.U⟩::r) else m::t::r
theorem acl(m:cw):∀(pre rest:bE),(∀x∈pre,x.k<m.k)->(∀t r,rest=t::r->m.k<=t.k)->
 mq (pre++rest) m=pre++(match rest with|[]=>[m]|t::r=>if t.k=m.k then(if t.U+m.U=0 then r else⟨m.k,t.U+m.U⟩::r) else m::t::r)
 |[],[],_,_=>rfl
 |[],t::r,_,h=>by have:=h t r rfl;simp only[kP,mq];rw[cz]
 |x::pre,rest,a,c=>by have:=a x eS;simp only[pL,mq,cv this];rw[acl m pre rest (λy d=>a y (gv _ d)) c]
theorem Ew.a9{a:aw}(h:Ew 0 a es):∃s d,a= .ok (.aQ 8 es) 0 s d:=by obtain⟨s,h',c,e,g,rfl⟩:=h;have i:zC 0 (.az (0+2078) s 0 es.length) h'=aD h'.aj (.az (0+2078) s 0 es.length) λj s3=>dJ 0 j (aA s3 []) h':=rfl;rw[i,T7 g (cY _),Pa,vw];obtain⟨ub,a8,d⟩:=h';have l:d=[]:=e;subst l;have o:ub=0+4096:=c;have n:dJ 0 (.aQ 8 es) [(0+2078,.az s 120 8 es false)] (.mk ub a8 [])=bf (Nat.ble (Nat.succ (0+2078)) ub) (wR 0 (.aQ 8 es) ((aI.mk ub a8 []).eW 0 (0+2078) (.ae (.az s 120 8 es false)))) .ax:=rfl;rw[n,ek,bN,cM];exact⟨_,_,rfl⟩
theorem amR{E:cr}{K:Nat->Prop}(O:py u E K)(P:yX u E D){p:an}{ps:bE}{m:cw}(g:cA E p ps)(hl:ps.length<900)(Q:∀x∈ps,K x.k)(R:K m.k)(bs:D m.U)(S:m.U≠0->∀t∈ps,t.k=m.k->D7 u E t.U m.U/\D (t.U+m.U)/\E.s m.k):
 ∃v,cA E v (if m.U=0 then ps else mq ps m)/\∃s d,En u [p,.agg (E.bd m)] 0 .nil= .ok v 0 s d:=by
 have ge:(ba 0 .nil).ar=4096:=rfl;obtain⟨s3,j,a1,a2,a3⟩:=Qc (t:=120) (b:=0) (d:=3) (wk:=none) (cs:=E.bd m) (h:=ba 0 .nil) (λo=>gs 0 _) (by omega);have bx:j.ar=0+4096:=by rw[a1.ar];rfl
 have W:j.bQ=[]:=by rw[a1.bQ];rfl
 have cc:0+0+7<=(E.bd m).length:=by rw[E.eG];omega
 rw[En,dE,TI,a3,bb,aH a2,e8 cc,show(0:Nat)+0=0 from rfl,E.jV,bg,bm (E.eU _),av,aT (P _ bs)];by_cases n:m.U=0
 ·rw[dm n,bL,cv n];have cl:zC 0 p j=aD j.aj p λI s3=>dJ 0 I (aA s3 []) j:=rfl;rw[cl,g.dU,av];obtain⟨s,d,e⟩:=o0 (r:=p) W;exact⟨p,g,s,d,e⟩
 ·have X:∀t∈ps,t.k≠m.k\/E.s t.k:=λt q=>by
   by_cases e:t.k=m.k
   ·exact .inr (e▸(S n t q e).2.2)
   ·exact .inl e
  rw[gK n,a6,cU n,Z2,bF,show(ao 0:an)=ao ((([]:bE).length:Nat):Int) from rfl];obtain⟨pre,rest,i,I,cn,cp⟩:=ape (b:=0) O (QS u 0) g (by omega) Q R X a2 ps [] 1000000 rfl (by simp) (by omega);have c0:pre.length<=ps.length:=by rw[i];simp
  obtain⟨gl,h2,c1,c2,c3⟩:=SE (b:=0) (d:=2078) (e:=120) (sz:=8) (bytes:=136) (l:=0) (c:=ps.length+1) (wk:=some [2078]) (z:=fX) (h:=j) (ik _) (by omega) (by omega) (λo=>mN (by omega) rfl) (by omega);obtain⟨c4,J,c5⟩:=KI g h2.aj (lo:=none) (hi:=some (ao (pre.length:Int))) (a:=0) (c:=pre.length) (λf=>uH 0 f) (λd f Z=>uW _ _ f) (ik _) (by rw[dS];exact c0);have ev:((ps.map E.bd).drop 0).take (pre.length-0)=pre.map E.bd:=by rw[u7,D4,<-y4,i,List.take_left]
  rw[ev] at J;obtain⟨s2,A,d1,d2,d3,d4⟩:=sG (b:=0) (d:=2082) (wk:=some [2082,2078]) (aEQ:=false) (bytes:=136) (y:=c4) (ys:=pre.map E.bd) (len:=0) c2 (ik _) (λf=>J.iZ _ f) (λo=>mN (by omega) rfl) (by rw[c1.ar];omega) (by rw[dS];omega) (by rw[dS];omega);rw[tF,kP] at d3;have L:A.ar=0+4096:=by rw[d1.ar,c1.ar];exact bx
  have M:A.bQ=[]:=by rw[d2 (by omega),c1.bQ];exact W
  have B:A.aj (0+3)= .box s3 (E.bd m):=by rw[d1.aj _ (by omega),c1.aj _ λd Z=>by simp at Z;omega];exact a2
  have a4:=c3;rw[show(ao ((0:Nat):Int):an)=ao 0 from rfl] at a4;rw[cp,QS,g.len,dS,bK,cK (a:=(ps.length:Int)) (b:=1),show(ps.length:Int)+1=((ps.length+1:Nat):Int) by omega,bF,a4,adV,aV (g.met _ _),aV,aN,c5,qM,aV (J.met _ _),aN,d4,g.len,dS,bO (a:=(pre.length:Int)) (b:=(ps.length:Int))];have C:=acl m pre rest I cn;rw[<-i] at C;have dq:0+(pre.map E.bd).length=(pre.map E.bd).length:=by omega
  rw[dq];cases rest with
  |nil=>
   have ee:ps.length=pre.length:=by rw[i];simp
   rw[bk,iE,IK,show(ay:an)= .a0 [] from rfl,dO,show(bG:an)= .F false from rfl,a6];have T:=(R7 (u:=u) (b:=0) g (k:=pre.length) (es:=pre.map E.bd) (by omega) (by omega) (by rw[dS];omega) B d3 L M).a9;obtain⟨s,d,e⟩:=T;refine⟨_,.inr ?_,s,d,e⟩;rw[C,<-ee,List.drop_length];simp
  |cons t r=>
   have q:ps[pre.length]? =some t:=by rw[i];simp
   have hk:pre.length<ps.length:=(e6.1 q).1;have gt:(ps.map E.bd)[pre.length]? =some (E.bd t):=by rw[fo,q];rfl
   have N:t∈ps:=dr q;have em:p= .aQ 8 (ps.map E.bd):=by
    rcases g with⟨_,G⟩|G
    ·rw[oM] at G;rw[G] at hk;simp at hk
    ·exact G
   obtain⟨c,⟨go,ha⟩,hb,a5,en⟩:=O t m (Q t N) R (X t N);rw[bN,fi,Ux,bZ,aV (g.met _ _),aV,aN];have eq:∀k:an->aw,cb A.aj 8 p (ao (pre.length:Int)) k=k (.ep (E.bd t) 0):=λk=>by rw[em,eE gt]
   rw[eq,aJ,aV,aN,ch,be (E.eG t),aJ,m1,aN,aH B,be (E.eG m),aV (kd (E.gw t)),aV (kd (E.gw m)),aN,bm (E.gw t),bm (E.gw m),av,av,aT en,bF,dj,IK,dR];by_cases w:t.k=m.k
   ·rw[dm (a5.2 w),bL];obtain⟨ka,ex,_⟩:=S n t N w;have T:=(afH (u:=u) (b:=0) P g (es:=pre.map E.bd) q (by omega) (by rw[dS];omega) B d3 L M ka ex).a9;obtain⟨s,d,e⟩:=T;refine⟨_,.inr ?_,s,d,e⟩;have fn:ps.drop (pre.length+1)=r:=by rw[i,show pre.length+1=(pre++[t]).length by simp,show pre++t::r=(pre++[t])++r by simp,Gh]
    rw[C,fn];simp only[cv w];by_cases H:t.U+m.U=0
    ·rw[cv H,cv H];simp
    ·rw[cU H,cU H];simp
   ·rw[gK (λh=>w (a5.1 h)),a6];have T:=(R7 (u:=u) (b:=0) g (k:=pre.length) (es:=pre.map E.bd) (by omega) (by omega) (by rw[dS];omega) B d3 L M).a9;obtain⟨s,d,e⟩:=T;refine⟨_,.inr ?_,s,d,e⟩;rw[C];simp only[cU w];rw[show ps.drop pre.length=t::r by rw[i,Gh]];simp
end
end
section
variable{ps qs:bE} {K:Nat->Prop} {E:cr} {D:Rat->Prop} {q:an} {h:aI}
theorem acd(m:cw):∀(ps:bE) (k:Nat),cx (mq ps m) k=cx ps k+(if m.k=k then m.U else 0)
 |[],k=>by simp only[mq,cx,nV,jb]
 |t::r,k=>by
  simp only[mq];split
  ·simp only[cx,acd m r k,qq]
  ·split
   ·rename_i d a;split
    ·rename_i c;simp only[cx,a];split
     ·rw[Et t.U,qq,c,jb]
     ·rw[nV,jb]
    ·simp only[cx,a];split
     ·rw[qq,qq,Et m.U]
     ·rw[nV,jb]
   ·simp only[cx];rw[Et]
theorem NE(m:cw):∀(ps:bE) (t:cw),t∈mq ps m->t.k=m.k\/t∈ps
 |[],t,h=>by simp[mq] at h;exact .inl (by rw[h])
 |x::r,t,h=>by
  simp only[mq] at h;split at h
  ·rcases gy.1 h with rfl|h
   ·exact .inr eS
   ·exact(NE m r t h).imp id (gv _)
  ·split at h
   ·split at h
    ·exact .inr (gv _ h)
    ·rcases gy.1 h with rfl|h
     ·exact .inl rfl
     ·exact .inr (gv _ h)
   ·rcases gy.1 h with rfl|h
    ·exact .inl rfl
    ·exact .inr h
theorem Th{m:cw}(c:m.U≠0):∀{ps:bE},g7 ps->g7 (mq ps m)
 |[],_=>⟨vC _ _,λx a=>by simp[mq] at a;rw[a];exact c⟩
 |t::r,h=>by
  obtain⟨d,i⟩:=o4.1 h.g0;have g:g7 r:=⟨i,λx a=>h.jD x (gv _ a)⟩;simp only[mq];split
  ·rename_i o;have j:=Th c g;refine⟨o4.2 ⟨λx a=>?_,j.g0⟩,λx a=>?_⟩
   ·rcases NE m r x a with e|a
    ·omega
    ·exact d x a
   ·rcases gy.1 a with rfl|a
    ·exact h.jD _ eS
    ·exact j.jD x a
  ·split
   ·rename_i k l;split
    ·exact g
    ·rename_i n;refine⟨o4.2 ⟨λx a=>by have:=d x a;simp only;omega,i⟩,λx a=>?_⟩;rcases gy.1 a with rfl|a
     ·exact n
     ·exact g.jD x a
   ·rename_i k l;refine⟨o4.2 ⟨λx a=>?_,h.g0⟩,λx a=>?_⟩
    ·rcases gy.1 a with rfl|a
     ·omega
     ·have:=d x a;omega
    ·rcases gy.1 a with rfl|a
     ·exact c
     ·exact h.jD x a
theorem Vb(m:cw):∀(ps:bE),(mq ps m).length<=ps.length+1
 |[]=>by simp[mq]
 |t::r=>by
  have:=Vb m r;simp only[mq];split
  ·simp only[h9];omega
  ·split
   ·split
    ·simp only[h9];omega
    ·simp only[h9];omega
   ·simp only[h9];omega
def mZ(ps:bE)(m:cw):bE:=if m.U=0 then ps else mq ps m
def hU(ps L:bE):bE:=L.foldl mZ ps
theorem aAb(ps:bE)(m:cw)(k:Nat):cx (mZ ps m) k=cx ps k+(if m.k=k then m.U else 0):=by
 unfold mZ;split
 ·rename_i h;rw[h];split<;>rw[jb]
 ·exact acd m ps k
theorem avS(m:cw)(h:g7 ps):g7 (mZ ps m):=by
 unfold mZ;split
 ·exact h
 ·rename_i a;exact Th a h
theorem aB2{m:cw}(h:∀t∈ps,K t.k)(c:K m.k):∀t∈mZ ps m,K t.k:=by
 unfold mZ;split
 ·exact h
 ·intro t a;rcases NE m ps t a with e|a
  ·rw[e];exact c
  ·exact h t a
theorem ati(ps:bE)(m:cw):(mZ ps m).length<=ps.length+1:=by
 unfold mZ;split
 ·omega
 ·exact Vb m ps
theorem yp:∀(L ps:bE) (k:Nat),cx (hU ps L) k=cx ps k+cx L k
 |[],ps,k=>by simp[hU,cx,jb]
 |m::L,ps,k=>by show cx (hU (mZ ps m) L) k=_;rw[yp L,aAb,qq];rfl
theorem wE:∀(L:bE) {ps:bE},g7 ps->g7 (hU ps L)
 |[],_,h=>h
 |m::L,ps,h=>wE L (avS m h)
theorem pD{K:Nat->Prop}:∀(L:bE) {ps:bE},(∀t∈ps,K t.k)->(∀m∈L,K m.k)->∀t∈hU ps L,K t.k
 |[],_,h,_=>h
 |m::L,ps,h,a=>pD L (aB2 h (a m eS)) λx c=>a x (gv _ c)
theorem pP:∀(L ps:bE),(hU ps L).length<=ps.length+L.length
 |[],ps=>by simp[hU]
 |m::L,ps=>by have a:=pP L (mZ ps m);have c:=ati ps m;show(hU (mZ ps m) L).length<=_;simp only[h9];omega
section
variable[Tok] {u:Fn} {b:Nat}
def z3(u:Fn)(E:cr)(K:Nat->Prop)(D:Rat->Prop):Prop:=∀{p:an} {ps:bE} {m:cw},cA E p ps->ps.length<900->(∀x∈ps,K x.k)->K m.k->D m.U->(m.U≠0->∀t∈ps,t.k=m.k->D7 u E t.U m.U/\D (t.U+m.U)/\E.s m.k)->∃v,cA E v (mZ ps m)/\aK u 111 [p,.agg (E.bd m)] v
def GS(u:Fn)(E:cr)(K:Nat->Prop)(D:Rat->Prop):Prop:=∀{v:an} {r:bE},cA E v r->g7 r->(∀m∈r,K m.k/\D m.U)->r.length<=60->aK u 110 [v] (.a0 [v,ao 0])
def wr(u:Fn)(E:cr)(D:Rat->Prop)(ps L:bE):Prop:=∀pre m post,L=pre++m::post->D m.U/\(cx ps m.k+cx pre m.k≠0->m.U≠0->D7 u E (cx ps m.k+cx pre m.k) m.U/\D (cx ps m.k+cx pre m.k+m.U)/\E.s m.k)
theorem azz(u:Fn)(a c:an)(b:Nat)(aET:b1):Em u [a,c] b aET=fM 0 1 6 1000000 (AG u b (GJ u b)) a c aL (ba b aET):=by kernel_rfl
theorem ahW(I:z3 u E K D)(l:gx){c:bE}(n:cA E q qs)(hl:qs.length<400)(a2:c.length<400)(J:∀t∈c,K t.k)(r:∀m∈qs,K m.k)(c0:g7 c)(L:wr u E D c qs):∀(d:bE) (N i:Nat) (v:an),qs.drop i=d->i<=qs.length->cA E v (hU c (qs.take i))->d.length<N->
 ∃j,cA E j (hU c qs)/\fM 0 1 6 N (AG u b l) v q (ao i) h=l j h:=by
 intro d;induction d with
 |nil=>intro N i v e hi g y;obtain⟨N,rfl⟩:=cN N;have z:qs.length<=i:=pZ.1 e;rw[pn z] at g;refine⟨v,g,?_⟩;rw[hI];generalize fM 0 1 6 N (AG u b l)=j3;rw[AG,n.len,dS,bO (a:=(i:Int)) (b:=(qs.length:Int)),bk,a6]
 |cons m d M=>
  intro N i v e z g y;obtain⟨N,rfl⟩:=cN N;have hi:i<qs.length:=by
   rcases kW i qs.length with h|h
   ·exact h
   ·rw[lH h] at e;cases e
  rw[iK hi] at e;have A:qs[i]=m:=(kf e).1;have B:qs.drop (i+1)=d:=(kf e).2;have o:qs[i]? =some m:=by rw[dC hi,A]
  have O:(qs.map E.bd)[i]? =some (E.bd m):=by rw[fo,o];rfl
  have ql:q= .aQ 8 (qs.map E.bd):=by
   rcases n with⟨_,k⟩|k
   ·rw[oM] at k;rw[k] at hi;simp at hi
   ·exact k
  simp only[h9] at y;have P:qs=qs.take i++m::d:=by rw[<-B,<-A,<-iK hi,Es]
  obtain⟨gx,gT⟩:=L (qs.take i) m d P;have Q:=pP (qs.take i) c;have C:=wE (qs.take i) c0;obtain⟨w,R,S⟩:= @I v (hU c (qs.take i)) m g (by rw[ta] at Q;omega) (pD _ J λx T=>r x (Nr T)) (r m (dr o)) gx (λW t G X=>by have p:=m7 C.g0 G;rw[yp,X] at p;rw[<-p];exact gT (by rw[p];exact C.jD t G) W)
  rw[hI,AG,n.len,dS,bO (a:=(i:Int)) (b:=(qs.length:Int)),bN,bL,Z5];rw[ql,eE O,ch,be (E.eG m),ce,g.dU,bm (E.gw m),av,av,aT S,bK,cK (a:=(i:Int)) (b:=1)];have Z:hU c (qs.take (i+1))=mZ (hU c (qs.take i)) m:=by rw[oG,o];simp[hU,List.foldl_append]
  obtain⟨j,a1,H⟩:=M N (i+1) w B (by omega) (by rw[Z];exact R) (by omega);rw[ql] at H;exact⟨j,a1,H⟩
theorem as6{v:an}{es:aY}(a:dw 8 v es)(c:h.bQ=[]):∃s d,PE 0 v (ao 0) h= .ok (.a0 [v,ao 0]) 0 s d:=by have e:PE 0 v (ao 0) h=aD h.aj v λg s4=>aD h.aj (ao 0) λi j=>dJ 0 (.a0 [g,i]) (aA s4 (aA j [])) h:=rfl;rw[e,a.dU,b7,av,av];exact o0 c
theorem awm(l:z3 u E K D)(n:GS u E K D){p:an}(o:cA E p ps)(r:cA E q qs)(z:ps.length+qs.length<=60)(c:∀m∈ps,K m.k)(e:∀m∈qs,K m.k)(g:g7 ps)(t:wr u E D ps qs)(w:∀k,D (cx (ps++qs) k)):
 ∃v,cA E v (hU ps qs)/\∃s d,Em u [p,q] 0 .nil= .ok (.a0 [v,ao 0]) 0 s d:=by
 obtain⟨v,a,x⟩:=ahW (b:=0) l (GJ u 0) (h:=ba 0 .nil) r (by omega) (by omega) c e g t qs 1000000 0 p rfl (ik _) (by simpa[hU] using o) (by omega);have i:=wE qs g;have A:=pP qs ps;have y:=n a i (λm j=>⟨pD qs c e m j,by rw[<-m7 i.g0 j,yp,<-qp];exact w _⟩) (by omega);rw[azz,bF,show(ao 0:an)=ao ((0:Nat):Int) from rfl,x,GJ,bg,a.dU,av,aT y,e2 _ _ a.eh,e3 _ _ a.eh];exact⟨v,a,as6 a rfl⟩
def xY(u:Fn)(E:cr)(c d:Rat):Prop:=aK u 109 [.agg (E.num c),.agg (E.num d)] (.agg (E.num (c*d)))
def F4(u:Fn)(E:cr)(aEL:Nat->Nat->Nat)(a c:Nat):Prop:=aK u 124 [E.di a,E.di c] (E.di (aEL a c))
end
end
end Go.Hf

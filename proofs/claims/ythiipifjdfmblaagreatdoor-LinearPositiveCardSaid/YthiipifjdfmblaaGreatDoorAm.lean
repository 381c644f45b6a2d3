import Derived.Test.YthiipifjdfmblaaGreatDoorAl
set_option linter.all false
set_option maxRecDepth 100000
namespace Go.Hf
open Go.RowKit
section
variable{ob:ej} {sz q s e:Nat} {pre x y:aB} {es:aY}
section
variable[Tok] {u:Fn} {b:Nat}
theorem Zn{c n:Nat}{z:aB}(d:b8 pre=true)(i:pre.length+1=sz)(j:ob q= .az s e c es false)(k:n=es.length:=by rfl)(f:aY->eH->aw):
 cj ob sz 0 (.agg (pre++[.az q s 0 n])) (cG 1 z) f=f [pre++[.aQ c es]] []:=by
 subst k;have l:cj ob sz 0 (.agg (pre++[.az q s 0 es.length])) (cG 1 z) f=aD ob (.agg (pre++[.az q s 0 es.length])) λq e0=>lp q λnew=>bf (Nat.beq (ea new) sz) (bf (Nat.blt 0 (ea (cG 1 z))) (f (tO (cG 1 z) 0 new) e0) .ax) .ax:=rfl;have r:∀g,aD ob (.agg (pre++[.az q s 0 es.length])) g=bf (b8 (pre++[.az q s 0 es.length])) (g (.agg (pre++[.az q s 0 es.length])) []) (k3 ob (pre++[.az q s 0 es.length]) λqs us=>g (.agg qs) us):=λ_=>rfl;have w:∀g:aB->eH->aw,k3 ob [.az q s 0 es.length] g=jQ (ob q) λh e sz asH as0=>bf (Nat.beq s h) (bf (Nat.ble (Nat.add 0 es.length) (ea asH)) (g [.aQ sz (l3 asH 0 es.length)] (@Bool.rec (λ_=>eH) [] ((q,.az h e sz asH false)::[]) as0)) .ax) .ax:=λ_=>rfl;rw[l,r,Hl d,Kh,I6 ob _ _ d,w,j,qC,wT,cM,gr,ek,pl (by rw[Ct];omega),cM,zj,By,gr,OD,yc,i,wT,cM];rfl
theorem Yn(b:Nat)(rk:List Nat)(r:aB):∀{cs:aB},b8 cs=true->nU b rk (cs++r)=nU b rk r
 |[],_=>rfl
 |c::cs,h=>by
  have d:b8 cs=true/\∀l,nU b rk (c::l)=nU b rk l:=by cases c<;>first|exact⟨h,λ_=>rfl⟩|exact absurd h (by intro h;cases h)
  rw[LH,d.2,Yn b rk r d.1]
theorem adY{d:Nat}{rk:List Nat}(c:b8 pre=true)(hd:d<4096:=by omega)(h:eb rk d=true)(s o l:Nat)(xs:aB)(z:aw):met b rk (.agg (pre++[.az (b+d) s o l])::xs) z=met b rk xs z:=aV (by
 have e:nU b rk [.az (b+d) s o l]=true:=by show cS (eb rk (iD b (b+d))) true=true;rw[Gu hd h];rfl
 show nU b rk (pre++[.az (b+d) s o l])=true;rw[Yn b rk _ c,e]) xs z
theorem gX{n:Nat}(c:ob q= .az s e sz es false:=by repeat first|assumption|with_reducible first|exact fE|exact i9|exact pi|exact vl|apply gS|refine gF ?_|refine gi ?_|refine ga ?_|refine l5 ?_|refine g ?_|refine h ?_|refine i ?_|refine j ?_|decide)(d:n=es.length:=by rfl)(f:jm):aD ob (.az q s 0 n) f=f (.aQ sz es) []:=by subst d;exact Ip c f
theorem F0{v:an}{h:aI}(c:dw 8 v es)(hd:h.bQ=[]):∃s d,pC 0 v (ao 0) h= .ok (.a0 [v,ao 0]) 0 s d:=by have g:pC 0 v (ao 0) h=aD h.aj v λi s4=>aD h.aj (ao 0) λj s6=>dJ 0 (.a0 [i,j]) (aA s4 (aA s6 [])) h:=rfl;rw[g,c.dU,b7,av,av];exact o0 hd
def fy(u:Fn)(f:Nat)(E:cr)(x:aB)(ps:bE):Prop:=∃v,cA E v ps/\aK u f x (.a0 [v,ao 0])
section
variable{E:cr} {t:aB} {p n a:an} {o:aB} {ps qs rs:bE}
theorem avJ(c:fk t 2 p n o a)(H:fy u 204 E [.agg o] ps):∃v,cA E v ps/\∃s d,lV u [.agg t] 0 .nil= .ok (.a0 [v,ao 0]) 0 s d:=by obtain⟨v,g,h⟩:=H;have eO:=c.eO;have eV:=c.eV;have i:=c.b2;rw[lV,dK,A0,cy,bp,bb,aH,bc,ff,bK,dj,bN,bL,XA,bb,aH,e8 eV,c.t3,bg,bm,av,aT];rw[e2 _ _ g.eh,e3 _ _ g.eh];exact⟨v,g,F0 g da.eq⟩
def fv:an:= .s 8 0x62696e6172792d2b
def eM:an:= .s 8 0x62696e6172792d2a
def jy:an:= .s 7 0x756e6172792d2d
def y3:an:= .s 7 0x756e6172792d2f
theorem adI(k:an->aw):bY fv (.s 8 0x62696e6172792d2b) k=k (.a9 true):=rfl
theorem acH(k:an->aw):bY eM (.s 8 0x62696e6172792d2b) k=k (.a9 false):=rfl
def cq(x:aB):Prop:=x.length=11/\b8 x=true
theorem RU(c:fk t 3 p fv o (.aQ 11 [x,y]))(j:cq x)(k:cq y)(B:aK u 98 [.agg t,fv,ao 2] (.a9 true))(l:fy u 154 E [.agg x] ps)(r:fy u 154 E [.agg y] qs)(A:∀v w,cA E v ps->cA E w qs->fy u 156 E [v,w] rs):
 ∃v,cA E v rs/\∃s d,lV u [.agg t] 0 .nil= .ok (.a0 [v,ao 0]) 0 s d:=by
 obtain⟨v,g,C⟩:=l;obtain⟨w,h,D⟩:=r;obtain⟨z,i,F⟩:=A v w g h;obtain⟨G,H⟩:=j;obtain⟨I,J⟩:=k;have eO:=c.eO;have cT:=c.cT;have gP:=c.gP;have tl:=c.aa;have K:=c.e5;have L:=g.eh;have M:=h.eh;have N:=i.eh;rw[lV,dK,A0,cy,bp,bb,aH,bc,ff,bK,dj,bk,a6,El,aH,be,bm,av,ff,aT,bL,bL,Ib,bp,bb,aH,bc,bF,hu,Ow,ch,be,bg,bm,av,aT,e2 _ _,e3 _ _,bF,dF,bk,a6,O6,bp,bb,aH,bc,bK,of,Ns,ch,be,bg,bm,av,aT,e2 _ _,e3 _ _,bF,dF,bk,a6,Qo,bb,bp,bb,aH,bc,adI,bL,abh,ce,g.dU,h.dU,av,av,aT,e2 _ _,e3 _ _];exact⟨z,i,F0 i da.eq⟩
theorem acf(c:fk t 3 p eM o (.aQ 11 [x,y]))(j:cq x)(k:cq y)(B:aK u 98 [.agg t,fv,ao 2] (.a9 false))(C:aK u 98 [.agg t,eM,ao 2] (.a9 true))(l:fy u 154 E [.agg x] ps)(r:fy u 154 E [.agg y] qs)(A:∀v w,cA E v ps->cA E w qs->fy u 118 E [v,w] rs):
 ∃v,cA E v rs/\∃s d,lV u [.agg t] 0 .nil= .ok (.a0 [v,ao 0]) 0 s d:=by
 obtain⟨v,g,D⟩:=l;obtain⟨w,h,F⟩:=r;obtain⟨z,i,G⟩:=A v w g h;obtain⟨H,I⟩:=j;obtain⟨J,K⟩:=k;have eO:=c.eO;have cT:=c.cT;have gP:=c.gP;have tl:=c.aa;have L:=c.e5;have M:=g.eh;have N:=h.eh;have O:=i.eh;rw[lV,dK,A0,cy,bp,bb,aH,bc,ff,bK,dj,bk,a6,El,aH,be,bm,av,ff,aT,a6,GY,aH,be,bm,av,ff,aT,bL,Ib,bp,bb,aH,bc,bF,hu,Ow,ch,be,bg,bm,av,aT,e2 _ _,e3 _ _,bF,dF,bk,a6,O6,bp,bb,aH,bc,bK,of,Ns,ch,be,bg,bm,av,aT,e2 _ _,e3 _ _,bF,dF,bk,a6,Qo,bb,bp,bb,aH,bc,acH,a6,Sz,ce,g.dU,h.dU,av,av,aT,e2 _ _,e3 _ _];exact⟨z,i,F0 i da.eq⟩
theorem aiz{m:aB}(c:fk t 3 p n o (.aQ 11 [x]))(i:cq x)(r:aK u 98 [.agg t,fv,ao 2] (.a9 false))(w:aK u 98 [.agg t,eM,ao 2] (.a9 false))(A:aK u 98 [.agg t,jy,ao 1] (.a9 true))(j:aK u 37 [ao (-1)] (.agg m))(B:b8 m=true)(k:fy u 154 E [.agg x] ps)(l:∀v,cA E v ps->fy u 155 E [v,.agg m] rs):
 ∃v,cA E v rs/\∃s d,lV u [.agg t] 0 .nil= .ok (.a0 [v,ao 0]) 0 s d:=by
 obtain⟨v,g,C⟩:=k;obtain⟨z,h,D⟩:=l v g;obtain⟨F,G⟩:=i;have eO:=c.eO;have gP:=c.gP;have tl:=c.aa;have H:=c.e5;have I:=g.eh;have J:=h.eh;rw[lV,dK,A0,cy,bp,bb,aH,bc,ff,bK,dj,bk,a6,El,aH,be,bm,av,ff,aT,a6,GY,aH,be,bm,av,ff,aT,a6,Hk,aH,be,bm,av,bK,aT,bL,Z7,bp,bb,aH,bc,bF,hu,Us,ch,be,bg,bm,av,aT,e2 _ _,e3 _ _,bF,dF,bk,a6,ad3,pE,aT j,ce,g.dU,bm,av,av,aT,e2 _ _,e3 _ _];exact⟨z,h,F0 h da.eq⟩
theorem ayK{k:Int}{g:Nat}(l:E.di g= .aQ 11 [t])(h:fk t k p n o a)(B:0<=k/\k<100/\k≠2)(C:aK u 98 [.agg t,fv,ao 2] (.a9 false))(D:aK u 98 [.agg t,eM,ao 2] (.a9 false))(c:aK u 98 [.agg t,jy,ao 1] (.a9 false))(F:aK u 98 [.agg t,y3,ao 1] (.a9 false))(G:aK u 37 [ao 1] (.agg (E.num 1))):
 ∃v,cA E v [⟨g,1⟩]/\∃s d,lV u [.agg t] 0 .nil= .ok (.a0 [v,ao 0]) 0 s d:=by
 have eO:=h.eO;have tl:=h.aa;have H:=h.e5;rw[lV,dK,A0,cy,bp,bb,aH,bc,ff,bK,dj,bk,a6,El,aH,be,bm,av,ff,aT,a6,GY,aH,be,bm,av,ff,aT,a6,Hk,aH,be,bm,av,bK,aT,a6,Tl,aH,be,bm,av,bK,aT,iE,N5,fQ,dO,a6,aT,abw,aJ,cH,aN,aH,be,aV,aN,hX,av,n5,LO E 1 _ (λf=>rfl),hL,adY (E.eU 1) (by omega) rfl,aN,Zn (E.eU 1) (by rw[E.len]) i9,av,n5];have r:E.num 1++[.aQ 11 [t]]=E.fp ⟨g,1⟩:=by unfold cr.fp;rw[l]
 rw[r];have w:∀i j c,pC 0 i j c=aD c.aj i λz s4=>aD c.aj j λA s6=>dJ 0 (.a0 [z,A]) (aA s4 (aA s6 [])) c:=λ_ _ _=>rfl
 skip
 rw[w,gX,bF,b7,av,av];exact⟨_,.inr rfl,b9⟩
end
end
end
section
variable{x y s:aB} {p' n' o':_} {v:an}
section
variable[Tok] {u:Fn} {b:Nat}
section
variable{E:cr} {ps qs rs ss:bE}
theorem anq{m:aB}(l:cq x)(q:cq y)(r:aK u 37 [ao (-1)] (.agg m))(J:b8 m=true)(A:fy u 154 E [.agg x] ps)(B:fy u 154 E [.agg y] qs)(C:∀v,cA E v qs->fy u 155 E [v,.agg m] rs)(D:∀v w,cA E v ps->cA E w rs->fy u 156 E [v,w] ss):
 ∃v,cA E v ss/\∃s d,DG u [.agg x,.agg y] 0 .nil= .ok (.a0 [v,ao 0]) 0 s d:=by
 obtain⟨v,e,K⟩:=A;obtain⟨w,g,L⟩:=B;obtain⟨F,h,M⟩:=C w g;obtain⟨z,i,N⟩:=D v F e h;obtain⟨O,P⟩:=l;obtain⟨Q,R⟩:=q;have S:=e.eh;have T:=g.eh;have W:=h.eh;have X:=i.eh;have G:∀j k c,Ev 0 j k c=aD c.aj j λH s4=>aD c.aj k λI s6=>dJ 0 (.a0 [H,I]) (aA s4 (aA s6 [])) c:=λ_ _ _=>rfl;rw[DG,dE,aak,cy,cy,TN,aH,be,bg,bm,av,aT,e2 _ _,e3 _ _,bF,dF,bk,a6,abH,aH,be,bg,bm,av,aT,e2 _ _,e3 _ _,bF,dF,bk,a6,aek,pE,aT r,ce,g.dU,bm,av,av,aT,e2 _ _,e3 _ _,bF,dF,bk,a6,Tp,ce,e.dU,h.dU,av,av,aT,e2 _ _,e3 _ _];rw[G,i.dU,b7,av,av];exact⟨z,i,b9⟩
end
def eu:an:= .s 1 0x3c
def fe:an:= .s 3 0x6e6f74
def iB:an:= .s 5 0x657175616c
section
variable{E:cr} {ps:bE} {t:aB} {p n a:an} {o:aB}
theorem axz(c:fk t 3 p n o (.aQ 11 [x,y]))(g:cq x)(h:cq y)(i:aK u 98 [.agg t,eu,ao 2] (.a9 true))(H:fy u 99 E [.agg x,.agg y] ps):∃v,cA E v ps/\∃s d,qU u [.agg t] 0 .nil= .ok (.a0 [v,ao 2,ao 0]) 0 s d:=by have gP:=c.gP;have tl:=c.aa;have j:=c.e5;obtain⟨v,e,k⟩:=H;obtain⟨l,q⟩:=g;obtain⟨r,w⟩:=h;have z:=e.eh;rw[qU,dK,Km,cy,hL,hL,de,de,dc,GU,dc,aH,be,bm,av,ff,aT,bL,V5,bb,aJ,cH,aN,aH,bc,aV,aN,bF,hu,aJ,aV,aN,ch,be,bb,Uc,aJ,cH,aN,aH,bc,aV,aN,bK,of,aJ,aV,aN,ch,be,cH,aN,pf,cH,aN,pf,aH,be,aH,be,EF,ce,bm,bm,av,av,aT,e2 _ _,e3 _ _,bF,dF,bk,a6,yO,e.dU,ff,b7,b7,av,av,av];exact⟨v,e,b9⟩
theorem avg(c:fk t 3 p n o (.aQ 11 [s]))(e:fk s 3 p' n' o' (.aQ 11 [x,y]))(h:cq x)(i:cq y)(j:aK u 98 [.agg t,eu,ao 2] (.a9 false))(k:aK u 98 [.agg t,fe,ao 1] (.a9 true))(l:aK u 98 [.agg s,eu,ao 2] (.a9 true))(H:fy u 99 E [.agg y,.agg x] ps):∃v,cA E v ps/\∃s d,qU u [.agg t] 0 .nil= .ok (.a0 [v,ao 1,ao 0]) 0 s d:=by have gP:=c.gP;have tl:=c.aa;have q:=c.e5;have r:=e.gP;have sl:=e.aa;have w:=e.e5;obtain⟨v,g,z⟩:=H;obtain⟨A,B⟩:=h;obtain⟨C,D⟩:=i;have F:=g.eh;rw[qU,dK,Km,cy,hL,hL,de,de,dc,GU,dc,aH,be,bm,av,ff,aT,a6,PS,aH,be,bm,av,bK,aT,fi,Pv,bb,aH,bc,bF,hu,ch,be,bm,av,ff,aT,Hx,fQ,dR,bL,aef,bb,aJ,cH,aN,aH,bc,aV,aN,bF,hu,ko,aJ,aV,aN,ch,bc,acp,aV,aN,bF,bK,of,aJ,aV,aN,ch,be,bb,aJ,cH,aN,aH,bc,aV,aN,hu,ko,XK,aJ,aV,aN,ch,bc,aV,aN,bF,hu,aJ,aV,aN,ch,be,cH,aN,pf,cH,aN,pf,aH,be,aH,be,EF,ce,bm,bm,av,av,aT,e2 _ _,e3 _ _,bF,dF,bk,a6,yO,g.dU,bK,b7,b7,av,av,av];exact⟨v,g,b9⟩
theorem avh(c:fk t 3 p n o (.aQ 11 [s]))(e:fk s 3 p' n' o' (.aQ 11 [x,y]))(h:cq x)(i:cq y)(j:aK u 98 [.agg t,eu,ao 2] (.a9 false))(k:aK u 98 [.agg t,fe,ao 1] (.a9 true))(l:aK u 98 [.agg s,eu,ao 2] (.a9 false))(q:aK u 98 [.agg s,iB,ao 2] (.a9 true))(H:fy u 99 E [.agg x,.agg y] ps):∃v,cA E v ps/\∃s d,qU u [.agg t] 0 .nil= .ok (.a0 [v,ao 3,ao 0]) 0 s d:=by have gP:=c.gP;have tl:=c.aa;have r:=c.e5;have w:=e.gP;have sl:=e.aa;have z:=e.e5;obtain⟨v,g,A⟩:=H;obtain⟨B,C⟩:=h;obtain⟨D,F⟩:=i;have G:=g.eh;rw[qU,dK,Km,cy,hL,hL,de,de,dc,GU,dc,aH,be,bm,av,ff,aT,a6,PS,aH,be,bm,av,bK,aT,fi,Pv,bb,aH,bc,bF,hu,ch,be,bm,av,ff,aT,Hx,fQ,dR,a6,VB,aH,be,bm,av,bK,aT,fi,aaJ,bb,aH,bc,bF,hu,ch,be,bm,av,ff,aT,MM,fQ,dR,bL,YD,bb,aJ,cH,aN,aH,bc,aV,aN,bF,hu,ko,aJ,aV,aN,ch,bc,VV,aV,aN,bF,hu,aJ,aV,aN,ch,be,bb,aJ,cH,aN,aH,bc,aV,aN,hu,ko,YN,aJ,aV,aN,ch,bc,aV,aN,bK,of,aJ,aV,aN,ch,be,cH,aN,pf,cH,aN,pf,aH,be,aH,be,EF,ce,bm,bm,av,av,aT,e2 _ _,e3 _ _,bF,dF,bk,a6,yO,g.dU,i2,b7,b7,av,av,av];exact⟨v,g,b9⟩
end
theorem rq(r c d:an)(g:r≠ .undef:=by assumption)(k:an->aw):bS (.a0 [r,c,d]) 0 k=k r:=CG rfl (λx e=>by cases e;exact g rfl) (by simp) k
theorem rr(r c d:an)(g:r≠ .undef:=by assumption)(k:an->aw):bS (.a0 [r,c,d]) 1 k=k c:=CG rfl (λx e=>by cases e;exact g rfl) (by simp) k
theorem rN(r c d:an)(g:r≠ .undef:=by assumption)(k:an->aw):bS (.a0 [r,c,d]) 2 k=k d:=CG rfl (λx e=>by cases e;exact g rfl) (by simp) k
theorem PI{t:aB}{es:aY}{k:Int}(e:cq t)(c:dw 8 v es)(g:0<=k/\k<100)(h:aK u 35 [.agg t] (.a0 [v,ao k,ao 0])):∃s d,yo u [.agg t] 0 .nil= .ok (.a0 [v,ao k,.a9 (decide (k≠0))]) 0 s d:=by obtain⟨t1,t2⟩:=e;have i:=c.eh;rw[yo,dK,W3,cy,aH,be,UA,bg,bm,av,aT,rq _ _ _,rr _ _ _,rN _ _ _,bF,dj,fQ,bN,fi,dF,dR,P3,c.dU,b7,fO,av,av,av];exact b9
def h6(c:Nat):bE->Bool
 |[]=>true
 |[m]=>m.k==c
 |_=>false
theorem av8{E:cr}{g:Nat}(z:E.AF g){ps:bE}(i:∀m∈ps,m.k≠g->∃t l,E.di m.k= .aQ 11 (t::l)/\l.length<1000)(h:cA E v ps)(j:ps.length<1000)(F:aK u 37 [ao 0] (.agg (E.num 0))):∃w:aB,w.length=7/\∃s d,uL u [v] 0 .nil= .ok (.a0 [.agg w,.a9 (h6 g ps)]) 0 s d:=by
 match ps,h,j,i with
 |[],h,j,i=>
  have c:∀k:an->aw,bq false v k=k (ao 0):=λk=>h.len k;have A:=E.eU 0;rw[show h6 g []=true from rfl];rw[uL,dK,Cj,de,FB,c,bF,dj,bN,bL,aT,dc (E.len _),wu,gh,be (E.len _),bm,gE,fO,av,av];refine⟨_,?_,b9⟩
  first|rfl|exact E.len _
 |[m],h,j,i=>
  have c:∀k:an->aw,bq false v k=k (ao 1):=λk=>h.len k;rcases h with⟨_,e⟩|rfl
  ·cases e
  have G:(List.map E.fp [m])[0]? =some (E.fp m):=rfl;have gH:(E.fp m)[0+7]? =some (E.di m.k):=by simpa using E.kk m
  have B:0+0+7<=(E.fp m).length:=by rw[E.eG];omega
  have A:=E.eU m.U;by_cases q:m.k=g
  ·rw[show h6 g [m]=true by simp[h6,q]];have cS:E.di m.k= .aE:=by rw[q,z.nil]
   rw[cS] at gH;rw[uL,dK,Cj,de,FB,c,bF,dj,bk,a6,Gs,c,bF,bK,dj,fQ,bN,fi,hu,ko,ch,bc,hy,dj,Bs,fQ,dR,bN,bL,SM,bF,hu,ko,ch,e8 B,show(0:Nat)+0=0 from rfl,E.jV,dc (E.len _),wu,gh,be (E.len _),bm,gE,fO,av,av];refine⟨_,?_,b9⟩
   first|rfl|exact E.len _
  ·obtain⟨t,l,C,H⟩:=i m HO q;rw[show h6 g [m]=false by simp[h6,q]];rw[C] at gH;rw[uL,dK,Cj,de,FB,c,bF,dj,bk,a6,Gs,c,bF,bK,dj,fQ,bN,fi,hu,ko,ch,bc,eA,JO,dj,Bs,fQ,dR,bk,a6,hL,dc,wu,gh,be,bm,fO,av,av];refine⟨_,?_,b9⟩
   first|rfl|exact E.len _
 |m::D::r,h,j,i=>
  have c:∀k:an->aw,bq false v k=k (ao ((r.length+2:Nat):Int)):=λk=>by rw[h.len,ER];rfl
  rw[show h6 g (m::D::r)=false from rfl];simp only[JO] at j;rw[uL,dK,Cj,de,FB,c,bF,dj,bk,a6,Gs,c,bF,bK,dj,fQ,bk,iE,Bs,fQ,dO,a6,hL,dc,wu,gh,be,bm,fO,av,av];refine⟨_,?_,b9⟩
  first|rfl|exact E.len _
end
end
section
variable{o:aB}
section
variable[Tok] {u:Fn} {b:Nat}
def bP:an:= .s 4 0x6c697370
theorem amu{t:aB}(c:cq t)(e:aK u 122 [fe,.aQ 11 [t]] (.agg (bU bP fe [t]))):∃s d,Cd u [.agg t] 0 .nil= .ok (.agg (bU bP fe [t])) 0 s d:=by obtain⟨g,h⟩:=c;have a:b8 [bP,fe]=true:=rfl;have i:=(ks (l:=[t]) a).e5;have tl:=(ks (l:=[t]) a).aa;rw[Cd,dK,aeB,cy,de,aH,be,hX,av,gW,gX,av,aT,dc,WG,gh,be,bj,bm,av];exact b9
theorem ah0(a:o.length=7)(c:b8 o=true):∃s d,Fk u [.agg o] 0 .nil= .ok (.agg (cW o)) 0 s d:=by
 have h:=(iA a c).e5;have tl:=(iA a c).aa;have e:∀f:aB->aw,cC 0 1 cZ ca f=f [cZ,(.s 0 0),(.s 0 0),aL,(.s 0 0),(.s 0 0),(.s 0 0),(.s 0 0),(.s 0 0),.aE,.aE]:=λf=>rfl;have g:∀f:aB->aw,cC 3 7 (.agg o) [cZ,(.s 0 0),(.s 0 0),aL,(.s 0 0),(.s 0 0),(.s 0 0),(.s 0 0),(.s 0 0),.aE,.aE] f=f (cW o):=λf=>by rw[tZ a];rfl
 rw[Fk,dK,Rx,cy,de,aH,be,e,g,hL,dc,XM,gh,be,bj,bm,av];exact b9
theorem avr(a:o.length=7)(c:b8 o=true)(e:aK u 185 [.agg o] (.agg (cW o))):∃s d,BY u [.agg o] 0 .nil= .ok (.agg (cW o)) 0 s d:=by have g:=(iA a c).e5;have tl:=(iA a c).aa;rw[BY,dK,abS,cy,de,aH,be,bg,bm,av,aT,dc,Xu,gh,be,bj,bm,av];exact b9
theorem ajv(a:o.length=7)(c:b8 o=true)(e:aK u 37 [ao 0] (.agg o)):∃s d,Da u [] 0 .nil= .ok (.agg o) 0 s d:=by rw[Da,akc,SY,de,bF,aT,dc,TG,gh,be,bj,bm,av];exact b9
end
end
section
variable{ob:ej} {sz e len q s:Nat} {x z:aB} {l es:aY} {h:aI} {as0:Bool} {atf:b1}
def mu[Tok](n:an)(l:aY)(t:aB):aB:=l.foldr (λx t=>bU bP n [x,t]) t
def mz[Tok](n:an):aY->aB
 |[]=>[]
 |[x]=>x
 |x::y::r=>bU bP n [x,mz n (y::r)]
theorem A9[Tok](n:an):∀{l:aY} {x:aB},l[l.length-1]? =some x->mz n l=mu n (l.take (l.length-1)) x
 |[],x,h=>by simp at h
 |[y],x,h=>by simp at h;subst h;rfl
 |y::z::r,x,h=>by
  have h':(z::r)[(z::r).length-1]? =some x:=by simpa using h
  show bU bP n [y,mz n (z::r)]=_;rw[A9 n h'];rfl
section
variable[Tok] {u:Fn} {b:Nat}
theorem lb(a:b8 x=true:=by assumption)(c:x.length=sz:=by assumption)(f:aY->eH->aw):cj ob sz 0 (.agg x) (cG 2 z) f=f [x,z] []:=by have e:cj ob sz 0 (.agg x) (cG 2 z) f=aD ob (.agg x) λq e0=>lp q λnew=>bf (Nat.beq (ea new) sz) (bf (Nat.blt 0 (ea (cG 2 z))) (f (tO (cG 2 z) 0 new) e0) .ax) .ax:=rfl;rw[e,bm a,By,gr,c,wT,cM];rfl
theorem lw{y:aB}(a:b8 y=true:=by assumption)(c:y.length=sz:=by assumption)(f:aY->eH->aw):cj ob sz 1 (.agg y) [x,z] f=f [x,y] []:=by have e:cj ob sz 1 (.agg y) [x,z] f=aD ob (.agg y) λq e0=>lp q λnew=>bf (Nat.beq (ea new) sz) (bf (Nat.blt 1 (ea [x,z])) (f (tO [x,z] 1 new) e0) .ax) .ax:=rfl;rw[e,bm a,By,gr,c,wT,cM];rfl
theorem BW{n x y:_}(a:b8 [bP,n]=true):cq (bU bP n [x,y]):=⟨(ks a).aa,(ks a).e5⟩
theorem B8:b8 [bP,fv]=true:=rfl
theorem z1:b8 [bP,eM]=true:=rfl
def o3(u:Fn)(f:Nat):Prop:=∀(n:an),(n=fv\/n=eM\/n=eu\/n=fe)->∀l,aK u f [n,.aQ 11 l] (.agg (bU bP n l))
theorem az7(r:o3 u 122)(a:gT){s3:Nat}{X2:an}(L:l.length<1000)(w:∀t∈l,cq t):∀(k N:Nat) (h:aI) (t:aB) [b4 h b],k<=l.length->k<N->cq t->h.aj (b+3)= .box s3 t->
 ∃h',eY b [3,2071] h h'/\h'.aj (b+3)= .box s3 (mu eM (l.take k) t)/\du 0 2 3 4 N (tK u b a) (.aQ 11 l) X2 (.bn (b+3) s3 0) (ao ((k:Int)-1)) h=a X2 (.bn (b+3) s3 0) h':=by
 intro k;induction k with
 |zero=>intro N h t ub A B i d;obtain⟨N,rfl⟩:=cN N;refine⟨h,.refl,d,?_⟩;rw[fj];generalize du 0 2 3 4 N (tK u b a)=j4;rw[tK,bF,ix,bk,a6]
 |succ k C=>
  intro N h t ub A B i d;obtain⟨N,rfl⟩:=cN N;have g:l[k]? =some (l[k]'(by omega)):=dC _;have j:=w _ (On g);have o:mu eM (l.take (k+1)) t=mu eM (l.take k) (bU bP eM [l[k]'(by omega),t]):=by unfold mu;rw[kh,g,List.foldr_append];rfl
  generalize (l[k]'(by omega))=x at g j o;obtain⟨M,O⟩:=j;obtain⟨t1,t2⟩:=i;obtain⟨D,E⟩:=BW (n:=eM) (x:=x) (y:=t) z1;have P:=r eM (.inr (.inl rfl)) [x,t];have F:∃c,eY b [3,2071] h c/\c.aj (b+3)= .box s3 (bU bP eM [x,t])/\du 0 2 3 4 (N+1) (tK u b a) (.aQ 11 l) X2 (.bn (b+3) s3 0) (ao (((k+1:Nat):Int)-1)) h=du 0 2 3 4 N (tK u b a) (.aQ 11 l) X2 (.bn (b+3) s3 0) (ao ((k:Int)-1)) c:=by rw[fj,show((k+1:Nat):Int)-1=(k:Int) by omega];generalize du 0 2 3 4 N (tK u b a)=j4;refine⟨(h.fm b 2071 56 11 [x,t] false).eP b 3 (bU bP eM [x,t]),((ng (b4.lt (by decide))).mono (by simp)).trans ((ng (b4.lt (by decide))).mono (by simp)),gS (ga d),?_⟩;rw[tK,bF,ix,bN,bL,aap,bZ,aV,aV,aN,bK,eE,aJ,aV,aN,ch,be,U2,aJ,cH,aN,aH,be,aV,aV,aN,lb,lw,av,av,n5,hO,aN,gX,av,aT,cH,aN,pf,e1]
  obtain⟨c,p,G,H⟩:=F
  haveI:b4 c b:=⟨by rw[p.bh];exact ub.eq⟩
  obtain⟨h',I,J,K⟩:=C N c _ (by omega) (by omega) ⟨D,E⟩ G;exact⟨h',p.trans I,by rw[o];exact J,by rw[H];exact K⟩
theorem DV{n:an}(a:b8 [bP,n]=true):∀{l:aY} {t:aB},cq t->cq (mu n l t)
 |[],t,h=>h
 |x::l,t,h=>BW a
theorem asZ(y:o3 u 122)(A:l.length<1000)(w:∀t∈l,cq t)(B:l≠[]):∃s d,CI u [.aQ 11 l] 0 .nil= .ok (.agg (mz eM l)) 0 s d:=by
 have P:0<l.length:=Nb.2 B;have i:l[l.length-1]? =some (l[l.length-1]'(by omega)):=dC _;have j:=w _ (On i);have k:=A9 eM i;generalize (l[l.length-1]'(by omega))=x at i j k;have C:cq (mz eM l):=by rw[k];exact DV z1 j
 have D:=k.symm;obtain⟨E,G⟩:=j;have H:∀a:an->aw,cP (ao (l.length:Int)) (ao 2) a=a (ao (((l.length-1:Nat):Int)-1)):=λa=>by rw[e1,show(l.length:Int)-2=((l.length-1:Nat):Int)-1 by omega]
 have I:∀a:an->aw,cP (ao (l.length:Int)) (ao 1) a=a (ao ((l.length-1:Nat):Int)):=λa=>by rw[e1,show(l.length:Int)-1=((l.length-1:Nat):Int) by omega]
 have F:∀(h:aI) (s3 s2:Nat) (Z:aB),b4 h 0->da h->h.aj (0+3)= .box s3 x->h.aj (0+2)= .box s2 Z->Z.length=11->∃s d,du 0 2 3 4 1000000 (tK u 0 λc n g=>aW g.aj true 11 n λo=>aX 0 none 11 c o g λx p=>JP 0 c p) (.aQ 11 l) (.bn (0+2) s2 0) (.bn (0+3) s3 0) (ao (((l.length-1:Nat):Int)-1)) h= .ok (.agg (mz eM l)) 0 s d:=by
  intro h s3 s2 Z J K L M Q;obtain⟨h',r,N,O⟩:=az7 (b:=0) y (λc n g=>aW g.aj true 11 n λo=>aX 0 none 11 c o g λx p=>JP 0 c p) (X2:= .bn (0+2) s2 0) A w (l.length-1) 1000000 h x (by omega) (by omega) ⟨E,G⟩ L
  haveI:b4 h' 0:=⟨by rw[r.bh];exact J.eq⟩
  haveI:da h':=⟨by rw[r.bQ];exact K.eq⟩
  have R:h'.aj (0+2)= .box s2 Z:=by rw[r.aj _ λd hd=>by simp at hd;omega];exact M
  rw[O];rw[D] at N;obtain⟨r1,S⟩:=C;rw[aH,be,dc,JP,gh,be,bj,bm,av];exact b9
 rw[CI,dK,acV,de,eA,bK,I,eE,aec,ch,be,de,dc,eA,ff,H];exact F _ _ _ _ inferInstance inferInstance (gS fE) (gi (gF fE)) rfl
def ww(a:aw)(b:Nat)(atf:b1)(e sz len:Nat)(es:aY)(as0:Bool):Prop:=
 ∃c d q s,a= .ok (.az q s 0 len) c d []/\b<=q/\q<c/\b<=c/\cE c d q= .az s e sz es as0/\∀k,k<b->cE c d k=cE b atf k
theorem YQ{f:Nat}{c:aB}(H:ww (u f c h.bh h.au) h.bh h.au e sz len es as0):
 ∃h' q s,h.bh<=h'.bh/\h'.aj q= .az s e sz es as0/\(∀k,k<h.bh->h'.aj k=h.aj k)/\h'.bQ=h.bQ/\h.bh<=q/\q<h'.bh/\∀k:dg,fD u b f c [] h k=k (.az q s 0 len) h':=by
 obtain⟨a,d,q,s,i,j,n,g,o,p⟩:=H;obtain⟨ub,a8,dd⟩:=h;have r:u f c ub a8= .ok (.az q s 0 len) a d []:=i;refine⟨.mk a d dd,q,s,g,o,λk t=>p k t,rfl,j,n,λk=>?_⟩;have zI:fD u b f c [] (.mk ub a8 dd) k=jT b ub dd k (u f c ub a8):=rfl;rw[zI,r];have w:jT b ub dd k (.ok (.az q s 0 len) a d [])=bf (Nat.ble ub a) (k (.az q s 0 len) (.mk a d dd)) .ax:=rfl;have y:ub<=a:=g;rw[w,ek,pl y,cM]
theorem Sy(c:b<=q)(a:q<h.bh)(g:b<=h.bh)(i:h.aj q= .az s e sz es as0)(hd:h.bQ=[])(j:∀k,k<b->h.aj k=cE b atf k):
 ww (mH b [.az q s 0 len] [] h) b atf e sz len es as0:=by
 obtain⟨ub,a8,d⟩:=h;have n:d=[]:=hd;subst n;have o:mH b [.az q s 0 len] [] (.mk ub a8 [])= @Bool.rec (λ_=>aw) (bf (Nat.ble (Nat.succ q) ub) (.ok (.az q s 0 len) ub a8 []) .ax) (.ok (.az q s 0 len) b (a8.drop b) []) (cS (Nat.ble (Nat.succ q) b) true):=rfl;have p:q<ub:=a;rw[o,ek (Nat.succ q) b,bk,ek,bN];exact⟨ub,a8,q,s,rfl,c,a,g,i,j⟩
theorem Ck{d d' bytes o l:Nat}{wk:Option (List Nat)}{y:an}(k:dg):eC b d wk e sz bytes (.az q s o l) y as0 h k=eC b d' wk e sz bytes (.az q s o l) y as0 h k:=rfl
theorem anf(sz:Nat)(es:aY)(k:an->aw):Fc false (.aQ sz es) k=k (.a9 false):=rfl
theorem aCO:gD (vv u [.aE] b atf) b atf .aE:=by have a:vv u [.aE] b atf=Fi b .aE (ba b atf):=rfl;rw[a,Fi];exact yR (by show b<=b+4096;omega) rfl λk c=>kz atf c
theorem apq(p:l.length<1000)(g:l≠[]):ww (vv u [.aQ 11 l] b atf) b atf 56 11 l.length l false:=by
 have i:cG 0 ca=[]:=rfl;rw[vv,dK,UB,anf,a6,gW];rw[i,Ck (d':=2053)];obtain⟨r,h',a,c,j⟩:=Jb (b:=b) (d:=2053) (e:=56) (sz:=11) (bytes:=176) (wk:=none) (as0:=false) (h:=(ba b atf).fm b 2053 56 11 [] false) (x:= .az (b+2053) (ri (ba b atf) b 2053) 0 0) (y:= .aQ 11 l) (arZ:=[]) (ys:=l) (.inr ⟨_,rfl,i9⟩) (λf=>QH _ _ _ _) g (λo=>gs b _) (b4.lt (by decide)) (by simp;omega) (by simp;omega);rw[j,Fi];have t:h'.bh=b+4096:=by rw[a.bh];exact Kf _ _ _ _
 simp only[Md,Fa,Pt] at c ⊢;refine Sy (by omega) (by omega) (by omega) c (by rw[a.bQ];exact da.eq) λk n=>?_;rw[a.aj k λd hd=>by omega];have:=(ng (b:=b) (h:=ba b atf) (d:=2053) (o:= .ae (.az (ri (ba b atf) b 2053) 56 11 [] false)) (b4.lt (by decide))).aj k λd hd=>by simp at hd;omega
 exact this.trans (kz atf n)
end
end
section
variable{c Z:aB} {asT:Bool} {l:aY} {h:aI} {s2:Nat} {v:an} {E:cr} {m:cw}
section
variable[Tok] {u:Fn} {b:Nat}
def mr[Tok](c:aB)(asT:Bool)(l:aY):aY:=if l=[]\/asT=false then cW c::l else l
def qF[Tok](c:aB)(asT:Bool)(l:aY):aB:=mz eM (mr c asT l)
def nT(v:an)(l:aY):Prop:=(v= .aE/\l=[])\/(v= .aQ 11 l/\l≠[])
theorem aqB(d:c.length=7)(e:b8 c=true)(g:∀t∈l,cq t):∀t∈mr c asT l,cq t:=by
 intro t a;unfold mr at a;split at a
 ·rcases pG.1 a with rfl|h
  ·exact⟨(iA d e).aa,(iA d e).e5⟩
  ·exact g t h
 ·exact g t a
theorem MG{n:an}(d:b8 [bP,n]=true)(e:l≠[])(g:∀t∈l,cq t):cq (mz n l):=by have i:0<l.length:=Nb.2 e;have a:l[l.length-1]? =some (l[l.length-1]'(by omega)):=dC _;rw[A9 n a];exact DV d (g _ (On a))
theorem TZ:mr c asT l≠[]:=by
 unfold mr;split
 ·simp
 ·rename_i h;intro e;exact h (.inl e)
theorem avC:(mr c asT l).length<=l.length+1:=by unfold mr;split<;>simp
def Jr(u:Fn)(f:Nat):Prop:=∀l:aY,l.length<1000->(∀t∈l,cq t)->l≠[]->aK u f [.aQ 11 l] (.agg (mz eM l))
def aeO(u:Fn)(f:Nat):Prop:=(∀b atf,gD (u f [.aE] b atf) b atf .aE)/\∀b atf (l:aY),l.length<1000->l≠[]->ww (u f [.aQ 11 l] b atf) b atf 56 11 l.length l false
def q0(u:Fn)(f:Nat):Prop:=∀o:aB,o.length=7->b8 o=true->aK u f [.agg o] (.agg (cW o))
theorem VY(g:Jr u 241){L:aY}(k:b4 h 0)(n:da h)(o:h.aj (0+2)= .box s2 Z)(p:Z.length=11)(i:L.length<1000)(a:∀t∈L,cq t)(e:L≠[])(j:∀f,aD h.aj v f=f (.aQ 11 L) []):
 ∃s d,Cq u 0 (.bn (0+2) s2 0) v h= .ok (.agg (mz eM L)) 0 s d:=by
 obtain⟨r1,q⟩:=MG z1 e a;have r:=g L i a e;rw[Cq,bg,j,av,aT,dc,YI,gh,be,bj,bm,av];exact b9
theorem S1(i:Jr u 241)(j:q0 u 185){a:Nat}(y:b4 h 0)(A:da h)(B:h.aj (0+1)= .box a (E.fp m))(k:h.aj (0+2)= .box s2 Z)(n:Z.length=11)(C:l.length<900)(p:∀t∈l,cq t)(q:∀o (f:aY->aw),ke (h.g4 0 2068 o).aj 11 v f=f l):
 ∃s d,QP u 0 (Cq u 0) (.bn (0+1) a 0) v (.bn (0+2) s2 0) h= .ok (.agg (mz eM (cW (E.num m.U)::l))) 0 s d:=by
 have D:=j _ (E.len m.U) (E.eU m.U);have e:=iA (E.len m.U) (E.eU m.U);have F:=E.eU m.U;have cl:=e.aa;have g:=e.e5;have r:0+0+7<=(E.fp m).length:=by rw[E.eG];omega
 have w:∀f:aY->eH->aw,∀ob:Nat->dM,∀z,cj ob 11 0 (.agg (cW (E.num m.U))) (cG 1 z) f=f [cW (E.num m.U)] []:=λf ob z=>hX g cl f;rw[QP,bb,aH,e8 r,show(0:Nat)+0=0 from rfl,E.jV,bg,bm,av,aT,w,av,gW];rw[Ck (d':=2070),Gm (d:=2068) (d':=2070) (arZ:=[cW (E.num m.U)]) i9 (λf=>q _ f) (by rfl) (λo=>gs 0 _) (by simp;omega) (by simp;omega) _];refine VY i inferInstance inferInstance (l5 (ga k)) n ?_ ?_ (by simp) (λf=>gX pi (by simp;omega) f)
 ·simp;omega
 ·intro t x;rcases pG.1 x with h|h
  ·subst h;exact⟨cl,g⟩
  ·exact p t h
theorem axi(p:Jr u 241)(B:q0 u 185)(C:aeO u 240)(K:nT (E.di m.k) l)(M:l.length<900)(D:∀t∈l,cq t)(P:aK u 37 [ao 1] (.agg (E.num 1)))(G:aK u 207 [.agg (E.num m.U),.agg (E.num 1)] (.a9 (decide (m.U=1)))):
 ∃s d,AL u [.agg (E.fp m)] 0 .nil= .ok (.agg (qF (E.num m.U) (decide (m.U=1)) l)) 0 s d:=by
 have Q:=E.eG m;have mp:=E.gw m;have gH:(E.fp m)[0+7]? =some (E.di m.k):=by simpa using E.kk m
 have H:0+0+7<=(E.fp m).length:=by rw[E.eG];omega
 have R:=E.eU m.U;have S:=E.eU 1;rcases K with⟨r,rfl⟩|⟨r,i⟩
 ·have F:∀(h:aI) (a s2:Nat) (Z:aB),b4 h 0->da h->h.aj (0+1)= .box a (E.fp m)->h.aj (0+2)= .box s2 Z->Z.length=11->∃s d,DO u 0 (.bn (0+1) a 7) (.bn (0+1) a 0) (.bn (0+2) s2 0) h= .ok (.agg (qF (E.num m.U) (decide (m.U=1)) [])) 0 s d:=by
   intro h a s2 Z e w x y j;rw[DO,aH,bc gH,r,yg,av];obtain⟨h',g,k⟩:=my (u:=u) (b:=0) (h:=h) (C.1 h.bh h.au)
   haveI:b4 h' 0:=⟨by rw[g.bh];exact e.eq⟩
   haveI:da h':=⟨by rw[g.bQ];exact w.eq⟩
   have z:h'.aj (0+1)= .box a (E.fp m):=by rw[g.aj _ λd hd=>by simp at hd];exact x
   have n:h'.aj (0+2)= .box s2 Z:=by rw[g.aj _ λd hd=>by simp at hd];exact y
   rw[k];rw[hy,bF,dj,bN,lL,Ei,gE,dR,bL];exact S1 (E:=E) (m:=m) p B (h:=h') (l:=[]) inferInstance inferInstance z n j (by simp) (by simp) (λo f=>rfl)
  rw[AL,dK,Mt,cy,de,bb];refine F _ _ _ _ inferInstance inferInstance (gF fE) fE ?_;rfl
 ·have F:∀(h:aI) (a s2:Nat) (Z:aB),b4 h 0->da h->h.aj (0+1)= .box a (E.fp m)->h.aj (0+2)= .box s2 Z->Z.length=11->∃s d,DO u 0 (.bn (0+1) a 7) (.bn (0+1) a 0) (.bn (0+2) s2 0) h= .ok (.agg (qF (E.num m.U) (decide (m.U=1)) l)) 0 s d:=by
   intro h a s2 Z e w x y j;rw[DO,aH,bc gH,r,mg,av];obtain⟨h',q,s,g,k,I,a4,T,W,N⟩:=YQ (u:=u) (b:=0) (h:=h) (C.2 h.bh h.au l (by omega) i)
   haveI:b4 h' 0:=⟨by have:=e.eq;omega⟩
   haveI:da h':=⟨by rw[a4];exact w.eq⟩
   have z:h'.aj (0+1)= .box a (E.fp m):=by rw[I _ (by have:=e.eq;omega)];exact x
   have n:h'.aj (0+2)= .box s2 Z:=by rw[I _ (by have:=e.eq;omega)];exact y
   have X:0<l.length:=Nb.2 i;have O:∀o (f:aY->aw),ke (h'.g4 0 2068 o).aj 11 (.az q s 0 l.length) f=f l:=λo f=>yq (by rw[(ng (b:=0) (h:=h') (d:=2068) (o:=o) (b4.lt (by decide))).aj q λd hd=>by simp at hd;have:=e.eq;omega];exact k) f;rw[N];by_cases J:m.U=1
   ·rw[pl J] at G ⊢;rw[jw,bF,dj,bk,fZ,OA,bb,aJ,cH,aN,aH,e8 H,show(0:Nat)+0=0 from rfl,E.jV,bK,aT,aV,aV,aN,bm,bm,av,av,aT,hj,tF,Ei,gE,dO,a6];have A:mr (E.num m.U) true l=l:=by unfold mr;rw[if_neg (by simp[i])]
    unfold qF;rw[A];exact VY p (h:=h') (L:=l) inferInstance inferInstance n j (by omega) D i (λf=>gX k rfl f)
   ·rw[GG J] at G ⊢;rw[jw,bF,dj,bk,fZ,OA,bb,aJ,cH,aN,aH,e8 H,show(0:Nat)+0=0 from rfl,E.jV,bK,aT,aV,aV,aN,bm,bm,av,av,aT,hj,uD,Ei,gE,dO,bL];have A:mr (E.num m.U) false l=cW (E.num m.U)::l:=by unfold mr;rw[if_pos (by simp)]
    unfold qF;rw[A];exact S1 (E:=E) (m:=m) p B (h:=h') (l:=l) inferInstance inferInstance z n j M D O
  rw[AL,dK,Mt,cy,de,bb];refine F _ _ _ _ inferInstance inferInstance (gF fE) fE ?_;rfl
end
end
section
variable{E:cr} {T:cw->aB} {ps:bE} {v:an}
section
variable[Tok] {u:Fn} {b:Nat}
def jC[Tok](E:cr)(T:cw->aB):bE->aB
 |[]=>cW (E.num 0)
 |m::r=>mz fv ((m::r).map T)
theorem abI(E:cr)(T:cw->aB):jC E T []=cW (E.num 0):=rfl
theorem K9(h:ps≠[]):jC E T ps=mz fv (ps.map T):=by
 cases ps with
 |nil=>exact absurd rfl h
 |cons m r=>rfl
theorem XQ(h:∀m∈ps,cq (T m)):cq (jC E T ps):=by
 cases ps with
 |nil=>exact⟨(iA (E.len 0) (E.eU 0)).aa,(iA (E.len 0) (E.eU 0)).e5⟩
 |cons m r=>rw[K9 (by simp)];refine MG B8 (by simp) λt a=>?_;obtain⟨c,d,rfl⟩:=yd.1 a;exact h c d
theorem ayu(e:cA E v ps)(L:ps.length<1000)(p:o3 u 122)(q:∀m∈ps,aK u 186 [.agg (E.fp m)] (.agg (T m))/\cq (T m))(a:gT){s3:Nat}{X2:an}:∀(k N:Nat) (h:aI) (t:aB) [b4 h b],k<=ps.length->k<N->cq t->h.aj (b+3)= .box s3 t->
 ∃h',eY b [3,2078] h h'/\h'.aj (b+3)= .box s3 (mu fv ((ps.map T).take k) t)/\du 0 2 3 4 N (tq u b a) v X2 (.bn (b+3) s3 0) (ao ((k:Int)-1)) h=a X2 (.bn (b+3) s3 0) h':=by
 intro k;induction k with
 |zero=>intro N h t ub r w i g;obtain⟨N,rfl⟩:=cN N;refine⟨h,.refl,g,?_⟩;rw[fj];generalize du 0 2 3 4 N (tq u b a)=j4;rw[tq,bF,ix,bk,a6]
 |succ k z=>
  intro N h t ub r w i g;obtain⟨N,rfl⟩:=cN N;have d:ps[k]? =some (ps[k]'(by omega)):=dC _;have j:=q _ (On d);generalize (ps[k]'(by omega))=m at d j;have l:(ps.map E.fp)[k]? =some (E.fp m):=by rw[O8,d];rfl
  have A:mu fv ((ps.map T).take (k+1)) t=mu fv ((ps.map T).take k) (bU bP fv [T m,t]):=by unfold mu;rw[kh,O8,d,List.foldr_append];rfl
  obtain⟨M,O,P⟩:=j;obtain⟨t1,t2⟩:=i;obtain⟨B,C⟩:=BW (n:=fv) (x:=T m) (y:=t) B8;have Q:=p fv (.inl rfl) [T m,t];have R:=E.eG m;have mp:=E.gw m;rcases e with⟨S,D⟩|e
  ·rw[D] at l;cases l
  have F:∃c,eY b [3,2078] h c/\c.aj (b+3)= .box s3 (bU bP fv [T m,t])/\du 0 2 3 4 (N+1) (tq u b a) v X2 (.bn (b+3) s3 0) (ao (((k+1:Nat):Int)-1)) h=du 0 2 3 4 N (tq u b a) v X2 (.bn (b+3) s3 0) (ao ((k:Int)-1)) c:=by rw[fj,show((k+1:Nat):Int)-1=(k:Int) by omega];generalize du 0 2 3 4 N (tq u b a)=j4;subst e;refine⟨(h.fm b 2078 56 11 [T m,t] false).eP b 3 (bU bP fv [T m,t]),((ng (b4.lt (by decide))).mono (by simp)).trans ((ng (b4.lt (by decide))).mono (by simp)),gS (ga g),?_⟩;rw[tq,bF,ix,bN,bL,TR,bZ,aV,aV,aN,bK,eE,aJ,aV,aN,ch,be,aV,aN,bm,av,aT,SL,aJ,cH,aN,aH,be,aV,aV,aN,lb,lw,av,av,n5,hO,aN,gX,av,aT,cH,aN,pf,e1]
  obtain⟨c,o,G,H⟩:=F
  haveI:b4 c b:=⟨by rw[o.bh];exact ub.eq⟩
  obtain⟨h',I,J,K⟩:=z N c _ (by omega) (by omega) ⟨B,C⟩ G;exact⟨h',o.trans I,by rw[A];exact J,by rw[H];exact K⟩
theorem avv(c:cA E v ps)(C:ps.length<1000)(D:o3 u 122)(w:∀m∈ps,aK u 186 [.agg (E.fp m)] (.agg (T m))/\cq (T m))(S:aK u 37 [ao 0] (.agg (E.num 0)))(G:q0 u 185):
 ∃s d,y9 u [v] 0 .nil= .ok (.agg (jC E T ps)) 0 s d:=by
 by_cases j:ps=[]
 ·subst j;have ev:v= .aE\/v= .aQ 8 []:=by
   rcases c with⟨e,_⟩|e
   ·exact .inl e
   ·exact .inr e
  have el:∀k:an->aw,bq false v k=k (ao 0):=λk=>c.len k;have W:=G _ (E.len 0) (E.eU 0);have y:=iA (E.len 0) (E.eU 0);have X:=E.eU 0;have cl:=y.aa;have cp:=y.e5;rw[abI];rw[y9,dK,OV,de,el,bF,dj,bN,bL,Vx,bF,aT,bg,bm,av,aT,dc,yF,gh,be,bj,bm,av];exact b9
 have ar:0<ps.length:=Nb.2 j;have l:ps[ps.length-1]? =some (ps[ps.length-1]'(by omega)):=dC _;have z:=w _ (On l);generalize (ps[ps.length-1]'(by omega))=m at l z;have H:(ps.map T)[(ps.map T).length-1]? =some (T m):=by rw[ER,O8,l];rfl
 have a4:(ps.map E.fp)[ps.length-1]? =some (E.fp m):=by rw[O8,l];rfl
 have o:=A9 fv H;rw[<-K9 j,ER] at o;have I:=o.symm;obtain⟨a5,A,B⟩:=z;have J:cq (jC E T ps):=by rw[o];exact DV B8 ⟨A,B⟩
 have K:v= .aQ 8 (ps.map E.fp):=by
  rcases c with⟨_,n⟩|c
  ·simp at n;exact absurd n j
  ·exact c
 have bd:=E.eG m;have mp:=E.gw m;have n:∀a:an->aw,cP (ao (ps.length:Int)) (ao 2) a=a (ao (((ps.length-1:Nat):Int)-1)):=λa=>by rw[e1,show(ps.length:Int)-2=((ps.length-1:Nat):Int)-1 by omega]
 have L:∀a:an->aw,cP (ao (ps.length:Int)) (ao 1) a=a (ao ((ps.length-1:Nat):Int)):=λa=>by rw[e1,show(ps.length:Int)-1=((ps.length-1:Nat):Int) by omega]
 have F:∀(h:aI) (s3 s2:Nat) (Z:aB),b4 h 0->da h->h.aj (0+3)= .box s3 (T m)->h.aj (0+2)= .box s2 Z->Z.length=11->∃s d,du 0 2 3 4 1000000 (tq u 0 λg p i=>aW i.aj true 11 p λq=>aX 0 none 11 g q i λx r=>yF 0 g r) v (.bn (0+2) s2 0) (.bn (0+3) s3 0) (ao (((ps.length-1:Nat):Int)-1)) h= .ok (.agg (jC E T ps)) 0 s d:=by
  intro h s3 s2 Z M N O P hz;obtain⟨h',t,Q,R⟩:=ayu (b:=0) c C D w (λg p i=>aW i.aj true 11 p λq=>aX 0 none 11 g q i λx r=>yF 0 g r) (X2:= .bn (0+2) s2 0) (ps.length-1) 1000000 h (T m) (by omega) (by omega) ⟨A,B⟩ O
  haveI:b4 h' 0:=⟨by rw[t.bh];exact M.eq⟩
  haveI:da h':=⟨by rw[t.bQ];exact N.eq⟩
  have bs:h'.aj (0+2)= .box s2 Z:=by rw[t.aj _ λd hd=>by simp at hd;omega];exact P
  rw[R];rw[I] at Q;obtain⟨r1,bx⟩:=J;rw[aH,be,dc,yF,gh,be,bj,bm,av];exact b9
 rw[K] at F ⊢;rw[y9,dK,OV,de,eA,ER,bF,dj,bk,a6,Sh,eA,ER,bK,L,eE,ch,be,Vj,bg,bm,av,aT,de,dc,eA,ER,ff,n];refine F _ _ _ _ inferInstance inferInstance (gS fE) (gi (gF fE)) ?_;rfl
end
end
section
variable{d d' e sz:Nat} {as0:Bool} {h:aI} {x v:an} {arZ rs:aY} {cs:aB} {E:cr} {A:Nat->aY} {ps:bE}
section
variable[Tok] {u:Fn} {b:Nat}
theorem xf:(tz:an)=ao 12:=by rw[cX];rfl
theorem db.fz{b t:Nat}[b4 h b](r:db b d e sz as0 h x arZ)(a:d'≠d:=by decide)(hd:d'<4096:=by decide):db b d e sz as0 (h.fz b d' t cs) x arZ:=by
 rcases r with r|⟨s,r1,c⟩
 ·exact .inl r
 ·exact .inr ⟨s,r1,gF c a hd⟩
theorem db.eP{b:Nat}[b4 h b](r:db b d e sz as0 h x arZ)(a:d'≠d:=by decide)(hd:d'<4096:=by decide):db b d e sz as0 (h.eP b d' cs) x arZ:=by
 rcases r with r|⟨s,r1,c⟩
 ·exact .inl r
 ·exact .inr ⟨s,r1,gi c a hd⟩
theorem db.fm{b a c:Nat}{as2:Bool}{es:aY}[b4 h b](r:db b d e sz as0 h x arZ)(g:d'≠d:=by decide)(hd:d'<4096:=by decide):db b d e sz as0 (h.fm b d' a c es as2) x arZ:=by
 rcases r with r|⟨s,r1,i⟩
 ·exact .inl r
 ·exact .inr ⟨s,r1,ga i g hd⟩
theorem tR{d1 bytes a:Nat}{wk:Option (List Nat)}{r1:Bool}{y:aB}[ub:b4 h b][fc:da h](r:db b d e sz as0 h x arZ)(g:h.aj (b+d1)= .az a e sz [y] r1)(i:∀o,gO b wk [(b+d,o)]=true)(n:arZ.length<100000)(p:bytes<1000)(hd:d<4096:=by decide):
 ∃s h',b4 h' b/\da h'/\eY b [d] h h'/\db b d e sz as0 h' (.az (b+d) s 0 (arZ.length+1)) (arZ++[y])/\∀k:dg,eC b d wk e sz bytes x (.az (b+d1) a 0 1) as0 h k=k (.az (b+d) s 0 (arZ.length+1)) h':=by
 obtain⟨s,h',c,j,l⟩:=Jb (bytes:=bytes) (wk:=wk) r (y:= .az (b+d1) a 0 1) (ys:=[y]) (λf=>yq g f) (by simp) i (b4.lt hd) (by have:(arZ.length+1)*bytes<=100000*1000:=FE (by omega) (by omega);simp only[yc];omega) (by simp only[yc];omega)
 exact⟨s,h',⟨by rw[c.bh];exact ub.eq⟩,⟨by rw[c.bQ];exact fc.eq⟩,c,.inr ⟨s,by simp,j⟩,l⟩
theorem nT.len{l:aY}(h:nT v l)(k:an->aw):bq false v k=k (ao l.length):=by
 rcases h with⟨rfl,rfl⟩|⟨rfl,_⟩
 ·exact hy k
 ·exact eA _ _ k
def nI(A:Nat->aY)(ps:bE):Bool:=ps.any λm=>decide (4<(A m.k).length)
theorem axh(o:∀m∈ps,nT (E.di m.k) (A m.k)/\(A m.k).length<1000)(p:v= .aQ 8 (ps.map E.fp))(z:ps.length<1000):∀(n k N:Nat) (h:aI) [b4 h 0] [da h],n+k=ps.length->n<N->
 ∃s d,fM 5 6 7 N (wX u 0 (λc=>wF 0 bG c)) v (ao ps.length) (ao k) h= .ok (.a9 (nI A (ps.drop k))) 0 s d:=by
 intro n;induction n with
 |zero=>intro k N h ub fc q r;obtain⟨N,rfl⟩:=cN N;rw[hI,lO];rw[wX,bO,bk,a6,wF,fQ,bj,fO,av];exact b9
 |succ n t=>
  intro k N h ub fc q r;obtain⟨N,rfl⟩:=cN N;have g:ps[k]? =some (ps[k]'(by omega)):=dC _;have a:=o _ (On g);have j:ps.drop k=ps[k]'(by omega)::ps.drop (k+1):=iK (by omega);generalize (ps[k]'(by omega))=m at g a j;have B:(ps.map E.fp)[k]? =some (E.fp m):=by rw[O8,g];rfl
  have gH:(E.fp m)[0+7]? =some (E.di m.k):=by simpa using E.kk m
  have C:=E.eG m;have w:nI A (ps.drop k)=(decide (4<(A m.k).length)||nI A (ps.drop (k+1))):=by rw[j];rfl
  rw[hI,w];have D:=a.2;have i:=λ(h:aI) (F:b4 h 0) (G:da h)=>t (k+1) N h (by omega) (by omega);have y:((k+1:Nat):Int)=(k:Int)+1:=by omega
  rw[y] at i;generalize fM 5 6 7 N (wX u 0 (λc=>wF 0 bG c))=H at i;subst p;by_cases l:4<(A m.k).length
  ·rw[pl l,Bool.true_or];rw[wX,bO,bN,bL,P5,bK,eE,ch,be,de,dc,bp,bb,aH,bc,a.1.len,p7,hH,bN,bL,wF,gE,bj,fO,av];exact b9
  ·rw[GG l,qq];rw[wX,bO,bN,bL,P5,bK,eE,ch,be,de,dc,bp,bb,aH,bc,a.1.len,p7,hH,bk,a6,cK];exact i _ inferInstance inferInstance
theorem akt(c:∀m∈ps,nT (E.di m.k) (A m.k)/\(A m.k).length<1000)(a:cA E v ps)(g:ps.length<1000):
 ∃s d,yK u [v] 0 .nil= .ok (.a9 (nI A ps)) 0 s d:=by
 rcases a with⟨rfl,e⟩|a
 ·have:ps=[]:=by simpa using e
  subst this;rw[show nI A []=false from rfl];rw[yK,dK,NR,hy];rw[hQ,hI];rw[wX,bF,bO,bk,a6,wF,fQ,bj,fO,av];exact b9
 ·have:=axh (u:=u) c a g ps.length 0 1000000 (ba 0 .nil) (by omega) (by omega);subst a;rw[yK,dK,NR,eA,ER];rw[bF];exact this
theorem Il(u:Fn)(a:an)(b:Nat)(atf:b1):xu u [a] b atf=HX u b a (ba b atf):=rfl
theorem apl(r:∀t∈rs,t.length=37/\cq ((t.drop (0+26)).take 11))(T:rs.length<1000):∀(n k N:Nat) (h:aI) (arZ:an) [b4 h 0] [da h],n+k=rs.length->n<N->db 0 2065 56 11 false h arZ ((rs.take k).map λt=>(t.drop (0+26)).take 11)->
 ∃v,dw 11 v (rs.map λt=>(t.drop (0+26)).take 11)/\∃s d,du 3 7 8 9 N (y2 u 0 (λc g=>Ef 0 c g)) arZ (.aQ 37 rs) (ao rs.length) (ao k) h= .ok v 0 s d:=by
 intro n;induction n with
 |zero=>intro k N h arZ ub fc w y a;obtain⟨N,rfl⟩:=cN N;rw[fj];rw[nY] at a;obtain⟨v,z,B⟩:=a.yt;refine⟨v,z,?_⟩;rw[y2,bO,bk,a6,Ef,bj,B,av];exact b9
 |succ n C=>
  intro k N h arZ ub fc w y a;obtain⟨N,rfl⟩:=cN N;have i:rs[k]? =some (rs[k]'(by omega)):=dC _;have p:=r _ (On i);have q:(rs.take (k+1)).map (λt=>(t.drop (0+26)).take 11)=(rs.take k).map (λt=>(t.drop (0+26)).take 11)++[((rs[k]'(by omega)).drop (0+26)).take 11]:=by rw[kh,i,LZ];rfl
  generalize (rs[k]'(by omega))=m at i p q;obtain⟨fC,W,X⟩:=p;rw[fj];have j:=λ(h:aI) (arZ:an) (D:b4 h 0) (F:da h)=>C (k+1) N h arZ (by omega) (by omega);have G:((k+1:Nat):Int)=(k:Int)+1:=by omega
  rw[G] at j;have eX:((rs.take k).map (λt=>(t.drop (0+26)).take 11)).length<100000:=by simp;omega
  generalize du 3 7 8 9 N (y2 u 0 (λc g=>Ef 0 c g))=j4 at j;have H:0+26+11<=m.length:=by omega
  have Z:∀(h':aI),b4 h' 0->da h'->∀l,db 0 2065 56 11 false h' arZ ((rs.take k).map λt=>(t.drop (0+26)).take 11)->h'.aj (0+2064)= .az l 56 11 [(m.drop (0+26)).take 11] false->
   ∃v,dw 11 v (rs.map λt=>(t.drop (0+26)).take 11)/\∃s d,(eC 0 2065 none 56 11 176 arZ (.az (0+2064) l 0 1) false h' λI J=>(bR (ao k) (ao 1) λK=>j4 I (.aQ 37 rs) (ao rs.length) K J))= .ok v 0 s d:=by
   intro h' D F l L M;obtain⟨s',O,P,Q,ar,R,S⟩:=tR (bytes:=176) L M (λo=>gs 0 _) eX (by omega);rw[S];rw[cK];exact j O _ P Q (by rw[q];exact R)
  rw[y2,bO,bN,bL,Yf,bK,eE,ch,be,de,dc,bb,aH,e8 H,hX,av,gW];refine Z _ ?_ ?_ _ ?_ ?_
  ·infer_instance
  ·infer_instance
  ·((repeat(first|exact a|refine db.fm ?_ ?_ ?_|refine db.eP ?_ ?_ ?_|refine db.fz ?_ ?_ ?_))<;>decide)
  ·exact i9
theorem arV(a:∀ob (f:jm),aD ob x f=f x [])(l:aK u 57 [x] v)(c:dw 37 v rs)(g:∀t∈rs,t.length=37/\cq ((t.drop (0+26)).take 11))(i:rs.length<1000):
 ∃w,dw 11 w (rs.map λt=>(t.drop (0+26)).take 11)/\∃s d,xu u [x] 0 .nil= .ok w 0 s d:=by
 rcases c with⟨rfl,e⟩|rfl
 ·subst e;refine⟨.aE,.inl ⟨rfl,rfl⟩,?_⟩;rw[xu,dK,HX,bg,a,av,aT,hy];rw[hQ,fj];rw[y2,bF,bO,bk,a6,Ef,bj,yg,av];exact b9
 ·obtain⟨w,j,k⟩:=apl (u:=u) g i rs.length 0 1000000 (ba 0 .nil) .aE (by omega) (by omega) (.inl ⟨rfl,rfl⟩);refine⟨w,j,?_⟩;rw[xu,dK,HX,bg,a,av,aT,eA];rw[bF];exact k
end
end
section
variable{t ti tj:aB} {vi vj vq X4:an} {bf:Bool} {A:Nat->aY} {T:cw->aB} {M:bE->bE->bE} {i sr:Nat} {L:aY}
structure fH where
 t:aB
 v:an
 aq:bE
 aM:Bool
def fH.U(r:fH):aB:=r.t++[r.v,.a9 r.aM]
def fH.oP[Tok](E:cr)(r:fH):Prop:=cq r.t/\cA E r.v r.aq/\r.aq.length<100
section
variable[Tok] {u:Fn} {b:Nat}
section
variable{E:cr} {r:fH}
theorem fH.oP.len(h:r.oP E):r.U.length=13:=by simp[fH.U,h.1.1]
theorem fH.oP.oV(h:r.oP E):0+0+11<=r.U.length:=by rw[h.len];omega
theorem fH.oP.dX(h:r.oP E):(r.U.drop (0+0)).take 11=r.t:=by simp[fH.U,<-h.1.1]
theorem fH.oP.H8(h:r.oP E):r.U[0+11]? =some r.v:=by unfold fH.U;rw[List.getElem?_append_right (by rw[h.1.1];omega),h.1.1];rfl
theorem fH.oP.zG(h:r.oP E):r.U[0+12]? =some (.a9 r.aM):=by unfold fH.U;rw[List.getElem?_append_right (by rw[h.1.1];omega),h.1.1];rfl
end
theorem jA{d:Nat}{rk:List Nat}(s i o:Nat)(xs:aB)(z:aw)(h:eb rk d=true:=by rfl)(hd:d<4096:=by decide):met b rk (.dH (b+d) s i o::xs) z=met b rk xs z:=HJ hd h s i o xs z
def oY[Tok](z:aB)(a:Bool)(t:aB):aB:=if a then bU bP eu [z,t] else bU bP fe [bU bP eu [t,z]]
def rU(t:aB):aB:=(t.drop (0+26)).take 11
def BK[Tok](t:aB):Prop:=t.length=37/\cq (rU t)
def kZ[Tok](a:aw)(L:aY):Prop:=∃v rs,dw 37 v rs/\(∀t∈rs,BK t)/\rs.map rU=L/\∃s d,a= .ok v 0 s d
theorem adc{z:aB}{a:Bool}:cq (oY z a t):=by cases a<;>exact⟨rfl,rfl⟩
structure xT [Tok] (u:Fn) (E:cr) (A:Nat->aY) (T:cw->aB) (M:bE->bE->bE) (R:List fH):Prop where
 ok:∀r∈R,r.oP E
 mul:∀r∈R,∀s∈R,fy u 118 E [r.v,s.v] (M r.aq s.aq)
 ahZ:∀r∈R,∀s∈R,∀v,cA E v (M r.aq s.aq)->aK u 119 [v] (.a9 (nI A (M r.aq s.aq)))
 PN:∀r∈R,∀s∈R,∀v,cA E v (M r.aq s.aq)->aK u 120 [v] (.agg (jC E T (M r.aq s.aq)))
 tok:∀r∈R,∀s∈R,cq (jC E T (M r.aq s.aq))
 zero:aK u 36 [] (.agg (E.num 0))
 si:q0 u 121
 yQ:o3 u 122
 not:∀t,cq t->aK u 123 [.agg t] (.agg (bU bP fe [t]))
def oa[Tok](E:cr)(A:Nat->aY)(T:cw->aB)(M:bE->bE->bE)(r s:fH):Option aB:=
 if nI A (M r.aq s.aq) then none else some (oY (cW (E.num 0)) (r.aM&&s.aM) (jC E T (M r.aq s.aq)))
theorem PH(hi:ti.length=11)(a:tj.length=11)(c:t.length=11):
 (ti++tj++[vi,vj,.a9 bf,vq]++ca).length=37/\
 (ti++tj++[vi,vj,.a9 bf,vq]++ca).take (0+26)++t++(ti++tj++[vi,vj,.a9 bf,vq]++ca).drop (0+26+11)=ti++tj++[vi,vj,.a9 bf,vq]++t/\
 (ti++tj++[vi,vj,.a9 bf,vq]++ca)[0+24]? =some (.a9 bf):=by
 have e:(ti++tj++[vi,vj,.a9 bf,vq]).length=26:=by simp[hi,a,ca]
 refine⟨by simp[hi,a,ca],?_,?_⟩
 ·rw[rV (by rw[e];omega),lH (by rw[e];omega),iL (by simp[hi,a,ca]),fr]
 ·rw[q5 (by rw[e];omega),sH (by simp[hi,a,ca])];simp[hi,a,ca]
theorem IV(hi:ti.length=11)(a:tj.length=11)(c:t.length=11):(ti++tj++[vi,vj,.a9 bf,vq]++t).length=37/\rU (ti++tj++[vi,vj,.a9 bf,vq]++t)=t:=by
 have e:(ti++tj++[vi,vj,.a9 bf,vq]).length=26:=by simp[hi,a]
 refine⟨by simp[hi,a,c],?_⟩;unfold rU;rw[List.drop_append_of_le_length (by omega),lO,Pt,nY]
theorem dw.Rd{E:cr}{a d rs:bE}{c:Bool}(e:cA E vi a)(g:cA E vj d)(h:cA E vq rs)(j:b8 t=true):b8 ([vi,vj,.a9 c,vq]++t)=true:=by rcases e with⟨rfl,_⟩|rfl<;>rcases g with⟨rfl,_⟩|rfl<;>rcases h with⟨rfl,_⟩|rfl<;>exact j
theorem auN{E:cr}{R:List fH}(K:xT u E A T M R){k:Nat}{n p:fH}(O:R[i]? =some n)(P:R[k]? =some p){j6:nP}(l:cA E vq (M n.aq p.aq))
 {h:aI}{arZ:an}{H:aY}(ub:b4 h 0)(fc:da h)(Q:h.aj (0+2099)= .az sr 182 13 (R.map fH.U) false)(S:db 0 2191 132 37 false h arZ H)(eX:H.length<100000)
 (F:∀(h:aI) (arZ:an) (t:aB),b4 h 0->da h->h.aj (0+2099)= .az sr 182 13 (R.map fH.U) false->db 0 2191 132 37 false h arZ (H++[t])->BK t->rU t=oY (cW (E.num 0)) (n.aM&&p.aM) (jC E T (M n.aq p.aq))->kZ (j6 (.az (0+2099) sr 0 R.length) arZ (ao i) (ao k) X4 (ao i) h) L):
 kZ (zf u 0 j6 (.az (0+2099) sr 0 R.length) arZ (ao i) (ao k) vq X4 (ao i) h) L:=by
 have hi:i<R.length:=by rcases e6.1 O with⟨h,_⟩;exact h
 have hk:k<R.length:=by rcases e6.1 P with⟨h,_⟩;exact h
 have gt:(R.map fH.U)[i]? =some n.U:=by rw[O8,O];rfl
 have ha:(R.map fH.U)[k]? =some p.U:=by rw[O8,P];rfl
 have W:=On O;have X:=On P;have q:=K.ok _ W;have w:=K.ok _ X;have c5:=q.H8;have dd:=q.zG;have ar:=q.oV;have I:=q.dX;have dq:=w.H8;have dt:=w.zG;have a1:=w.oV;have J:=w.dX;have dz:=K.PN _ W _ X vq l;have cp:=K.tok _ W _ X;have hz:=K.zero;have hb:=K.si _ (E.len 0) (E.eU 0);have cs:=iA (E.len 0) (E.eU 0);generalize jC E T (M n.aq p.aq)=a at dz cp F;obtain⟨x,hc⟩:=cp;have he:=E.len 0;have hf:=E.eU 0;have hh:=cs.aa;have hl:=cs.e5;have c0:=q.1;have c1:=w.1;have y:=q.2.1;have z:=w.2.1;generalize n.t=ti at c0 I;generalize p.t=tj at c1 J;generalize n.v=vi at y c5;generalize p.v=vj at z dq;generalize n.aM=a2 at dd F;generalize p.aM=a3 at dt F;obtain⟨e,a4⟩:=c0;obtain⟨j,a5⟩:=c1;have bd:∀f:aB->aw,cC 0 11 (.agg ti) zt f=f (ti++(ca++[.aE,.aE,bG,.aE]++ca)):=λf=>by rw[tZ e (by simp[zt,ca])];rfl
 have bs:∀f:aB->aw,cC 11 11 (.agg tj) (ti++(ca++[.aE,.aE,bG,.aE]++ca)) f=f (ti++tj++([.aE,.aE,bG,.aE]++ca)):=λf=>by rw[tZ j (by simp[ca,e]),rV (by omega),nY,tx,lO,e];rfl
 have N:(ti++tj).length=22:=by simp[e,j]
 have bx:∀f:aB->aw,cC 22 1 vi (ti++tj++([.aE,.aE,bG,.aE]++ca)) f=f (ti++tj++([vi,.aE,bG,.aE]++ca)):=λf=>by rw[r4 y.cells (by simp[ca,e,j]),rV (by omega),nY,tx,lO,N,dD (ti++tj)];rfl
 have cc:∀f:aB->aw,cC 23 1 vj (ti++tj++([vi,.aE,bG,.aE]++ca)) f=f (ti++tj++([vi,vj,bG,.aE]++ca)):=λf=>by rw[r4 z.cells (by simp[ca,e,j]),ta,nY,tx,lO,N,dD (ti++tj)];simp
 have cl:∀(c:Bool) (f:aB->aw),cC 24 1 (.a9 c) (ti++tj++([vi,vj,bG,.aE]++ca)) f=f (ti++tj++([vi,vj,.a9 c,.aE]++ca)):=λc f=>by rw[r4 (λf=>rfl) (by simp[ca,e,j]),ta,nY,tx,lO,N,dD (ti++tj)];simp
 have cn:∀(c:Bool) (f:aB->aw),cC 25 1 vq (ti++tj++([vi,vj,.a9 c,.aE]++ca)) f=f (ti++tj++[vi,vj,.a9 c,vq]++ca):=λc f=>by rw[r4 l.cells (by simp[ca,e,j]),ta,nY,tx,lO,N,dD (ti++tj)];simp
 have Z:∀(c:Bool) (h':aI),b4 h' 0->da h'->∀s1,h'.aj (0+2099)= .az sr 182 13 (R.map fH.U) false->db 0 2191 132 37 false h' arZ H->h'.aj (0+2190)= .az s1 132 37 [ti++tj++[vi,vj,.a9 c,vq]++oY (cW (E.num 0)) (a2&&a3) a] false->
  kZ (eC 0 2191 none 132 37 608 arZ (.az (0+2190) s1 0 1) false h' λee em=>j6 (.az (0+2099) sr 0 R.length) ee (ao i) (ao k) X4 (ao i) em) L:=by
  intro c h' hm hn s1 en l eq;obtain⟨s',h2,es,ev,ex,fn,ge⟩:=tR (bytes:=608) l eq (λo=>gs 0 _) eX (by omega);rw[ge];have g:=IV e j (vi:=vi) (vj:=vj) (vq:=vq) (bf:=c) (t:=oY (cW (E.num 0)) (a2&&a3) a) adc.1;exact F h2 _ _ es ev (by rw[ex.aj _ λd hd=>by simp at hd;omega];exact en) fn ⟨g.1,by rw[g.2];exact adc⟩ g.2
 have m3:=K.yQ eu (.inr (.inr (.inl rfl))) [cW (E.num 0),a];have ho:=K.yQ eu (.inr (.inr (.inl rfl))) [a,cW (E.num 0)];have hp:=K.not (bU bP eu [a,cW (E.num 0)]) ⟨rfl,rfl⟩;have l1:(bU bP eu [cW (E.num 0),a]).length=11:=rfl;have hv:(bU bP eu [a,cW (E.num 0)]).length=11:=rfl;have eV:(bU bP fe [bU bP eu [a,cW (E.num 0)]]).length=11:=rfl;have go:b8 (bU bP eu [cW (E.num 0),a])=true:=rfl;have hw:b8 (bU bP eu [a,cW (E.num 0)])=true:=rfl;have c2:b8 (bU bP fe [bU bP eu [a,cW (E.num 0)]])=true:=rfl;unfold kZ at Z ⊢;cases a2
 ·have g:=λt (B:t.length=11)=>PH e j (vi:=vi) (vj:=vj) (vq:=vq) (bf:=false) (t:=t) B;have C:=(g a x).1;have JC:=(g a x).2.2;have D:=(g _ eV).2.1;have gl:0+26+11<=(ti++tj++[vi,vj,.a9 false,vq]++ca).length:=by rw[C];omega
  have G:=IV e j (vi:=vi) (vj:=vj) (vq:=vq) (bf:=false) (t:=bU bP fe [bU bP eu [a,cW (E.num 0)]]) eV;have c3:=G.1;have c4:b8 (ti++tj++[vi,vj,.a9 false,vq]++bU bP fe [bU bP eu [a,cW (E.num 0)]])=true:=by rw[dD,dD,oA a4,oA a5];exact dw.Rd y z l c2
  rw[zf,bg,l.dU,av,aT,de,dc,bZ,hO,aV,aN,gu,hP,JU,aJ,jA,aN,hg,e8 ar,I,bZ,hO,aV,aN,gu,hP,aJ,jA,aN,hg,e8 a1,J,bZ,hO,aV,aN,gu,hP,Hr,aJ,jA,aN,hg,bc,bZ,hO,aV,aN,gu,hP,aJ,jA,aN,hg,bc,bZ,hO,aV,aN,gu,hP,GV,aJ,jA,aN,hg,bc,fQ,iE,dO,E1,bd,bs,bx,cc,cl,cn,hL,tw,cH,aN,pf,aT,Kr,bg,bm,av,aT,de,dc,bp,bb,aH,bc,a6,aH,be,N1,aH,be,lb,lw,av,av,gW,gX,av,aT,bg,bm,av,aT,bb,GD ‹_› (ga (gi (gF (gS fE)))),D,DS,aH,be,hX,av,gW];refine Z false _ ?_ ?_ _ ?_ ?_ ?_
  ·infer_instance
  ·infer_instance
  ·((repeat(first|exact Q|refine ga ?_ ?_ ?_|refine gi ?_ ?_ ?_|refine gF ?_ ?_ ?_|refine l5 ?_ ?_ ?_))<;>decide)
  ·((repeat(first|exact S|refine db.fm ?_ ?_ ?_|refine db.eP ?_ ?_ ?_|refine db.fz ?_ ?_ ?_))<;>decide)
  ·exact i9
 ·cases a3
  ·have g:=λt (B:t.length=11)=>PH e j (vi:=vi) (vj:=vj) (vq:=vq) (bf:=false) (t:=t) B;have C:=(g a x).1;have JC:=(g a x).2.2;have D:=(g _ eV).2.1;have gl:0+26+11<=(ti++tj++[vi,vj,.a9 false,vq]++ca).length:=by rw[C];omega
   have G:=IV e j (vi:=vi) (vj:=vj) (vq:=vq) (bf:=false) (t:=bU bP fe [bU bP eu [a,cW (E.num 0)]]) eV;have c3:=G.1;have c4:b8 (ti++tj++[vi,vj,.a9 false,vq]++bU bP fe [bU bP eu [a,cW (E.num 0)]])=true:=by rw[dD,dD,oA a4,oA a5];exact dw.Rd y z l c2
   rw[zf,bg,l.dU,av,aT,de,dc,bZ,hO,aV,aN,gu,hP,JU,aJ,jA,aN,hg,e8 ar,I,bZ,hO,aV,aN,gu,hP,aJ,jA,aN,hg,e8 a1,J,bZ,hO,aV,aN,gu,hP,Hr,aJ,jA,aN,hg,bc,bZ,hO,aV,aN,gu,hP,aJ,jA,aN,hg,bc,bZ,hO,aV,aN,gu,hP,GV,aJ,jA,aN,hg,bc,fQ,fi,bZ,hO,aV,aN,gu,hP,aJ,jA,aN,hg,bc,dR,E1,bd,bs,bx,cc,cl,cn,hL,tw,cH,aN,pf,aT,Kr,bg,bm,av,aT,de,dc,bp,bb,aH,bc,a6,aH,be,N1,aH,be,lb,lw,av,av,gW,gX,av,aT,bg,bm,av,aT,bb,GD ‹_› (ga (gi (gF (gS fE)))),D,DS,aH,be,hX,av,gW];refine Z false _ ?_ ?_ _ ?_ ?_ ?_
   ·infer_instance
   ·infer_instance
   ·((repeat(first|exact Q|refine ga ?_ ?_ ?_|refine gi ?_ ?_ ?_|refine gF ?_ ?_ ?_|refine l5 ?_ ?_ ?_))<;>decide)
   ·((repeat(first|exact S|refine db.fm ?_ ?_ ?_|refine db.eP ?_ ?_ ?_|refine db.fz ?_ ?_ ?_))<;>decide)
   ·exact i9
  ·have g:=λt (B:t.length=11)=>PH e j (vi:=vi) (vj:=vj) (vq:=vq) (bf:=true) (t:=t) B;have C:=(g a x).1;have JC:=(g a x).2.2;have D:=(g _ l1).2.1;have gl:0+26+11<=(ti++tj++[vi,vj,.a9 true,vq]++ca).length:=by rw[C];omega
   have G:=IV e j (vi:=vi) (vj:=vj) (vq:=vq) (bf:=true) (t:=bU bP eu [cW (E.num 0),a]) l1;have c3:=G.1;have c4:b8 (ti++tj++[vi,vj,.a9 true,vq]++bU bP eu [cW (E.num 0),a])=true:=by rw[dD,dD,oA a4,oA a5];exact dw.Rd y z l go
   rw[zf,bg,l.dU,av,aT,de,dc,bZ,hO,aV,aN,gu,hP,JU,aJ,jA,aN,hg,e8 ar,I,bZ,hO,aV,aN,gu,hP,aJ,jA,aN,hg,e8 a1,J,bZ,hO,aV,aN,gu,hP,Hr,aJ,jA,aN,hg,bc,bZ,hO,aV,aN,gu,hP,aJ,jA,aN,hg,bc,bZ,hO,aV,aN,gu,hP,GV,aJ,jA,aN,hg,bc,fQ,fi,bZ,hO,aV,aN,gu,hP,aJ,jA,aN,hg,bc,dR,E1,bd,bs,bx,cc,cl,cn,hL,tw,cH,aN,pf,aT,Kr,bg,bm,av,aT,de,dc,bp,bb,aH,bc,bL,Sv,aH,be,aH,be,lb,lw,av,av,gW,gX,av,aT,bb,GD ‹_› (ga (gi (gF (gS fE)))),D,DS,aH,be,hX,av,gW];refine Z true _ ?_ ?_ _ ?_ ?_ ?_
   ·infer_instance
   ·infer_instance
   ·((repeat(first|exact Q|refine ga ?_ ?_ ?_|refine gi ?_ ?_ ?_|refine gF ?_ ?_ ?_|refine l5 ?_ ?_ ?_))<;>decide)
   ·((repeat(first|exact S|refine db.fm ?_ ?_ ?_|refine db.eP ?_ ?_ ?_|refine db.fz ?_ ?_ ?_))<;>decide)
   ·exact i9
theorem agy{E:cr}{R:List fH}(K:xT u E A T M R)(c3:R.length<100){c:fH}(D:R[i]? =some c){j4:mS}
 (a1:∀(h:aI) (arZ:an) (a:aY),b4 h 0->da h->h.aj (0+2099)= .az sr 182 13 (R.map fH.U) false->db 0 2191 132 37 false h arZ a->(∀t∈a,BK t)->a.length<=12->kZ (j4 (.az (0+2099) sr 0 R.length) arZ X4 (ao ((i:Int)+1)) h) ((a.map rU++L).take 12)):
 ∀(n k N:Nat) (h:aI) (arZ:an) (a:aY) [b4 h 0] [da h],n+k=R.length->n<N->h.aj (0+2099)= .az sr 182 13 (R.map fH.U) false->db 0 2191 132 37 false h arZ a->(∀t∈a,BK t)->a.length<=12->
 kZ (ih 3 11 12 13 54 55 N (uy u 0 (λo p q w y=>bR w aS λz=>j4 o p q z y)) (.az (0+2099) sr 0 R.length) arZ (ao i) (ao k) X4 (ao i) h) ((a.map rU++((R.drop k).filterMap (oa E A T M c)++L)).take 12):=by
 have hi:i<R.length:=by rcases e6.1 D with⟨h,_⟩;exact h
 intro n;induction n with
 |zero=>intro k N h arZ a ub fc hk a2 G d B O;obtain⟨N,rfl⟩:=cN N;rw[mb,lO,List.filterMap_nil,Pt];generalize ih 3 11 12 13 54 55 N (uy u 0 (λo p q w y=>bR w aS λz=>j4 o p q z y))=j6;have F:=a1 h arZ a ub fc G d B O;rw[uy,jw,bO,bk,a6,bK,cK];exact F
 |succ n a3=>
  intro k N h arZ a ub fc hk a2 G d B O;obtain⟨N,rfl⟩:=cN N;have H:R[k]? =some (R[k]'(by omega)):=dC _;have W:R.drop k=R[k]'(by omega)::R.drop (k+1):=iK (by omega);generalize (R[k]'(by omega))=e at H W;have c4:(R.map fH.U)[i]? =some c.U:=by rw[O8,D];rfl
  have c5:(R.map fH.U)[k]? =some e.U:=by rw[O8,H];rfl
  have P:=On D;have Q:=On H;have g:=K.ok _ P;have j:=K.ok _ Q;rw[mb,W];have I:=λ(h:aI) (arZ:an) (a:aY) (X:b4 h 0) (Z:da h)=>a3 (k+1) N h arZ a (by omega) (by omega);have a4:((k+1:Nat):Int)=(k:Int)+1:=by omega
  rw[a4] at I;have eX:a.length<100000:=by omega
  generalize ih 3 11 12 13 54 55 N (uy u 0 (λo p q w y=>bR w aS λz=>j4 o p q z y))=j6 at I;by_cases dd:a.length=12
  ·obtain⟨v,a5,bd⟩:=d.yt;rw[rV (by simp;omega),lH (by simp;omega)];refine⟨v,a,a5,B,rfl,?_⟩;have ha:((a.length:Nat):Int)=12:=by omega
   rw[uy,jw,bK,bO,bN,bL,Hh,d.len,xf,ix,bN,bL,vA,bj,bd,av];exact b9
  ·obtain⟨vq,C,dq⟩:=K.mul _ P _ Q;have dt:=C.eh;have ar:=K.ahZ _ P _ Q vq C;have dz:=g.H8;have ee:=g.zG;have em:=g.oV;have en:=g.dX;have eq:=j.H8;have es:=j.zG;have ev:=j.oV;have j0:=j.dX;cases J:nI A (M c.aq e.aq)
   ·rw[J] at ar;have S:oa E A T M c e=some (oY (cW (E.num 0)) (c.aM&&e.aM) (jC E T (M c.aq e.aq))):=by unfold oa;rw[J];rfl
    rw[List.filterMap_cons_some S];have F:=auN K D H (j6:=λbs bx cc cl cn cp cs=>bR cl aS λc0=>j6 bs bx cc c0 cn cp cs) (X4:=X4) (L:=(a.map rU++(oY (cW (E.num 0)) (c.aM&&e.aM) (jC E T (M c.aq e.aq))::(R.drop (k+1)).filterMap (oa E A T M c)++L)).take 12) C ub fc G d eX (λh arZ t X Z k1 k2 c1 c2=>by
     have:=I h arZ (a++[t]) X Z k1 k2 (λx l=>by
      rcases Ic.1 l with l|l
      ·exact B x l
      ·simp at l;subst l;exact c1) (by simp;omega)
     rw[LZ,dD,List.map_singleton,c2] at this;rw[bK,cK];exact this)
    unfold kZ at F ⊢;rw[uy,jw,bO,bN,bL,Hh,d.len,xf,ix,bk,a6,KB,bZ,hO,aV,aN,gu,hP,Oe,aJ,jA,aN,hg,bc,bZ,hO,aV,aN,gu,hP,aJ,jA,aN,hg,bc,aV (g.2.1.met _ _),aV (j.2.1.met _ _),aN,g.2.1.dU,j.2.1.dU,av,av,aT,Qs,e2 _ _,e3 _ _,bF,dF,bk,fZ,bg,C.dU,av,aT,I9,gE,dO,a6];exact F
   ·rw[J] at ar;have S:oa E A T M c e=none:=by unfold oa;rw[J];rfl
    rw[List.filterMap_cons_none S];have F:=I h arZ a ub fc G d B O;unfold kZ at F ⊢;rw[uy,jw,bO,bN,bL,Hh,d.len,xf,ix,bk,a6,KB,bZ,hO,aV,aN,gu,hP,Oe,aJ,jA,aN,hg,bc,bZ,hO,aV,aN,gu,hP,aJ,jA,aN,hg,bc,aV (g.2.1.met _ _),aV (j.2.1.met _ _),aN,g.2.1.dU,j.2.1.dU,av,av,aT,Qs,e2 _ _,e3 _ _,bF,dF,bk,fZ,bg,C.dU,av,aT,I9,gE,dO,bL,bK,cK];exact F
end
end
section
variable{E:cr} {A:Nat->aY} {T:cw->aB} {M:bE->bE->bE} {R:List fH} {cl:aY} {ro:List (Option fH)}
section
variable[Tok] {u:Fn} {b:Nat}
def m6[Tok](E:cr)(A:Nat->aY)(T:cw->aB)(M:bE->bE->bE):List fH->aY
 |[]=>[]
 |r::R=>(r::R).filterMap (oa E A T M r)++m6 E A T M R
theorem aBT(K:xT u E A T M R)(o:R.length<100){sr:Nat}:
 ∀(n k N:Nat) (h:aI) (arZ:an) (a:aY),n+k=R.length->n<N->b4 h 0->da h->h.aj (0+2099)= .az sr 182 13 (R.map fH.U) false->db 0 2191 132 37 false h arZ a->(∀t∈a,BK t)->a.length<=12->
 kZ (du 3 11 54 55 N (wx u 0 (λc d=>vA 0 c d)) (.az (0+2099) sr 0 R.length) arZ (ao R.length) (ao k) h) ((a.map rU++m6 E A T M (R.drop k)).take 12):=by
 intro n;induction n with
 |zero=>intro k N h arZ a p q ub fc j e g l;obtain⟨N,rfl⟩:=cN N;obtain⟨v,r,w⟩:=e.yt;rw[fj,lO,show m6 E A T M []=[] from rfl,fr,lH (by simp;omega)];generalize du 3 11 54 55 N (wx u 0 (λc d=>vA 0 c d))=j4;refine⟨v,a,r,g,rfl,?_⟩;rw[wx,bO,bk,a6,vA,bj,w,av];exact b9
 |succ n x=>
  intro k N h arZ a p q ub fc j e g l;obtain⟨N,rfl⟩:=cN N;have y:R[k]? =some (R[k]'(by omega)):=dC _;have z:R.drop k=R[k]'(by omega)::R.drop (k+1):=iK (by omega);rw[fj];have i:=λ(h:aI) (arZ:an) (a:aY)=>x (k+1) N h arZ a (by omega) (by omega);have B:((k+1:Nat):Int)=(k:Int)+1:=by omega
  rw[B] at i;generalize du 3 11 54 55 N (wx u 0 (λc d=>vA 0 c d))=j4 at i;have F:=agy K o y (j4:=j4) (X4:=ao R.length) (sr:=sr) (L:=m6 E A T M (R.drop (k+1))) i (R.length-k) k 1000000 h arZ a (by omega) (by omega) j e g l;have C:m6 E A T M (R.drop k)=(R.drop k).filterMap (oa E A T M (R[k]'(by omega)))++m6 E A T M (R.drop (k+1)):=by rw[z];rfl
  rw[C];unfold kZ at F ⊢;rw[wx,bO,bN,bL,ZN];exact F
theorem ahi(K:xT u E A T M R)(a:R.length<100){h:aI}{x:an}(ub:b4 h 0)(fc:da h)(c:db 0 2099 182 13 false h x (R.map fH.U)):
 kZ (yj u 0 x h) ((m6 E A T M R).take 12):=by
 rcases c with⟨rfl,e⟩|⟨sr,rfl,e⟩
 ·have:R=[]:=by simpa using e
  subst this;refine⟨.aE,[],.inl ⟨rfl,rfl⟩,by simp,rfl,?_⟩;rw[yj,hy];rw[hQ,fj];rw[wx,bF,bO,bk,a6,vA,bj,yg,av];exact b9
 ·have F:=aBT K a (sr:=sr) R.length 0 1000000 h .aE [] (by omega) (by omega) ub fc e (.inl ⟨rfl,rfl⟩) (by simp) (by simp);unfold kZ at F ⊢;rw[ER];rw[yj,jw];rw[bF];exact F
inductive xq [Tok] (u:Fn) (E:cr) (t:aB):Option fH->Prop
 |ax (v:an) (es:aY) (k:Int) (hv:dw 8 v es) (hk:k=0\/k=3) (h:aK u 116 [.agg t] (.a0 [v,ao k,.a9 (decide (k≠0))])):xq u E t none
 |iW (v:an) (ps:bE) (k:Int) (ol:aB) (hv:cA E v ps) (hk:k=1\/k=2) (h:aK u 116 [.agg t] (.a0 [v,ao k,.a9 (decide (k≠0))])) (hl:ol.length=7) (h2:aK u 117 [v] (.a0 [.agg ol,.a9 true])):xq u E t none
 |row (v:an) (ps:bE) (k:Int) (ol:aB) (hv:cA E v ps) (hk:k=1\/k=2) (h:aK u 116 [.agg t] (.a0 [v,ao k,.a9 (decide (k≠0))])) (hl:ol.length=7) (h2:aK u 117 [v] (.a0 [.agg ol,.a9 false])):xq u E t (some ⟨t,v,ps,decide (k=1)⟩)
theorem akR{t:aB}{v:an}{es:aY}{c:Bool}(a:t.length=11)(d:dw 8 v es):
 (∀f:aB->aw,cC 0 11 (.agg t) [aL,(.s 0 0),(.s 0 0),aL,(.s 0 0),(.s 0 0),(.s 0 0),(.s 0 0),(.s 0 0),.aE,.aE,.aE,bG] f=f (t++[.aE,bG]))/\(∀f:aB->aw,cC 11 1 v (t++[.aE,bG]) f=f (t++[v,bG]))/\∀f:aB->aw,cC 12 1 (.a9 c) (t++[v,bG]) f=f (t++[v,.a9 c]):=by
 refine⟨λf=>?_,λf=>?_,λf=>?_⟩
 ·rw[tZ a];rfl
 ·rw[r4 d.cells (by simp[a]),rV (by omega),nY,tx,lO,a];simp
 ·rw[r4 (λf=>rfl) (by simp[a]),ta,nY,tx,lO,a];simp
theorem afa(hl:cl.length<100)(a2:ro.length=cl.length)(C:∀(i:Nat) (t:aB) (o:Option fH),cl[i]? =some t->ro[i]? =some o->cq t/\xq u E t o)(K:xT u E A T M (ro.filterMap id)):
 ∀(n k N:Nat) (h:aI) (arZ:an),n+k=cl.length->n<N->b4 h 0->da h->db 0 2099 182 13 false h arZ (((ro.take k).filterMap id).map fH.U)->
 kZ (du 3 19 20 21 N (sX u 0 (yj u 0)) arZ (.aQ 11 cl) (ao cl.length) (ao k) h) ((m6 E A T M (ro.filterMap id)).take 12):=by
 intro n;induction n with
 |zero=>intro k N h arZ D G ub fc e;obtain⟨N,rfl⟩:=cN N;rw[nY] at e;have F:=ahi K (o4 (List.length_filterMap_le _ _) (by omega)) ub fc e;rw[fj];generalize du 3 19 20 21 N (sX u 0 (yj u 0))=j4;unfold kZ at F ⊢;rw[sX,bO,bk,a6];exact F
 |succ n H=>
  intro k N h arZ D G ub fc e;obtain⟨N,rfl⟩:=cN N;have y:cl[k]? =some (cl[k]'(by omega)):=dC _;have l:ro[k]? =some (ro[k]'(by omega)):=dC _;have j:=C k _ _ y l;have z:ro.take (k+1)=ro.take k++[ro[k]'(by omega)]:=by rw[kh,l];rfl
  generalize (cl[k]'(by omega))=t at y j;generalize (ro[k]'(by omega))=o at l j z;obtain⟨⟨t1,t2⟩,j⟩:=j;rw[fj];have a:=λ(h:aI) (arZ:an)=>H (k+1) N h arZ (by omega) (by omega);have I:((k+1:Nat):Int)=(k:Int)+1:=by omega
  have eX:(((ro.take k).filterMap id).map fH.U).length<100000:=by have:=List.length_filterMap_le id (ro.take k);simp only[ER,jl] at this ⊢;omega
  rw[I,z,List.filterMap_append,LZ] at a;generalize du 3 19 20 21 N (sX u 0 (yj u 0))=j4 at a;cases j with
  |ax v es m d p g=>
   have B:=d.eh;rw[show(List.filterMap id [(none:Option fH)]).map fH.U=[] from rfl,fr] at a;rcases p with rfl|rfl
   ·rw[GG (by simp)] at g;unfold kZ at a ⊢;rw[sX,bO,bN,bL,C2,bK,eE,ch,be,de,dc,aH,be,bg,bm,av,aT,Fs,rq _ _ _,rr _ _ _,rN _ _ _,hj,uD,lL,ze,gE,dR,bL,cK];refine a _ _ ?_ ?_ ?_
    ·infer_instance
    ·infer_instance
    ·((repeat(first|exact e|refine db.fm ?_ ?_ ?_|refine db.eP ?_ ?_ ?_|refine db.fz ?_ ?_ ?_))<;>decide)
   ·rw[pl (by simp)] at g;unfold kZ at a ⊢;rw[sX,bO,bN,bL,C2,bK,eE,ch,be,de,dc,aH,be,bg,bm,av,aT,Fs,rq _ _ _,rr _ _ _,rN _ _ _,hj,tF,fZ,i2,dj,bN,ze,gE,dO,bL,cK];refine a _ _ ?_ ?_ ?_
    ·infer_instance
    ·infer_instance
    ·((repeat(first|exact e|refine db.fm ?_ ?_ ?_|refine db.eP ?_ ?_ ?_|refine db.fz ?_ ?_ ?_))<;>decide)
  |iW v J m L d p g lo O=>
   have B:=d.eh;rw[show(List.filterMap id [(none:Option fH)]).map fH.U=[] from rfl,fr] at a;rw[bN] at g;unfold kZ at a ⊢;rw[sX,bO,bN,bL,C2,bK,eE,ch,be,de,dc,aH,be,bg,bm,av,aT,Fs,rq _ _ _,rr _ _ _,rN _ _ _,hj,tF,fZ,i2,dj,bk,ze,gE,dO,a6,FW,bg,d.dU,av,aT,e2 _ _,e3 _ _,de,dc,hj,tF,a6,cK];refine a _ _ ?_ ?_ ?_
   ·infer_instance
   ·infer_instance
   ·((repeat(first|exact e|refine db.fm ?_ ?_ ?_|refine db.eP ?_ ?_ ?_|refine db.fz ?_ ?_ ?_))<;>decide)
  |row v J m L d p g lo O=>
   have B:=d.eh;rw[bN] at g;obtain⟨P,q,r⟩:=akR (c:=decide (m=1)) t1 d;have rl:(t++[v,.a9 (decide (m=1))]).length=13:=by simp[t1]
   have a3:b8 (t++[v,.a9 (decide (m=1))])=true:=by rw[oA t2];rcases d with⟨rfl,_⟩|rfl<;>rfl
   have Z:∀(h':aI),b4 h' 0->da h'->∀w,db 0 2099 182 13 false h' arZ (((ro.take k).filterMap id).map fH.U)->h'.aj (0+2098)= .az w 182 13 [t++[v,.a9 (decide (m=1))]] false->
    kZ (eC 0 2099 none 182 13 208 arZ (.az (0+2098) w 0 1) false h' λQ S=>bR (ao k) (ao 1) λx=>j4 Q (.aQ 11 cl) (ao cl.length) x S) ((m6 E A T M (ro.filterMap id)).take 12):=by
    intro h' a4 a5 w W X;obtain⟨s',h2,q,r,bd,ar,a1⟩:=tR (bytes:=208) W X (λo=>gs 0 _) eX (by omega);rw[a1,cK];exact a h2 _ q r ar
   unfold kZ at Z ⊢;rw[sX,bO,bN,bL,C2,bK,eE,ch,be,de,dc,aH,be,bg,bm,av,aT,Fs,rq _ _ _,rr _ _ _,rN _ _ _,hj,tF,fZ,i2,dj,bk,ze,gE,dO,a6,FW,bg,d.dU,av,aT,e2 _ _,e3 _ _,de,dc,hj,uD,bL,Wo,aH,be,bK,dj,P,q,r,hL,hX,av,gW];refine Z _ ?_ ?_ _ ?_ ?_
   ·infer_instance
   ·infer_instance
   ·((repeat(first|exact e|refine db.fm ?_ ?_ ?_|refine db.eP ?_ ?_ ?_|refine db.fz ?_ ?_ ?_))<;>decide)
   ·exact i9
theorem aBz(a:cl.length<100)(c:ro.length=cl.length)(d:∀(i:Nat) (t:aB) (o:Option fH),cl[i]? =some t->ro[i]? =some o->cq t/\xq u E t o)(K:xT u E A T M (ro.filterMap id)):
 kZ (z5 u [.aQ 11 cl] 0 .nil) ((m6 E A T M (ro.filterMap id)).take 12):=by
 have F:=afa a c d K cl.length 0 1000000 (ba 0 .nil) .aE (by omega) (by omega) inferInstance inferInstance (.inl ⟨rfl,rfl⟩);unfold kZ at F ⊢;rw[z5,dK,OT,eA];rw[bF];exact F
end
end
section
variable[Tok] {u:Fn} {b:Nat}
theorem auY{p n v:an}{l:aY}(h:b8 [p,n]=true):∃s d,AX u [.agg [p,n],.aQ 11 l] 0 .nil= .ok (.agg (bU p n l)) 0 s d:=by have g:=(ks (l:=l) h).e5;have a:∀f:aB->aw,cC 0 1 gg ca f=f [gg,(.s 0 0),(.s 0 0),aL,(.s 0 0),(.s 0 0),(.s 0 0),(.s 0 0),(.s 0 0),.aE,.aE]:=λf=>rfl;have c:∀f:aB->aw,cC 1 2 (.agg [p,n]) [gg,(.s 0 0),(.s 0 0),aL,(.s 0 0),(.s 0 0),(.s 0 0),(.s 0 0),(.s 0 0),.aE,.aE] f=f [gg,p,n,aL,(.s 0 0),(.s 0 0),(.s 0 0),(.s 0 0),(.s 0 0),.aE,.aE]:=λf=>rfl;have e:∀f:aB->aw,cC 10 1 (.aQ 11 l) [gg,p,n,aL,(.s 0 0),(.s 0 0),(.s 0 0),(.s 0 0),(.s 0 0),.aE,.aE] f=f (bU p n l):=λf=>rfl;rw[AX,dE,QU,cy,de,aH,be,a,c,e,hL,dc,acG,gh,be,bj,bm,av];exact b9
theorem Ks{o:aB}(a:o.length=7)(c:b8 o=true):∃s d,Eh u [.agg o] 0 .nil= .ok (.agg (cW o)) 0 s d:=by
 have h:=(iA a c).e5;have tl:=(iA a c).aa;have e:∀f:aB->aw,cC 0 1 cZ ca f=f [cZ,(.s 0 0),(.s 0 0),aL,(.s 0 0),(.s 0 0),(.s 0 0),(.s 0 0),(.s 0 0),.aE,.aE]:=λf=>rfl;have g:∀f:aB->aw,cC 3 7 (.agg o) [cZ,(.s 0 0),(.s 0 0),aL,(.s 0 0),(.s 0 0),(.s 0 0),(.s 0 0),(.s 0 0),.aE,.aE] f=f (cW o):=λf=>by rw[tZ a];rfl
 rw[Eh,dK,Wz,cy,de,aH,be,e,g,hL,dc,RJ,gh,be,bj,bm,av];exact b9
end
section
variable{x y:aB} {I J:aY}
section
variable[Tok] {u:Fn} {b:Nat}
theorem li(a c d e:Nat)(k:an->aw):eQ (.s a c) (.s d e) k=k (.a9 (hM (jH a c d e))):=rfl
theorem OR(a c d e x y g i:Nat)(k:an->aw):mV false (.agg [.s a c,.s x y]) (.agg [.s d e,.s g i]) k=k (.a9 (cS (jH x y g i) (jH a c d e))):=rfl
theorem AO(a c d e x y g i:Nat)(k:an->aw):mV true (.agg [.s a c,.s x y]) (.agg [.s d e,.s g i]) k=k (.a9 (hM (cS (jH x y g i) (jH a c d e)))):=rfl
theorem wU(a c:Nat):jH a c a c=true:=by unfold jH;rw[jg,Nat.beq_refl,Nat.beq_refl];rfl
theorem Mh{c d:Int}(h:ao c=ao d)(a: -1000<c)(hd: -1000<d):c=d:=by rw[cX,cX] at h;simp only[an.V.injEq,true_and] at h;omega
theorem dw.zo{sz:Nat}{v:an}(h:dw sz v [])(k:an->aw):bq false v k=k (ao 0):=h.len k
theorem A5(sz:Nat)(k:an->aw):bq false (.aQ sz []) k=k (ao 0):=eA _ _ k
structure nr (o:aB) (k:Int) (a1 c1 a2 c2 a3 c3 a4 c4 a5 c5:Nat) (L:an):Prop where
 eq:o=[ao k,.s a1 c1,.s a2 c2,.s a3 c3,.s a4 c4,.s a5 c5,L]
 e5:b8 [L]=true
section
variable{o:aB} {k:Int} {a1 c1 a2 c2 a3 c3 a4 c4 a5 c5:Nat} {L:an} (h:nr o k a1 c1 a2 c2 a3 c3 a4 c4 a5 c5 L)
include h
theorem nr.aa:o.length=7:=by rw[h.eq];rfl
theorem nr.eO:o[0+0]? =some (ao k):=by rw[h.eq];rfl
theorem nr.dB:o[0+1]? =some (.s a1 c1):=by rw[h.eq];rfl
theorem nr.cT:o[0+2]? =some (.s a2 c2):=by rw[h.eq];rfl
theorem nr.mw:o[0+5]? =some (.s a5 c5):=by rw[h.eq];rfl
theorem nr.l4:o[0+6]? =some L:=by rw[h.eq];rfl
theorem nr.t3:(o.drop (0+3)).take 2=[.s a3 c3,.s a4 c4]:=by rw[h.eq];rfl
theorem nr.eV:0+3+2<=o.length:=by rw[h.aa];omega
theorem nr.pure:b8 o=true:=by rw[h.eq,cX];exact h.e5
end
theorem amH{l r:an}(S:x[0+6]? =some l)(T:y[0+6]? =some r)(t:l= .aQ 7 I)(B:r= .aQ 7 J)(W:I.length=J.length)(X:I.length<1000)(H:∀(i:Nat) (p q:aB),I[i]? =some p->J[i]? =some q->p.length=7/\b8 p=true/\q.length=7/\b8 q=true/\∃e,aK u 65 [.agg p,.agg q] (.a9 e)/\(p=q->e=true)){s2 s3:Nat}{h:aI}(ub:b4 h 0)(fc:da h)(Z:h.aj (0+2)= .box s2 x)(h3:h.aj (0+3)= .box s3 y):∀(n k N:Nat),n+k=I.length->n<N->
 ∃e,(I=J->e=true)/\∃s d,fM 2 3 5 N (sO u 0 (λa=>m9 0 dh a)) (.bn (0+2) s2 0) (.bn (0+3) s3 0) (ao k) h= .ok (.a9 e) 0 s d:=by
 intro n;induction n with
 |zero=>intro k N C D;obtain⟨N,rfl⟩:=cN N;refine⟨true,λ_=>rfl,?_⟩;rw[hI];generalize fM 2 3 5 N (sO u 0 (λa=>m9 0 dh a))=E;subst t;rw[sO,bp,bb,aH,bc,eA,bO,bk,a6,m9,gE,bj,fO,av];exact b9
 |succ n F=>
  intro k N C D;obtain⟨N,rfl⟩:=cN N;have w:I[k]? =some (I[k]'(by omega)):=dC _;have z:J[k]? =some (J[k]'(by omega)):=dC _;obtain⟨G,K,M,O,e,A,c⟩:=H k _ _ w z;have g:I=J->I[k]'(by omega)=J[k]'(by omega):=λe=>by subst e;rfl
  generalize (I[k]'(by omega))=p at w G K A c g;generalize (J[k]'(by omega))=q at z M O A c g;have j:=F (k+1) N (by omega) (by omega);have P:((k+1:Nat):Int)=(k:Int)+1:=by omega
  rw[P] at j;rw[hI];generalize fM 2 3 5 N (sO u 0 (λa=>m9 0 dh a))=E at j;subst t B;cases e
  ·refine⟨false,λe=>absurd (c (g e)) (by simp),?_⟩;rw[sO,bp,bb,aH,bc,eA,bO,bN,bL,Lg,bb,aJ,cH,aN,aH,bc,bZ,aV,aV,aN,bK,eE,aJ,aV,aN,ch,be,bb,aJ,cH,aN,aH,bc,QY,bZ,aV,aV,aN,eE,aJ,aV,aN,ch,be,aV,aV,aN,bm,bm,av,av,aT,hj,uD,bL,m9,fQ,bj,fO,av];exact b9
  ·obtain⟨e,Q,R⟩:=j;refine⟨e,Q,?_⟩;rw[sO,bp,bb,aH,bc,eA,bO,bN,bL,Lg,bb,aJ,cH,aN,aH,bc,bZ,aV,aV,aN,bK,eE,aJ,aV,aN,ch,be,bb,aJ,cH,aN,aH,bc,QY,bZ,aV,aV,aN,eE,aJ,aV,aN,ch,be,aV,aV,aN,bm,bm,av,av,aT,hj,tF,a6,cK];exact R
theorem FP{k:Int}{a1 c1 a2 c2 a3 c3 a4 c4 a5 c5:Nat}{L:an}{B:Int}{K M N O Q R S T W X:Nat}{Z:an}(a:nr x k a1 c1 a2 c2 a3 c3 a4 c4 a5 c5 L)(c:nr y B K M N O Q R S T W X Z)(hk: -1000<k/\k<1000)(ar: -1000<B/\B<1000)
 (j:dw 7 L I)(g:dw 7 Z J)(bd:I.length<1000)(ex:J.length<1000)(H:∀(i:Nat) (p q:aB),I[i]? =some p->J[i]? =some q->p.length=7/\b8 p=true/\q.length=7/\b8 q=true/\∃e,aK u 65 [.agg p,.agg q] (.a9 e)/\(p=q->e=true)):
 ∃e,(x=y->e=true)/\∃s d,n3 u [.agg x,.agg y] 0 .nil= .ok (.a9 e) 0 s d:=by
 have fn:=a.aa;have ge:=c.aa;have bs:=a.eO;have bx:=a.dB;have cc:=a.cT;have cl:=a.mw;have E:=a.l4;have z:=a.eV;have cn:=c.eO;have cp:=c.dB;have c0:=c.cT;have dd:=c.mw;have F:=c.l4;have A:=c.eV;have dq:∀{P:Prop},(x=y->P)->¬P->(x=y->false=true):=λC G e=>absurd (C e) G;by_cases dt:k=B
 rotate_left 1
 ·refine⟨false,dq (P:=k=B) (λe=>by subst e;have:=bs.symm.trans cn;simp only[O5] at this;exact Mh this hk.1 ar.1) dt,?_⟩;rw[n3,dE,rJ,cy,cy,bp,bb,aH,bc,bb,sd,aH,bc,dF,bN,lL,q2,dR,gE,lL,qR,dR,gE,lL,qA,dR,gE,lL,q1,dR,gE,lL,qN,dR,gE,bL,m9,fQ,bj,fO,av];exact b9
 cases l:hM (jH a1 c1 K M)
 rotate_left 1
 ·refine⟨false,λe=>?_,?_⟩
  ·subst e;have:=bx.symm.trans cp;simp only[O5,an.s.injEq] at this;obtain⟨rfl,rfl⟩:=this;rw[wU] at l;cases l
  rw[n3,dE,rJ,cy,cy,bp,bb,aH,bc,bb,sd,aH,bc,dF,bk,fZ,bb,aH,bc,bb,aH,bc,li,l,q2,dO,lL,qR,dR,gE,lL,qA,dR,gE,lL,q1,dR,gE,lL,qN,dR,gE,bL,m9,fQ,bj,fO,av];exact b9
 cases n:hM (jH a2 c2 N O)
 rotate_left 1
 ·refine⟨false,λe=>?_,?_⟩
  ·subst e;have:=cc.symm.trans c0;simp only[O5,an.s.injEq] at this;obtain⟨rfl,rfl⟩:=this;rw[wU] at n;cases n
  rw[n3,dE,rJ,cy,cy,bp,bb,aH,bc,bb,sd,aH,bc,dF,bk,fZ,bb,aH,bc,bb,aH,bc,li,l,q2,dO,fZ,bb,aH,bc,bb,aH,bc,li,n,qR,dO,lL,qA,dR,gE,lL,q1,dR,gE,lL,qN,dR,gE,bL,m9,fQ,bj,fO,av];exact b9
 cases r:hM (cS (jH a4 c4 S T) (jH a3 c3 Q R))
 rotate_left 1
 ·refine⟨false,λe=>?_,?_⟩
  ·subst e;have:=a.t3.symm.trans c.t3;simp only[kP,an.s.injEq] at this;obtain⟨⟨rfl,rfl⟩,⟨rfl,rfl⟩,_⟩:=this;rw[wU,wU] at r;cases r
  rw[n3,dE,rJ,cy,cy,bp,bb,aH,bc,bb,sd,aH,bc,dF,bk,fZ,bb,aH,bc,bb,aH,bc,li,l,q2,dO,fZ,bb,aH,bc,bb,aH,bc,li,n,qR,dO,fZ,bb,aH,e8 z,a.t3,bb,aH,e8 A,c.t3,AO,r,qA,dO,lL,q1,dR,gE,lL,qN,dR,gE,bL,m9,fQ,bj,fO,av];exact b9
 cases w:hM (jH a5 c5 W X)
 rotate_left 1
 ·refine⟨false,λe=>?_,?_⟩
  ·subst e;have:=cl.symm.trans dd;simp only[O5,an.s.injEq] at this;obtain⟨rfl,rfl⟩:=this;rw[wU] at w;cases w
  rw[n3,dE,rJ,cy,cy,bp,bb,aH,bc,bb,sd,aH,bc,dF,bk,fZ,bb,aH,bc,bb,aH,bc,li,l,q2,dO,fZ,bb,aH,bc,bb,aH,bc,li,n,qR,dO,fZ,bb,aH,e8 z,a.t3,bb,aH,e8 A,c.t3,AO,r,qA,dO,fZ,bb,aH,bc,bb,aH,bc,li,w,q1,dO,lL,qN,dR,gE,bL,m9,fQ,bj,fO,av];exact b9
 by_cases D:I.length=J.length
 rotate_left 1
 ·refine⟨false,λe=>?_,?_⟩
  ·subst e;have:=E.symm.trans F;simp only[O5] at this;subst this;refine absurd ?_ D;rcases j with⟨rfl,rfl⟩|rfl<;>rcases g with⟨C,rfl⟩|C<;>first|rfl|(cases C;done)|(cases C;rfl)
  rw[n3,dE,rJ,cy,cy,bp,bb,aH,bc,bb,sd,aH,bc,dF,bk,fZ,bb,aH,bc,bb,aH,bc,li,l,q2,dO,fZ,bb,aH,bc,bb,aH,bc,li,n,qR,dO,fZ,bb,aH,e8 z,a.t3,bb,aH,e8 A,c.t3,AO,r,qA,dO,fZ,bb,aH,bc,bb,aH,bc,li,w,q1,dO,fZ,E6,bb,aH,bc,j.len,bb,aH,bc,g.len,dF,bN,qN,dO,bL,m9,fQ,bj,fO,av];exact b9
 rcases j with⟨j,rfl⟩|j
 ·have dz:J=[]:=JE.1 D.symm;subst dz;refine⟨true,λ_=>rfl,?_⟩;subst j;rw[n3,dE,rJ,cy,cy,bp,bb,aH,bc,bb,sd,aH,bc,dF,bk,fZ,bb,aH,bc,bb,aH,bc,li,l,q2,dO,fZ,bb,aH,bc,bb,aH,bc,li,n,qR,dO,fZ,bb,aH,e8 z,a.t3,bb,aH,e8 A,c.t3,AO,r,qA,dO,fZ,bb,aH,bc,bb,aH,bc,li,w,q1,dO,fZ,E6,bb,aH,bc,hy,bb,aH,bc,g.zo,dF,bk,qN,dO,a6,Jh];rw[hQ,hI];rw[sO,bp,bb,aH,bc,hy,bF,bO,bk,a6,m9,gE,bj,fO,av];exact b9
 ·have ee:=g;rcases g with⟨g,rfl⟩|g
  ·have em:I=[]:=JE.1 D;subst em;refine⟨true,λ_=>rfl,?_⟩;subst j;rw[n3,dE,rJ,cy,cy,bp,bb,aH,bc,bb,sd,aH,bc,dF,bk,fZ,bb,aH,bc,bb,aH,bc,li,l,q2,dO,fZ,bb,aH,bc,bb,aH,bc,li,n,qR,dO,fZ,bb,aH,e8 z,a.t3,bb,aH,e8 A,c.t3,AO,r,qA,dO,fZ,bb,aH,bc,bb,aH,bc,li,w,q1,dO,fZ,E6,bb,aH,bc,A5,bb,aH,bc,ee.zo,dF,bk,qN,dO,a6,Jh];rw[hQ,hI];rw[sO,bp,bb,aH,bc,A5,bF,bO,bk,a6,m9,gE,bj,fO,av];exact b9
  ·have en:=λ(h:aI) (s2 s3:Nat) (ub:b4 h 0) (fc:da h) (G:h.aj (0+2)= .box s2 x) (h3:h.aj (0+3)= .box s3 y)=>amH (u:=u) E F j g D bd H ub fc G h3 I.length 0 1000000 (by omega) (by omega);obtain⟨e,eq,es⟩:=en _ _ _ inferInstance inferInstance (gF (fE (h:=ba 0 .nil) (d:=2) (t:=54) (cs:=x))) (fE (d:=3) (t:=54));refine⟨e,λev=>eq ?_,?_⟩
   ·subst ev;have:=E.symm.trans F;simp only[O5] at this;subst this;rw[j] at g;cases g;rfl
   ·subst j g;rw[n3,dE,rJ,cy,cy,bp,bb,aH,bc,bb,sd,aH,bc,dF,bk,fZ,bb,aH,bc,bb,aH,bc,li,l,q2,dO,fZ,bb,aH,bc,bb,aH,bc,li,n,qR,dO,fZ,bb,aH,e8 z,a.t3,bb,aH,e8 A,c.t3,AO,r,qA,dO,fZ,bb,aH,bc,bb,aH,bc,li,w,q1,dO,fZ,E6,bb,aH,bc,eA,bb,aH,bc,eA,dF,bk,qN,dO,a6,Jh];rw[bF];exact es
end
end
end Go.Hf

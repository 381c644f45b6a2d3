import Derived.Test.YthiipifjdfmblaaGreatDoorAm
import Derived.Lib.Bytealg
import Derived.Lib.ItoaNum
import Derived.Lib.ParseIntB
import Derived.Lib.AtoiErrMem
import Derived.Test.YthiipifjdfmblaaGreatDoorAn
set_option linter.all false
set_option maxRecDepth 100000
namespace Go.Hf
open Go.RowKit
section
variable{I J:aY}
section
variable[Tok] {u:Fn} {b:Nat}
theorem am5{j l:an}(o:j= .aQ 11 I)(x:l= .aQ 11 J)(M:I.length=J.length)(O:I.length<1000)(H:∀(i:Nat) (p q:aB),I[i]? =some p->J[i]? =some q->cq p/\cq q/\∃e,aK u 24 [.agg p,.agg q] (.a9 e)/\(p=q->e=true)):∀(n k N:Nat),n+k=I.length->n<N->
 ∃e,(I=J->e=true)/\∃s d,fM 0 1 5 N (sv u 0 (λa=>qZ 0 dh a)) j l (ao k) (ba 0 .nil)= .ok (.a9 e) 0 s d:=by
 intro n;induction n with
 |zero=>intro k N y z;obtain⟨N,rfl⟩:=cN N;refine⟨true,λ_=>rfl,?_⟩;rw[hI];generalize fM 0 1 5 N (sv u 0 (λa=>qZ 0 dh a))=A;subst o;rw[sv,eA,bO,bk,a6,qZ,gE,bj,fO,av];exact b9
 |succ n B=>
  intro k N y z;obtain⟨N,rfl⟩:=cN N;have r:I[k]? =some (I[k]'(by omega)):=dC _;have t:J[k]? =some (J[k]'(by omega)):=dC _;obtain⟨⟨C,D⟩,⟨E,F⟩,e,w,c⟩:=H k _ _ r t;have g:I=J->I[k]'(by omega)=J[k]'(by omega):=λe=>by subst e;rfl
  generalize (I[k]'(by omega))=p at r C D w c g;generalize (J[k]'(by omega))=q at t E F w c g;have h:=B (k+1) N (by omega) (by omega);have G:((k+1:Nat):Int)=(k:Int)+1:=by omega
  rw[G] at h;rw[hI];generalize fM 0 1 5 N (sv u 0 (λa=>qZ 0 dh a))=A at h;subst o x;cases e
  ·refine⟨false,λe=>absurd (c (g e)) (by simp),?_⟩;rw[sv,eA,bO,bN,bL,OF,bZ,aV,aV,aN,bK,eE,aJ,aV,aN,ch,be,Oo,bZ,aV,aV,aN,eE,aJ,aV,aN,ch,be,aV,aV,aN,bm,bm,av,av,aT,hj,uD,bL,qZ,fQ,bj,fO,av];exact b9
  ·obtain⟨e,K,L⟩:=h;refine⟨e,K,?_⟩;rw[sv,eA,bO,bN,bL,OF,bZ,aV,aV,aN,bK,eE,aJ,aV,aN,ch,be,Oo,bZ,aV,aV,aN,eE,aJ,aV,aN,ch,be,aV,aV,aN,bm,bm,av,av,aT,hj,tF,a6,cK];exact L
theorem Xv{x y:an}(a:dw 11 x I)(c:dw 11 y J)(h:I.length<1000)(r:J.length<1000)(H:∀(i:Nat) (p q:aB),I[i]? =some p->J[i]? =some q->cq p/\cq q/\∃e,aK u 24 [.agg p,.agg q] (.a9 e)/\(p=q->e=true)):
 ∃e,(I=J->e=true)/\∃s d,r9 u [x,y] 0 .nil= .ok (.a9 e) 0 s d:=by
 by_cases g:I.length=J.length
 rotate_left 1
 ·refine⟨false,λe=>absurd (by rw[e]) g,?_⟩;rw[r9,dE,zk,a.len,c.len,dF,bN,bL,qZ,fQ,bj,fO,av];exact b9
 rcases a with⟨a,rfl⟩|a
 ·have j:J=[]:=JE.1 g.symm;subst j;refine⟨true,λ_=>rfl,?_⟩;subst a;rw[r9,dE,zk,hy,c.zo,dF,bk,a6,IH];rw[hQ,hI];rw[sv,hy,bF,bO,bk,a6,qZ,gE,bj,fO,av];exact b9
 ·have k:=c;rcases c with⟨c,rfl⟩|c
  ·have l:I=[]:=JE.1 g;subst l;refine⟨true,λ_=>rfl,?_⟩;subst a;rw[r9,dE,zk,A5,k.zo,dF,bk,a6,IH];rw[hQ,hI];rw[sv,A5,bF,bO,bk,a6,qZ,gE,bj,fO,av];exact b9
  ·obtain⟨e,n,o⟩:=am5 (u:=u) a c g h H I.length 0 1000000 (by omega) (by omega);refine⟨e,n,?_⟩;subst a c;rw[r9,dE,zk,eA,eA,dF,bk,a6,IH];rw[bF];exact o
theorem ao7{x y:aB}{k i:Int}{p c1 q r t w z A:Nat}{o o':aB}{a j:an}(c:fk x k (.s p c1) (.s q r) o a)(g:fk y i (.s t w) (.s z A) o' j)(D: -1000<k/\k<1000)(E: -1000<i/\i<1000)(F:dw 11 a I)(G:dw 11 j J)
 (H:∃e,aK u 65 [.agg o,.agg o'] (.a9 e)/\(o=o'->e=true))(K:∃e,aK u 68 [a,j] (.a9 e)/\(a=j->e=true)):
 ∃e,(x=y->e=true)/\∃s d,wa u [.agg x,.agg y] 0 .nil= .ok (.a9 e) 0 s d:=by
 have L:=c.eO;have M:=c.gP;have l:=c.eD;have B:=c.eV;have N:=g.eO;have O:=g.gP;have n:=g.eD;have C:=g.eV;have W:=c.b2;have X:=g.b2;by_cases P:k=i
 rotate_left 1
 ·refine⟨false,λe=>?_,?_⟩
  ·subst e;have:=L.symm.trans N;simp only[O5] at this;exact absurd (Mh this D.1 E.1) P
  rw[wa,dE,BQ,cy,cy,bp,bb,aH,bc,bb,CM,aH,bc,dj,bk,iE,Al,dO,fQ,iE,z2,dO,fQ,iE,dO,zO,bj,fO,av];exact b9
 cases h:(cS (jH q r z A) (jH p c1 t w))
 ·refine⟨false,λe=>?_,?_⟩
  ·subst e;have:=c.t1.symm.trans g.t1;simp only[kP,an.s.injEq] at this;obtain⟨⟨rfl,rfl⟩,⟨rfl,rfl⟩,_⟩:=this;rw[wU,wU] at h;cases h
  rw[wa,dE,BQ,cy,cy,bp,bb,aH,bc,bb,CM,aH,bc,dj,bN,fi,bb,aH,e8 l,c.t1,bb,aH,e8 n,g.t1,OR,h,Al,dR,iE,z2,dO,fQ,iE,dO,zO,bj,fO,av];exact b9
 obtain⟨Q,Z,R⟩:=H;obtain⟨S,h3,T⟩:=K;cases Q
 ·refine⟨false,λe=>?_,?_⟩
  ·subst e;exact R (c.t3.symm.trans g.t3)
  rw[wa,dE,BQ,cy,cy,bp,bb,aH,bc,bb,CM,aH,bc,dj,bN,fi,bb,aH,e8 l,c.t1,bb,aH,e8 n,g.t1,OR,h,Al,dR,fi,Mj,bb,aH,e8 B,c.t3,bb,aH,e8 C,g.t3,ce,bm,bm,av,av,aT,z2,dR,fQ,iE,dO,zO,bj,fO,av];exact b9
 ·refine⟨S,λe=>?_,?_⟩
  ·subst e;have:=M.symm.trans O;simp only[O5] at this;exact T this
  rw[wa,dE,BQ,cy,cy,bp,bb,aH,bc,bb,CM,aH,bc,dj,bN,fi,bb,aH,e8 l,c.t1,bb,aH,e8 n,g.t1,OR,h,Al,dR,fi,Mj,bb,aH,e8 B,c.t3,bb,aH,e8 C,g.t3,ce,bm,bm,av,av,aT,z2,dR,fQ,fi,ac9,bb,aH,bc,bb,aH,bc,ce,F.dU,G.dU,av,av,aT,dR,zO,bj,fO,av];exact b9
end
end
section
variable{I es:aY} {t:aB} {h:aI} {ob:ej} {q s e sz n d:Nat} {o:dM} {wk:Option (List Nat)}
section
variable[Tok] {u:Fn} {b:Nat}
theorem W1(u:Fn)(a c:an)(b:Nat)(atf:b1):yA u [a,c] b atf=NT u b c a (ba b atf):=rfl
theorem agQ{v:an}(g:v= .aQ 11 I)(D:I.length<1000)(j:cq t)(H:∀p∈I,cq p/\∃e,aK u 24 [.agg p,.agg t] (.a9 e)){s3:Nat}(ub:b4 h 0)(fc:da h)(E:h.aj (0+3)= .box s3 t):∀(n k N:Nat),n+k=I.length->n<N->
 ∃e s d,fM 0 3 5 N (x8 u 0 (λa=>xP 0 bG a)) v (.bn (0+3) s3 0) (ao k) h= .ok (.a9 e) 0 s d:=by
 intro n;induction n with
 |zero=>intro k N l r;obtain⟨N,rfl⟩:=cN N;refine⟨false,?_⟩;rw[hI];generalize fM 0 3 5 N (x8 u 0 (λa=>xP 0 bG a))=w;subst g;rw[x8,eA,bO,bk,a6,xP,fQ,bj,fO,av];exact b9
 |succ n x=>
  intro k N l r;obtain⟨N,rfl⟩:=cN N;have i:I[k]? =some (I[k]'(by omega)):=dC _;obtain⟨⟨y,z⟩,e,A⟩:=H _ (On i);obtain⟨t1,t2⟩:=j;generalize (I[k]'(by omega))=p at i y z A;have c:=x (k+1) N (by omega) (by omega);have B:((k+1:Nat):Int)=(k:Int)+1:=by omega
  rw[B] at c;rw[hI];generalize fM 0 3 5 N (x8 u 0 (λa=>xP 0 bG a))=w at c;subst g;cases e
  ·obtain⟨e,C⟩:=c;refine⟨e,?_⟩;rw[x8,eA,bO,bN,bL,Np,bZ,aV,aV,aN,bK,eE,Oi,aJ,aV,aN,ch,be,aJ,cH,aN,aH,be,aV,aV,aN,bm,bm,av,av,aT,a6,cK];exact C
  ·refine⟨true,?_⟩;rw[x8,eA,bO,bN,bL,Np,bZ,aV,aV,aN,bK,eE,Oi,aJ,aV,aN,ch,be,aJ,cH,aN,aH,be,aV,aV,aN,bm,bm,av,av,aT,bL,xP,gE,bj,fO,av];exact b9
theorem auS(a:I.length<1000)(c:cq t)(H:∀p∈I,cq p/\∃e,aK u 24 [.agg p,.agg t] (.a9 e)):∃e s d,yA u [.aQ 11 I,.agg t] 0 .nil= .ok (.a9 e) 0 s d:=by have F:=λ(h:aI) (s3:Nat) (ub:b4 h 0) (fc:da h) (g:h.aj (0+3)= .box s3 t)=>agQ (u:=u) (v:= .aQ 11 I) rfl a c H ub fc g I.length 0 1000000 (by omega) (by omega);obtain⟨e,i⟩:=F _ _ inferInstance inferInstance (fE (h:=ba 0 .nil) (d:=3) (t:=56));refine⟨e,?_⟩;rw[yA,dE,NT,cy];rw[bF];exact i
theorem LL{r:Bool}(a:ob q= .az s e sz es r)(c:n=es.length)(f:aY->aw):ke ob sz (.az q s 0 n) f=f es:=by subst c;exact yq a f
theorem vl[b4 h b](hd:d<4096:=by decide):(h.g4 b d (.ae o)).aj (b+d)=o:=atQ hd
theorem ZX(c:ob q= .az s e sz es true)(g:n=es.length)(f:jm):aD ob (.az q s 0 n) f=f (.aQ sz es) [(q,.az s e sz es false)]:=by subst g;have i:∀f:an->eH->aw,aD ob (.az q s 0 es.length) f=jQ (ob q) λa e sz asH as0=>bf (Nat.beq s a) (bf (Nat.ble (Nat.add 0 es.length) (ea asH)) (f (.aQ sz (l3 asH 0 es.length)) (@Bool.rec (λ_=>eH) [] ((q,.az a e sz asH false)::[]) as0)) .ax) .ax:=λ_=>rfl;rw[i,c,qC,wT,cM,gr,ek,pl (by rw[Ct];omega),cM,zj]
theorem aa8{f:Nat}{a:aB}{r:an}[b4 h b](H:aK u f a r:=by assumption)(c:∀o,gO b wk [(b+d,o)]=true)(k:dg)(hd:d<4096:=by decide):bH u b wk f a [(b+d,o)] h k=k r (h.g4 b d (.ae o)):=by obtain⟨atf,dd,e⟩:=H;have g:bH u b wk f a [(b+d,o)] h k=bf (gO b wk [(b+d,o)]) (EN b [(b+d,o)] h k (u f a 0 .nil)) .ax:=rfl;have i:EN b [(b+d,o)] h k (.ok r 0 atf dd)=bf (Nat.ble (Nat.succ (b+d)) h.bh) (k r (h.eW b (b+d) (.ae o))) .ax:=rfl;rw[g,c,cM,e,i,ek,pl (nM (b4.lt hd)),cM];rfl
theorem Uo{d' bytes:Nat}{as0 r0:Bool}{y:an}{arZ ys:aY}[b4 h b](c:h.aj (b+d)= .az s e sz arZ as0)(g:∀f:aY->aw,ke h.aj sz y f=f ys)(a:n=arZ.length)
 (i:∀o,gO b wk [(b+d,o)]=true)(j:(arZ.length+ys.length)*bytes<=1099511627776)(l:arZ.length+ys.length<=1099511627776)(k:dg)(hd:d<4096:=by decide):
 eC b d' wk e sz bytes (.az (b+d) s 0 n) y r0 h k=k (.az (b+d) (Nat.add s 1) 0 (arZ.length+ys.length)) (h.ow b d (Nat.add s 1) e sz (arZ++ys) as0):=by
 rw[<-Gm (d':=d') c g a i j l k hd];subst a;rfl
theorem X7{x:an}{e:Bool}(j:dw 11 x I)(C:I.length<1000)(w:cq t)(H:aK u 97 [.aQ 11 I,.agg t] (.a9 e)):∃s d,E7 u [x,.aQ 11 [t]] 0 .nil= .ok (.aQ 11 (if e then I else I++[t])) 0 s d:=by
 obtain⟨t1,t2⟩:=w;have D:(ba 0 .nil).bh=4096:=rfl;obtain⟨E,g,i,y,A⟩:=SE (b:=0) (d:=2060) (e:=56) (sz:=11) (bytes:=176) (l:=0) (c:=I.length+1) (wk:=none) (z:=ca) (h:=ba 0 .nil) (xW _) (by omega) (by omega) (λo=>gs 0 _) (by omega)
 haveI:b4 g 0:=⟨by rw[i.bh];exact sm _⟩
 haveI:da g:=⟨by rw[i.bQ];rfl⟩
 have p:=λk=>(oT (λz=>i3 0 none (nf (Nat.add 0 2060) 56 11 176 ((ba 0 .nil).aj (Nat.add 0 2060)).cd ca z (ao ((I.length+1:Nat):Int))) (ba 0 .nil) k) bF).trans (A k);have B:((I.length+1:Nat):Int)=(I.length:Int)+1:=by omega
 rw[B] at p;have a:∀k:an->aw,bq false (.aQ 11 [t]) k=k (ao 1):=λk=>eA _ _ k;have F:g.bh=4096:=by rw[i.bh];rfl
 rw[E7,dE,adS,j.len,a,cK];rw[p,Uo (d:=2060) y (λf=>j.iZ _ f) (by rfl) (λo=>gs 0 _) (by simp;omega) (by simp;omega),List.replicate_zero,Pt,Md,Fa I.length];rw[hQ,hI,show(999999:Nat)=999998+1 from rfl,hI];have G:([t]:aY)[0]? =some t:=rfl;have r:∀z:Nat×dM,aA [z] (aA [] [])=[z]:=λ_=>rfl;cases e
 ·rw[Ca (by simp)];rw[CU,a,bF,bO,bN,bL,Qk,hu,ch,be,ce,ZX pi (by rfl),bm,r,aa8 ‹_› (λo=>gs 0 _),hj,uD,bL,aaF,hu,ch,be,hX,av,gW];rw[Uo (d:=2060) (arZ:=I) (ys:=[t]) (as0:=false) (ga vl) (λf=>LL i9 (by rfl) f) (by rfl) (λo=>gs 0 _) (by simp;omega) (by simp;omega)];rw[bK,cK,CU,a,bO,bk,a6,Pp,bj,gX pi (by simp),av];exact b9
 ·rw[y1 rfl];rw[CU,a,bF,bO,bN,bL,Qk,hu,ch,be,ce,ZX pi (by rfl),bm,r,aa8 ‹_› (λo=>gs 0 _),hj,tF,a6,bK,cK,CU,a,bO,bk,a6,Pp,bj,gX,av];exact b9
end
end
section
variable{c n m:Nat} {Lf:aB->Prop} {o:aB}
section
variable[Tok] {u:Fn} {b:Nat}
theorem aaW{a c:Int}(d: -18446744073709551616<=a:=by omega)(g: -18446744073709551616<=c:=by omega)(k:an->aw):c8 (pR true (ao a) (ao c)) k=k (ao (max a c)):=by
 rw[cX,cX,cX];have e:pR true (.V .i64 (a+18446744073709551616).toNat) (.V .i64 (c+18446744073709551616).toNat)=some (.V .i64 (bif Nat.blt (a+18446744073709551616).toNat (c+18446744073709551616).toNat then(c+18446744073709551616).toNat else(a+18446744073709551616).toNat)):=rfl;rw[e];show k _=_;congr 2;rw[show Nat.blt (a+18446744073709551616).toNat (c+18446744073709551616).toNat=decide ((a+18446744073709551616).toNat<(c+18446744073709551616).toNat) from oW ..];by_cases h:a<c
 ·rw[bN,Int.max_eq_right (by omega)];rfl
 ·rw[bk,Int.max_eq_left (by omega)];rfl
theorem K3{q s off:Nat}{i:Nat}(hi:i<n)(k:an->aw):c8 (ov n 1 (.bn q s off) (ao (i:Int))) k=k (.bn q s (off+i)):=by
 rw[cX];have e:ov n 1 (.bn q s off) (.V .i64 ((i:Int)+18446744073709551616).toNat)=bif Nat.ble 18446744073709551616 ((i:Int)+18446744073709551616).toNat&&Nat.ble (Nat.succ (Nat.sub ((i:Int)+18446744073709551616).toNat 18446744073709551616)) n then some (.bn q s (Nat.add off (Nat.mul (Nat.sub ((i:Int)+18446744073709551616).toNat 18446744073709551616) 1))) else none:=rfl;have a:Nat.sub ((i:Int)+18446744073709551616).toNat 18446744073709551616=i:=by rw[cY];omega
 rw[e,a,ek,bN,ek,pl (by rw[Nat.succ_eq_add_one];omega),show(true&&true)=true from rfl,lR,tH,hW,Ct,Et]
inductive lJ (Lf:aB->Prop):Nat->Nat->aB->Prop
 |leaf {n:Nat} {o:aB} (h:Lf o):lJ Lf n 1 o
 |cons {n c c':Nat} {a d:aB} (ha:lJ Lf n c a) (hd:lJ Lf n c' d):lJ Lf (n+1) (1+c+c') [ao 4,.s 0 0,.s 0 0,.s 0 0,.s 0 0,.s 0 0,.aQ 7 [a,d]]
def wL[Tok](o:aB):Prop:=∃k a c1 d e g h a4 i j l,1<=k/\k<=3/\nr o k a c1 d e g h a4 i j l .aE
theorem ye{a d:aB}:nr [ao 4,.s 0 0,.s 0 0,.s 0 0,.s 0 0,.s 0 0,.aQ 7 [a,d]] 4 0 0 0 0 0 0 0 0 0 0 (.aQ 7 [a,d]):=⟨rfl,rfl⟩
theorem lJ.v(d:∀o,Lf o->wL o)(h:lJ Lf n c o):o.length=7/\b8 o=true:=by
 cases h with
 |leaf h=>obtain⟨k,e,c1,g,i,j,l,a4,p,q,r,t,w,a⟩:=d _ h;exact⟨a.aa,a.pure⟩
 |cons x hd=>exact⟨ye.aa,ye.pure⟩
theorem lJ.dv(h:lJ Lf n c o):1<=c:=by
 cases h with
 |leaf h=>exact sm _
 |cons a hd=>omega
theorem aDg(q:∀o,Lf o->wL o)(H:∀n c o,n<m->lJ Lf n c o->∀l:Int,(c:Int)<=l->l<100000->aK u 324 [.agg o,ao l] (ao (l-c))):∀(n c:Nat) (o:aB) (l:Int) (N:Nat) (h:aI) (s2:Nat),n<=m->lJ Lf n c o->(c:Int)<=l->l<100000->n<N->b4 h 0->da h->h.aj (0+2)= .box s2 o->
 ∃s d,oq 1 2 N (vR u 0 (λe g=>cP e aS λi=>xw 0 i g)) (ao l) (.bn (0+2) s2 0) h= .ok (ao (l-c)) 0 s d:=by
 intro n;induction n with
 |zero=>
  intro c o l N h s2 C j D E F ub fc t;obtain⟨N,rfl⟩:=cN N;cases j with
  |leaf j=>
   obtain⟨k,G,c1,I,J,K,L,a4,M,O,P,Q,R,w⟩:=q _ j;have l4:=w.l4;rw[AN];generalize oq 1 2 N (vR u 0 (λe g=>cP e aS λi=>xw 0 i g))=z;have p:l-((1:Nat):Int)=l-1:=by omega
   rw[p];rw[vR,bF,hH,bN,fi,bb,aH,bc,hy,ff,dj,bk,ET,dR,a6,bK,e1,xw,bj,b7,av];exact b9
 |succ n S=>
  intro c o l N h s2 C j D E F ub fc t;obtain⟨N,rfl⟩:=cN N;rw[AN];cases j with
  |leaf j=>
   obtain⟨k,G,c1,I,J,K,L,a4,M,O,P,Q,R,w⟩:=q _ j;have l4:=w.l4;generalize oq 1 2 N (vR u 0 (λe g=>cP e aS λi=>xw 0 i g))=z;have p:l-((1:Nat):Int)=l-1:=by omega
   rw[p];rw[vR,bF,hH,bN,fi,bb,aH,bc,hy,ff,dj,bk,ET,dR,a6,bK,e1,xw,bj,b7,av];exact b9
  | @cons _ r x a d y hd=>
    have Z:=y.dv;have ar:=hd.dv;obtain⟨bd,bs⟩:=y.v q;obtain⟨bx,cc⟩:=hd.v q;have T:=(ye (a:=a) (d:=d)).aa;have l4:=(ye (a:=a) (d:=d)).l4;have cl:=H n r a (by omega) y (l-1) (by omega) (by omega);have A:=λ(h:aI) (B:b4 h 0) (W:da h)=>S x d (l-1-r) N h s2 (by omega) hd (by omega) (by omega) (by omega) B W;generalize oq 1 2 N (vR u 0 (λe g=>cP e aS λi=>xw 0 i g))=z at A;have p:l-((1+r+x:Nat):Int)=l-1-r-x:=by omega
    rw[p];have X:∀k:an->aw,bq false (.aQ 7 [a,d]) k=k (ao 2):=λk=>eA _ _ k;have cn:([a,d]:aY)[0]? =some a:=rfl;have B:([a,d]:aY)[1]? =some d:=rfl;generalize ([ao 4,.s 0 0,.s 0 0,.s 0 0,.s 0 0,.s 0 0,.aQ 7 [a,d]]:aB)=o at t T l4;rw[vR,bF,hH,bN,fi,bb,aH,bc,X,ff,dj,bN,ET,dR,bL,LJ,bp,bb,aH,bc,bF,hu,ab8,ch,be,bK,e1,ce,bm,b7,av,av,aT,bp,bb,aH,bc,of,ch,be,dc];refine A _ ?_ ?_ (gS t)
    ·infer_instance
    ·infer_instance
theorem apZ(a:∀o,Lf o->wL o)(H:∀n c o,n<m->lJ Lf n c o->∀l:Int,(c:Int)<=l->l<100000->aK u 324 [.agg o,ao l] (ao (l-c)))(k:m<1000)(e:lJ Lf m c o){l:Int}(g:(c:Int)<=l)(i:l<100000):
 ∃s d,D5 u [.agg o,ao l] 0 .nil= .ok (ao (l-c)) 0 s d:=by
 have F:=λ(h:aI) (s2:Nat) (ub:b4 h 0) (fc:da h) (j:h.aj (0+2)= .box s2 o)=>aDg (u:=u) a H m c o l 1000000 h s2 (sm _) e g i (by omega) ub fc j;rw[D5,dE,Zs,cy];refine F _ _ ?_ ?_ fE
 ·infer_instance
 ·infer_instance
theorem ND:(EX:an)=ao 3001:=by rw[cX];rfl
theorem ayF(a:∀o,Lf o->wL o)(e:lJ Lf n c o)(i:c<=3000)(H:aK u 324 [.agg o,ao 3001] (ao (3001-c))):∃s d,Ec u [.agg o] 0 .nil= .ok (ao c) 0 s d:=by
 obtain⟨eR,j⟩:=e.v a;have g:(3001:Int)-(3001-(c:Int))=c:=by omega
 have h:max (0:Int) (3001-(c:Int))=3001-c:=by omega
 rw[Ec,dK,S4,cy,aH,be,bm,av,ND,aT,bF,aaW,h,e1,g,Um,bj,b7,av];exact b9
end
end
section
variable{n p a:an} {q s off d:Nat} {c x y z:Int} {h:aI} {cs t o:aB} {I:aY} {aR:List (Nat×Nat×Nat)}
section
variable[Tok] {u:Fn} {b:Nat}
theorem QO{wk:Option (List Nat)}{n:Nat}(k:dg):aX b wk n (.bn q s off) (ao c) h k=aX b wk n (.bn q s off) (.agg [ao c]) h k:=by rw[cX];rfl
theorem aa3[b4 h b](e:h.aj (b+d)= .box s cs)(g:off+1<=cs.length)(k:dg)(hd:d<4096:=by decide):aX b none 1 (.bn (b+d) s off) (ao c) h k=k .undef (h.eP b d (cs.take off++[ao c]++cs.drop (off+1))):=by rw[QO,GD (new:=[ao c]) (n:=1) rfl e g k hd]
theorem azq{l:List Nat}[b4 h b](e:h.aj (b+d)= .box s cs)(g:off+1<=cs.length)(k:dg)(i:eb l d=true:=by rfl)(hd:d<4096:=by decide):aX b (some l) 1 (.bn (b+d) s off) (ao c) h k=k .undef (h.eP b d (cs.take off++[ao c]++cs.drop (off+1))):=by rw[QO,tD (b:=b) (n:=1) (off:=off) (wk:=some l) (new:=[ao c]) e rfl g (λo=>mN hd i) (b4.lt hd)];unfold aI.eP;rw[e];rfl
theorem aeG(k:an->aw):c8 (ov 3 1 (.bn q s off) (ao 0)) k=k (.bn q s (off+0)):=K3 (i:=0) (by omega) k
theorem acC(k:an->aw):c8 (ov 3 1 (.bn q s off) (ao 1)) k=k (.bn q s (off+1)):=K3 (i:=1) (by omega) k
theorem Yz(k:an->aw):c8 (ov 3 1 (.bn q s off) (ao 2)) k=k (.bn q s (off+2)):=K3 (i:=2) (by omega) k
def ew(x y z:Int):aB:=[ao x,ao y,ao z]
theorem rG(x y z:Int):(ew x y z).length=3:=rfl
theorem ve(x y z:Int):b8 (ew x y z)=true:=by unfold ew;rw[cX,cX,cX];rfl
theorem aya(e:fk t 1 p n o a)(j:0<=x/\x<1000000):∃s d,qK u [.agg t,.agg (ew x y z)] 0 .nil= .ok (.agg (ew (x+1) y z)) 0 s d:=by
 have t0:=e.eO;have k:=ve (x+1) y z;have eV:=rG (x+1) y z;have l:(ew x y z)[0+0]? =some (ao x):=rfl;have g:(ew x y z).take (0+0)++[ao (x+1)]++(ew x y z).drop (0+0+1)=ew (x+1) y z:=rfl;have i:0+0+1<=(ew x y z).length:=by rw[rG];omega
 rw[qK,dE,Kp,cy,cy,J1,de,bp,bb,aH,bc,bK,dj,bN,bL,Zd,bF,aeG,aH,bc,bK,cK,aeG,aa3 (gF fE) i,g,aH,be,dc,AZ,gh,be,bj,bm,av];exact b9
theorem auy(e:fk t 2 p n o a){c:Nat}(j:c<=3000)(H:aK u 271 [.agg o] (ao c))(k:0<=z/\z<1000000):∃s d,qK u [.agg t,.agg (ew x y z)] 0 .nil= .ok (.agg (ew x y (z+c))) 0 s d:=by
 have t0:=e.eO;have eV:=e.eV;have l:=e.b2;have r:=ve x y (z+c);have w:=rG x y (z+c);have A:(ew x y z)[0+2]? =some (ao z):=rfl;have g:(ew x y z).take (0+2)++[ao (z+c)]++(ew x y z).drop (0+2+1)=ew x y (z+c):=rfl;have i:0+2+1<=(ew x y z).length:=by rw[rG];omega
 rw[qK,dE,Kp,cy,cy,J1,de,bp,bb,aH,bc,bK,dj,bk,a6,Ll,ff,dj,bN,bL,Zw,ff,Yz,aJ,cH,aN,aH,bc,Wx,bb,aJ,cH,aN,aH,e8 eV,e.t3,aV,aN,bm,av,aT,bF,ff,cK,Yz,cH,aN,azq (gF fE) i,g,aH,be,dc,AZ,gh,be,bj,bm,av];exact b9
def dY(l:List (Nat×Nat×Nat)):Nat×Nat×Nat:=l.foldr (λp q=>(p.1+q.1,p.2.1+q.2.1,p.2.2+q.2.2)) (0,0,0)
theorem anM(a2:aR.length=I.length)(hl:I.length<100)(H:∀(i:Nat) (t:aB) (w:Nat×Nat×Nat),I[i]? =some t->aR[i]? =some w->cq t/\w.1<=3000/\w.2.1<=3000/\w.2.2<=3000/\∀x y z:Int,0<=x/\x<400000->0<=y/\y<400000->0<=z/\z<400000->aK u 233 [.agg t,.agg (ew x y z)] (.agg (ew (x+w.1) (y+w.2.1) (z+w.2.2)))){a4:an}(e:gT){r:an}
 (F:∀(h:aI) (s3 s4:Nat) (Z:aB) (x y z:Int),b4 h 0->da h->h.aj (0+3)= .box s3 (ew x y z)->a4= .bn (0+4) s4 0->h.aj (0+4)= .box s4 Z->Z.length=3->∃s d,e (.bn (0+3) s3 0) a4 h= .ok (.agg (ew x y z)) 0 s d):
 ∀(n k N:Nat) (h:aI) (s3 s4:Nat) (Z:aB) (x y z:Int),n+k=I.length->n<N->b4 h 0->da h->h.aj (0+3)= .box s3 (ew x y z)->a4= .bn (0+4) s4 0->h.aj (0+4)= .box s4 Z->Z.length=3->0<=x/\x<300000-n*3000->0<=y/\y<300000-n*3000->0<=z/\z<300000-n*3000->
 ∃s d,fs 3 4 31 32 33 N (Am u 0 e) (.bn (0+3) s3 0) a4 (.aQ 11 I) (ao I.length) (ao k) h= .ok (.agg (ew (x+(dY (aR.drop k)).1) (y+(dY (aR.drop k)).2.1) (z+(dY (aR.drop k)).2.2))) 0 s d:=by
 intro n;induction n with
 |zero=>
  intro k N h s3 s4 Z x y z J K ub fc g j l A L M O;obtain⟨N,rfl⟩:=cN N;rw[gI,lO];have P:=F h s3 s4 Z x y z ub fc g j l A;have Q:ew (x+(dY []).1) (y+(dY []).2.1) (z+(dY []).2.2)=ew x y z:=by simp[dY]
  rw[Q];generalize fs 3 4 31 32 33 N (Am u 0 e)=R;rw[Am,bO,bk,a6];exact P
 |succ n S=>
  intro k N h s3 s4 Z x y z J K ub fc g j l A L M O;obtain⟨N,rfl⟩:=cN N;have D:I[k]? =some (I[k]'(by omega)):=dC _;have E:aR[k]? =some (aR[k]'(by omega)):=dC _;have G:aR.drop k=aR[k]'(by omega)::aR.drop (k+1):=iK (by omega);obtain⟨⟨t1,t2⟩,T,X,ar,B⟩:=H k _ _ D E;generalize (I[k]'(by omega))=t at D t1 t2 B;generalize (aR[k]'(by omega))=w at E T X ar B G;have a3:=B x y z (by omega) (by omega) (by omega);have a5:=rG (x+w.1) (y+w.2.1) (z+w.2.2);have wp:=ve (x+w.1) (y+w.2.1) (z+w.2.2);have bd:=rG x y z;have bs:=ve x y z;have C:=λ(h:aI) (Z:aB)=>S (k+1) N h s3 s4 Z (x+w.1) (y+w.2.1) (z+w.2.2) (by omega) (by omega);have a1:((k+1:Nat):Int)=(k:Int)+1:=by omega
  have es:ew (x+(dY (aR.drop k)).1) (y+(dY (aR.drop k)).2.1) (z+(dY (aR.drop k)).2.2)=ew (x+w.1+(dY (aR.drop (k+1))).1) (y+w.2.1+(dY (aR.drop (k+1))).2.1) (z+w.2.2+(dY (aR.drop (k+1))).2.2):=by rw[G];have:dY (w::aR.drop (k+1))=(w.1+(dY (aR.drop (k+1))).1,w.2.1+(dY (aR.drop (k+1))).2.1,w.2.2+(dY (aR.drop (k+1))).2.2):=rfl;rw[this];unfold ew;simp only[Int.natCast_add,Int.add_assoc]
  rw[gI,es];rw[a1] at C;generalize fs 3 4 31 32 33 N (Am u 0 e)=R at C;rw[Am,bO,bN,bL,aaY,bK,eE,ch,be,de,dc,aH,be,aH,be,ce,bm,bm,av,av,aT,dc,cK];refine C _ _ ?_ ?_ (gS (gi (gF g))) j (gi (gi (gF l))) A (by omega) (by omega) (by omega)
  ·infer_instance
  ·infer_instance
theorem aeW{a:an}(e:fk t 3 p n o (.aQ 11 I))(k:aR.length=I.length)(J:I.length<30)(H:∀(i:Nat) (t:aB) (w:Nat×Nat×Nat),I[i]? =some t->aR[i]? =some w->cq t/\w.1<=3000/\w.2.1<=3000/\w.2.2<=3000/\∀x y z:Int,0<=x/\x<400000->0<=y/\y<400000->0<=z/\z<400000->aK u 233 [.agg t,.agg (ew x y z)] (.agg (ew (x+w.1) (y+w.2.1) (z+w.2.2))))(K:0<=x/\x<10000)(L:0<=y/\y<10000)(l:0<=z/\z<10000):
 ∃s d,qK u [.agg t,.agg (ew x y z)] 0 .nil= .ok (.agg (ew (x+(dY aR).1) (y+1+(dY aR).2.1) (z+(dY aR).2.2))) 0 s d:=by
 have t0:=e.eO;have gP:=e.gP;have M:(ew x y z)[0+1]? =some (ao y):=rfl;have A:(ew x y z).take (0+1)++[ao (y+1)]++(ew x y z).drop (0+1+1)=ew x (y+1) z:=rfl;have B:0+1+1<=(ew x y z).length:=by rw[rG];omega
 have F:=λ(a4:an)=>anM (u:=u) (a4:=a4) k (by omega) H (λC g j=>aW j.aj true 3 C λD=>aX 0 none 3 g D j λ_ E=>AZ 0 g E) (r:= .aE) (λh s3 s4 Z x y z ub fc N G O l=>by have P:=ve x y z;have eV:=rG x y z;subst G;rw[aH,be,dc,AZ,gh,be,bj,bm,av];exact b9)
 rw[qK,dE,Kp,cy,cy,J1,de,bp,bb,aH,bc,bK,dj,bk,a6,Ll,ff,dj,bk,a6,aaf,i2,dj,bN,bL,TD,bK,acC,aH,bc,bF,cK,acC,aa3 (gF fE) B,A,bp,bb,aH,bc,eA];refine F _ I.length 0 1000000 _ _ _ [ao 0,ao 0,ao 0] x (y+1) z (by omega) (by omega) ?_ ?_ (gS (gF fE)) rfl (gi fE) rfl (by omega) (by omega) (by omega)
 ·infer_instance
 ·infer_instance
end
end
section
variable{a c x y z x' y' z':Int}
section
variable[Tok] {u:Fn} {b:Nat}
def e4(a c:Int):Int:=if a<c then-1 else if c<a then 1 else 0
theorem Nc(h:a<c):e4 a c= -1:=by unfold e4;rw[if_pos h]
theorem WP(h:c<a):e4 a c=1:=by unfold e4;rw[cz,if_pos h]
theorem Eo(h:a=c:=by omega):e4 a c=0:=by unfold e4;rw[cz,cz]
theorem xo(a c:Int): -1<=e4 a c/\e4 a c<=1:=by unfold e4;split<;>(try split)<;>omega
theorem aDX(e: -100000<c):∃s d,Dd u [ao c] 0 .nil= .ok (.a9 false) 0 s d:=by rw[Dd,dK,Tj,dF,GG (by simp),acM,bj,fO,av];exact b9
theorem ail(e: -100000<a)(g: -100000<c)(H:∀c:Int,-100000<c->aK u 331 [ao c] (.a9 false)):∃s d,wO u [ao a,ao c] 0 .nil= .ok (ao (e4 a c)) 0 s d:=by
 have i:=H a e;have j:=H c g;by_cases h:a<c
 ·rw[Nc h];rw[wO,dE,JI,bg,b7,av,aT,bg,b7,av,aT,a6,II,a6,Hw,bO,bN,bL,sj,pE,bj,b7,av];exact b9
 ·by_cases h':c<a
  ·rw[WP h'];rw[wO,dE,JI,bg,b7,av,aT,bg,b7,av,aT,a6,II,a6,Hw,bO,bk,a6,Kx,hH,bN,bL,sj,bK,bj,b7,av];exact b9
  ·rw[Eo];rw[wO,dE,JI,bg,b7,av,aT,bg,b7,av,aT,a6,II,a6,Hw,bO,bk,a6,Kx,hH,bk,a6,sj,bF,bj,b7,av];exact b9
def eV(x y z:Int):an:= .aQ 1 [[ao x],[ao y],[ao z]]
def oz(x y z x' y' z':Int):Int:=if e4 x x'≠0 then e4 x x' else if e4 y y'≠0 then e4 y y' else e4 z z'
theorem axf(l: -100000<x/\ -100000<x')(n: -100000<y/\ -100000<y')(o: -100000<z/\ -100000<z')(H:∀a c:Int,-100000<a-> -100000<c->aK u 281 [ao a,ao c] (ao (e4 a c))):∃s d,xC u [eV x y z,eV x' y' z'] 0 .nil= .ok (ao (oz x y z x' y' z')) 0 s d:=by
 have w:=H x x' l.1 l.2;have A:=H y y' n.1 n.2;have B:=H z z' o.1 o.2;have G:=xo x x';have I:=xo y y';have J:=xo z z';have g:∀x y z:Int,∀k:an->aw,bq false (eV x y z) k=k (ao 3):=λx y z k=>eA _ _ k;have h:∀(ob:ej) (x y z:Int) (k:an->aw),cb ob 1 (eV x y z) (ao 0) k=k (.ep [ao x] 0):=λob x y z k=>hu rfl k;have i:∀(ob:ej) (x y z:Int) (k:an->aw),cb ob 1 (eV x y z) (ao 1) k=k (.ep [ao y] 0):=λob x y z k=>of rfl k;have j:∀(ob:ej) (x y z:Int) (k:an->aw),cb ob 1 (eV x y z) (ao 2) k=k (.ep [ao z] 0):=λob x y z k=>by rw[show(2:Int)=((2:Nat):Int) from rfl];exact eE rfl k
 have e:∀(v:an) (k:an->aw),kJ false 1 [v] 0 k=k v:=λv k=>bc rfl k;unfold oz;by_cases p:e4 x x'≠0
 ·rw[y1 p];rw[xC,dE,Is,g];rw[hQ,gI];rw[qD,bF,bO,bN,bL,rj,h,ch,e,g,ix,bk,a6,rS,bF,h,ch,e,ce,b7,b7,av,av,aT,dF,bN,bL,v5,bj,b7,av];exact b9
 ·rw[Ca p];have C:e4 x x'=0:=by omega
  rw[C] at w;by_cases q:e4 y y'≠0
  ·rw[y1 q];rw[xC,dE,Is,g];rw[hQ,gI,show(999999:Nat)=999998+1 from rfl,gI];rw[qD,bF,bO,bN,bL,rj,h,ch,e,g,ix,bk,a6,rS,bF,h,ch,e,ce,b7,b7,av,av,aT,dF,bk,a6,bK,cK,show(0:Int)+1=1 from rfl,qD,bO,bN,bL,rj,i,ch,e,g,ix,bk,a6,rS,i,ch,e,ce,b7,b7,av,av,aT,bF,dF,bN,bL,v5,bj,b7,av];exact b9
  ·rw[Ca q];have D:e4 y y'=0:=by omega
   rw[D] at A;rw[xC,dE,Is,g];rw[hQ,gI,show(999999:Nat)=999998+1 from rfl,gI,show(999998:Nat)=999997+1 from rfl,gI,show(999997:Nat)=999996+1 from rfl,gI];have r:∀k:an->aw,bR (ao 0) (ao 1) k=k (ao 1):=λk=>cK (by omega) (by omega) (by omega) (by omega) k;have t:∀k:an->aw,bR (ao 1) (ao 1) k=k (ao 2):=λk=>cK (by omega) (by omega) (by omega) (by omega) k;have E:∀k:an->aw,bR (ao 2) (ao 1) k=k (ao 3):=λk=>cK (by omega) (by omega) (by omega) (by omega) k;by_cases K:e4 z z'≠0
   ·rw[qD,bF,bO,bN,bL,rj,h,ch,e,g,ix,bk,a6,rS,bF,h,ch,e,ce,b7,b7,av,av,aT,dF,bk,a6,bK,r,qD,bO,bN,bL,rj,i,ch,e,g,ix,bk,a6,rS,i,ch,e,ce,b7,b7,av,av,aT,bF,dF,bk,a6,bK,t,qD,bO,bN,bL,rj,j,ch,e,g,ix,bk,a6,rS,j,ch,e,ce,b7,b7,av,av,aT,bF,dF,bN,bL,v5,bj,b7,av];exact b9
   ·have F:e4 z z'=0:=by omega
    rw[F] at B ⊢;rw[qD,bF,bO,bN,bL,rj,h,ch,e,g,ix,bk,a6,rS,bF,h,ch,e,ce,b7,b7,av,av,aT,dF,bk,a6,bK,r,qD,bO,bN,bL,rj,i,ch,e,g,ix,bk,a6,rS,i,ch,e,ce,b7,b7,av,av,aT,bF,dF,bk,a6,bK,t,qD,bO,bN,bL,rj,j,ch,e,g,ix,bk,a6,rS,j,ch,e,ce,b7,b7,av,av,aT,bF,dF,bk,a6,bK,E,qD,bO,bk,a6,YA,g,g,bO,bk,a6,v5,bF,bj,b7,av];exact b9
theorem Yk{d s:Nat}{l:List Nat}{h:aI}[b4 h b](g:h.aj (b+d)= .box s (ew x y z))(k:dg)(i:eb l d=true:=by rfl)(hd:d<4096:=by decide):i3 b (some l) (v7 h.aj 3 (.bn (b+d) s 0)) h k=k (eV x y z) (h.g4 b d (.ae (.ax s))):=by
 have j:v7 h.aj 3 (.bn (b+d) s 0)=some (eV x y z,[(b+d,.ax s)]):=by
  have n:∀ob:Nat->dM,v7 ob 3 (.bn (b+d) s 0)=match ob (b+d) with
   | .box o cs=>bif Nat.beq s o&&Nat.beq cs.length 3&&Nat.ble 3 1048576&&cs.all w3 then some (.aQ 1 (cs.map λq=>[q]),[(b+d,.ax s)]) else none
   |_=>none:=λ_=>rfl
  rw[n,g];show(bif Nat.beq s s&&true&&true&&(w3 (ao x)&&(w3 (ao y)&&(w3 (ao z)&&true))) then _ else _)=_;have e:∀c:Int,w3 (ao c)=true:=λc=>by rw[cX];rfl
  rw[wT,e,e,e];rfl
 rw[j,zm (mN hd i) (b4.lt hd)];rfl
theorem acD{t s:aB}(i:cq t)(j:cq s){r:Int}(n:aK u 233 [.agg t,.agg (ew 0 0 0)] (.agg (ew x y z)))(o:aK u 233 [.agg s,.agg (ew 0 0 0)] (.agg (ew x' y' z')))(p:aK u 234 [eV x y z,eV x' y' z'] (ao r))(q:r≠0)(w: -10<r):
 ∃l d,xx u [.agg t,.agg s] 0 .nil= .ok (ao r) 0 l d:=by
 obtain⟨t1,t2⟩:=i;obtain⟨A,s2⟩:=j;have B:=ve x y z;have C:=ve x' y' z';have D:=rG x y z;have E:=rG x' y' z';have F:=ve 0 0 0;have e:∀k:an->aw,eT [aL,aL,aL] k=k (.agg (ew 0 0 0)):=λk=>by rw[hL,bF];rfl
 have g:∀(x y z:Int) (ob:ej) (f:jm),aD ob (eV x y z) f=f (eV x y z) []:=λx y z ob f=>mg _ _ _ f;have h:∀(x y z:Int),jP 0 [] (eV x y z)=true:=λx y z=>rfl;rw[xx,dE,aa5,cy,cy,RZ,aJ,cH,aN,aH,be,e,aV,aV,aN,bm,bm,av,av,aT,aJ,cH,aN,aH,be,e,aas,aV,aV,aN,bm,bm,av,av,aT,tw,tw,cH,aN,pf,cH,aN,pf,ael,cH,aN,Yk (gi (gS (gF fE))),cH,aN,Yk (Dr (gS (gi fE))),aV (h _ _ _),aV (h _ _ _),aN,g,g,av,av,aT,bF,dF,bN,bL,LP,bj,b7,av];exact b9
end
end
section
variable[Tok] {u:Fn} {b:Nat}
def t3(x y z:Int):an:= .a0 [ao x,ao y,ao z]
end
section
variable[Tok] {u:Fn} {b:Nat}
theorem aba:(F3:an)=ao 3000:=by rw[cX];rfl
theorem awj{a d:aB}(g:a.length=7/\b8 a=true)(hd:d.length=7/\b8 d=true)(j:aK u 107 [.agg a] (.a9 true))(l:aK u 107 [.agg d] (.a9 true)):∃s e,Dz u [.agg [ao 4,.s 0 0,.s 0 0,.s 0 0,.s 0 0,.s 0 0,.aQ 7 [a,d]]] 0 .nil= .ok (.a9 true) 0 s e:=by obtain⟨n,p⟩:=g;obtain⟨q,r⟩:=hd;have c:=ye (a:=a) (d:=d);have eO:=c.eO;have dB:=c.dB;have cT:=c.cT;have mw:=c.mw;have l4:=c.l4;have eV:=c.eV;have t3:=c.t3;have h:∀k:an->aw,bq false (.aQ 7 [a,d]) k=k (ao 2):=λk=>eA _ _ k;have t:([a,d]:aY)[0]? =some a:=rfl;have w:([a,d]:aY)[1]? =some d:=rfl;have es:∀k:an->aw,bY (.s 0 0) (.s 0 0) k=k (.a9 true):=λk=>rfl;have i:∀k:an->aw,mV false (.agg [.s 0 0,.s 0 0]) (.agg [.s 0 0,.s 0 0]) k=k (.a9 true):=λk=>rfl;generalize ([ao 4,.s 0 0,.s 0 0,.s 0 0,.s 0 0,.s 0 0,.aQ 7 [a,d]]:aB)=o at eO dB cT mw l4 eV t3;rw[Dz,dK,YH,cy,bb,YT,aH,e8 eV,t3,hL,i,bp,bb,aH,bc,bK,dj,bk,a6,Ur,ff,dj,bk,a6,aeU,i2,dj,bk,a6,Xl,p7,dj,bN,bL,aet,fi,bb,aH,bc,es,MO,dR,fi,bb,aH,bc,es,LS,dR,fi,bb,aH,bc,es,NY,dR,fi,bb,aH,bc,h,ff,dj,bN,Lt,dR,fi,ZL,bb,aH,bc,bF,hu,ch,be,bg,bm,av,aT,PA,dR,fQ,fi,Ze,bb,aH,bc,bK,of,ch,be,bg,bm,av,aT,dR,rx,bj,fO,av];exact b9
end
section
variable{gl:eI} {P:Program} {f:Nat} {n:Int}
noncomputable def yz[Tok](l:List UInt8)(k:an->aw):aw:=eF l.length λa=>eF (oI l) λv=>k (.s a v)
section
variable[Tok]
theorem H9(l:List UInt8)(k:an->aw):yz l k=k (Cw l):=by unfold yz;rw[fd,fd];rfl
noncomputable def Iu:jq:=λ_ l b atf=>aZ l λx l=>bV l (jR x λk n=>bf (lQ k .i64) (bf (qX .i64 n) (yz (Lib.itoa (intOf n)) λr=> .ok r b atf []) .ax) .ax)
theorem aqe(d:Enters P f)
 (h:∀(n:Int) (c:Nat->Nat) (w:World),gl.ak c w-> -9223372036854775808<=n->n<=9223372036854775807->Calls P f #[.int .i64 n] w λe w'=>e= .returned (.string ⟨(Lib.itoa n).toArray⟩)/\Below w.heap.size w w'):i5 gl P f Iu:=by
 refine M3 d ?_;intro u args ub atf t y z A g;obtain⟨x,l,rfl,i⟩:=oZ g;obtain⟨rfl,j⟩:=wV i;obtain⟨k,n,rfl,o⟩:=x6 j;obtain⟨p,q⟩:=jt o;obtain⟨a,b⟩:=jt q;rw[H9] at b;simp only[aw.ok.injEq] at b;obtain⟨rfl,rfl,rfl,rfl⟩:=b;obtain⟨rfl,_⟩:=pH p;rw[zZ] at a;simp only[lr,Hi,u1,wC] at a;have B:=pn a.1;have C:=pn a.2;exact⟨rfl,rfl,rfl,[.int .i64 (intOf n)],.string ⟨(Lib.itoa (intOf n)).toArray⟩,rfl,Q1 _,rfl,λc w r=>h (intOf n) c w r (by unfold intOf;omega) (by unfold intOf;omega)⟩
noncomputable def FZ:jq:=λ_ l b atf=>aZ l λx l=>aZ l λy l=>bV l (jR x λk n=>jR y λa m=>bf (lQ k .i64) (bf (lQ a .i64) (bf (Nat.beq m 18446744073709551626) (bf (qX .i64 n) (yz (Lib.itoa (intOf n)) λr=> .ok r b atf []) .ax) .ax) .ax) .ax)
theorem ap4(j:Enters P f)
 (h:∀(n:Int) (c:Nat->Nat) (w:World),gl.ak c w-> -9223372036854775808<=n->n<=9223372036854775807->Calls P f #[.int .i64 n,.int .i64 10] w λe w'=>e= .returned (.string ⟨(Lib.itoa n).toArray⟩)/\Below w.heap.size w w'):i5 gl P f FZ:=by
 refine M3 j ?_;intro u args ub atf B C D E o;obtain⟨x,l,rfl,d⟩:=oZ o;obtain⟨y,F,rfl,d⟩:=oZ d;obtain⟨rfl,p⟩:=wV d;obtain⟨k,n,rfl,g⟩:=x6 p;obtain⟨G,m,rfl,g⟩:=x6 g;obtain⟨q,a⟩:=jt g;obtain⟨r,a⟩:=jt a;obtain⟨t,a⟩:=jt a;obtain⟨b,i⟩:=jt a;rw[H9] at i;simp only[aw.ok.injEq] at i;obtain⟨rfl,rfl,rfl,rfl⟩:=i;obtain⟨rfl,_⟩:=pH q;obtain⟨rfl,_⟩:=pH r;have z:=dp t;subst z;rw[zZ] at b;simp only[lr,Hi,u1,wC] at b;have H:=pn b.1;have I:=pn b.2;exact⟨rfl,rfl,rfl,[.int .i64 (intOf n),.int .i64 10],.string ⟨(Lib.itoa (intOf n)).toArray⟩,rfl,Q1 _,rfl,λc w A=>h (intOf n) c w A (by unfold intOf;omega) (by unfold intOf;omega)⟩
noncomputable def GQ(n:Int)(k:an->aw):aw:=eF (n+18446744073709551616).toNat λm=>k (.V .i64 m)
noncomputable def Pz:jq:=λ_ l b atf=>aZ l λx l=>aZ l λy l=>bV l (k6 x λn v=>k6 y λm c=>GQ (Lib.compareBytes (gR n v) (gR m c)) λr=> .ok r b atf [])
theorem aof:∀a c:List UInt8,-1<=Lib.compareBytes a c/\Lib.compareBytes a c<=1:=by
 intro a;induction a with
 |nil=>intro c;cases c<;>simp[Lib.compareBytes]
 |cons x r b=>
  intro c;cases c with
  |nil=>simp[Lib.compareBytes]
  |cons y s=>
   simp only[Lib.compareBytes];split
   ·omega
   ·split
    ·omega
    ·exact b s
theorem atP(g:Enters P f)
 (h:∀(a c:ByteArray) (w:World),Calls P f #[.string a,.string c] w λe w'=>e= .returned (.int .i64 (Lib.compareBytes a.data.toList c.data.toList))/\w'=w):i5 gl P f Pz:=by
 refine M3 g ?_;intro u args ub atf o p q r i;obtain⟨x,l,rfl,d⟩:=oZ i;obtain⟨y,t,rfl,d⟩:=oZ d;obtain⟨rfl,j⟩:=wV d;obtain⟨n,v,rfl,k⟩:=J3 j;obtain⟨m,c,rfl,b⟩:=J3 k;unfold GQ at b;rw[fd] at b;simp only[aw.ok.injEq] at b;obtain⟨rfl,rfl,rfl,rfl⟩:=b;have z:=aof (gR n v) (gR m c);refine⟨rfl,rfl,rfl,[.string (e7 n v),.string (e7 m c)],.int .i64 (Lib.compareBytes (gR n v) (gR m c)),rfl,?_,rfl,λ_ w _=>?_⟩
 ·show aG.bu (.int .i64 (intOf _))=_;congr 2;unfold intOf;omega
 ·refine(h (e7 n v) (e7 m c) w).mono ?_;rintro e w' ⟨rfl,rfl⟩;exact⟨by rw[pX,pX],Below.refl _ _⟩
theorem aaB{g:jq}(x:Enters P f)
 (h:∀u args ub atf b l o p,g u args ub atf= .ok b l o p->l=ub/\o=atf/\p=[]/\∃(r:List Value) (r1 d:Value),args.map bi=r.map aG.bu/\bi b= .a0 [.bu r1,.bu d]/\iO r1=true/\iO d=true/\b.cR=[]/\
  ∀c w,gl.ak c w->Calls P f r.toArray w λe w'=>e= .returned (.tuple #[r1,d])/\Below w.heap.size w w'):i5 gl P f g:=by
 intro u _ args ub atf b l o p y;obtain⟨rfl,rfl,rfl,r,r1,d,z,A,B,C,D,E⟩:=h u args ub atf b l o p y;refine⟨?_,λ_ _ _=>rfl,λk t=>?_⟩
 ·rw[z,A];refine⟨x,λg w vs F G H=>?_⟩;rw[sU.Ox H];refine(E g.U w F).mono ?_;rintro e w' ⟨rfl,I⟩;refine⟨_,g,rfl,ml.below G I,.inr (.inr (.inr (.inl ⟨_,[r1,d],rfl,rfl,rfl,λj q u a i=>?_⟩)))⟩
  match j,a,i with
  |0,a,i=>cases a;cases i;exact .inl (.inl (.bu B))
  |1,a,i=>cases a;cases i;exact .inl (.inl (.bu C))
  |_+2,a,_=>simp at a
 ·rw[D] at t;cases t
def u5:List UInt8->Nat->Nat
 |[],a=>a
 |c::r,a=>u5 r (a*10+(c.toNat-48))
def BP:List UInt8->Int
 |45::r=> -((u5 r 0:Nat):Int)
 |l=>((u5 l 0:Nat):Int)
def Y0(n:Int):Lib.NumEnd Int->Bool
 | .ok v=>v==n
 |_=>false
def UL(n:Nat):Lib.NumEnd Nat->Bool
 | .ok v=>v==n
 |_=>false
def w2:List Int:=(List.range 1401).map λ(i:Nat)=>((i:Int)-700)
theorem y8(h: -700<=n/\n<=700):n∈w2:=by refine yd.2 ⟨(n+700).toNat,by simp;omega,by omega⟩
theorem R5(a: -700<=n/\n<=700):Lib.parseIntB 64 (Lib.itoa n)= .ok n/\(Lib.itoa n).length<=4:=by
 have h:(w2.all λn=>Y0 n (Lib.parseIntB 64 (Lib.itoa n))&&Nat.ble (Lib.itoa n).length 4)=true:=by kernel_rfl
 have h:=M2.1 h n (y8 a);rw[Hi] at h;refine⟨?_,pn h.2⟩;have h:=h.1;revert h;cases Lib.parseIntB 64 (Lib.itoa n) with
 |ok v=>
  intro h;have e:v=n:=by simpa[Y0] using h
  rw[e]
 |_=>intro h;cases h
theorem aA0{n:Nat}(a:n<=700):Lib.parseUintB 32 (Lib.itoa n)= .ok n/\(Lib.itoa n).length<=4:=by
 have h:((List.range 701).all λn=>UL n (Lib.parseUintB 32 (Lib.itoa n))&&Nat.ble (Lib.itoa n).length 4)=true:=by kernel_rfl
 have h:=M2.1 h n (by simp;omega);rw[Hi] at h;refine⟨?_,pn h.2⟩;have h:=h.1;revert h;cases Lib.parseUintB 32 (Lib.itoa n) with
 |ok v=>
  intro h;have e:v=n:=by simpa[UL] using h
  rw[e]
 |_=>intro h;cases h
noncomputable def NH:jq:=λ_ l b atf=>aZ l λx l=>aZ l λy l=>aZ l λz l=>bV l (k6 x λn v=>jR y λk m=>jR z λa c=>bf (lQ k .i64) (bf (lQ a .i64) (bf (Nat.beq m 18446744073709551626) (bf (Nat.beq c 18446744073709551680)
 (bf (decide (-700<=BP (gR n v)/\BP (gR n v)<=700)) (bf (decide (Lib.itoa (BP (gR n v))=gR n v)) (GQ (BP (gR n v)) λr=> .ok (.a0 [r,.bu .nilIface]) b atf []) .ax) .ax) .ax) .ax) .ax) .ax)
theorem axr(g:Enters P f)
 (h:∀(s:ByteArray) (_:s.size<=9223372036854775806) (v:Int) (_:Lib.parseIntB 64 s.data.toList= .ok v) (w:World),Calls P f #[.string s,.int .i64 10,.int .i64 64] w λe w'=>e= .returned (.tuple #[.int .i64 v,.nilIface])/\(w'=w\/∃t,w'=Lib.bytesWorld w 5 t)):i5 gl P f NH:=by
 refine aaB g ?_;intro u args ub atf T W X Z i;obtain⟨x,l,rfl,j⟩:=oZ i;obtain⟨y,l',rfl,o⟩:=oZ j;obtain⟨z,ar,rfl,p⟩:=oZ o;obtain⟨rfl,q⟩:=wV p;obtain⟨n,v,rfl,r⟩:=J3 q;obtain⟨k,m,rfl,A⟩:=x6 r;obtain⟨k',m',rfl,B⟩:=x6 A;obtain⟨C,D⟩:=jt B;obtain⟨E,F⟩:=jt D;obtain⟨G,H⟩:=jt F;obtain⟨I,J⟩:=jt H;obtain⟨K,L⟩:=jt J;obtain⟨M,a⟩:=jt L;unfold GQ at a;rw[fd] at a;simp only[aw.ok.injEq] at a;obtain⟨rfl,rfl,rfl,rfl⟩:=a;obtain⟨rfl,_⟩:=pH C;obtain⟨rfl,_⟩:=pH E;have O:=dp G;have Q:=dp I;subst O;subst Q;have d:=gd K;have R:=gd M;have b:=R5 d;rw[R] at b;generalize BP (gR n v)=N at d b;refine⟨rfl,rfl,rfl,[.string (e7 n v),.int .i64 10,.int .i64 64],.int .i64 N,.nilIface,rfl,?_,rfl,rfl,rfl,λc w a1=>?_⟩
 ·show aG.a0 [aG.bu (.int .i64 (intOf _)),_]=_;have:intOf (N+18446744073709551616).toNat=N:=by unfold intOf;omega
  rw[this];rfl
 ·refine(h (e7 n v) (by rw[xK];have:=b.2;have a2:(gR n v).length=n:=xK n v;omega) N (by rw[pX];exact b.1) w).mono ?_;rintro e w' ⟨rfl,S⟩;refine⟨rfl,?_⟩;rcases S with rfl|⟨t,rfl⟩
  ·exact Below.refl _ _
  ·exact Lib.bytesWorld_below _ _ _
noncomputable def Mz:jq:=λ_ l b atf=>aZ l λx l=>aZ l λy l=>aZ l λz l=>bV l (k6 x λn v=>jR y λk m=>jR z λa c=>bf (lQ k .i64) (bf (lQ a .i64) (bf (Nat.beq m 18446744073709551626) (bf (Nat.beq c 18446744073709551648)
 (bf (Nat.ble (u5 (gR n v) 0) 700) (bf (decide (Lib.itoa ((u5 (gR n v) 0:Nat):Int)=gR n v)) (eF (u5 (gR n v) 0+18446744073709551616) λr=> .ok (.a0 [.V .u64 r,.bu .nilIface]) b atf []) .ax) .ax) .ax) .ax) .ax) .ax)
theorem amQ(g:Enters P f)
 (h:∀(s:ByteArray) (_:s.size<=9223372036854775806) (v:Nat) (_:Lib.parseUintB 32 s.data.toList= .ok v) (w:World),Calls P f #[.string s,.int .i64 10,.int .i64 32] w λe w'=>e= .returned (.tuple #[.int .u64 v,.nilIface])/\(w'=w\/w'=Lib.bytesWorld w 5 s)):i5 gl P f Mz:=by
 refine aaB g ?_;intro u args ub atf S T W X i;obtain⟨x,l,rfl,j⟩:=oZ i;obtain⟨y,Z,rfl,o⟩:=oZ j;obtain⟨z,ar,rfl,p⟩:=oZ o;obtain⟨rfl,q⟩:=wV p;obtain⟨n,v,rfl,r⟩:=J3 q;obtain⟨k,m,rfl,t⟩:=x6 r;obtain⟨k',m',rfl,A⟩:=x6 t;obtain⟨B,C⟩:=jt A;obtain⟨D,E⟩:=jt C;obtain⟨F,G⟩:=jt E;obtain⟨H,I⟩:=jt G;obtain⟨J,K⟩:=jt I;obtain⟨L,b⟩:=jt K;rw[fd] at b;simp only[aw.ok.injEq] at b;obtain⟨rfl,rfl,rfl,rfl⟩:=b;obtain⟨rfl,_⟩:=pH B;obtain⟨rfl,_⟩:=pH D;have M:=dp F;have O:=dp H;subst M;subst O;have d:u5 (gR n v) 0<=700:=pn J;have Q:=gd L;have a:=aA0 d;rw[Q] at a;generalize u5 (gR n v) 0=N at d a;refine⟨rfl,rfl,rfl,[.string (e7 n v),.int .i64 10,.int .i64 32],.int .u64 N,.nilIface,rfl,?_,rfl,rfl,rfl,λc w a1=>?_⟩
 ·show aG.a0 [aG.bu (.int .u64 (intOf _)),_]=_;have:intOf (N+18446744073709551616)=N:=by unfold intOf;omega
  rw[this];rfl
 ·refine(h (e7 n v) (by rw[xK];have:=a.2;have a2:(gR n v).length=n:=xK n v;omega) N (by rw[pX];exact a.1) w).mono ?_;rintro e w' ⟨rfl,R⟩;refine⟨rfl,?_⟩;rcases R with rfl|rfl
  ·exact Below.refl _ _
  ·exact Lib.bytesWorld_below _ _ _
end
end
section
variable{n x y p q:Int}
section
variable[Tok] {u:Fn} {b:Nat}
def bA(n:Int):an:= .s (Lib.itoa n).length (oI (Lib.itoa n))
def b5(p q:Int):aB:=[ao 1,bA p,bA q,.s 0 0,.s 0 0,.s 0 0,.aE]
def dZ(n:Int):Prop:= -700<=n/\n<=700
theorem jk(p q:Int):(b5 p q).length=7:=rfl
theorem iY(p q:Int):b8 (b5 p q)=true:=by unfold b5;rw[cX];rfl
theorem dP(n:Int)(ob:ej)(f:jm):aD ob (bA n) f=f (bA n) []:=rfl
theorem aAV(n:Int)(b:Nat)(rk:List Nat):jP b rk (bA n)=true:=rfl
theorem ab2(k:an->aw):bq true (bA n) k=k (ao (Lib.itoa n).length):=by rw[cX];have e:bq true (bA n) k=k (.V .i64 (Nat.add 18446744073709551616 (Lib.itoa n).length)):=rfl;rw[e];congr 2;rw[Ct];omega
theorem Nj(h:dZ n)(k:an->aw):bY (bA n) (.s 1 0x30) k=k (.a9 (decide (n=0))):=by
 have d:(w2.all λn=>jH (Lib.itoa n).length (oI (Lib.itoa n)) 1 0x30==decide (n=0))=true:=by kernel_rfl
 have e:=M2.1 d n (y8 h);rw[<-eq_of_beq e];rfl
theorem Bc(h:dZ n)(k:an->aw):bY (bA n) (.s 1 0x31) k=k (.a9 (decide (n=1))):=by
 have d:(w2.all λn=>jH (Lib.itoa n).length (oI (Lib.itoa n)) 1 0x31==decide (n=1))=true:=by kernel_rfl
 have e:=M2.1 d n (y8 h);rw[<-eq_of_beq e];rfl
theorem Vo(h:dZ n):(Lib.itoa n).length<=4:=(R5 h).2
theorem ahG{a c:Int}(r: -100000<=a/\a<=100000)(t: -100000<=c/\c<=100000)(k:an->aw):c8 (fA .mul (ao a) (ao c)) k=k (ao (a*c)):=by
 have d: -10000000000<=a*c/\a*c<=10000000000:=by
  have w:(a*c).natAbs<=100000*100000:=by rw[JY];exact FE (by omega) (by omega)
  omega
 have e:fA .mul (ao a) (ao c)=some (ao (a*c)):=by
  rw[cX,cX,cX];have g:fA .mul (.V .i64 (a+18446744073709551616).toNat) (.V .i64 (c+18446744073709551616).toNat)=(if-18446744073709551616<=IntKind.i64.wrap (intOf (a+18446744073709551616).toNat*intOf (c+18446744073709551616).toNat) then some (.V .i64 (IntKind.i64.wrap (intOf (a+18446744073709551616).toNat*intOf (c+18446744073709551616).toNat)+18446744073709551616).toNat) else none):=rfl;have h:intOf (a+18446744073709551616).toNat=a:=by unfold intOf;omega
  have j:intOf (c+18446744073709551616).toNat=c:=by unfold intOf;omega
  have l:IntKind.i64.wrap (a*c)=a*c:=by
   generalize a*c=z at d;have o:IntKind.i64.wrap z=if(true&&decide (z%18446744073709551616≥9223372036854775808))=true then z%18446744073709551616-18446744073709551616 else z%18446744073709551616:=rfl;rw[o];by_cases A:0<=z
   ·rw[Ca (by rw[gy,fo];omega)];omega
   ·rw[y1 (by rw[gy,fo];omega)];omega
  rw[g,h,j,l,fS]
 rw[e];rfl
theorem Fu:(pQ:an)=ao 9:=by rw[cX];rfl
theorem arm:(Ui:an)=ao 18:=by rw[cX];rfl
structure Ms (u:Fn):Prop where
 Pd:∀n,dZ n->aK u 316 [bA n] (.a9 true)
 Rg:∀n,dZ n->aK u 317 [bA n,mQ,GC] (.a0 [ao n,.bu .nilIface])
 aep:∀n:Int,-1000000<=n/\n<=1000000->aK u 267 [ao n,mQ] (bA n)
theorem azV(H:Ms u)(g:dZ x)(h:dZ y){m:Int}(i:m=9\/m=18):∃s d,Dx u [bA x,bA y,ao m] 0 .nil= .ok (.a0 [ao x,ao y,.a9 true]) 0 s d:=by
 have j:=H.Pd x g;have k:=H.Pd y h;have l:=H.Rg x g;have o:=H.Rg y h;have r:=Vo g;have t:=Vo h;have e:∀z:Int,ao z≠an.undef:=λz=>by rw[cX];simp
 rw[Dx,vE,XY,ab2,hH,bk,fZ,ab2,hH,bk,NJ,dO,fZ,bg,dP,av,aT,hj,tF,QD,dO,fZ,bg,dP,av,aT,hj,tF,KA,dO,a6,MA,dP,av,aT,e2 _ _ (e _),e3 _ _ (e _),dP,av,aT,e2 _ _ (e _),e3 _ _ (e _),L5,b7,b7,gE,fO,av,av,av];exact b9
theorem afI(g:dZ x)(h:dZ y)(i:aK u 266 [bA x,bA y,ao 18] (.a0 [ao x,ao y,.a9 true]))(Hf:aK u 267 [ao (x+y),mQ] (bA (x+y))):∃s d,B2 u [bA x,bA y] 0 .nil= .ok (bA (x+y)) 0 s d:=by
 have e:∀z:Int,ao z≠an.undef:=λz=>by rw[cX];simp
 unfold dZ at g h;rw[B2,dE,abY,dP,dP,av,av,arm,aT,rq _ _ _ (e _),rr _ _ _ (e _),rN _ _ _ (e _),bL,VX,cK,b7,av,aT,QM,bj,dP,av];exact b9
theorem aye(g:dZ x)(h:dZ y)(i:aK u 266 [bA x,bA y,ao 9] (.a0 [ao x,ao y,.a9 true]))(Hf:aK u 267 [ao (x*y),mQ] (bA (x*y))):∃s d,Bh u [bA x,bA y] 0 .nil= .ok (bA (x*y)) 0 s d:=by
 have e:∀z:Int,ao z≠an.undef:=λz=>by rw[cX];simp
 unfold dZ at g h;rw[Bh,dE,acO,dP,dP,av,av,Fu,aT,rq _ _ _ (e _),rr _ _ _ (e _),rN _ _ _ (e _),bL,R6,ahG (by omega) (by omega),b7,av,aT,OH,bj,dP,av];exact b9
theorem aqh(H:aK u 316 [bA x] (.a9 true)):∃s d,C9 u [bA x] 0 .nil= .ok (bA x) 0 s d:=by rw[C9,dK,adv,bg,dP,av,aT,bL,NQ,bj,dP,av];exact b9
def Oq(u:Fn)(p q p' q':Int):Prop:=aK u 265 [bA p,bA q] (.a0 [bA p',bA q'])
theorem aiK(g:aK u 275 [bA p] (bA p))(h:aK u 275 [bA 1] (bA 1)):∃s d,Cf u [bA p,bA 1] 0 .nil= .ok (.a0 [bA p,bA 1]) 0 s d:=by
 have e:dZ 1:=by unfold dZ;omega
 rw[Cf,dE,XG,bg,dP,av,aT,bg,dP,av,aT,Nj e,bk,a6,abW,Bc e,bN,bL,Br,dP,dP,av,av];exact b9
theorem WI{p' q':Int}(H:Oq u p q p' q'):∃s d,BR u [bA p,bA q] 0 .nil= .ok (.agg (b5 p' q')) 0 s d:=by
 have j:aK u 265 [bA p,bA q] (.a0 [bA p',bA q']):=H;have g:∀f:aB->aw,cC 0 1 aS dx f=f [aS,(.s 0 0),(.s 0 0),(.s 0 0),(.s 0 0),(.s 0 0),.aE]:=λf=>rfl;have h:∀f:aB->aw,cC 1 1 (bA p') [aS,(.s 0 0),(.s 0 0),(.s 0 0),(.s 0 0),(.s 0 0),.aE] f=f [aS,bA p',(.s 0 0),(.s 0 0),(.s 0 0),(.s 0 0),.aE]:=λf=>rfl;have i:∀f:aB->aw,cC 2 1 (bA q') [aS,bA p',(.s 0 0),(.s 0 0),(.s 0 0),(.s 0 0),.aE] f=f (b5 p' q'):=λf=>by
  have:b5 p' q'=[aS,bA p',bA q',(.s 0 0),(.s 0 0),(.s 0 0),.aE]:=by unfold b5;rw[bK]
  rw[this];rfl
 have k:=iY p' q';have l:=jk p' q';have e:∀z:Int,bA z≠an.undef:=λz=>by unfold bA;simp
 rw[BR,dE,adT,de,TQ,ce,dP,dP,av,av,aT,e2 _ _ (e _),e3 _ _ (e _),g,h,i,hL,dc,adx,gh,be,bj,bm,av];exact b9
theorem YF:bA 1= .s 1 0x31:=by kernel_rfl
theorem afK:∃s d,E4 u [bA n] 0 .nil= .ok (.agg (b5 n 1)) 0 s d:=by
 have e:∀f:aB->aw,cC 0 1 aS dx f=f [aS,(.s 0 0),(.s 0 0),(.s 0 0),(.s 0 0),(.s 0 0),.aE]:=λf=>rfl;have g:∀f:aB->aw,cC 1 1 (bA n) [aS,(.s 0 0),(.s 0 0),(.s 0 0),(.s 0 0),(.s 0 0),.aE] f=f [aS,bA n,(.s 0 0),(.s 0 0),(.s 0 0),(.s 0 0),.aE]:=λf=>rfl;have h:∀f:aB->aw,cC 2 1 (.s 1 0x31) [aS,bA n,(.s 0 0),(.s 0 0),(.s 0 0),(.s 0 0),.aE] f=f (b5 n 1):=λf=>by
  have:b5 n 1=[aS,bA n,.s 1 0x31,(.s 0 0),(.s 0 0),(.s 0 0),.aE]:=by unfold b5;rw[bK,YF]
  rw[this];rfl
 have i:=iY n 1;have j:=jk n 1;rw[E4,dK,VW,de,e,g,h,hL,dc,Yc,gh,be,bj,bm,av];exact b9
theorem anA:∃s d,C6 u [.agg (b5 p q)] 0 .nil= .ok (.agg (b5 p q)) 0 s d:=by have e:=iY p q;have g:=jk p q;have eO:(b5 p q)[0+0]? =some (ao 1):=rfl;rw[C6,dK,RR,cy,de,abo,bp,bb,aH,bc,bK,dj,bN,bL,aH,be,dc,M1,gh,be,bj,bm,av];exact b9
section
variable{a c b' d' p' q':Int}
theorem axc(z:b'=1)(hd:d'=1)(e:aK u 209 [.agg (b5 a b')] (.agg (b5 a b')))(g:aK u 209 [.agg (b5 c d')] (.agg (b5 c d')))(A:aK u 274 [bA a,bA c] (bA (a+c)))(B:aK u 100 [bA (a+c)] (.agg (b5 (a+c) 1))):
 ∃s d,sq u [.agg (b5 a b'),.agg (b5 c d')] 0 .nil= .ok (.agg (b5 (a+c) 1)) 0 s d:=by
 have h:=jk a b';have i:=jk c d';have eV:=jk (a+c) 1;have j:=iY a b';have k:=iY c d';have C:=iY (a+c) 1;have l:(b5 a b')[0+1]? =some (bA a):=rfl;have o:(b5 a b')[0+2]? =some (bA b'):=rfl;have c1:(b5 c d')[0+1]? =some (bA c):=rfl;have r:(b5 c d')[0+2]? =some (bA d'):=rfl;have t:dZ b':=by unfold dZ;omega
 have w:dZ d':=by unfold dZ;omega
 generalize b5 a b'=x at e h j l o;generalize b5 c d'=y at g i k c1 r;rw[sq,dE,Ht,cy,cy,de,aJ,cH,aN,aH,be,H7,aV,aN,bm,av,aT,aJ,cH,aN,aH,be,aV,aN,bm,av,aT,cH,aN,pf,cH,aN,pf,HA,bp,bb,aH,bc,Bc t,bN,fi,bb,aH,bc,Bc w,bN,CR,dR,bL,S7,bp,bb,aH,bc,bp,bb,aH,bc,ce,dP,dP,av,av,aT,bg,dP,av,aT,dc,B1,gh,be,bj,bm,av];exact b9
theorem aDS(e:dZ b')(hd:dZ d')(A:b'≠1\/d'≠1)(h:aK u 209 [.agg (b5 a b')] (.agg (b5 a b')))(i:aK u 209 [.agg (b5 c d')] (.agg (b5 c d')))(B:aK u 211 [bA a,bA d'] (bA (a*d')))(C:aK u 211 [bA c,bA b'] (bA (c*b')))(D:aK u 274 [bA (a*d'),bA (c*b')] (bA (a*d'+c*b')))(E:aK u 211 [bA b',bA d'] (bA (b'*d')))(F:aK u 210 [bA (a*d'+c*b'),bA (b'*d')] (.agg (b5 p' q'))):
 ∃s d,sq u [.agg (b5 a b'),.agg (b5 c d')] 0 .nil= .ok (.agg (b5 p' q')) 0 s d:=by
 have j:=jk a b';have k:=jk c d';have eV:=jk p' q';have l:=iY a b';have o:=iY c d';have G:=iY p' q';have r:(b5 a b')[0+1]? =some (bA a):=rfl;have t:(b5 a b')[0+2]? =some (bA b'):=rfl;have c1:(b5 c d')[0+1]? =some (bA c):=rfl;have w:(b5 c d')[0+2]? =some (bA d'):=rfl;generalize b5 a b'=x at h j l r t;generalize b5 c d'=y at i k o c1 w;by_cases g:b'=1
 ·have z:d'≠1:=by omega
  rw[sq,dE,Ht,cy,cy,de,aJ,cH,aN,aH,be,H7,aV,aN,bm,av,aT,aJ,cH,aN,aH,be,aV,aN,bm,av,aT,cH,aN,pf,cH,aN,pf,HA,bp,bb,aH,bc,Bc e,pl g,fi,bb,aH,bc,Bc hd,GG z,CR,dR,a6,FK,bb,aJ,cH,aN,aH,bc,bb,aJ,cH,aN,aH,bc,aV,aV,aN,dP,dP,av,av,aT,K5,bb,aJ,cH,aN,aH,bc,bb,aJ,cH,aN,aH,bc,aV,aV,aN,dP,dP,av,av,aT,Nq,aV,aV,aN,dP,dP,av,av,aT,bb,aJ,cH,aN,aH,bc,bb,aJ,cH,aN,aH,bc,Mu,aV,aV,aN,dP,dP,av,av,aT,aV,aV,aN,dP,dP,av,av,aT,cH,aN,pf,B1,gh,be,bj,bm,av];exact b9
 ·rw[sq,dE,Ht,cy,cy,de,aJ,cH,aN,aH,be,H7,aV,aN,bm,av,aT,aJ,cH,aN,aH,be,aV,aN,bm,av,aT,cH,aN,pf,cH,aN,pf,HA,bp,bb,aH,bc,Bc e,GG g,iE,CR,dO,fQ,a6,FK,bb,aJ,cH,aN,aH,bc,bb,aJ,cH,aN,aH,bc,aV,aV,aN,dP,dP,av,av,aT,K5,bb,aJ,cH,aN,aH,bc,bb,aJ,cH,aN,aH,bc,aV,aV,aN,dP,dP,av,av,aT,Nq,aV,aV,aN,dP,dP,av,av,aT,bb,aJ,cH,aN,aH,bc,bb,aJ,cH,aN,aH,bc,Mu,aV,aV,aN,dP,dP,av,av,aT,aV,aV,aN,dP,dP,av,av,aT,cH,aN,pf,B1,gh,be,bj,bm,av];exact b9
theorem axK(e:aK u 209 [.agg (b5 a b')] (.agg (b5 a b')))(g:aK u 209 [.agg (b5 c d')] (.agg (b5 c d')))(t:aK u 211 [bA a,bA c] (bA (a*c)))(w:aK u 211 [bA b',bA d'] (bA (b'*d')))(z:aK u 210 [bA (a*c),bA (b'*d')] (.agg (b5 p' q'))):
 ∃s d,Fe u [.agg (b5 a b'),.agg (b5 c d')] 0 .nil= .ok (.agg (b5 p' q')) 0 s d:=by
 have h:=jk a b';have i:=jk c d';have eV:=jk p' q';have j:=iY a b';have k:=iY c d';have A:=iY p' q';have l:(b5 a b')[0+1]? =some (bA a):=rfl;have o:(b5 a b')[0+2]? =some (bA b'):=rfl;have c1:(b5 c d')[0+1]? =some (bA c):=rfl;have r:(b5 c d')[0+2]? =some (bA d'):=rfl;generalize b5 a b'=x at e h j l o;generalize b5 c d'=y at g i k c1 r;rw[Fe,dE,aaA,cy,cy,de,Ud,aJ,cH,aN,aH,be,aV,aN,bm,av,aT,aJ,cH,aN,aH,be,aV,aN,bm,av,aT,R9,cH,aN,pf,cH,aN,pf,bb,aJ,cH,aN,aH,bc,bb,aJ,cH,aN,aH,bc,ab5,aV,aV,aN,dP,dP,av,av,aT,bb,aJ,cH,aN,aH,bc,bb,aJ,cH,aN,aH,bc,WF,aV,aV,aN,dP,dP,av,av,aT,aV,aV,aN,dP,dP,av,av,aT,cH,aN,pf,acW,gh,be,bj,bm,av];exact b9
end
end
end
section
variable{p q n:Int}
section
variable[Tok] {u:Fn} {b:Nat}
def a8(neg:Bool)(m:Nat):Int:=if neg then-(m:Int) else m
theorem JT(n x y:Bool)(k:an->aw):sy n (.a9 x) (.a9 y) k=k (.a9 (xor n (x==y))):=by cases n<;>cases x<;>cases y<;>rfl
theorem Sl(z:Bool):an.a9 z≠an.undef:=by simp
def ME(u:Fn)(p q p' q':Int):Prop:=aK u 170 [bA p,bA q] (.a0 [bA p',bA q'])
theorem aAc{p' q':Int}(H:ME u p q p' q'):∃s d,CF u [bA p,bA q] 0 .nil= .ok (.agg (b5 p' q')) 0 s d:=by
 have j:aK u 170 [bA p,bA q] (.a0 [bA p',bA q']):=H;have g:∀f:aB->aw,cC 0 1 aS dx f=f [aS,(.s 0 0),(.s 0 0),(.s 0 0),(.s 0 0),(.s 0 0),.aE]:=λf=>rfl;have h:∀f:aB->aw,cC 1 1 (bA p') [aS,(.s 0 0),(.s 0 0),(.s 0 0),(.s 0 0),(.s 0 0),.aE] f=f [aS,bA p',(.s 0 0),(.s 0 0),(.s 0 0),(.s 0 0),.aE]:=λf=>rfl;have i:∀f:aB->aw,cC 2 1 (bA q') [aS,bA p',(.s 0 0),(.s 0 0),(.s 0 0),(.s 0 0),.aE] f=f (b5 p' q'):=λf=>by
  have:b5 p' q'=[aS,bA p',bA q',(.s 0 0),(.s 0 0),(.s 0 0),.aE]:=by unfold b5;rw[bK]
  rw[this];rfl
 have k:=iY p' q';have l:=jk p' q';have e:∀z:Int,bA z≠an.undef:=λz=>by unfold bA;simp
 rw[CF,dE,Vc,de,aax,ce,dP,dP,av,av,aT,e2 _ _ (e _),e3 _ _ (e _),g,h,i,hL,dc,Za,gh,be,bj,bm,av];exact b9
theorem Nx:∃s d,C5 u [.agg (b5 p q)] 0 .nil= .ok (.agg (b5 p q)) 0 s d:=by have e:=iY p q;have g:=jk p q;have eO:(b5 p q)[0+0]? =some (ao 1):=rfl;rw[C5,dK,aaj,cy,de,aaI,bp,bb,aH,bc,bK,dj,bN,bL,aH,be,dc,MB,gh,be,bj,bm,av];exact b9
section
variable{a c b' d' p' q':Int}
end
theorem aCn(H:aK u 157 [ao n] (bA n)):∃s d,BH u [ao n] 0 .nil= .ok (bA n) 0 s d:=by rw[BH,dK,RW,bg,b7,av,aT,aat,bj,dP,av];exact b9
theorem RF(e:aK u 101 [ao n] (bA n))(g:aK u 100 [bA n] (.agg (b5 n 1))):∃s d,FA u [ao n] 0 .nil= .ok (.agg (b5 n 1)) 0 s d:=by have h:=iY n 1;have i:=jk n 1;rw[FA,dK,Zf,de,bg,b7,av,aT,bg,dP,av,aT,dc,Rs,gh,be,bj,bm,av];exact b9
theorem Sp(e:dZ p):∃s d,C3 u [.agg (b5 p q)] 0 .nil= .ok (.a9 (decide (p=0))) 0 s d:=by have dB:(b5 p q)[0+1]? =some (bA p):=rfl;rw[C3,dK,VN,cy,bp,bb,aH,bc,Nj e,adh,bj,fO,av];exact b9
end
end
section
variable[Tok]
def kl:an:= .s 4 0x75736572
def Ii:an:= .s 3 0x6c656e
def Hp:an:= .s 4 0x74726565
def uF(i:Nat):an:= .s 1 (0x78+i)
def dW(i:Nat):aB:=yb kl (uF i)
def ec(i:Nat):aB:=if i<3 then dW i else if i<6 then bU bP Ii [dW (i-3)] else bU kl Hp [dW (i-6)]
def tW(k:Nat):an:=if k=0 then .aE else if k<10 then .aQ 11 [ec (k-1)] else .aQ 11 [ec ((k-10)/9),ec ((k-10) %9)]
def fb(k:Nat):aY:=if k=0 then[] else if k<10 then[ec (k-1)] else[ec ((k-10)/9),ec ((k-10) %9)]
def fT(k:Nat):Prop:=k<10\/(k<91/\(k-10)/9<=(k-10) %9)
def fW(k l:Nat):Nat:=if k=0 then l else if l=0 then k else 10+9*(min k l-1)+(max k l-1)
theorem rM(i:Nat):cq (ec i):=by
 unfold ec;split
 ·exact⟨rfl,rfl⟩
 ·split<;>exact⟨rfl,rfl⟩
theorem ru(k:Nat):nT (tW k) (fb k):=by
 unfold tW fb;split
 ·exact .inl ⟨rfl,rfl⟩
 ·split
  ·exact .inr ⟨rfl,by simp⟩
  ·exact .inr ⟨rfl,by simp⟩
theorem A1(k:Nat):∀t∈fb k,cq t:=by
 intro t a;unfold fb at a;split at a
 ·cases a
 ·split at a
  ·simp at a;subst a;exact rM _
  ·simp at a;rcases a with rfl|rfl<;>exact rM _
theorem oD(k:Nat):(fb k).length<=2:=by
 unfold fb;split
 ·simp
 ·split<;>simp
def ef(c:Rat):aB:=b5 c.num c.den
theorem aBM{o:aB}(a:b8 o=true){v:an}{l:aY}(b:nT v l):b8 (o++[v])=true:=by rw[oA a];rcases b with⟨rfl,_⟩|⟨rfl,_⟩<;>rfl
def acT(a:Fn->Prop)(S:Nat->Prop)(A:Nat->an)(L:Nat->aY)(h:∀k,nT (A k) (L k)):cr where
 num:=ef
 di:=A
 Y:=a
 s:=S
 len:=λc=>rfl
 pure:=λc k=>aBM (iY _ _) (h k)
 eU:=λc=>iY _ _
 IM:=λk=>by
  rcases h k with⟨e,_⟩|⟨e,_⟩
  ·exact .inl e
  ·exact .inr ⟨_,e⟩
def mi(a:Fn->Prop):cr:=acT a (λ_=>True) tW fb ru
end
section
variable{b q f ub:Nat} {atf s:b1} {o:e9} {res:an} {d:List Nat} {gl:eI} {P:Program}
section
variable[Tok]
noncomputable def GR(l:List UInt8)(k:an->aw):aw:=eF l.length λa=>eF (oI l) λv=>k (.s a v)
theorem al0(l:List UInt8)(k:an->aw):GR l k=k (Cw l):=by unfold GR;rw[fd,fd];rfl
def Qu(T q s:Nat):aB->Option (Option aB)
 |[.bu (.pointer none),c1]=>bif Nat.beq (Nat.mod s 65536) T then some (some [.bn q s 0,c1]) else none
 |[.bn a c 0,_]=>bif Nat.beq a q&&Nat.beq c s then some none else none
 |_=>none
noncomputable def Rz(q s:Nat)(b:Nat)(atf:b1)(x:Option (Option aB)):aw:=
 @Option.rec (Option aB) (λ_=>aw) .ax (λy=> @Option.rec aB (λ_=>aw) (.ok (.a0 []) b atf []) (λcs=> .ok (.a0 []) b (atf.set q (.ae (.box s cs))) [q]) y) x
noncomputable def L7(T:Nat):jq:=λ_ l b atf=>aZ l λx l=>bV l (nE x (λ_ _=> .ax) (λq s o=>bf (Nat.beq o 0) (bf (Nat.ble (Nat.succ q) b)
 (nA (atf.get q).ag λa cs=>bf (Nat.beq s a) (Rz q s b atf (Qu T q s cs)) .ax) .ax) .ax) (λ_ _ _ _=> .ax))
theorem Ds(h:q<b):hq b atf q=eJ (atf.get q).ag:=by show eJ (cE b atf q)=_;rw[ic h]
theorem RX(h:q<b):hq b (atf.set q o)=dl (hq b atf) q (eJ o.ag):=by
 funext k;by_cases a:k<b
 ·rw[Ds a,b1.zN];by_cases e:k=q
  ·subst e;rw[y1 rfl,iM]
  ·rw[Ca e,ir _ _ e,Ds a]
 ·have e:k≠q:=by omega
  rw[ir _ _ e];show eJ (cE b _ k)=eJ (cE b _ k);rw[jz,jz]
theorem Vv{k:Nat}(h:k<b)(e:k≠q):cE b (atf.set q o) k=cE b atf k:=by rw[ic h,ic h,b1.zN,Ca e]
theorem aeF{x:an}{e:aB->Nat->aw}{f:Nat->Nat->Nat->aw}{g:Nat->Nat->Nat->Nat->aw}(h:nE x e f g= .ok res ub s d)(c:∀cs o,e cs o= .ax)(j:∀k s i o,g k s i o= .ax):
 ∃k s o,x= .bn k s o/\f k s o= .ok res ub ‹b1› d:=by
 rcases yI (by rw[h];simp:nE x e f g≠ .ax) with⟨cs,o,rfl,a⟩|⟨k,s,o,rfl,a⟩|⟨k,s,i,o,rfl,a⟩
 ·rw[a,c] at h;cases h
 ·exact⟨k,s,o,rfl,by rw[<-a];exact h⟩
 ·rw[a,j] at h;cases h
theorem TB{o:dM}{f:Nat->aB->aw}(h:nA o f= .ok res ub s d):∃a cs,o= .box a cs/\f a cs= .ok res ub s d:=by obtain⟨a,cs,e,c⟩:=JA (by rw[h];simp:nA o f≠ .ax);exact⟨a,cs,e,by rw[<-c];exact h⟩
theorem avw{T:Nat}(i:Enters P f)
 (n:∀b w,w.cell? ⟨b,0,none⟩=some (.pointer (some ⟨b,0,none⟩))->Calls P f #[.pointer (some ⟨b,0,none⟩)] w λe w'=>e= .returned (.tuple #[])/\w'=w)
 (p:∀b w,w.cell? ⟨b,0,none⟩=some (.pointer none)->w.shape? b=some (T,2)->w.frozen? ⟨b,0,none⟩=false->
  Calls P f #[.pointer (some ⟨b,0,none⟩)] w λe w'=>e= .returned (.tuple #[])/\w'=w.setCell ⟨b,0,none⟩ (.pointer (some ⟨b,0,none⟩))):i5 gl P f (L7 T):=by
 intro u _ args ub atf res O Q R r;obtain⟨x,l,rfl,t⟩:=oZ r;obtain⟨rfl,z⟩:=wV t;obtain⟨q,s,o,rfl,A⟩:=aeF z (λ_ _=>rfl) (λ_ _ _ _=>rfl);obtain⟨B,C⟩:=jt A;obtain⟨D,E⟩:=jt C;obtain⟨F,cs,G,H⟩:=TB E;obtain⟨I,c⟩:=jt H;have J:o=0:=dp B;have K:s=F:=dp I;have j:q<ub:=pn D;subst J K;have hd:hq ub atf q= .box s (gG cs):=by rw[Ds j,G];rfl
 unfold Rz at c;cases a:Qu T q s cs with
 |none=>rw[a] at c;cases c
 |some y=>
  rw[a] at c;unfold Qu at a;split at a
  ·rename_i c1;cases g:Nat.beq (Nat.mod s 65536) T with
   |false=>rw[g] at a;cases a
   |true=>rw[g] at a;simp only[lR,O5] at a;subst a;change (.ok (.a0 []) ub (atf.set q (.ae (.box s [.bn q s 0,c1]))) [q]:aw)=_ at c;simp only[aw.ok.injEq] at c;obtain⟨rfl,rfl,rfl,rfl⟩:=c;refine⟨?_,λk h L=>Vv h (λe=>L (by rw[e];exact List.mem_singleton.2 rfl)),λk h=>by simp[an.cR] at h⟩;rw[RX j];exact aoL i p (c1:=bi c1) (by exact dp g) hd
  ·rename_i M N c1;cases g:Nat.beq M q&&Nat.beq N s with
   |false=>rw[g] at a;cases a
   |true=>rw[g] at a;simp only[lR,O5] at a;subst a;simp only[Hi,IY] at g;obtain⟨rfl,rfl⟩:=g;change (.ok (.a0 []) ub atf []:aw)=_ at c;simp only[aw.ok.injEq] at c;obtain⟨rfl,rfl,rfl,rfl⟩:=c;exact⟨aA5 i n (c1:=bi c1) hd,λ_ _ _=>rfl,λk h=>by simp[an.cR] at h⟩
  ·cases a
def Ce:aY->Option (List UInt8)
 |[]=>some []
 |[.V .u8 n]::r=>bif Nat.ble 18446744073709551616 n&&Nat.ble n 18446744073709551871 then(match Ce r with|some l=>some (UInt8.ofNat (Nat.sub n 18446744073709551616)::l)|none=>none) else none
 |_=>none
theorem Wv:∀{es:aY} {l:List UInt8},Ce es=some l->km es=l.map λc=>[aG.bu (.int .u8 c.toNat)]
 |[],l,h=>by simp only[Ce,O5] at h;subst h;rfl
 |e::r,l,h=>by
  unfold Ce at h;split at h
  ·rename_i g;cases g
  ·rename_i n k g;cases g;cases a:Nat.ble 18446744073709551616 n&&Nat.ble n 18446744073709551871 with
   |false=>rw[a] at h;cases h
   |true=>
    rw[a] at h;simp only[lR] at h;split at h
    ·rename_i p i;cases h;have j:=Wv i;simp only[Hi] at a;have t:=pn a.1;have u:=pn a.2;rw[mB,mG,<-mB,j];simp only[mG,gG,bi,intOf];congr 4;have e:(UInt8.ofNat (Nat.sub n 18446744073709551616)).toNat=n-18446744073709551616:=by have:Nat.sub n 18446744073709551616=n-18446744073709551616:=rfl;rw[this];simp;omega
     rw[e];omega
    ·cases h
  ·cases h
noncomputable def ZS(e b:Nat)(atf:b1)(cs:aB):aw:=
 @Option.rec (Nat×List UInt8×Nat) (λ_=>aw) .ax (λp=>GR p.2.1 λr=> .ok r b (atf.set p.1 (.ae (.ax p.2.2))) [p.1])
  (match cs with
   |[_,.az a aM 0 len]=>(match(atf.get a).ag with
    | .az g h 1 es _=>(match Ce es with
      |some (c::l)=>bif Nat.beq aM g&&Nat.beq h e&&Nat.beq len (List.length (c::l))&&Nat.ble (Nat.succ a) b then some (a,c::l,aM) else none
      |_=>none)
    |_=>none)
   |_=>none)
noncomputable def Qx(e:Nat):jq:=λ_ l b atf=>aZ l λx l=>bV l (nE x (λ_ _=> .ax) (λq s o=>bf (Nat.beq o 0) (bf (Nat.ble (Nat.succ q) b)
 (nA (atf.get q).ag λa cs=>bf (Nat.beq s a) (ZS e b atf cs) .ax) .ax) .ax) (λ_ _ _ _=> .ax))
theorem awh{e:Nat}(z:Enters P f)(A:∀(b r g:Nat) (p:Value) (n:Array Value) (T:TypeId) (l:List UInt8) (w:World),l≠[]->w.heap[b]? =some (.cells #[p,.slice (some ⟨r,0,none⟩) l.length g] T (0,0))->
 w.heap[r]? =some (.cells n e (0,0))->l.length<=g->g<=maxLen->n.size=g->(∀(j:Nat) (x:UInt8),l[j]? =some x->n[j]? =some (.int .u8 x.toNat))->
 Calls P f #[.pointer (some ⟨b,0,none⟩)] w λe w'=>e= .returned (.string ⟨l.toArray⟩)/\w'=w.drew.freeze ⟨r,0,none⟩ l.length):i5 gl P f (Qx e):=by
 intro u _ args ub atf res a1 a2 a3 B;obtain⟨x,l,rfl,C⟩:=oZ B;obtain⟨rfl,D⟩:=wV C;obtain⟨q,s,o,rfl,E⟩:=aeF D (λ_ _=>rfl) (λ_ _ _ _=>rfl);obtain⟨F,G⟩:=jt E;obtain⟨H,I⟩:=jt G;obtain⟨J,cs,K,L⟩:=TB I;obtain⟨M,a⟩:=jt L;have N:o=0:=dp F;have O:s=J:=dp M;have Q:q<ub:=pn H;subst N O;have hd:hq ub atf q= .box s (gG cs):=by rw[Ds Q,K];rfl
 unfold ZS at a;split at a
 ·rename_i c0 h aM len;split at a
  ·rename_i R S es as0 W;split at a
   ·rename_i c l X;cases i:Nat.beq aM R&&Nat.beq S e&&Nat.beq len (List.length (c::l))&&Nat.ble (Nat.succ h) ub with
    |false=>rw[i] at a;cases a
    |true=>
     rw[i] at a;simp only[Hi,IY] at i;obtain⟨⟨⟨rfl,rfl⟩,Z⟩,ar⟩:=i;have y:h<ub:=pn ar;change GR (c::l) (λr=> .ok r ub (atf.set h (.ae (.ax aM))) [h])=_ at a;rw[al0] at a;simp only[aw.ok.injEq] at a;obtain⟨rfl,rfl,rfl,rfl⟩:=a;refine⟨?_,λk t hn=>Vv t (λe=>hn (by rw[e];exact List.mem_singleton.2 rfl)),λk t=>by simp[Cw,an.cR,an.eg,an.key,an.cf] at t⟩;rw[RX y,Q1];refine afd z A (c0:=bi c0) (l:=c::l) (as0:=as0) (by simp) ?_ ?_
     ·rw[hd,Z];rfl
     ·rw[Ds y,W,<-Wv X];rfl
   ·cases a
  ·cases a
 ·cases a
end
end
section
open Go.Proofs
noncomputable def DT(x:an):Bool:= @an.rec (λ_=>Bool) (λ_=>PUnit) (λ_=>PUnit) false (λ_=>false) (λ_ _=>false) (λ_ _=>false) true (λ_=>false) (λc _=>b8 c) (λ_ _=>false) (λ_ _ _=>true) (λ_ _ _=>false) (λ_ _ _=>false) (λ_ _ _ _=>false) (λ_ _ _ _=>false) (λ_ _=>false) (λ_ _ _=>false) (λ_=>false) PUnit.unit (λ_ _ _ _=>PUnit.unit) PUnit.unit (λ_ _ _ _=>PUnit.unit) x
noncomputable def rm(l:aB):Bool:= @List.rec an (λ_=>Bool) true (λx _ a=> @Bool.rec (λ_=>Bool) false a (DT x)) l
noncomputable def me(g:jq):jq:=λu args b a=>bf (rm args) (@aw.rec (λ_=>aw) .ax (λr ub _ _=>bf (Nat.beq ub 0) (.ok r b a []) .ax) (g u args 0 .nil)) .ax
section
variable[Tok]
def Gf:lZ->List lZ->List lZ
 | .leaf f g,a=> .leaf f g::a
 | .node _ l r,a=>Gf l (Gf r a)
def JJ(gl:eI)(P:Program):List lZ->Prop
 |[]=>True
 |x::r=>qf gl P x/\JJ gl P r
theorem MX{gl:eI}{P:Program}:∀{T:lZ} {a:List lZ},JJ gl P (Gf T a)->qf gl P T/\JJ gl P a
 | .leaf _ _,_,h=>h
 | .node _ l r,_,h=>by obtain⟨b,c⟩:=MX (T:=l) h;obtain⟨d,e⟩:=MX (T:=r) c;exact⟨⟨b,d⟩,e⟩
noncomputable abbrev B7(d:Cu):lZ:= .leaf d.f (d.den Tryz.prog)
noncomputable def Co(g dB:jq):lZ:= .node 246 (.node 159 (.node 100 (.node 70 (.node 64 (.node 36 (.node 22 (.node 19 (.node 9 (.node 7 (.node 6 (.leaf 6 yG) (B7 d7)) (.node 8 (B7 d8) (.leaf 9 At))) (.node 11 (.node 10 (.leaf 10 Yr) (B7 d11)) (.node 16 (.leaf 16 xu) (.node 18 (.leaf 18 IA) (.leaf 19 J8))))) (.node 21 (.node 20 (.leaf 20 HB) (B7 d21)) (.leaf 22 TA))) (.node 28 (.node 26 (.node 24 (.node 23 (.leaf 23 Tf) (.leaf 24 wa)) (.node 25 (B7 d25) (B7 d26))) (.node 27 (B7 d27) (B7 d28))) (.node 34 (.node 31 (.node 30 (.leaf 30 za) (.leaf 31 DP)) (.node 32 (.leaf 32 yE) (.node 33 (.leaf 33 DE) (.leaf 34 E7)))) (.node 35 (.leaf 35 qU) (.leaf 36 Da))))) (.node 45 (.node 39 (.node 37 (.leaf 37 FA) (.node 38 (B7 d38) (.leaf 39 BI))) (.node 41 (.node 40 (B7 d40) (B7 d41)) (.node 43 (.node 42 (B7 d42) (B7 d43)) (.node 44 (B7 d44) (B7 d45))))) (.node 60 (.node 57 (.node 56 (.leaf 56 G3) (.leaf 57 z5)) (.node 59 (.leaf 59 Eh) (.leaf 60 Fj))) (.node 62 (B7 d62) (.node 63 (.leaf 63 uq) (.leaf 64 Jz)))))) (.node 65 (.leaf 65 n3) (.node 66 (.leaf 66 ZC) (.node 67 (B7 d67) (.node 69 (.node 68 (.leaf 68 r9) (.leaf 69 g)) (.leaf 70 dB)))))) (.node 71 (.leaf 71 Se) (.node 81 (.node 80 (.node 75 (.node 73 (.node 72 (B7 d72) (B7 d73)) (.node 74 (B7 d74) (.leaf 75 aaU))) (.node 77 (.node 76 (B7 d76) (B7 d77)) (.node 78 (B7 d78) (.node 79 (B7 d79) (B7 d80))))) (.leaf 81 AX)) (.node 97 (.node 87 (.node 86 (.node 85 (.leaf 85 aau) (B7 d86)) (B7 d87)) (.node 94 (B7 d94) (.node 96 (.leaf 96 uz) (.leaf 97 yA)))) (.node 99 (.node 98 (.leaf 98 SX) (.leaf 99 DG)) (.leaf 100 E4)))))) (.node 129 (.node 125 (.node 108 (.node 105 (.node 101 (.leaf 101 BH) (B7 d105)) (.node 106 (.leaf 106 ES) (.node 107 (.leaf 107 Dz) (B7 d108)))) (.node 115 (.node 112 (.node 110 (.node 109 (.leaf 109 Di) (B7 d110)) (.node 111 (B7 d111) (.leaf 112 Im))) (.node 113 (.leaf 113 C5) (.node 114 (.leaf 114 CF) (.leaf 115 GX)))) (.node 120 (.node 117 (.node 116 (.leaf 116 yo) (.leaf 117 uL)) (.node 118 (.leaf 118 w1) (.node 119 (.leaf 119 yK) (.leaf 120 y9)))) (.node 122 (.node 121 (.leaf 121 BY) (.leaf 122 acB)) (.node 123 (.leaf 123 Cd) (B7 d125)))))) (.node 127 (.leaf 127 adm) (.node 128 (B7 d128) (.leaf 129 zA)))) (.node 139 (.node 130 (.leaf 130 zD) (.node 135 (.node 134 (.node 132 (.node 131 (.leaf 131 yu) (B7 d132)) (.node 133 (B7 d133) (B7 d134))) (B7 d135)) (.node 136 (B7 d136) (.node 137 (B7 d137) (.node 138 (B7 d138) (B7 d139)))))) (.node 147 (.node 141 (B7 d141) (.node 145 (B7 d145) (B7 d147))) (.node 148 (B7 d148) (.node 153 (.node 152 (.node 150 (B7 d150) (.node 151 (B7 d151) (B7 d152))) (B7 d153)) (.node 156 (.node 154 (.leaf 154 lV) (.node 155 (.leaf 155 C0) (.leaf 156 CV))) (.node 158 (.node 157 (.leaf 157 Iu) (B7 d158)) (B7 d159))))))))) (.node 195 (.node 171 (.node 169 (.node 168 (.node 162 (.node 160 (.leaf 160 Fe) (.node 161 (B7 d161) (B7 d162))) (.node 165 (.node 163 (B7 d163) (.node 164 (B7 d164) (B7 d165))) (.node 166 (B7 d166) (.node 167 (B7 d167) (B7 d168))))) (.leaf 169 A6)) (.node 170 (.leaf 170 abV) (.leaf 171 abJ))) (.node 180 (.node 178 (.node 172 (B7 d172) (.node 175 (.node 174 (.node 173 (B7 d173) (.leaf 174 DC)) (B7 d175)) (.node 176 (B7 d176) (.node 177 (.leaf 177 Bv) (.leaf 178 H3))))) (.node 179 (.leaf 179 Vf) (.leaf 180 aea))) (.node 193 (.node 185 (.node 183 (.node 182 (.node 181 (.leaf 181 xQ) (.leaf 182 uO)) (.leaf 183 (me xx))) (.node 184 (.leaf 184 v4) (.leaf 185 Fk))) (.node 188 (.node 187 (.node 186 (.leaf 186 AL) (.leaf 187 adr)) (B7 d188)) (.node 191 (.node 189 (.leaf 189 GS) (.node 190 (.leaf 190 Aq) (.leaf 191 yX))) (.node 192 (.leaf 192 F1) (B7 d193))))) (.leaf 195 Ul)))) (.node 219 (.node 197 (.node 196 (.leaf 196 RS) (B7 d197)) (.node 205 (.node 198 (B7 d198) (.node 200 (.node 199 (B7 d199) (B7 d200)) (.node 202 (B7 d202) (.node 204 (.leaf 204 BA) (.leaf 205 xJ))))) (.node 211 (.node 209 (.node 208 (.node 207 (B7 d207) (B7 d208)) (.leaf 209 C6)) (.node 210 (.leaf 210 BR) (.leaf 211 Bh))) (.node 214 (.node 212 (.leaf 212 XZ) (.node 213 (.leaf 213 C3) (B7 d214))) (.node 218 (.node 216 (.node 215 (.leaf 215 sq) (.leaf 216 aaE)) (.node 217 (B7 d217) (B7 d218))) (.leaf 219 ZJ)))))) (.node 229 (.node 223 (.node 220 (.leaf 220 RY) (.node 221 (B7 d221) (.leaf 223 abB))) (.node 228 (.node 226 (.node 224 (.leaf 224 wP) (.node 225 (.leaf 225 aeR) (.leaf 226 HU))) (.node 227 (B7 d227) (B7 d228))) (.leaf 229 Re))) (.node 230 (.leaf 230 abK) (.node 236 (.node 233 (.node 232 (.node 231 (.leaf 231 zP) (.leaf 232 wS)) (.leaf 233 qK)) (.node 234 (.leaf 234 xC) (.node 235 (B7 d235) (.leaf 236 v9)))) (.node 240 (.node 238 (.node 237 (.leaf 237 (me vO)) (.leaf 238 vH)) (.node 239 (.leaf 239 (me Fb)) (.leaf 240 vv))) (.node 242 (.node 241 (.leaf 241 CI) (B7 d242)) (.node 243 (.leaf 243 xp) (.node 244 (B7 d244) (.node 245 (.leaf 245 xU) (.leaf 246 zh)))))))))))) (.node 295 (.node 274 (.node 248 (.node 247 (.leaf 247 aaM) (.leaf 248 Xw)) (.node 255 (.node 249 (.leaf 249 aj1) (.node 250 (.leaf 250 Ve) (.node 251 (B7 d251) (.node 254 (B7 d254) (B7 d255))))) (.node 261 (.node 258 (.node 256 (B7 d256) (.node 257 (B7 d257) (B7 d258))) (.node 260 (.node 259 (B7 d259) (B7 d260)) (B7 d261))) (.node 267 (.node 265 (.node 264 (.node 262 (.leaf 262 zK) (B7 d264)) (.leaf 265 Cf)) (.node 266 (.leaf 266 Dx) (.leaf 267 FZ))) (.node 271 (.node 269 (.node 268 (.leaf 268 afh) (.leaf 269 ait)) (.node 270 (B7 d270) (.leaf 271 Ec))) (.node 272 (.leaf 272 SD) (.node 273 (B7 d273) (.leaf 274 B2)))))))) (.node 294 (.node 292 (.node 277 (.node 275 (.leaf 275 C9) (.node 276 (.leaf 276 R8) (.leaf 277 VJ))) (.node 286 (.node 281 (.node 279 (.node 278 (.leaf 278 abt) (.leaf 279 uj)) (.leaf 281 wO)) (.node 284 (.node 283 (B7 d283) (.leaf 284 xM)) (.node 285 (.leaf 285 uZ) (.leaf 286 wW)))) (.node 288 (.node 287 (.leaf 287 abd) (.leaf 288 I0)) (B7 d292)))) (.leaf 294 RN)) (.leaf 295 VM))) (.node 301 (.node 298 (.node 297 (.leaf 297 ajY) (.leaf 298 VE)) (.node 299 (.leaf 299 ajW) (.leaf 301 aeQ))) (.node 318 (.node 308 (.node 303 (.node 302 (B7 d302) (.leaf 303 aj3)) (.node 307 (.node 306 (.node 305 (B7 d305) (B7 d306)) (B7 d307)) (B7 d308))) (.node 317 (.node 315 (.node 313 (.leaf 313 air) (.node 314 (.leaf 314 aiB) (B7 d315))) (.node 316 (.leaf 316 SR) (.leaf 317 NH))) (.leaf 318 U4))) (.node 352 (.node 339 (.node 328 (.node 324 (.node 321 (.node 319 (.leaf 319 Mz) (.node 320 (.leaf 320 S2) (.leaf 321 Xb))) (.node 323 (.node 322 (.leaf 322 St) (.leaf 323 (Qx 5))) (.leaf 324 D5))) (.node 325 (.leaf 325 R2) (.node 326 (.leaf 326 Sw) (B7 d328)))) (.node 331 (.leaf 331 Dd) (.node 335 (.node 334 (.leaf 334 Pz) (.leaf 335 vV)) (.node 336 (.leaf 336 Fv) (B7 d339))))) (.node 349 (.node 340 (B7 d340) (.node 341 (B7 d341) (.node 347 (.leaf 347 aib) (.leaf 349 aiC)))) (.leaf 352 U0))) (.node 362 (.node 355 (.node 354 (.leaf 354 (L7 357)) (.leaf 355 Z9)) (.node 358 (.leaf 358 C4) (.node 361 (.leaf 361 af9) (.leaf 362 Zc)))) (.node 367 (.leaf 367 V8) (.leaf 372 CQ)))))))
noncomputable def bD:lZ:=Co (d69.den Tryz.prog) (d70.den Tryz.prog)
end
end
section
variable{a b:Bool}
noncomputable def r7(x:an)(d:Bool->Bool)(g:IntKind->Nat->Bool)(h:Nat->Nat->Bool)(fn:Bool)(i:Value->Bool)(j k:aB->Bool)(l:Nat->aY->Bool)(n:Nat->Bool):Bool:=
 @an.rec (λ_=>Bool) (λ_=>PUnit) (λ_=>PUnit) false d g h fn i (λc _=>j c) (λc _=>k c) (λs e _=>l s e) (λ_ _ _=>false) (λ_ _ _=>false) (λ_ _ _ _=>false) (λ_ _ _ _=>false) (λ_ _=>false) (λ_ _ _=>false) n PUnit.unit (λ_ _ _ _=>PUnit.unit) PUnit.unit (λ_ _ _ _=>PUnit.unit) x
def gq{α:Type}(_:α):Bool:=false
def js{α c:Type}(_:α)(_:c):Bool:=false
def Eg:Value->Bool
 | .nilIface=>true
 |_=>false
theorem aeS{v:Value}(h:Eg v=true):v= .nilIface:=by cases v<;>first|rfl|cases h
noncomputable def abG(a b:Bool):Bool:= @Bool.rec (λ_=>Bool) (hM b) b a
theorem anb(h:abG a b=true):a=b:=by cases a<;>cases b<;>first|rfl|cases h
noncomputable def Jp(a:Bool)(y:an):Bool:=r7 y (abG a) js js false gq gq gq js gq
noncomputable def JX(k:IntKind)(n:Nat)(y:an):Bool:=r7 y gq (λc d=>cS (lQ k c) (Nat.beq n d)) js false gq gq gq js gq
noncomputable def Ke(l n:Nat)(y:an):Bool:=r7 y gq js (λc d=>cS (Nat.beq l c) (Nat.beq n d)) false gq gq gq js gq
noncomputable def J7(y:an):Bool:=r7 y gq js js true gq gq gq js gq
noncomputable def Ki(v:Value)(y:an):Bool:=r7 y gq js js false (λc=>cS (Eg v) (Eg c)) gq gq js gq
noncomputable def Iz(_:aB)(c:aB->Bool)(y:an):Bool:=r7 y gq js js false gq c gq js gq
noncomputable def If(_:aB)(c:aB->Bool)(y:an):Bool:=r7 y gq js js false gq gq c js gq
noncomputable def Ju(sz:Nat)(_:aY)(c:aY->Bool)(y:an):Bool:=r7 y gq js js false gq gq gq (λs e=>cS (Nat.beq sz s) (c e)) gq
noncomputable def J2(i:Nat)(y:an):Bool:=r7 y gq js js false gq gq gq js (Nat.beq i)
noncomputable def Af{α:Type}(l:List α):Bool:= @List.rec α (λ_=>Bool) true (λ_ _ _=>false) l
noncomputable def AC{α:Type}(_:α)(_:List α)(c:α->Bool)(sT:List α->Bool)(l:List α):Bool:= @List.rec α (λ_=>Bool) false (λh t _=>cS (c h) (sT t)) l
abbrev sY:an->Type:=λ_=>an->Bool
abbrev wy:aB->Type:=λ_=>aB->Bool
abbrev LF:aY->Type:=λ_=>aY->Bool
noncomputable def vS(x:an):an->Bool:=
 @an.rec sY wy LF gq Jp JX Ke J7 Ki Iz If Ju (λ_ _ _ _=>false) (λ_ _ _ _=>false) (λ_ _ _ _ _=>false) (λ_ _ _ _ _=>false) (λ_ _ _=>false) (λ_ _ _ _=>false) J2 Af AC Af AC x
noncomputable def Dt(x:aB):aB->Bool:=
 @an.rec_1 sY wy LF gq Jp JX Ke J7 Ki Iz If Ju (λ_ _ _ _=>false) (λ_ _ _ _=>false) (λ_ _ _ _ _=>false) (λ_ _ _ _ _=>false) (λ_ _ _=>false) (λ_ _ _ _=>false) J2 Af AC Af AC x
noncomputable def Gn(x:aY):aY->Bool:=
 @an.rec_2 sY wy LF gq Jp JX Ke J7 Ki Iz If Ju (λ_ _ _ _=>false) (λ_ _ _ _=>false) (λ_ _ _ _ _=>false) (λ_ _ _ _ _=>false) (λ_ _ _=>false) (λ_ _ _ _=>false) J2 Af AC Af AC x
theorem sW(h:cS a b=true):a=true/\b=true:=by cases a<;>cases b<;>first|exact⟨rfl,rfl⟩|cases h
theorem alm{k c:IntKind}(h:lQ k c=true):k=c:=by cases k<;>cases c<;>first|rfl|exact absurd h (by simp[lQ,Gr])
theorem RA(x:an):∀y,vS x y=true->x=y:=by
 refine @an.rec (λx=>∀y,vS x y=true->x=y) (λl=>∀d,Dt l d=true->l=d) (λl=>∀d,Gn l d=true->l=d)
  (λy h=>by cases h) (λa y h=>?_) (λk n y h=>?_) (λl n y h=>?_) (λy h=>?_) (λv y h=>?_) (λcs e y h=>?_) (λcs e y h=>?_) (λsz es e y h=>?_)
  (λ_ _ _ y h=>by cases h) (λ_ _ _ y h=>by cases h) (λ_ _ _ _ y h=>by cases h) (λ_ _ _ _ y h=>by cases h) (λ_ _ y h=>by cases h) (λ_ _ _ y h=>by cases h) (λi y h=>?_)
  (λl h=>?_) (λa l e p d h=>?_) (λl h=>?_) (λa l e p d h=>?_) x
 ·change Jp a y=true at h;cases y with
  |a9 c=>rw[anb (a:=a) (b:=c) h]
  |_=>cases h
 ·change JX k n y=true at h;cases y with
  |V t q=>obtain⟨g,o⟩:=sW (a:=lQ k t) (b:=Nat.beq n q) h;rw[alm g,dp o]
  |_=>cases h
 ·change Ke l n y=true at h;cases y with
  |s d q=>obtain⟨g,o⟩:=sW (a:=Nat.beq l d) (b:=Nat.beq n q) h;rw[dp g,dp o]
  |_=>cases h
 ·change J7 y=true at h;cases y<;>first|(cases h;done)|rfl
 ·change Ki v y=true at h;cases y with
  |bu u=>obtain⟨g,o⟩:=sW (a:=Eg v) (b:=Eg u) h;rw[aeS g,aeS o]
  |_=>cases h
 ·change Iz cs (Dt cs) y=true at h;cases y with
  |agg c=>rw[e c h]
  |_=>cases h
 ·change If cs (Dt cs) y=true at h;cases y with
  |a0 c=>rw[e c h]
  |_=>cases h
 ·change Ju sz es (Gn es) y=true at h;cases y with
  |aQ w asH=>obtain⟨g,o⟩:=sW (a:=Nat.beq sz w) (b:=Gn es asH) h;rw[dp g,e asH o]
  |_=>cases h
 ·change J2 i y=true at h;cases y with
  |tok j=>rw[dp (n:=i) (m:=j) h]
  |_=>cases h
 ·cases l with
  |nil=>rfl
  |cons _ _=>cases h
 ·cases d with
  |nil=>cases h
  |cons b r=>change cS (vS a b) (Dt l r)=true at h;rw[e _ (sW h).1,p _ (sW h).2]
 ·cases l with
  |nil=>rfl
  |cons _ _=>cases h
 ·cases d with
  |nil=>cases h
  |cons b r=>change cS (Dt a b) (Gn l r)=true at h;rw[e _ (sW h).1,p _ (sW h).2]
noncomputable def dy(a:aw)(r:an):Bool:= @aw.rec (λ_=>Bool) false (λc ub _ _=>cS (Nat.beq ub 0) (vS r c)) a
theorem eN{a:aw}{r:an}(h:dy a r=true):∃s d,a= .ok r 0 s d:=by
 cases a with
 |ax=>cases h
 |ok c ub s d=>obtain⟨e,g⟩:=sW (a:=Nat.beq ub 0) (b:=vS r c) h;have i:=dp e;have j:=RA _ _ g;subst i;subst j;exact⟨s,d,rfl⟩
end
end Go.Hf

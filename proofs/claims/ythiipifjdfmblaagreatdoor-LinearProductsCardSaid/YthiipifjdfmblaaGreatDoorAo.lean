import Derived.Test.YthiipifjdfmblaaGreatDoorAn
import Derived.Test.YthiipifjdfmblaaGreatDoorAg
import Derived.Lib.Bytealg
import Derived.Lib.ItoaNum
import Derived.Lib.ParseIntB
import Derived.Lib.AtoiErrMem
import Derived.KernelRfl
set_option linter.all false
set_option maxRecDepth 100000
namespace Go.Hf
open Go.RowKit
section
variable{x y:aB} {I J:aY}
section
variable[Tok] {u:Fn} {b:Nat}
theorem li(a c d e:Nat)(k:an->aw):eQ (.s a c) (.s d e) k=k (.F (hM (jH a c d e))):=rfl
theorem OR(a c d e x y g i:Nat)(k:an->aw):mV false (.agg [.s a c,.s x y]) (.agg [.s d e,.s g i]) k=k (.F (cS (jH x y g i) (jH a c d e))):=rfl
theorem AO(a c d e x y g i:Nat)(k:an->aw):mV true (.agg [.s a c,.s x y]) (.agg [.s d e,.s g i]) k=k (.F (hM (cS (jH x y g i) (jH a c d e)))):=rfl
theorem wU(a c:Nat):jH a c a c=true:=by unfold jH;rw[jg,Nat.beq_refl,Nat.beq_refl];rfl
theorem Mh{c d:Int}(h:ao c=ao d)(a: -1000<c)(e: -1000<d):c=d:=by rw[cX,cX] at h;simp only[an.V.injEq,true_and] at h;omega
theorem dw.zo{sz:Nat}{v:an}(h:dw sz v [])(k:an->aw):bq false v k=k (ao 0):=h.len k
theorem A5(sz:Nat)(k:an->aw):bq false (.aQ sz []) k=k (ao 0):=eA _ _ k
structure nr (o:aB) (k:Int) (a1 c1 a2 c2 a3 c3 a4 c4 a5 c5:Nat) (L:an):Prop where
 eq:o=[ao k,.s a1 c1,.s a2 c2,.s a3 c3,.s a4 c4,.s a5 c5,L]
 e5:b8 [L]=true
section
variable{o:aB} {k:Int} {a1 c1 a2 c2 a3 c3 a4 c4 a5 c5:Nat} {L:an} (h:nr o k a1 c1 a2 c2 a3 c3 a4 c4 a5 c5 L)
include h
theorem nr.aa:o.length=7:=by rw[h.eq];rfl
theorem nr.eO:o[0+0]? =some (ao k):=by rw[h.eq];rfl
theorem nr.dB:o[0+1]? =some (.s a1 c1):=by rw[h.eq];rfl
theorem nr.cT:o[0+2]? =some (.s a2 c2):=by rw[h.eq];rfl
theorem nr.mw:o[0+5]? =some (.s a5 c5):=by rw[h.eq];rfl
theorem nr.l4:o[0+6]? =some L:=by rw[h.eq];rfl
theorem nr.t3:(o.drop (0+3)).take 2=[.s a3 c3,.s a4 c4]:=by rw[h.eq];rfl
theorem nr.eV:0+3+2<=o.length:=by rw[h.aa];omega
theorem nr.pure:b8 o=true:=by rw[h.eq,cX];exact h.e5
end
theorem amH{l r:an}(S:x[0+6]? =some l)(T:y[0+6]? =some r)(t:l= .aQ 7 I)(B:r= .aQ 7 J)(W:I.length=J.length)(X:I.length<1000)(H:∀(i:Nat) (p q:aB),I[i]? =some p->J[i]? =some q->p.length=7/\b8 p=true/\q.length=7/\b8 q=true/\∃e,aK u 65 [.agg p,.agg q] (.F e)/\(p=q->e=true)){s2 s3:Nat}{h:aI}(ub:b4 h 0)(Z:da h)(h2:h.aj (0+2)= .box s2 x)(h3:h.aj (0+3)= .box s3 y):∀(n k N:Nat),n+k=I.length->n<N->
 ∃e,(I=J->e=true)/\∃s d,fM 2 3 5 N (sO u 0 (λa=>m9 0 dh a)) (.bn (0+2) s2 0) (.bn (0+3) s3 0) (ao k) h= .ok (.F e) 0 s d:=by
 intro n;induction n with
 |zero=>intro k N C D;obtain⟨N,rfl⟩:=cN N;refine⟨true,λ_=>rfl,?_⟩;rw[hI];generalize fM 2 3 5 N (sO u 0 (λa=>m9 0 dh a))=j3;subst t;rw[sO,bp,bb,aH,bc,eA,bO,bk,a6,m9,gE,bj,fO,av];exact b9
 |succ n E=>
  intro k N C D;obtain⟨N,rfl⟩:=cN N;have w:I[k]? =some (I[k]'(by omega)):=dC _;have z:J[k]? =some (J[k]'(by omega)):=dC _;obtain⟨G,K,M,O,e,A,c⟩:=H k _ _ w z;have g:I=J->I[k]'(by omega)=J[k]'(by omega):=λe=>by subst e;rfl
  generalize (I[k]'(by omega))=p at w G K A c g;generalize (J[k]'(by omega))=q at z M O A c g;have j:=E (k+1) N (by omega) (by omega);have P:((k+1:Nat):Int)=(k:Int)+1:=by omega
  rw[P] at j;rw[hI];generalize fM 2 3 5 N (sO u 0 (λa=>m9 0 dh a))=j3 at j;subst t B;cases e
  ·refine⟨false,λe=>absurd (c (g e)) (by simp),?_⟩;rw[sO,bp,bb,aH,bc,eA,bO,bN,bL,Lg,bb,aJ,cH,aN,aH,bc,bZ,aV,aV,aN,bK,eE,aJ,aV,aN,ch,be,bb,aJ,cH,aN,aH,bc,QY,bZ,aV,aV,aN,eE,aJ,aV,aN,ch,be,aV,aV,aN,bm,bm,av,av,aT,hj,mG,bL,m9,fQ,bj,fO,av];exact b9
  ·obtain⟨e,Q,R⟩:=j;refine⟨e,Q,?_⟩;rw[sO,bp,bb,aH,bc,eA,bO,bN,bL,Lg,bb,aJ,cH,aN,aH,bc,bZ,aV,aV,aN,bK,eE,aJ,aV,aN,ch,be,bb,aJ,cH,aN,aH,bc,QY,bZ,aV,aV,aN,eE,aJ,aV,aN,ch,be,aV,aV,aN,bm,bm,av,av,aT,hj,iz,a6,cK];exact R
theorem FP{k:Int}{a1 c1 a2 c2 a3 c3 a4 c4 a5 c5:Nat}{L:an}{A:Int}{K M N O Q R S T W X:Nat}{Z:an}(a:nr x k a1 c1 a2 c2 a3 c3 a4 c4 a5 c5 L)(c:nr y A K M N O Q R S T W X Z)(hk: -1000<k/\k<1000)(bs: -1000<A/\A<1000)
 (j:dw 7 L I)(g:dw 7 Z J)(bx:I.length<1000)(ha:J.length<1000)(H:∀(i:Nat) (p q:aB),I[i]? =some p->J[i]? =some q->p.length=7/\b8 p=true/\q.length=7/\b8 q=true/\∃e,aK u 65 [.agg p,.agg q] (.F e)/\(p=q->e=true)):
 ∃e,(x=y->e=true)/\∃s d,n3 u [.agg x,.agg y] 0 .nil= .ok (.F e) 0 s d:=by
 have hb:=a.aa;have hc:=c.aa;have cc:=a.eO;have cl:=a.dB;have cn:=a.cT;have cp:=a.mw;have D:=a.l4;have w:=a.eV;have c0:=c.eO;have dq:=c.dB;have ee:=c.cT;have em:=c.mw;have E:=c.l4;have z:=c.eV;have en:∀{P:Prop},(x=y->P)->¬P->(x=y->false=true):=λB G e=>absurd (B e) G;by_cases eq:k=A
 rotate_left 1
 ·refine⟨false,en (P:=k=A) (λe=>by subst e;have:=cc.symm.trans c0;simp only[dD] at this;exact Mh this hk.1 bs.1) eq,?_⟩;rw[n3,dE,rJ,cy,cy,bp,bb,aH,bc,bb,sd,aH,bc,dF,bN,lL,q2,dR,gE,lL,qR,dR,gE,lL,qA,dR,gE,lL,q1,dR,gE,lL,qN,dR,gE,bL,m9,fQ,bj,fO,av];exact b9
 cases l:hM (jH a1 c1 K M)
 rotate_left 1
 ·refine⟨false,λe=>?_,?_⟩
  ·subst e;have:=cl.symm.trans dq;simp only[dD,an.s.injEq] at this;obtain⟨rfl,rfl⟩:=this;rw[wU] at l;cases l
  rw[n3,dE,rJ,cy,cy,bp,bb,aH,bc,bb,sd,aH,bc,dF,bk,fZ,bb,aH,bc,bb,aH,bc,li,l,q2,dO,lL,qR,dR,gE,lL,qA,dR,gE,lL,q1,dR,gE,lL,qN,dR,gE,bL,m9,fQ,bj,fO,av];exact b9
 cases n:hM (jH a2 c2 N O)
 rotate_left 1
 ·refine⟨false,λe=>?_,?_⟩
  ·subst e;have:=cn.symm.trans ee;simp only[dD,an.s.injEq] at this;obtain⟨rfl,rfl⟩:=this;rw[wU] at n;cases n
  rw[n3,dE,rJ,cy,cy,bp,bb,aH,bc,bb,sd,aH,bc,dF,bk,fZ,bb,aH,bc,bb,aH,bc,li,l,q2,dO,fZ,bb,aH,bc,bb,aH,bc,li,n,qR,dO,lL,qA,dR,gE,lL,q1,dR,gE,lL,qN,dR,gE,bL,m9,fQ,bj,fO,av];exact b9
 cases r:hM (cS (jH a4 c4 S T) (jH a3 c3 Q R))
 rotate_left 1
 ·refine⟨false,λe=>?_,?_⟩
  ·subst e;have:=a.t3.symm.trans c.t3;simp only[uD,an.s.injEq] at this;obtain⟨⟨rfl,rfl⟩,⟨rfl,rfl⟩,_⟩:=this;rw[wU,wU] at r;cases r
  rw[n3,dE,rJ,cy,cy,bp,bb,aH,bc,bb,sd,aH,bc,dF,bk,fZ,bb,aH,bc,bb,aH,bc,li,l,q2,dO,fZ,bb,aH,bc,bb,aH,bc,li,n,qR,dO,fZ,bb,aH,e8 w,a.t3,bb,aH,e8 z,c.t3,AO,r,qA,dO,lL,q1,dR,gE,lL,qN,dR,gE,bL,m9,fQ,bj,fO,av];exact b9
 cases fD:hM (jH a5 c5 W X)
 rotate_left 1
 ·refine⟨false,λe=>?_,?_⟩
  ·subst e;have:=cp.symm.trans em;simp only[dD,an.s.injEq] at this;obtain⟨rfl,rfl⟩:=this;rw[wU] at fD;cases fD
  rw[n3,dE,rJ,cy,cy,bp,bb,aH,bc,bb,sd,aH,bc,dF,bk,fZ,bb,aH,bc,bb,aH,bc,li,l,q2,dO,fZ,bb,aH,bc,bb,aH,bc,li,n,qR,dO,fZ,bb,aH,e8 w,a.t3,bb,aH,e8 z,c.t3,AO,r,qA,dO,fZ,bb,aH,bc,bb,aH,bc,li,fD,q1,dO,lL,qN,dR,gE,bL,m9,fQ,bj,fO,av];exact b9
 by_cases C:I.length=J.length
 rotate_left 1
 ·refine⟨false,λe=>?_,?_⟩
  ·subst e;have:=D.symm.trans E;simp only[dD] at this;subst this;refine absurd ?_ C;rcases j with⟨rfl,rfl⟩|rfl<;>rcases g with⟨B,rfl⟩|B<;>first|rfl|(cases B;done)|(cases B;rfl)
  rw[n3,dE,rJ,cy,cy,bp,bb,aH,bc,bb,sd,aH,bc,dF,bk,fZ,bb,aH,bc,bb,aH,bc,li,l,q2,dO,fZ,bb,aH,bc,bb,aH,bc,li,n,qR,dO,fZ,bb,aH,e8 w,a.t3,bb,aH,e8 z,c.t3,AO,r,qA,dO,fZ,bb,aH,bc,bb,aH,bc,li,fD,q1,dO,fZ,E6,bb,aH,bc,j.len,bb,aH,bc,g.len,dF,bN,qN,dO,bL,m9,fQ,bj,fO,av];exact b9
 rcases j with⟨j,rfl⟩|j
 ·have es:J=[]:=n7.1 C.symm;subst es;refine⟨true,λ_=>rfl,?_⟩;subst j;rw[n3,dE,rJ,cy,cy,bp,bb,aH,bc,bb,sd,aH,bc,dF,bk,fZ,bb,aH,bc,bb,aH,bc,li,l,q2,dO,fZ,bb,aH,bc,bb,aH,bc,li,n,qR,dO,fZ,bb,aH,e8 w,a.t3,bb,aH,e8 z,c.t3,AO,r,qA,dO,fZ,bb,aH,bc,bb,aH,bc,li,fD,q1,dO,fZ,E6,bb,aH,bc,hy,bb,aH,bc,g.zo,dF,bk,qN,dO,a6,Jh];rw[hQ,hI];rw[sO,bp,bb,aH,bc,hy,bF,bO,bk,a6,m9,gE,bj,fO,av];exact b9
 ·have ev:=g;rcases g with⟨g,rfl⟩|g
  ·have ex:I=[]:=n7.1 C;subst ex;refine⟨true,λ_=>rfl,?_⟩;subst j;rw[n3,dE,rJ,cy,cy,bp,bb,aH,bc,bb,sd,aH,bc,dF,bk,fZ,bb,aH,bc,bb,aH,bc,li,l,q2,dO,fZ,bb,aH,bc,bb,aH,bc,li,n,qR,dO,fZ,bb,aH,e8 w,a.t3,bb,aH,e8 z,c.t3,AO,r,qA,dO,fZ,bb,aH,bc,bb,aH,bc,li,fD,q1,dO,fZ,E6,bb,aH,bc,A5,bb,aH,bc,ev.zo,dF,bk,qN,dO,a6,Jh];rw[hQ,hI];rw[sO,bp,bb,aH,bc,A5,bF,bO,bk,a6,m9,gE,bj,fO,av];exact b9
  ·have fn:=λ(h:aI) (s2 s3:Nat) (ub:b4 h 0) (ge:da h) (G:h.aj (0+2)= .box s2 x) (h3:h.aj (0+3)= .box s3 y)=>amH (u:=u) D E j g C bx H ub ge G h3 I.length 0 1000000 (by omega) (by omega);obtain⟨e,gl,go⟩:=fn _ _ _ inferInstance inferInstance (gF (fE (h:=ba 0 .nil) (d:=2) (t:=54) (cs:=x))) (fE (d:=3) (t:=54));refine⟨e,λgt=>gl ?_,?_⟩
   ·subst gt;have:=D.symm.trans E;simp only[dD] at this;subst this;rw[j] at g;cases g;rfl
   ·subst j g;rw[n3,dE,rJ,cy,cy,bp,bb,aH,bc,bb,sd,aH,bc,dF,bk,fZ,bb,aH,bc,bb,aH,bc,li,l,q2,dO,fZ,bb,aH,bc,bb,aH,bc,li,n,qR,dO,fZ,bb,aH,e8 w,a.t3,bb,aH,e8 z,c.t3,AO,r,qA,dO,fZ,bb,aH,bc,bb,aH,bc,li,fD,q1,dO,fZ,E6,bb,aH,bc,eA,bb,aH,bc,eA,dF,bk,qN,dO,a6,Jh];rw[bF];exact go
end
end
section
variable{vx vy x y:an} {I J:aY}
section
variable[Tok] {u:Fn} {b:Nat}
theorem ab7(u:Fn)(a c:an)(b:Nat)(aET:b1):r9 u [a,c] b aET=zk u b a c (ba b aET):=rfl
theorem am5(j:vx= .aQ 11 I)(t:vy= .aQ 11 J)(M:I.length=J.length)(O:I.length<1000)(H:∀(i:Nat) (p q:aB),I[i]? =some p->J[i]? =some q->cq p/\cq q/\∃e,aK u 24 [.agg p,.agg q] (.F e)/\(p=q->e=true)):∀(n k N:Nat),n+k=I.length->n<N->
 ∃e,(I=J->e=true)/\∃s d,fM 0 1 5 N (sv u 0 (λa=>qZ 0 dh a)) vx vy (ao k) (ba 0 .nil)= .ok (.F e) 0 s d:=by
 intro n;induction n with
 |zero=>intro k N w z;obtain⟨N,rfl⟩:=cN N;refine⟨true,λ_=>rfl,?_⟩;rw[hI];generalize fM 0 1 5 N (sv u 0 (λa=>qZ 0 dh a))=j3;subst j;rw[sv,eA,bO,bk,a6,qZ,gE,bj,fO,av];exact b9
 |succ n A=>
  intro k N w z;obtain⟨N,rfl⟩:=cN N;have l:I[k]? =some (I[k]'(by omega)):=dC _;have o:J[k]? =some (J[k]'(by omega)):=dC _;obtain⟨⟨B,C⟩,⟨D,E⟩,e,r,c⟩:=H k _ _ l o;have g:I=J->I[k]'(by omega)=J[k]'(by omega):=λe=>by subst e;rfl
  generalize (I[k]'(by omega))=p at l B C r c g;generalize (J[k]'(by omega))=q at o D E r c g;have h:=A (k+1) N (by omega) (by omega);have G:((k+1:Nat):Int)=(k:Int)+1:=by omega
  rw[G] at h;rw[hI];generalize fM 0 1 5 N (sv u 0 (λa=>qZ 0 dh a))=j3 at h;subst j t;cases e
  ·refine⟨false,λe=>absurd (c (g e)) (by simp),?_⟩;rw[sv,eA,bO,bN,bL,OF,bZ,aV,aV,aN,bK,eE,aJ,aV,aN,ch,be,Oo,bZ,aV,aV,aN,eE,aJ,aV,aN,ch,be,aV,aV,aN,bm,bm,av,av,aT,hj,mG,bL,qZ,fQ,bj,fO,av];exact b9
  ·obtain⟨e,K,L⟩:=h;refine⟨e,K,?_⟩;rw[sv,eA,bO,bN,bL,OF,bZ,aV,aV,aN,bK,eE,aJ,aV,aN,ch,be,Oo,bZ,aV,aV,aN,eE,aJ,aV,aN,ch,be,aV,aV,aN,bm,bm,av,av,aT,hj,iz,a6,cK];exact L
theorem Xv(a:dw 11 x I)(c:dw 11 y J)(h:I.length<1000)(r:J.length<1000)(H:∀(i:Nat) (p q:aB),I[i]? =some p->J[i]? =some q->cq p/\cq q/\∃e,aK u 24 [.agg p,.agg q] (.F e)/\(p=q->e=true)):
 ∃e,(I=J->e=true)/\∃s d,r9 u [x,y] 0 .nil= .ok (.F e) 0 s d:=by
 by_cases g:I.length=J.length
 rotate_left 1
 ·refine⟨false,λe=>absurd (by rw[e]) g,?_⟩;rw[r9,dE,zk,a.len,c.len,dF,bN,bL,qZ,fQ,bj,fO,av];exact b9
 rcases a with⟨a,rfl⟩|a
 ·have j:J=[]:=n7.1 g.symm;subst j;refine⟨true,λ_=>rfl,?_⟩;subst a;rw[r9,dE,zk,hy,c.zo,dF,bk,a6,IH];rw[hQ,hI];rw[sv,hy,bF,bO,bk,a6,qZ,gE,bj,fO,av];exact b9
 ·have k:=c;rcases c with⟨c,rfl⟩|c
  ·have l:I=[]:=n7.1 g;subst l;refine⟨true,λ_=>rfl,?_⟩;subst a;rw[r9,dE,zk,A5,k.zo,dF,bk,a6,IH];rw[hQ,hI];rw[sv,A5,bF,bO,bk,a6,qZ,gE,bj,fO,av];exact b9
  ·obtain⟨e,n,o⟩:=am5 (u:=u) a c g h H I.length 0 1000000 (by omega) (by omega);refine⟨e,n,?_⟩;subst a c;rw[r9,dE,zk,eA,eA,dF,bk,a6,IH];rw[bF];exact o
theorem GX(u:Fn)(a c:an)(b:Nat)(aET:b1):tP u [a,c] b aET=Aq u b a c (ba b aET):=rfl
theorem aj9(j:vx= .aQ 11 I)(t:vy= .aQ 11 J)(M:I.length=J.length)(O:I.length<1000)(H:∀(i:Nat) (p q:aB),I[i]? =some p->J[i]? =some q->cq p/\cq q/\∃e,aK u 24 [.agg p,.agg q] (.F e)/\(p=q->e=true)):∀(n k N:Nat),n+k=I.length->n<N->
 ∃e,(I=J->e=true)/\∃s d,fM 0 1 5 N (sV u 0 (λa=>q4 0 dh a)) vx vy (ao k) (ba 0 .nil)= .ok (.F e) 0 s d:=by
 intro n;induction n with
 |zero=>intro k N w z;obtain⟨N,rfl⟩:=cN N;refine⟨true,λ_=>rfl,?_⟩;rw[hI];generalize fM 0 1 5 N (sV u 0 (λa=>q4 0 dh a))=j3;subst j;rw[sV,eA,bO,bk,a6,q4,gE,bj,fO,av];exact b9
 |succ n A=>
  intro k N w z;obtain⟨N,rfl⟩:=cN N;have l:I[k]? =some (I[k]'(by omega)):=dC _;have o:J[k]? =some (J[k]'(by omega)):=dC _;obtain⟨⟨B,C⟩,⟨D,E⟩,e,r,c⟩:=H k _ _ l o;have g:I=J->I[k]'(by omega)=J[k]'(by omega):=λe=>by subst e;rfl
  generalize (I[k]'(by omega))=p at l B C r c g;generalize (J[k]'(by omega))=q at o D E r c g;have h:=A (k+1) N (by omega) (by omega);have G:((k+1:Nat):Int)=(k:Int)+1:=by omega
  rw[G] at h;rw[hI];generalize fM 0 1 5 N (sV u 0 (λa=>q4 0 dh a))=j3 at h;subst j t;cases e
  ·refine⟨false,λe=>absurd (c (g e)) (by simp),?_⟩;rw[sV,eA,bO,bN,bL,Ob,bZ,aV,aV,aN,bK,eE,aJ,aV,aN,ch,be,O0,bZ,aV,aV,aN,eE,aJ,aV,aN,ch,be,aV,aV,aN,bm,bm,av,av,aT,hj,mG,bL,q4,fQ,bj,fO,av];exact b9
  ·obtain⟨e,K,L⟩:=h;refine⟨e,K,?_⟩;rw[sV,eA,bO,bN,bL,Ob,bZ,aV,aV,aN,bK,eE,aJ,aV,aN,ch,be,O0,bZ,aV,aV,aN,eE,aJ,aV,aN,ch,be,aV,aV,aN,bm,bm,av,av,aT,hj,iz,a6,cK];exact L
theorem amI(a:dw 11 x I)(c:dw 11 y J)(h:I.length<1000)(r:J.length<1000)(H:∀(i:Nat) (p q:aB),I[i]? =some p->J[i]? =some q->cq p/\cq q/\∃e,aK u 24 [.agg p,.agg q] (.F e)/\(p=q->e=true)):
 ∃e,(I=J->e=true)/\∃s d,tP u [x,y] 0 .nil= .ok (.F e) 0 s d:=by
 by_cases g:I.length=J.length
 rotate_left 1
 ·refine⟨false,λe=>absurd (by rw[e]) g,?_⟩;rw[tP,dE,Aq,a.len,c.len,dF,bN,bL,q4,fQ,bj,fO,av];exact b9
 rcases a with⟨a,rfl⟩|a
 ·have j:J=[]:=n7.1 g.symm;subst j;refine⟨true,λ_=>rfl,?_⟩;subst a;rw[tP,dE,Aq,hy,c.zo,dF,bk,a6,Ko];rw[hQ,hI];rw[sV,hy,bF,bO,bk,a6,q4,gE,bj,fO,av];exact b9
 ·have k:=c;rcases c with⟨c,rfl⟩|c
  ·have l:I=[]:=n7.1 g;subst l;refine⟨true,λ_=>rfl,?_⟩;subst a;rw[tP,dE,Aq,A5,k.zo,dF,bk,a6,Ko];rw[hQ,hI];rw[sV,A5,bF,bO,bk,a6,q4,gE,bj,fO,av];exact b9
  ·obtain⟨e,n,o⟩:=aj9 (u:=u) a c g h H I.length 0 1000000 (by omega) (by omega);refine⟨e,n,?_⟩;subst a c;rw[tP,dE,Aq,eA,eA,dF,bk,a6,Ko];rw[bF];exact o
theorem ao7{x y:aB}{k i:Int}{a1 c1 a2 c2 p q r t:Nat}{o o':aB}{a j:an}(c:fk x k (.s a1 c1) (.s a2 c2) o a)(g:fk y i (.s p q) (.s r t) o' j)(A: -1000<k/\k<1000)(B: -1000<i/\i<1000)(C:dw 11 a I)(D:dw 11 j J)
 (E:∃e,aK u 65 [.agg o,.agg o'] (.F e)/\(o=o'->e=true))(G:∃e,aK u 68 [a,j] (.F e)/\(a=j->e=true)):
 ∃e,(x=y->e=true)/\∃s d,wa u [.agg x,.agg y] 0 .nil= .ok (.F e) 0 s d:=by
 have H:=c.eO;have K:=c.gP;have l:=c.eD;have w:=c.eV;have L:=g.eO;have M:=g.gP;have n:=g.eD;have z:=g.eV;have S:=c.b2;have T:=g.b2;by_cases N:k=i
 rotate_left 1
 ·refine⟨false,λe=>?_,?_⟩
  ·subst e;have:=H.symm.trans L;simp only[dD] at this;exact absurd (Mh this A.1 B.1) N
  rw[wa,dE,BQ,cy,cy,bp,bb,aH,bc,bb,CM,aH,bc,dj,bk,iE,Al,dO,fQ,iE,z2,dO,fQ,iE,dO,zO,bj,fO,av];exact b9
 cases h:(cS (jH a2 c2 r t) (jH a1 c1 p q))
 ·refine⟨false,λe=>?_,?_⟩
  ·subst e;have:=c.t1.symm.trans g.t1;simp only[uD,an.s.injEq] at this;obtain⟨⟨rfl,rfl⟩,⟨rfl,rfl⟩,_⟩:=this;rw[wU,wU] at h;cases h
  rw[wa,dE,BQ,cy,cy,bp,bb,aH,bc,bb,CM,aH,bc,dj,bN,fi,bb,aH,e8 l,c.t1,bb,aH,e8 n,g.t1,OR,h,Al,dR,iE,z2,dO,fQ,iE,dO,zO,bj,fO,av];exact b9
 obtain⟨O,W,P⟩:=E;obtain⟨Q,X,R⟩:=G;cases O
 ·refine⟨false,λe=>?_,?_⟩
  ·subst e;exact P (c.t3.symm.trans g.t3)
  rw[wa,dE,BQ,cy,cy,bp,bb,aH,bc,bb,CM,aH,bc,dj,bN,fi,bb,aH,e8 l,c.t1,bb,aH,e8 n,g.t1,OR,h,Al,dR,fi,Mj,bb,aH,e8 w,c.t3,bb,aH,e8 z,g.t3,ce,bm,bm,av,av,aT,z2,dR,fQ,iE,dO,zO,bj,fO,av];exact b9
 ·refine⟨Q,λe=>?_,?_⟩
  ·subst e;have:=K.symm.trans M;simp only[dD] at this;exact R this
  rw[wa,dE,BQ,cy,cy,bp,bb,aH,bc,bb,CM,aH,bc,dj,bN,fi,bb,aH,e8 l,c.t1,bb,aH,e8 n,g.t1,OR,h,Al,dR,fi,Mj,bb,aH,e8 w,c.t3,bb,aH,e8 z,g.t3,ce,bm,bm,av,av,aT,z2,dR,fQ,fi,ac9,bb,aH,bc,bb,aH,bc,ce,C.dU,D.dU,av,av,aT,dR,zO,bj,fO,av];exact b9
end
end
section
variable{I es:aY} {t:aB} {h:aI} {ob:ej} {q s e sz n d:Nat} {o:dM} {wk:Option (List Nat)}
section
variable[Tok] {u:Fn} {b:Nat}
theorem W1(u:Fn)(a c:an)(b:Nat)(aET:b1):yA u [a,c] b aET=NT u b c a (ba b aET):=rfl
theorem agQ{v:an}(g:v= .aQ 11 I)(C:I.length<1000)(j:cq t)(H:∀p∈I,cq p/\∃e,aK u 24 [.agg p,.agg t] (.F e)){s3:Nat}(ub:b4 h 0)(D:da h)(E:h.aj (0+3)= .box s3 t):∀(n k N:Nat),n+k=I.length->n<N->
 ∃e s d,fM 0 3 5 N (x8 u 0 (λa=>xP 0 bG a)) v (.bn (0+3) s3 0) (ao k) h= .ok (.F e) 0 s d:=by
 intro n;induction n with
 |zero=>intro k N l r;obtain⟨N,rfl⟩:=cN N;refine⟨false,?_⟩;rw[hI];generalize fM 0 3 5 N (x8 u 0 (λa=>xP 0 bG a))=j3;subst g;rw[x8,eA,bO,bk,a6,xP,fQ,bj,fO,av];exact b9
 |succ n w=>
  intro k N l r;obtain⟨N,rfl⟩:=cN N;have i:I[k]? =some (I[k]'(by omega)):=dC _;obtain⟨⟨x,y⟩,e,z⟩:=H _ (dr i);obtain⟨t1,t2⟩:=j;generalize (I[k]'(by omega))=p at i x y z;have c:=w (k+1) N (by omega) (by omega);have A:((k+1:Nat):Int)=(k:Int)+1:=by omega
  rw[A] at c;rw[hI];generalize fM 0 3 5 N (x8 u 0 (λa=>xP 0 bG a))=j3 at c;subst g;cases e
  ·obtain⟨e,B⟩:=c;refine⟨e,?_⟩;rw[x8,eA,bO,bN,bL,Np,bZ,aV,aV,aN,bK,eE,Oi,aJ,aV,aN,ch,be,aJ,cH,aN,aH,be,aV,aV,aN,bm,bm,av,av,aT,a6,cK];exact B
  ·refine⟨true,?_⟩;rw[x8,eA,bO,bN,bL,Np,bZ,aV,aV,aN,bK,eE,Oi,aJ,aV,aN,ch,be,aJ,cH,aN,aH,be,aV,aV,aN,bm,bm,av,av,aT,bL,xP,gE,bj,fO,av];exact b9
theorem auS(a:I.length<1000)(c:cq t)(H:∀p∈I,cq p/\∃e,aK u 24 [.agg p,.agg t] (.F e)):∃e s d,yA u [.aQ 11 I,.agg t] 0 .nil= .ok (.F e) 0 s d:=by have g:=λ(h:aI) (s3:Nat) (ub:b4 h 0) (i:da h) (j:h.aj (0+3)= .box s3 t)=>agQ (u:=u) (v:= .aQ 11 I) rfl a c H ub i j I.length 0 1000000 (by omega) (by omega);obtain⟨e,k⟩:=g _ _ inferInstance inferInstance (fE (h:=ba 0 .nil) (d:=3) (t:=56));refine⟨e,?_⟩;rw[yA,dE,NT,cy];rw[bF];exact k
theorem LL{r:Bool}(a:ob q= .az s e sz es r)(c:n=es.length)(f:aY->aw):ke ob sz (.az q s 0 n) f=f es:=by subst c;exact yq a f
theorem vl[b4 h b](a:d<4096:=by decide):(h.g4 b d (.ae o)).aj (b+d)=o:=atQ a
theorem ZX(c:ob q= .az s e sz es true)(g:n=es.length)(f:jm):aD ob (.az q s 0 n) f=f (.aQ sz es) [(q,.az s e sz es false)]:=by subst g;have i:∀f:an->eH->aw,aD ob (.az q s 0 es.length) f=jQ (ob q) λa e sz aEK aEQ=>bf (Nat.beq s a) (bf (Nat.ble (Nat.add 0 es.length) (ea aEK)) (f (.aQ sz (l3 aEK 0 es.length)) (@Bool.rec (λ_=>eH) [] ((q,.az a e sz aEK false)::[]) aEQ)) .ax) .ax:=λ_=>rfl;rw[i,c,qC,gb,cM,gr,ek,dm (by rw[hZ];omega),cM,zj]
theorem aa8{f:Nat}{ps:aB}{r:an}[b4 h b](H:aK u f ps r:=by assumption)(a:∀o,gO b wk [(b+d,o)]=true)(k:dg)(c:d<4096:=by decide):bH u b wk f ps [(b+d,o)] h k=k r (h.g4 b d (.ae o)):=by obtain⟨aET,g,e⟩:=H;have i:bH u b wk f ps [(b+d,o)] h k=bf (gO b wk [(b+d,o)]) (EN b [(b+d,o)] h k (u f ps 0 .nil)) .ax:=rfl;have j:EN b [(b+d,o)] h k (.ok r 0 aET g)=bf (Nat.ble (Nat.succ (b+d)) h.ar) (k r (h.eW b (b+d) (.ae o))) .ax:=rfl;rw[i,a,cM,e,j,ek,dm (xh (b4.lt c)),cM];rfl
theorem Uo{d' bytes:Nat}{aEQ r0:Bool}{y:an}{aED ys:aY}[b4 h b](c:h.aj (b+d)= .az s e sz aED aEQ)(g:∀f:aY->aw,ke h.aj sz y f=f ys)(a:n=aED.length)
 (i:∀o,gO b wk [(b+d,o)]=true)(j:(aED.length+ys.length)*bytes<=1099511627776)(l:aED.length+ys.length<=1099511627776)(k:dg)(p:d<4096:=by decide):
 eC b d' wk e sz bytes (.az (b+d) s 0 n) y r0 h k=k (.az (b+d) (Nat.add s 1) 0 (aED.length+ys.length)) (h.ow b d (Nat.add s 1) e sz (aED++ys) aEQ):=by
 rw[<-Gm (d':=d') c g a i j l k p];subst a;rfl
theorem X7{x:an}{e:Bool}(i:dw 11 x I)(A:I.length<1000)(r:cq t)(H:aK u 97 [.aQ 11 I,.agg t] (.F e)):∃s d,E7 u [x,.aQ 11 [t]] 0 .nil= .ok (.aQ 11 (if e then I else I++[t])) 0 s d:=by
 obtain⟨t1,t2⟩:=r;have B:(ba 0 .nil).ar=4096:=rfl;obtain⟨s1,g,a1,a2,w⟩:=SE (b:=0) (d:=2060) (e:=56) (sz:=11) (bytes:=176) (l:=0) (c:=I.length+1) (wk:=none) (z:=ca) (h:=ba 0 .nil) (ik _) (by omega) (by omega) (λo=>gs 0 _) (by omega)
 haveI:b4 g 0:=⟨by rw[a1.ar];exact cY _⟩
 haveI:da g:=⟨by rw[a1.bQ];rfl⟩
 have j:=λk=>(dt (λz=>i3 0 none (nf (Nat.add 0 2060) 56 11 176 ((ba 0 .nil).aj (Nat.add 0 2060)).cd ca z (ao ((I.length+1:Nat):Int))) (ba 0 .nil) k) bF).trans (w k);have y:((I.length+1:Nat):Int)=(I.length:Int)+1:=by omega
 rw[y] at j;have a:∀k:an->aw,bq false (.aQ 11 [t]) k=k (ao 1):=λk=>eA _ _ k;have C:g.ar=4096:=by rw[a1.ar];rfl
 rw[E7,dE,adS,i.len,a,cK];rw[j,Uo (d:=2060) a2 (λf=>i.iZ _ f) (by rfl) (λo=>gs 0 _) (by simp;omega) (by simp;omega),List.replicate_zero,kP,kT,kM I.length];rw[hQ,hI,show(999999:Nat)=999998+1 from rfl,hI];have D:([t]:aY)[0]? =some t:=rfl;have p:∀z:Nat×dM,aA [z] (aA [] [])=[z]:=λ_=>rfl;cases e
 ·rw[cU (by simp)];rw[CU,a,bF,bO,bN,bL,Qk,hu,ch,be,ce,ZX pi (by rfl),bm,p,aa8 ‹_› (λo=>gs 0 _),hj,mG,bL,aaF,hu,ch,be,hX,av,gW];rw[Uo (d:=2060) (aED:=I) (ys:=[t]) (aEQ:=false) (ga vl) (λf=>LL i9 (by rfl) f) (by rfl) (λo=>gs 0 _) (by simp;omega) (by simp;omega)];rw[bK,cK,CU,a,bO,bk,a6,Pp,bj,gX pi (by simp),av];exact b9
 ·rw[cv rfl];rw[CU,a,bF,bO,bN,bL,Qk,hu,ch,be,ce,ZX pi (by rfl),bm,p,aa8 ‹_› (λo=>gs 0 _),hj,iz,a6,bK,cK,CU,a,bO,bk,a6,Pp,bj,gX,av];exact b9
end
end
section
variable{a:Int} {c n m:Nat} {Lf:aB->Prop} {o:aB}
section
variable[Tok] {u:Fn} {b:Nat}
theorem aaW{c:Int}(d: -18446744073709551616<=a:=by omega)(g: -18446744073709551616<=c:=by omega)(k:an->aw):c8 (pR true (ao a) (ao c)) k=k (ao (max a c)):=by
 rw[cX,cX,cX];have e:pR true (.V .i64 (a+18446744073709551616).toNat) (.V .i64 (c+18446744073709551616).toNat)=some (.V .i64 (bif Nat.blt (a+18446744073709551616).toNat (c+18446744073709551616).toNat then(c+18446744073709551616).toNat else(a+18446744073709551616).toNat)):=rfl;rw[e];show k _=_;congr 2;rw[show Nat.blt (a+18446744073709551616).toNat (c+18446744073709551616).toNat=decide ((a+18446744073709551616).toNat<(c+18446744073709551616).toNat) from oW ..];by_cases h:a<c
 ·rw[bN,Int.max_eq_right (by omega)];rfl
 ·rw[bk,Int.max_eq_left (by omega)];rfl
theorem anZ{c:Int}(d: -18446744073709551616<=a)(g: -18446744073709551616<=c)(k:an->aw):c8 (pR false (ao a) (ao c)) k=k (ao (min a c)):=by
 rw[cX,cX,cX];have e:pR false (.V .i64 (a+18446744073709551616).toNat) (.V .i64 (c+18446744073709551616).toNat)=some (.V .i64 (bif Nat.blt (c+18446744073709551616).toNat (a+18446744073709551616).toNat then(c+18446744073709551616).toNat else(a+18446744073709551616).toNat)):=rfl;rw[e];show k _=_;congr 2;rw[show Nat.blt (c+18446744073709551616).toNat (a+18446744073709551616).toNat=decide ((c+18446744073709551616).toNat<(a+18446744073709551616).toNat) from oW ..];by_cases h:c<a
 ·rw[bN,Int.min_eq_right (by omega)];rfl
 ·rw[bk,Int.min_eq_left (by omega)];rfl
theorem K3{q s off:Nat}{i:Nat}(hi:i<n)(k:an->aw):c8 (ov n 1 (.bn q s off) (ao (i:Int))) k=k (.bn q s (off+i)):=by
 rw[cX];have e:ov n 1 (.bn q s off) (.V .i64 ((i:Int)+18446744073709551616).toNat)=bif Nat.ble 18446744073709551616 ((i:Int)+18446744073709551616).toNat&&Nat.ble (Nat.succ (Nat.sub ((i:Int)+18446744073709551616).toNat 18446744073709551616)) n then some (.bn q s (Nat.add off (Nat.mul (Nat.sub ((i:Int)+18446744073709551616).toNat 18446744073709551616) 1))) else none:=rfl;have d:Nat.sub ((i:Int)+18446744073709551616).toNat 18446744073709551616=i:=by rw[oT];omega
 rw[e,d,ek,bN,ek,dm (by rw[Nat.succ_eq_add_one];omega),show(true&&true)=true from rfl,dN,tH,st,hZ,Fq]
inductive lJ (Lf:aB->Prop):Nat->Nat->aB->Prop
 |bh {n:Nat} {o:aB} (h:Lf o):lJ Lf n 1 o
 |cons {n c c':Nat} {a d:aB} (ha:lJ Lf n c a) (hd:lJ Lf n c' d):lJ Lf (n+1) (1+c+c') [ao 4,.s 0 0,.s 0 0,.s 0 0,.s 0 0,.s 0 0,.aQ 7 [a,d]]
def wL[Tok](o:aB):Prop:=∃k a1 c1 a2 c2 d e a4 g h i,1<=k/\k<=3/\nr o k a1 c1 a2 c2 d e a4 g h i .aE
theorem ye{a d:aB}:nr [ao 4,.s 0 0,.s 0 0,.s 0 0,.s 0 0,.s 0 0,.aQ 7 [a,d]] 4 0 0 0 0 0 0 0 0 0 0 (.aQ 7 [a,d]):=⟨rfl,rfl⟩
theorem lJ.v(e:∀o,Lf o->wL o)(h:lJ Lf n c o):o.length=7/\b8 o=true:=by
 cases h with
 |bh h=>obtain⟨k,a1,c1,a2,c2,g,i,a4,j,l,p,q,r,d⟩:=e _ h;exact⟨d.aa,d.pure⟩
 |cons t w=>exact⟨ye.aa,ye.pure⟩
theorem lJ.dv(h:lJ Lf n c o):1<=c:=by
 cases h with
 |bh h=>exact cY _
 |cons d e=>omega
theorem aDg(q:∀o,Lf o->wL o)(H:∀n c o,n<m->lJ Lf n c o->∀l:Int,(c:Int)<=l->l<100000->aK u 324 [.agg o,ao l] (ao (l-c))):∀(n c:Nat) (o:aB) (l:Int) (N:Nat) (h:aI) (s2:Nat),n<=m->lJ Lf n c o->(c:Int)<=l->l<100000->n<N->b4 h 0->da h->h.aj (0+2)= .box s2 o->
 ∃s d,oq 1 2 N (vR u 0 (λe g=>cP e aS λi=>xw 0 i g)) (ao l) (.bn (0+2) s2 0) h= .ok (ao (l-c)) 0 s d:=by
 intro n;induction n with
 |zero=>
  intro c o l N h s2 D j E G I ub J t;obtain⟨N,rfl⟩:=cN N;cases j with
  |bh j=>
   obtain⟨k,a1,c1,a2,c2,K,L,a4,M,O,P,Q,R,w⟩:=q _ j;have l4:=w.l4;rw[AN];generalize oq 1 2 N (vR u 0 (λe g=>cP e aS λi=>xw 0 i g))=A;have p:l-((1:Nat):Int)=l-1:=by omega
   rw[p];rw[vR,bF,hH,bN,fi,bb,aH,bc,hy,ff,dj,bk,ET,dR,a6,bK,e1,xw,bj,b7,av];exact b9
 |succ n S=>
  intro c o l N h s2 D j E G I ub J t;obtain⟨N,rfl⟩:=cN N;rw[AN];cases j with
  |bh j=>
   obtain⟨k,a1,c1,a2,c2,K,L,a4,M,O,P,Q,R,w⟩:=q _ j;have l4:=w.l4;generalize oq 1 2 N (vR u 0 (λe g=>cP e aS λi=>xw 0 i g))=A;have p:l-((1:Nat):Int)=l-1:=by omega
   rw[p];rw[vR,bF,hH,bN,fi,bb,aH,bc,hy,ff,dj,bk,ET,dR,a6,bK,e1,xw,bj,b7,av];exact b9
  | @cons _ r x a d y z=>
    have Z:=y.dv;have bs:=z.dv;obtain⟨bx,cc⟩:=y.v q;obtain⟨cl,cn⟩:=z.v q;have T:=(ye (a:=a) (d:=d)).aa;have l4:=(ye (a:=a) (d:=d)).l4;have cp:=H n r a (by omega) y (l-1) (by omega) (by omega);have B:=λ(h:aI) (C:b4 h 0) (W:da h)=>S x d (l-1-r) N h s2 (by omega) z (by omega) (by omega) (by omega) C W;generalize oq 1 2 N (vR u 0 (λe g=>cP e aS λi=>xw 0 i g))=A at B;have p:l-((1+r+x:Nat):Int)=l-1-r-x:=by omega
    rw[p];have X:∀k:an->aw,bq false (.aQ 7 [a,d]) k=k (ao 2):=λk=>eA _ _ k;have cs:([a,d]:aY)[0]? =some a:=rfl;have C:([a,d]:aY)[1]? =some d:=rfl;generalize ([ao 4,.s 0 0,.s 0 0,.s 0 0,.s 0 0,.s 0 0,.aQ 7 [a,d]]:aB)=o at t T l4;rw[vR,bF,hH,bN,fi,bb,aH,bc,X,ff,dj,bN,ET,dR,bL,LJ,bp,bb,aH,bc,bF,hu,ab8,ch,be,bK,e1,ce,bm,b7,av,av,aT,bp,bb,aH,bc,of,ch,be,dc];refine B _ ?_ ?_ (gS t)
    ·infer_instance
    ·infer_instance
theorem apZ(e:∀o,Lf o->wL o)(H:∀n c o,n<m->lJ Lf n c o->∀l:Int,(c:Int)<=l->l<100000->aK u 324 [.agg o,ao l] (ao (l-c)))(r:m<1000)(g:lJ Lf m c o){l:Int}(i:(c:Int)<=l)(j:l<100000):
 ∃s d,D5 u [.agg o,ao l] 0 .nil= .ok (ao (l-c)) 0 s d:=by
 have k:=λ(h:aI) (s2:Nat) (ub:b4 h 0) (p:da h) (q:h.aj (0+2)= .box s2 o)=>aDg (u:=u) e H m c o l 1000000 h s2 (cY _) g i j (by omega) ub p q;rw[D5,dE,Zs,cy];refine k _ _ ?_ ?_ fE
 ·infer_instance
 ·infer_instance
theorem ND:(EX:an)=ao 3001:=by rw[cX];rfl
theorem ayF(e:∀o,Lf o->wL o)(g:lJ Lf n c o)(j:c<=3000)(H:aK u 324 [.agg o,ao 3001] (ao (3001-c))):∃s d,Ec u [.agg o] 0 .nil= .ok (ao c) 0 s d:=by
 obtain⟨eR,k⟩:=g.v e;have h:(3001:Int)-(3001-(c:Int))=c:=by omega
 have i:max (0:Int) (3001-(c:Int))=3001-c:=by omega
 rw[Ec,dK,S4,cy,aH,be,bm,av,ND,aT,bF,aaW,i,e1,h,Um,bj,b7,av];exact b9
end
end
section
variable{n p a:an} {q s off d:Nat} {c x y z:Int} {h:aI} {cs t o:aB} {I:aY} {aR:List (Nat×Nat×Nat)}
section
variable[Tok] {u:Fn} {b:Nat}
theorem QO{wk:Option (List Nat)}{n:Nat}(k:dg):aX b wk n (.bn q s off) (ao c) h k=aX b wk n (.bn q s off) (.agg [ao c]) h k:=by rw[cX];rfl
theorem aa3[b4 h b](e:h.aj (b+d)= .box s cs)(g:off+1<=cs.length)(k:dg)(i:d<4096:=by decide):aX b none 1 (.bn (b+d) s off) (ao c) h k=k .undef (h.eP b d (cs.take off++[ao c]++cs.drop (off+1))):=by rw[QO,GD (new:=[ao c]) (n:=1) rfl e g k i]
theorem azq{l:List Nat}[b4 h b](e:h.aj (b+d)= .box s cs)(i:off+1<=cs.length)(k:dg)(j:eb l d=true:=by rfl)(g:d<4096:=by decide):aX b (some l) 1 (.bn (b+d) s off) (ao c) h k=k .undef (h.eP b d (cs.take off++[ao c]++cs.drop (off+1))):=by rw[QO,tD (b:=b) (n:=1) (off:=off) (wk:=some l) (new:=[ao c]) e rfl i (λo=>mN g j) (b4.lt g)];unfold aI.eP;rw[e];rfl
theorem aeG(k:an->aw):c8 (ov 3 1 (.bn q s off) (ao 0)) k=k (.bn q s (off+0)):=K3 (i:=0) (by omega) k
theorem acC(k:an->aw):c8 (ov 3 1 (.bn q s off) (ao 1)) k=k (.bn q s (off+1)):=K3 (i:=1) (by omega) k
theorem Yz(k:an->aw):c8 (ov 3 1 (.bn q s off) (ao 2)) k=k (.bn q s (off+2)):=K3 (i:=2) (by omega) k
def ew(x y z:Int):aB:=[ao x,ao y,ao z]
theorem rG(x y z:Int):(ew x y z).length=3:=rfl
theorem ve(x y z:Int):b8 (ew x y z)=true:=by unfold ew;rw[cX,cX,cX];rfl
theorem aya(e:fk t 1 p n o a)(j:0<=x/\x<1000000):∃s d,qK u [.agg t,.agg (ew x y z)] 0 .nil= .ok (.agg (ew (x+1) y z)) 0 s d:=by
 have t0:=e.eO;have k:=ve (x+1) y z;have eV:=rG (x+1) y z;have l:(ew x y z)[0+0]? =some (ao x):=rfl;have g:(ew x y z).take (0+0)++[ao (x+1)]++(ew x y z).drop (0+0+1)=ew (x+1) y z:=rfl;have i:0+0+1<=(ew x y z).length:=by rw[rG];omega
 rw[qK,dE,Kp,cy,cy,J1,de,bp,bb,aH,bc,bK,dj,bN,bL,Zd,bF,aeG,aH,bc,bK,cK,aeG,aa3 (gF fE) i,g,aH,be,dc,AZ,gh,be,bj,bm,av];exact b9
theorem auy(e:fk t 2 p n o a){c:Nat}(j:c<=3000)(H:aK u 271 [.agg o] (ao c))(k:0<=z/\z<1000000):∃s d,qK u [.agg t,.agg (ew x y z)] 0 .nil= .ok (.agg (ew x y (z+c))) 0 s d:=by
 have t0:=e.eO;have eV:=e.eV;have l:=e.b2;have r:=ve x y (z+c);have w:=rG x y (z+c);have A:(ew x y z)[0+2]? =some (ao z):=rfl;have g:(ew x y z).take (0+2)++[ao (z+c)]++(ew x y z).drop (0+2+1)=ew x y (z+c):=rfl;have i:0+2+1<=(ew x y z).length:=by rw[rG];omega
 rw[qK,dE,Kp,cy,cy,J1,de,bp,bb,aH,bc,bK,dj,bk,a6,Ll,ff,dj,bN,bL,Zw,ff,Yz,aJ,cH,aN,aH,bc,Wx,bb,aJ,cH,aN,aH,e8 eV,e.t3,aV,aN,bm,av,aT,bF,ff,cK,Yz,cH,aN,azq (gF fE) i,g,aH,be,dc,AZ,gh,be,bj,bm,av];exact b9
def dY(l:List (Nat×Nat×Nat)):Nat×Nat×Nat:=l.foldr (λp q=>(p.1+q.1,p.2.1+q.2.1,p.2.2+q.2.2)) (0,0,0)
theorem anM(bs:aR.length=I.length)(hl:I.length<100)(H:∀(i:Nat) (t:aB) (w:Nat×Nat×Nat),I[i]? =some t->aR[i]? =some w->cq t/\w.1<=3000/\w.2.1<=3000/\w.2.2<=3000/\∀x y z:Int,0<=x/\x<400000->0<=y/\y<400000->0<=z/\z<400000->aK u 233 [.agg t,.agg (ew x y z)] (.agg (ew (x+w.1) (y+w.2.1) (z+w.2.2)))){a4:an}(e:gT){r:an}
 (K:∀(h:aI) (s3 s4:Nat) (Z:aB) (x y z:Int),b4 h 0->da h->h.aj (0+3)= .box s3 (ew x y z)->a4= .bn (0+4) s4 0->h.aj (0+4)= .box s4 Z->Z.length=3->∃s d,e (.bn (0+3) s3 0) a4 h= .ok (.agg (ew x y z)) 0 s d):
 ∀(n k N:Nat) (h:aI) (s3 s4:Nat) (Z:aB) (x y z:Int),n+k=I.length->n<N->b4 h 0->da h->h.aj (0+3)= .box s3 (ew x y z)->a4= .bn (0+4) s4 0->h.aj (0+4)= .box s4 Z->Z.length=3->0<=x/\x<300000-n*3000->0<=y/\y<300000-n*3000->0<=z/\z<300000-n*3000->
 ∃s d,fs 3 4 31 32 33 N (Am u 0 e) (.bn (0+3) s3 0) a4 (.aQ 11 I) (ao I.length) (ao k) h= .ok (.agg (ew (x+(dY (aR.drop k)).1) (y+(dY (aR.drop k)).2.1) (z+(dY (aR.drop k)).2.2))) 0 s d:=by
 intro n;induction n with
 |zero=>
  intro k N h s3 s4 Z x y z L M ub D g j l A O P Q;obtain⟨N,rfl⟩:=cN N;rw[gI,lO];have R:=K h s3 s4 Z x y z ub D g j l A;have S:ew (x+(dY []).1) (y+(dY []).2.1) (z+(dY []).2.2)=ew x y z:=by simp[dY]
  rw[S];generalize fs 3 4 31 32 33 N (Am u 0 e)=T;rw[Am,bO,bk,a6];exact R
 |succ n X=>
  intro k N h s3 s4 Z x y z L M ub D g j l A O P Q;obtain⟨N,rfl⟩:=cN N;have E:I[k]? =some (I[k]'(by omega)):=dC _;have G:aR[k]? =some (aR[k]'(by omega)):=dC _;have J:aR.drop k=aR[k]'(by omega)::aR.drop (k+1):=iK (by omega);obtain⟨⟨t1,t2⟩,a1,a2,a3,B⟩:=H k _ _ E G;generalize (I[k]'(by omega))=t at E t1 t2 B;generalize (aR[k]'(by omega))=w at G a1 a2 a3 B J;have bx:=B x y z (by omega) (by omega) (by omega);have cc:=rG (x+w.1) (y+w.2.1) (z+w.2.2);have wp:=ve (x+w.1) (y+w.2.1) (z+w.2.2);have cl:=rG x y z;have cn:=ve x y z;have C:=λ(h:aI) (Z:aB)=>X (k+1) N h s3 s4 Z (x+w.1) (y+w.2.1) (z+w.2.2) (by omega) (by omega);have a5:((k+1:Nat):Int)=(k:Int)+1:=by omega
  have es:ew (x+(dY (aR.drop k)).1) (y+(dY (aR.drop k)).2.1) (z+(dY (aR.drop k)).2.2)=ew (x+w.1+(dY (aR.drop (k+1))).1) (y+w.2.1+(dY (aR.drop (k+1))).2.1) (z+w.2.2+(dY (aR.drop (k+1))).2.2):=by rw[J];have:dY (w::aR.drop (k+1))=(w.1+(dY (aR.drop (k+1))).1,w.2.1+(dY (aR.drop (k+1))).2.1,w.2.2+(dY (aR.drop (k+1))).2.2):=rfl;rw[this];unfold ew;simp only[Int.natCast_add,Int.add_assoc]
  rw[gI,es];rw[a5] at C;generalize fs 3 4 31 32 33 N (Am u 0 e)=T at C;rw[Am,bO,bN,bL,aaY,bK,eE,ch,be,de,dc,aH,be,aH,be,ce,bm,bm,av,av,aT,dc,cK];refine C _ _ ?_ ?_ (gS (gi (gF g))) j (gi (gi (gF l))) A (by omega) (by omega) (by omega)
  ·infer_instance
  ·infer_instance
theorem aeW{a:an}(e:fk t 3 p n o (.aQ 11 I))(k:aR.length=I.length)(K:I.length<30)(H:∀(i:Nat) (t:aB) (w:Nat×Nat×Nat),I[i]? =some t->aR[i]? =some w->cq t/\w.1<=3000/\w.2.1<=3000/\w.2.2<=3000/\∀x y z:Int,0<=x/\x<400000->0<=y/\y<400000->0<=z/\z<400000->aK u 233 [.agg t,.agg (ew x y z)] (.agg (ew (x+w.1) (y+w.2.1) (z+w.2.2))))(L:0<=x/\x<10000)(M:0<=y/\y<10000)(l:0<=z/\z<10000):
 ∃s d,qK u [.agg t,.agg (ew x y z)] 0 .nil= .ok (.agg (ew (x+(dY aR).1) (y+1+(dY aR).2.1) (z+(dY aR).2.2))) 0 s d:=by
 have t0:=e.eO;have gP:=e.gP;have N:(ew x y z)[0+1]? =some (ao y):=rfl;have A:(ew x y z).take (0+1)++[ao (y+1)]++(ew x y z).drop (0+1+1)=ew x (y+1) z:=rfl;have B:0+1+1<=(ew x y z).length:=by rw[rG];omega
 have C:=λ(a4:an)=>anM (u:=u) (a4:=a4) k (by omega) H (λD g j=>aW j.aj true 3 D λE=>aX 0 none 3 g E j λ_ G=>AZ 0 g G) (r:= .aE) (λh s3 s4 Z x y z ub O P J Q l=>by have R:=ve x y z;have eV:=rG x y z;subst J;rw[aH,be,dc,AZ,gh,be,bj,bm,av];exact b9)
 rw[qK,dE,Kp,cy,cy,J1,de,bp,bb,aH,bc,bK,dj,bk,a6,Ll,ff,dj,bk,a6,aaf,i2,dj,bN,bL,TD,bK,acC,aH,bc,bF,cK,acC,aa3 (gF fE) B,A,bp,bb,aH,bc,eA];refine C _ I.length 0 1000000 _ _ _ [ao 0,ao 0,ao 0] x (y+1) z (by omega) (by omega) ?_ ?_ (gS (gF fE)) rfl (gi fE) rfl (by omega) (by omega) (by omega)
 ·infer_instance
 ·infer_instance
end
end
section
variable{a c x y z x' y' z':Int}
section
variable[Tok] {u:Fn} {b:Nat}
def e4(a c:Int):Int:=if a<c then-1 else if c<a then 1 else 0
theorem Nc(h:a<c):e4 a c= -1:=by unfold e4;rw[if_pos h]
theorem WP(h:c<a):e4 a c=1:=by unfold e4;rw[cz,if_pos h]
theorem Eo(h:a=c:=by omega):e4 a c=0:=by unfold e4;rw[cz,cz]
theorem xo(a c:Int): -1<=e4 a c/\e4 a c<=1:=by unfold e4;split<;>(try split)<;>omega
theorem aDX(e: -100000<c):∃s d,Dd u [ao c] 0 .nil= .ok (.F false) 0 s d:=by rw[Dd,dK,Tj,dF,gK (by simp),acM,bj,fO,av];exact b9
theorem ail(e: -100000<a)(g: -100000<c)(H:∀c:Int,-100000<c->aK u 331 [ao c] (.F false)):∃s d,wO u [ao a,ao c] 0 .nil= .ok (ao (e4 a c)) 0 s d:=by
 have i:=H a e;have j:=H c g;by_cases h:a<c
 ·rw[Nc h];rw[wO,dE,JI,bg,b7,av,aT,bg,b7,av,aT,a6,II,a6,Hw,bO,bN,bL,sj,pE,bj,b7,av];exact b9
 ·by_cases h':c<a
  ·rw[WP h'];rw[wO,dE,JI,bg,b7,av,aT,bg,b7,av,aT,a6,II,a6,Hw,bO,bk,a6,Kx,hH,bN,bL,sj,bK,bj,b7,av];exact b9
  ·rw[Eo];rw[wO,dE,JI,bg,b7,av,aT,bg,b7,av,aT,a6,II,a6,Hw,bO,bk,a6,Kx,hH,bk,a6,sj,bF,bj,b7,av];exact b9
def eV(x y z:Int):an:= .aQ 1 [[ao x],[ao y],[ao z]]
def oz(x y z x' y' z':Int):Int:=if e4 x x'≠0 then e4 x x' else if e4 y y'≠0 then e4 y y' else e4 z z'
theorem axf(l: -100000<x/\ -100000<x')(n: -100000<y/\ -100000<y')(o: -100000<z/\ -100000<z')(H:∀a c:Int,-100000<a-> -100000<c->aK u 281 [ao a,ao c] (ao (e4 a c))):∃s d,xC u [eV x y z,eV x' y' z'] 0 .nil= .ok (ao (oz x y z x' y' z')) 0 s d:=by
 have w:=H x x' l.1 l.2;have A:=H y y' n.1 n.2;have B:=H z z' o.1 o.2;have I:=xo x x';have J:=xo y y';have K:=xo z z';have g:∀x y z:Int,∀k:an->aw,bq false (eV x y z) k=k (ao 3):=λx y z k=>eA _ _ k;have h:∀(ob:ej) (x y z:Int) (k:an->aw),cb ob 1 (eV x y z) (ao 0) k=k (.ep [ao x] 0):=λob x y z k=>hu rfl k;have i:∀(ob:ej) (x y z:Int) (k:an->aw),cb ob 1 (eV x y z) (ao 1) k=k (.ep [ao y] 0):=λob x y z k=>of rfl k;have j:∀(ob:ej) (x y z:Int) (k:an->aw),cb ob 1 (eV x y z) (ao 2) k=k (.ep [ao z] 0):=λob x y z k=>by rw[show(2:Int)=((2:Nat):Int) from rfl];exact eE rfl k
 have e:∀(v:an) (k:an->aw),kJ false 1 [v] 0 k=k v:=λv k=>bc rfl k;unfold oz;by_cases p:e4 x x'≠0
 ·rw[cv p];rw[xC,dE,Is,g];rw[hQ,gI];rw[qD,bF,bO,bN,bL,rj,h,ch,e,g,ix,bk,a6,rS,bF,h,ch,e,ce,b7,b7,av,av,aT,dF,bN,bL,v5,bj,b7,av];exact b9
 ·rw[cU p];have C:e4 x x'=0:=by omega
  rw[C] at w;by_cases q:e4 y y'≠0
  ·rw[cv q];rw[xC,dE,Is,g];rw[hQ,gI,show(999999:Nat)=999998+1 from rfl,gI];rw[qD,bF,bO,bN,bL,rj,h,ch,e,g,ix,bk,a6,rS,bF,h,ch,e,ce,b7,b7,av,av,aT,dF,bk,a6,bK,cK,show(0:Int)+1=1 from rfl,qD,bO,bN,bL,rj,i,ch,e,g,ix,bk,a6,rS,i,ch,e,ce,b7,b7,av,av,aT,bF,dF,bN,bL,v5,bj,b7,av];exact b9
  ·rw[cU q];have D:e4 y y'=0:=by omega
   rw[D] at A;rw[xC,dE,Is,g];rw[hQ,gI,show(999999:Nat)=999998+1 from rfl,gI,show(999998:Nat)=999997+1 from rfl,gI,show(999997:Nat)=999996+1 from rfl,gI];have r:∀k:an->aw,bR (ao 0) (ao 1) k=k (ao 1):=λk=>cK (by omega) (by omega) (by omega) (by omega) k;have t:∀k:an->aw,bR (ao 1) (ao 1) k=k (ao 2):=λk=>cK (by omega) (by omega) (by omega) (by omega) k;have E:∀k:an->aw,bR (ao 2) (ao 1) k=k (ao 3):=λk=>cK (by omega) (by omega) (by omega) (by omega) k;by_cases L:e4 z z'≠0
   ·rw[qD,bF,bO,bN,bL,rj,h,ch,e,g,ix,bk,a6,rS,bF,h,ch,e,ce,b7,b7,av,av,aT,dF,bk,a6,bK,r,qD,bO,bN,bL,rj,i,ch,e,g,ix,bk,a6,rS,i,ch,e,ce,b7,b7,av,av,aT,bF,dF,bk,a6,bK,t,qD,bO,bN,bL,rj,j,ch,e,g,ix,bk,a6,rS,j,ch,e,ce,b7,b7,av,av,aT,bF,dF,bN,bL,v5,bj,b7,av];exact b9
   ·have G:e4 z z'=0:=by omega
    rw[G] at B ⊢;rw[qD,bF,bO,bN,bL,rj,h,ch,e,g,ix,bk,a6,rS,bF,h,ch,e,ce,b7,b7,av,av,aT,dF,bk,a6,bK,r,qD,bO,bN,bL,rj,i,ch,e,g,ix,bk,a6,rS,i,ch,e,ce,b7,b7,av,av,aT,bF,dF,bk,a6,bK,t,qD,bO,bN,bL,rj,j,ch,e,g,ix,bk,a6,rS,j,ch,e,ce,b7,b7,av,av,aT,bF,dF,bk,a6,bK,E,qD,bO,bk,a6,YA,g,g,bO,bk,a6,v5,bF,bj,b7,av];exact b9
theorem Yk{d s:Nat}{l:List Nat}{h:aI}[b4 h b](i:h.aj (b+d)= .box s (ew x y z))(k:dg)(j:eb l d=true:=by rfl)(g:d<4096:=by decide):i3 b (some l) (v7 h.aj 3 (.bn (b+d) s 0)) h k=k (eV x y z) (h.g4 b d (.ae (.ax s))):=by
 have n:v7 h.aj 3 (.bn (b+d) s 0)=some (eV x y z,[(b+d,.ax s)]):=by
  have o:∀ob:Nat->dM,v7 ob 3 (.bn (b+d) s 0)=match ob (b+d) with
   | .box p cs=>bif Nat.beq s p&&Nat.beq cs.length 3&&Nat.ble 3 1048576&&cs.all w3 then some (.aQ 1 (cs.map λq=>[q]),[(b+d,.ax s)]) else none
   |_=>none:=λ_=>rfl
  rw[o,i];show(bif Nat.beq s s&&true&&true&&(w3 (ao x)&&(w3 (ao y)&&(w3 (ao z)&&true))) then _ else _)=_;have e:∀c:Int,w3 (ao c)=true:=λc=>by rw[cX];rfl
  rw[gb,e,e,e];rfl
 rw[n,zm (mN g j) (b4.lt g)];rfl
theorem acD{t s:aB}(i:cq t)(j:cq s){r:Int}(n:aK u 233 [.agg t,.agg (ew 0 0 0)] (.agg (ew x y z)))(o:aK u 233 [.agg s,.agg (ew 0 0 0)] (.agg (ew x' y' z')))(p:aK u 234 [eV x y z,eV x' y' z'] (ao r))(q:r≠0)(w: -10<r):
 ∃l d,xx u [.agg t,.agg s] 0 .nil= .ok (ao r) 0 l d:=by
 obtain⟨t1,t2⟩:=i;obtain⟨s1,s2⟩:=j;have A:=ve x y z;have B:=ve x' y' z';have C:=rG x y z;have D:=rG x' y' z';have E:=ve 0 0 0;have e:∀k:an->aw,eT [aL,aL,aL] k=k (.agg (ew 0 0 0)):=λk=>by rw[hL,bF];rfl
 have g:∀(x y z:Int) (ob:ej) (f:jm),aD ob (eV x y z) f=f (eV x y z) []:=λx y z ob f=>mg _ _ _ f;have h:∀(x y z:Int),jP 0 [] (eV x y z)=true:=λx y z=>rfl;rw[xx,dE,aa5,cy,cy,RZ,aJ,cH,aN,aH,be,e,aV,aV,aN,bm,bm,av,av,aT,aJ,cH,aN,aH,be,e,aas,aV,aV,aN,bm,bm,av,av,aT,tw,tw,cH,aN,hD,cH,aN,hD,ael,cH,aN,Yk (gi (gS (gF fE))),cH,aN,Yk (Dr (gS (gi fE))),aV (h _ _ _),aV (h _ _ _),aN,g,g,av,av,aT,bF,dF,bN,bL,LP,bj,b7,av];exact b9
end
end
section
variable{Lf:aB->Prop} {c:Nat} {o t:aB} {n p a:an} {I:aY} {aR:List (Nat×Nat×Nat)}
section
variable[Tok] {u:Fn} {b:Nat}
theorem ako(e:∀o,Lf o->wL o){m:Nat}(H:∀n c o,n<m->lJ Lf n c o->∀l:Int,(c:Int)<l->l<100000->aK u 169 [.agg o,ao l] (ao c))(g:lJ Lf m c o){l:Int}(z:(c:Int)<l)(A:l<100000):
 ∃s d,A6 u [.agg o,ao l] 0 .nil= .ok (ao c) 0 s d:=by
 have i:=g.v e;obtain⟨eR,w⟩:=i;cases g with
 |bh g=>obtain⟨k,a1,c1,a2,c2,B,C,a4,D,E,G,J,K,i⟩:=e _ g;have l4:=i.l4;rw[show((1:Nat):Int)=1 from rfl];rw[A6,dE,Li,cy,PL,bp,bb,aH,bc,hy,ff,dF,bN,lL,Ka,dR,gE,bL,CP,bK,bj,b7,av];exact b9
 | @cons n h j a d q r=>
   have L:=q.dv;have M:=r.dv;obtain⟨N,O⟩:=q.v e;obtain⟨P,Q⟩:=r.v e;have l4:=(ye (a:=a) (d:=d)).l4;have R:=H n h a (by omega) q (l-1) (by omega) (by omega);have S:=H n j d (by omega) r (l-(1+(h:Int))) (by omega) (by omega);have x:∀k:an->aw,bq false (.aQ 7 [a,d]) k=k (ao 2):=λk=>eA _ _ k;have T:([a,d]:aY)[0]? =some a:=rfl;have X:([a,d]:aY)[1]? =some d:=rfl;have y:((1+h+j:Nat):Int)=1+(h:Int)+j:=by omega
   rw[y];generalize ([ao 4,.s 0 0,.s 0 0,.s 0 0,.s 0 0,.s 0 0,.aQ 7 [a,d]]:aB)=o at eR w l4;rw[A6,dE,Li,cy,PL,bp,bb,aH,bc,x,ff,dF,bk,fZ,bK,qd,bk,Ka,dO,a6,PB,bp,bb,aH,bc,bF,hu,ch,be,S9,bK,e1,ce,bm,b7,av,av,aT,cK,ix,bk,a6,YY,bp,bb,aH,bc,bK,of,ch,be,e1,ce,bm,b7,av,av,aT,cK,CP,bj,b7,av];exact b9
theorem atW(e:∀o,Lf o->wL o){n:Nat}(g:lJ Lf n c o)(H:aK u 169 [.agg o,ao 3001] (ao c)):∃s d,ES u [.agg o] 0 .nil= .ok (ao c) 0 s d:=by obtain⟨eR,h⟩:=g.v e;rw[ES,dK,Tv,cy,aH,be,bm,av,ND,aT,Vw,bj,b7,av];exact b9
def t3(x y z:Int):an:= .a0 [ao x,ao y,ao z]
theorem x1(x y z:Int)(k:an->aw):bS (t3 x y z) 0 k=k (ao x):=rq _ _ _ (by rw[cX];simp) k
theorem xm(x y z:Int)(k:an->aw):bS (t3 x y z) 1 k=k (ao y):=rr _ _ _ (by rw[cX];simp) k
theorem wI(x y z:Int)(k:an->aw):bS (t3 x y z) 2 k=k (ao z):=rN _ _ _ (by rw[cX];simp) k
theorem aD8(e:fk t 1 p n o a):∃s d,qI u [.agg t] 0 .nil= .ok (t3 1 0 0) 0 s d:=by have t0:=e.eO;rw[qI,dK,FQ,cy,bp,bb,aH,bc,bK,dj,bN,bL,tG,b7,bF,b7,b7,av,av,av];exact b9
theorem amF(e:fk t 2 p n o a)(H:aK u 106 [.agg o] (ao c)):∃s d,qI u [.agg t] 0 .nil= .ok (t3 0 0 c) 0 s d:=by have t0:=e.eO;have eV:=e.eV;have g:=e.b2;rw[qI,dK,FQ,cy,bp,bb,aH,bc,bK,dj,bk,a6,Lc,ff,dj,bN,bL,Rw,bb,aH,e8 eV,e.t3,bg,bm,av,aT,tG,bF,b7,b7,b7,av,av,av];exact b9
theorem aoE{a:an}(D:fk t 3 p n o (.aQ 11 I))(X:aR.length=I.length)(Z:I.length<100)(H:∀(i:Nat) (t:aB) (w:Nat×Nat×Nat),I[i]? =some t->aR[i]? =some w->cq t/\w.1<=3000/\w.2.1<=3000/\w.2.2<=3000/\aK u 242 [.agg t] (t3 w.1 w.2.1 w.2.2)){h:aI}{s1:Nat}(ub:b4 h 0)(a1:da h)(h1:h.aj (0+1)= .box s1 t):
 ∀(n k N:Nat) (x y z:Int),n+k=I.length->n<N->0<=x/\x<400000-n*3000->0<=y/\y<400000-n*3000->0<=z/\z<400000-n*3000->
 ∃s d,fs 1 5 6 7 8 N (z9 u 0 (λe g j l=>tG 0 e g j l)) (.bn (0+1) s1 0) (ao x) (ao y) (ao z) (ao k) h= .ok (t3 (x+(dY (aR.drop k)).1) (y+(dY (aR.drop k)).2.1) (z+(dY (aR.drop k)).2.2)) 0 s d:=by
 have gP:=D.gP;intro n;induction n with
 |zero=>
  intro k N x y z E G J K L;obtain⟨N,rfl⟩:=cN N;rw[gI,lO];have M:t3 (x+(dY []).1) (y+(dY []).2.1) (z+(dY []).2.2)=t3 x y z:=by simp[dY]
  rw[M];generalize fs 1 5 6 7 8 N (z9 u 0 (λe g j l=>tG 0 e g j l))=O;rw[z9,bp,bb,aH,bc,eA,bO,bk,a6,tG,b7,b7,b7,av,av,av];exact b9
 |succ n P=>
  intro k N x y z E G J K L;obtain⟨N,rfl⟩:=cN N;have r:I[k]? =some (I[k]'(by omega)):=dC _;have A:aR[k]? =some (aR[k]'(by omega)):=dC _;have B:aR.drop k=aR[k]'(by omega)::aR.drop (k+1):=iK (by omega);obtain⟨⟨t1,t2⟩,Q,R,S,C⟩:=H k _ _ r A;generalize (I[k]'(by omega))=t at r t1 t2 C;generalize (aR[k]'(by omega))=w at A Q R S C B;have q:=P (k+1) N (x+w.1) (y+w.2.1) (z+w.2.2) (by omega) (by omega) (by omega) (by omega) (by omega);have T:((k+1:Nat):Int)=(k:Int)+1:=by omega
  have es:t3 (x+(dY (aR.drop k)).1) (y+(dY (aR.drop k)).2.1) (z+(dY (aR.drop k)).2.2)=t3 (x+w.1+(dY (aR.drop (k+1))).1) (y+w.2.1+(dY (aR.drop (k+1))).2.1) (z+w.2.2+(dY (aR.drop (k+1))).2.2):=by rw[B];have:dY (w::aR.drop (k+1))=(w.1+(dY (aR.drop (k+1))).1,w.2.1+(dY (aR.drop (k+1))).2.1,w.2.2+(dY (aR.drop (k+1))).2.2):=rfl;rw[this];unfold t3;simp only[Int.natCast_add,Int.add_assoc]
  rw[gI,es];rw[T] at q;generalize fs 1 5 6 7 8 N (z9 u 0 (λe g j l=>tG 0 e g j l))=O at q;rw[z9,bp,bb,aH,bc,eA,bO,bN,bL,Xn,bp,bb,aH,bc,aeR,bK,eE,ch,be,bg,bm,av,aT,x1,xm,wI,cK,cK,cK,cK];exact q
theorem ap2{a:an}(e:fk t 3 p n o (.aQ 11 I))(j:aR.length=I.length)(q:I.length<30)(H:∀(i:Nat) (t:aB) (w:Nat×Nat×Nat),I[i]? =some t->aR[i]? =some w->cq t/\w.1<=3000/\w.2.1<=3000/\w.2.2<=3000/\aK u 242 [.agg t] (t3 w.1 w.2.1 w.2.2)):
 ∃s d,qI u [.agg t] 0 .nil= .ok (t3 (dY aR).1 (1+(dY aR).2.1) (dY aR).2.2) 0 s d:=by
 have t0:=e.eO;have g:=λ(h:aI) (s1:Nat) (ub:b4 h 0) (k:da h) (l:h.aj (0+1)= .box s1 t)=>aoE (u:=u) (a:=a) e j (by omega) H ub k l I.length 0 1000000 0 1 0 (by omega) (by omega) (by omega) (by omega) (by omega);simp only[Int.zero_add,u7] at g;rw[qI,dK,FQ,cy,bp,bb,aH,bc,bK,dj,bk,a6,Lc,ff,dj,bk,a6,SN];rw[bF,bK];refine g _ _ ?_ ?_ fE
 ·infer_instance
 ·infer_instance
theorem amw{a c:Int}(e: -100000<a)(g: -100000<c):∃s d,xp u [ao a,ao c] 0 .nil= .ok (ao (e4 a c)) 0 s d:=by
 by_cases h:a<c
 ·rw[Nc h];rw[xp,dE,Jg,bO,bN,bL,zL,pE,bj,b7,av];exact b9
 ·by_cases h':c<a
  ·rw[WP h'];rw[xp,dE,Jg,bO,bk,a6,LN,hH,bN,bL,zL,bK,bj,b7,av];exact b9
  ·rw[Eo];rw[xp,dE,Jg,bO,bk,a6,LN,hH,bk,a6,zL,bF,bj,b7,av];exact b9
theorem Sf{s:aB}(r:cq t)(w:cq s){x y z g h i:Int}(k: -100000<x/\ -100000<g)(l: -100000<y/\ -100000<h)(q: -100000<z/\ -100000<i)(E:aK u 242 [.agg t] (t3 x y z))(G:aK u 242 [.agg s] (t3 g h i))(j:∀a c:Int,-100000<a-> -100000<c->aK u 243 [ao a,ao c] (ao (e4 a c)))(A:oz x y z g h i≠0):
 ∃B d,uu u [.agg t,.agg s] 0 .nil= .ok (ao (oz x y z g h i)) 0 B d:=by
 obtain⟨t1,t2⟩:=r;obtain⟨s1,s2⟩:=w;have H:=j x g k.1 k.2;have J:=j y h l.1 l.2;have K:=j z i q.1 q.2;by_cases C:x=g
 ·have s1:e4 x g=0:=Eo C;by_cases D:y=h
  ·have s2:e4 y h=0:=Eo D;have el:oz x y z g h i=e4 z i:=by unfold oz;rw[cz,cz]
   have L:z≠i:=λe=>A (by rw[el];exact Eo e);rw[el];rw[uu,dE,F1,cy,cy,aH,be,bg,bm,av,aT,x1,xm,wI,aH,be,JD,bg,bm,av,aT,x1,xm,wI,dF,bk,a6,QL,dF,bk,a6,WO,dF,bN,bL,adl,ce,b7,b7,av,av,aT,ws,bj,b7,av];exact b9
  ·have s2:e4 y h≠0:=by unfold e4;split<;>(try split)<;>omega
   have el:oz x y z g h i=e4 y h:=by unfold oz;rw[cz,if_pos s2]
   rw[el];rw[uu,dE,F1,cy,cy,aH,be,bg,bm,av,aT,x1,xm,wI,aH,be,JD,bg,bm,av,aT,x1,xm,wI,dF,bk,a6,QL,dF,bN,bL,W9,ce,b7,b7,av,av,aT,ws,bj,b7,av];exact b9
 ·have s2:e4 x g≠0:=by unfold e4;split<;>(try split)<;>omega
  have el:oz x y z g h i=e4 x g:=by unfold oz;rw[if_pos s2]
  rw[el];rw[uu,dE,F1,cy,cy,aH,be,bg,bm,av,aT,x1,xm,wI,aH,be,JD,bg,bm,av,aT,x1,xm,wI,dF,bN,bL,VQ,ce,b7,b7,av,av,aT,ws,bj,b7,av];exact b9
end
end
section
variable{a p n:an} {o t:aB} {c l:Int} {I:aY} {C:List Nat} {h:aI}
section
variable[Tok] {u:Fn} {b:Nat}
theorem aba:(F3:an)=ao 3000:=by rw[cX];rfl
theorem alr:(zY:an)=ao 200:=by rw[cX];rfl
theorem ars:(ady:an)=ao 201:=by rw[cX];rfl
theorem awj{a d:aB}(i:a.length=7/\b8 a=true)(j:d.length=7/\b8 d=true)(w:aK u 107 [.agg a] (.F true))(x:aK u 107 [.agg d] (.F true)):∃s e,Dz u [.agg [ao 4,.s 0 0,.s 0 0,.s 0 0,.s 0 0,.s 0 0,.aQ 7 [a,d]]] 0 .nil= .ok (.F true) 0 s e:=by obtain⟨y,z⟩:=i;obtain⟨A,B⟩:=j;have g:=ye (a:=a) (d:=d);have eO:=g.eO;have dB:=g.dB;have cT:=g.cT;have mw:=g.mw;have l4:=g.l4;have eV:=g.eV;have t3:=g.t3;have q:∀k:an->aw,bq false (.aQ 7 [a,d]) k=k (ao 2):=λk=>eA _ _ k;have D:([a,d]:aY)[0]? =some a:=rfl;have E:([a,d]:aY)[1]? =some d:=rfl;have es:∀k:an->aw,bY (.s 0 0) (.s 0 0) k=k (.F true):=λk=>rfl;have r:∀k:an->aw,mV false (.agg [.s 0 0,.s 0 0]) (.agg [.s 0 0,.s 0 0]) k=k (.F true):=λk=>rfl;generalize ([ao 4,.s 0 0,.s 0 0,.s 0 0,.s 0 0,.s 0 0,.aQ 7 [a,d]]:aB)=o at eO dB cT mw l4 eV t3;rw[Dz,dK,YH,cy,bb,YT,aH,e8 eV,t3,hL,r,bp,bb,aH,bc,bK,dj,bk,a6,Ur,ff,dj,bk,a6,aeU,i2,dj,bk,a6,Xl,p7,dj,bN,bL,aet,fi,bb,aH,bc,es,MO,dR,fi,bb,aH,bc,es,LS,dR,fi,bb,aH,bc,es,NY,dR,fi,bb,aH,bc,q,ff,dj,bN,Lt,dR,fi,ZL,bb,aH,bc,bF,hu,ch,be,bg,bm,av,aT,PA,dR,fQ,fi,Ze,bb,aH,bc,bK,of,ch,be,bg,bm,av,aT,dR,rx,bj,fO,av];exact b9
theorem aqa(e:o.length=7/\b8 o=true){c:Nat}(g:c<=3000)(i:aK u 106 [.agg o] (ao c))(j:aK u 107 [.agg o] (.F true)):∃s d,BI u [.agg o] 0 .nil= .ok (.F true) 0 s d:=by obtain⟨eR,k⟩:=e;rw[BI,dK,S3,cy,aH,be,Si,bg,bm,av,aT,aba,qd,bN,fQ,fi,aH,be,bg,bm,av,aT,dR,Pc,bj,fO,av];exact b9
theorem ajq{a:an}(e:fk t 3 p n o (.aQ 11 I)):∃s d,tY u [.agg t] 0 .nil= .ok (.aQ 11 I) 0 s d:=by have eO:=e.eO;have gP:=e.gP;rw[tY,dK,QC,cy,bp,bb,aH,bc,i2,dF,bk,a6,bp,bb,aH,bc,HU,bj,mg,av];exact b9
theorem Te{k:Int}(e:fk t k p n o a)(g:0<=k/\k<3):∃s d,tY u [.agg t] 0 .nil= .ok .aE 0 s d:=by have eO:=e.eO;rw[tY,dK,QC,cy,bp,bb,aH,bc,i2,dF,bN,bL,HU,bj,yg,av];exact b9
theorem aq3(e:fk t 2 p n o a){c:Nat}(i:(c:Int)<=l)(H:aK u 106 [.agg o] (ao c)):∃s d,qV u [.agg t,ao l] 0 .nil= .ok (ao c) 0 s d:=by
 have eO:=e.eO;have eV:=e.eV;have j:=e.b2;have g:min l (c:Int)=c:=by omega
 rw[qV,dE,H3,cy,bp,bb,aH,bc,ff,dj,bN,bL,Yy,bb,aH,e8 eV,e.t3,bg,bm,av,aT,anZ (by omega) (by omega),g,ur,bj,b7,av];exact b9
theorem agh(e:fk t 1 p n o a)(g:1<=l)(i:l<100000)(H:aK u 141 [.agg t] .aE):∃s d,qV u [.agg t,ao l] 0 .nil= .ok (ao 1) 0 s d:=by have eO:=e.eO;have tl:=e.aa;have j:=e.e5;rw[qV,dE,H3,cy,bp,bb,aH,bc,ff,dj,bk,a6,NX,aH,be,bg,bm,av,aT];rw[hQ,fj];rw[yu,hy,bF,bO,bk,iE,Dc,dO,fQ,a6,ur,bK,bj,b7,av];exact b9
theorem atu(L:C.length=I.length)(M:I.length<100)(O:l<100000)(H:∀(i:Nat) (t:aB) (c:Nat),I[i]? =some t->C[i]? =some c->cq t/\c<=3000/\∀l:Int,(c:Int)<l->l<100000->aK u 307 [.agg t,ao l] (ao c))(ub:b4 h 0)(P:da h):
 ∀(n k N:Nat) (x:Int),n+k=I.length->n<N->0<=x->x+(C.drop k).sum<l->
 ∃s d,du 1 5 6 7 N (yu u 0 (λe g=>ur 0 e g)) (ao l) (ao x) (.aQ 11 I) (ao k) h= .ok (ao (x+(C.drop k).sum)) 0 s d:=by
 intro n;induction n with
 |zero=>
  intro k N x A B D r;obtain⟨N,rfl⟩:=cN N;rw[fj,lO];have E:x+(([]:List Nat).sum:Nat)=x:=by simp
  rw[E];generalize du 1 5 6 7 N (yu u 0 (λe g=>ur 0 e g))=j4;rw[yu,eA,bO,bk,iE,Dc,dO,fQ,a6,ur,bj,b7,av];exact b9
 |succ n G=>
  intro k N x A B D r;obtain⟨N,rfl⟩:=cN N;have w:I[k]? =some (I[k]'(by omega)):=dC _;have y:C[k]? =some (C[k]'(by omega)):=dC _;have z:C.drop k=C[k]'(by omega)::C.drop (k+1):=iK (by omega);obtain⟨⟨t1,t2⟩,J,j⟩:=H k _ _ w y;generalize (I[k]'(by omega))=t at w t1 t2 j;generalize (C[k]'(by omega))=c at y J j z;rw[z,List.sum_cons] at r ⊢;have Q:=j (l-x) (by omega) (by omega);have q:=G (k+1) N (x+c) (by omega) (by omega) (by omega) (by omega);have K:((k+1:Nat):Int)=(k:Int)+1:=by omega
  have es:x+((c+(C.drop (k+1)).sum:Nat):Int)=x+c+((C.drop (k+1)).sum:Nat):=by omega
  rw[fj,es];rw[K] at q;generalize du 1 5 6 7 N (yu u 0 (λe g=>ur 0 e g))=j4 at q;rw[yu,eA,bO,bN,fi,bO,bN,Dc,dR,bL,Og,bK,eE,ch,be,e1,ce,bm,b7,av,av,aT,cK,cK];exact q
theorem apD{a:an}(e:fk t 3 p n o (.aQ 11 I))(j:C.length=I.length)(w:I.length<30)(k:l<100000)(H:∀(i:Nat) (t:aB) (c:Nat),I[i]? =some t->C[i]? =some c->cq t/\c<=3000/\∀l:Int,(c:Int)<l->l<100000->aK u 307 [.agg t,ao l] (ao c))(x:aK u 141 [.agg t] (.aQ 11 I))(q:1+(C.sum:Int)<l):
 ∃s d,qV u [.agg t,ao l] 0 .nil= .ok (ao (1+(C.sum:Nat))) 0 s d:=by
 have eO:=e.eO;have tl:=e.aa;have y:=e.e5;have g:=λ(h:aI) (ub:b4 h 0) (r:da h)=>atu (u:=u) j (by omega) k H ub r I.length 0 1000000 1 (by omega) (by omega) (by omega) (by rw[u7];exact q);simp only[u7] at g;rw[qV,dE,H3,cy,bp,bb,aH,bc,ff,dj,bk,a6,NX,aH,be,bg,bm,av,aT];rw[bF,bK];refine g _ ?_ ?_
 ·infer_instance
 ·infer_instance
theorem amb(e:cq t)(H:aK u 307 [.agg t,ao 3001] (ao c)):∃s d,Ez u [.agg t] 0 .nil= .ok (ao c) 0 s d:=by obtain⟨t1,t2⟩:=e;rw[Ez,dK,Un,cy,aH,be,bm,av,ND,aT,Rn,bj,b7,av];exact b9
theorem aw8(e:cq t)(g:1<=l)(H:aK u 141 [.agg t] .aE):∃s d,uh u [.agg t,ao l] 0 .nil= .ok (ao 1) 0 s d:=by obtain⟨t1,t2⟩:=e;rw[uh,dE,Ql,cy,aH,be,bg,bm,av,aT];rw[hQ,fj];rw[xU,hy,bF,bO,bk,iE,Be,dO,fQ,a6,bK,cK,show(0:Int)+1=1 from rfl,yL,bj,b7,av];exact b9
theorem alu(G:I.length<100)(J:1<l)(K:l<100000)(H:∀t∈I,cq t/\aK u 308 [.agg t,ao (l-1)] (ao 1))(ub:b4 h 0)(L:da h):
 ∀(n k N:Nat) (x:Int),n+k=I.length->n<N->0<=x/\x<=1->
 ∃s d,du 1 5 6 7 N (xU u 0 (λe g=>bR e aS λi=>yL 0 i g)) (ao l) (ao x) (.aQ 11 I) (ao k) h= .ok (ao (if n=0 then x+1 else 2)) 0 s d:=by
 intro n;induction n with
 |zero=>intro k N x r w y;obtain⟨N,rfl⟩:=cN N;rw[fj,cv rfl];generalize du 1 5 6 7 N (xU u 0 (λe g=>bR e aS λi=>yL 0 i g))=j4;rw[xU,eA,bO,bk,iE,Be,dO,fQ,a6,bK,cK,yL,bj,b7,av];exact b9
 |succ n z=>
  intro k N x r w y;obtain⟨N,rfl⟩:=cN N;have q:I[k]? =some (I[k]'(by omega)):=dC _;obtain⟨⟨t1,t2⟩,A⟩:=H _ (dr q);generalize (I[k]'(by omega))=t at q t1 t2 A;have j:=z (k+1) N 1 (by omega) (by omega) (by omega);have B:((k+1:Nat):Int)=(k:Int)+1:=by omega
  have D:max x (1:Int)=1:=by omega
  have E:(if n=0 then(1:Int)+1 else 2)=2:=by split<;>rfl
  rw[E] at j;rw[fj,cz];rw[B] at j;generalize du 1 5 6 7 N (xU u 0 (λe g=>bR e aS λi=>yL 0 i g))=j4 at j;rw[xU,eA,bO,bN,fi,bK,hH,bN,Be,dR,bL,QN,bK,eE,ch,be,e1,ce,bm,b7,av,av,aT,aaW,D,cK];exact j
theorem ai4(e:cq t)(j:I.length<30)(H:∀t∈I,cq t/\aK u 308 [.agg t,ao 200] (ao 1))(k:aK u 141 [.agg t] (.aQ 11 I)):
 ∃s d,uh u [.agg t,ao 201] 0 .nil= .ok (ao (if I.length=0 then 0+1 else 2)) 0 s d:=by
 obtain⟨t1,t2⟩:=e;have g:=λ(h:aI) (ub:b4 h 0) (i:da h)=>alu (u:=u) (l:=201) (by omega) (by omega) (by omega) H ub i I.length 0 1000000 0 (by omega) (by omega) (by omega);rw[uh,dE,Ql,cy,aH,be,bg,bm,av,aT];rw[bF];refine g _ ?_ ?_
 ·infer_instance
 ·infer_instance
theorem aoc(e:cq t)(H:aK u 308 [.agg t,ao 201] (ao c)):∃s d,Fp u [.agg t] 0 .nil= .ok (ao c) 0 s d:=by obtain⟨t1,t2⟩:=e;rw[Fp,dK,UZ,cy,aH,be,bm,av,ars,aT,SV,bj,b7,av];exact b9
theorem amV(g:fk t 2 (.s 0 0) (.s 0 0) o .aE){e:Bool}(r:aK u 65 [.agg o,.agg dx] (.F e))(w:aK u 39 [.agg o] (.F true)):∃s d,vr u [.agg t] 0 .nil= .ok (.F true) 0 s d:=by have eO:=g.eO;have gP:=g.gP;have eV:=g.eV;have i:=g.eD;have x:=g.b2;have y:b8 dx=true:=rfl;have j:∀k:an->aw,eT dx k=k (.agg dx):=λk=>hL _ _;have q:∀k:an->aw,mV false (.agg [.s 0 0,.s 0 0]) (.agg [.s 0 0,.s 0 0]) k=k (.F true):=λk=>rfl;rw[vr,dK,Ls,cy,bb,aH,e8 eV,g.t3,j,Q9,ce,bm,bm,av,av,aT,bp,bb,aH,bc,bK,dj,bk,a6,Mc,ff,dj,bN,bL,bb,WH,aH,e8 i,g.t1,hL,q,fi,bb,aH,e8 eV,g.t3,bg,bm,av,aT,Oj,dR,fQ,fi,bp,bb,aH,bc,hy,bF,dj,bN,dR,o1,bj,fO,av];exact b9
theorem aow(j:fk t 3 p n o (.aQ 11 I))(A:I.length<100)(H:∀t∈I,cq t/\aK u 261 [.agg t] (.F true)){s1:Nat}(ub:b4 h 0)(B:da h)(D:h.aj (0+1)= .box s1 t):
 ∀(n k N:Nat),n+k=I.length->n<N->∃s d,oq 1 4 N (yG u 0 (λe=>o1 0 dh e)) (.bn (0+1) s1 0) (ao k) h= .ok (.F true) 0 s d:=by
 have gP:=j.gP;intro n;induction n with
 |zero=>intro k N q r;obtain⟨N,rfl⟩:=cN N;rw[AN];generalize oq 1 4 N (yG u 0 (λe=>o1 0 dh e))=w;rw[yG,bp,bb,aH,bc,eA,bO,bk,a6,o1,gE,bj,fO,av];exact b9
 |succ n x=>
  intro k N q r;obtain⟨N,rfl⟩:=cN N;have i:I[k]? =some (I[k]'(by omega)):=dC _;obtain⟨⟨t1,t2⟩,y⟩:=H _ (dr i);generalize (I[k]'(by omega))=t at i t1 t2 y;have g:=x (k+1) N (by omega) (by omega);have z:((k+1:Nat):Int)=(k:Int)+1:=by omega
  rw[AN];rw[z] at g;generalize oq 1 4 N (yG u 0 (λe=>o1 0 dh e))=w at g;rw[yG,bp,bb,aH,bc,eA,bO,bN,bL,ab6,bp,bb,aH,bc,bK,eE,ch,be,bg,bm,av,aT,hj,iz,a6,cK];exact g
theorem avn{a1 c1 a2 c2:Nat}(e:fk t 3 (.s a1 c1) (.s a2 c2) dx (.aQ 11 I))(w:I.length<=8)(x:aK u 65 [.agg dx,.agg dx] (.F true))(y:aK u 292 [.agg [.s a1 c1,.s a2 c2]] (.F true))(H:∀t∈I,cq t/\aK u 261 [.agg t] (.F true)):∃s d,vr u [.agg t] 0 .nil= .ok (.F true) 0 s d:=by
 have eO:=e.eO;have gP:=e.gP;have eV:=e.eV;have g:=e.eD;have z:b8 dx=true:=rfl;have A:b8 [.s a1 c1,.s a2 c2]=true:=rfl;have i:∀k:an->aw,eT dx k=k (.agg dx):=λk=>hL _ _;have j:=λ(h:aI) (s1:Nat) (ub:b4 h 0) (q:da h) (r:h.aj (0+1)= .box s1 t)=>aow (u:=u) e (by omega) H ub q r I.length 0 1000000 (by omega) (by omega);rw[vr,dK,Ls,cy,bb,aH,e8 eV,e.t3,i,Q9,ce,bm,bm,av,av,aT,bp,bb,aH,bc,bK,dj,bk,a6,Mc,ff,dj,bk,a6,aeE,i2,dj,bN,bL,Sm,hj,iz,fZ,bb,aH,e8 g,e.t1,bg,bm,av,aT,hj,iz,P6,dO,fZ,bb,aH,bc,eA,AK,hH,bk,PQ,dO,a6,Qf];rw[bF];refine j _ _ ?_ ?_ fE
 ·infer_instance
 ·infer_instance
theorem amU(g:cq t){d:Int}(i:0<=c/\c<=3000)(j:0<=d/\d<=200)(k:aK u 259 [.agg t] (ao c))(q:aK u 260 [.agg t] (ao d))(r:aK u 261 [.agg t] (.F true)):∃s e,Fg u [.agg t] 0 .nil= .ok (.F true) 0 s e:=by obtain⟨t1,t2⟩:=g;rw[Fg,dK,RK,cy,aH,be,ZQ,bg,bm,av,aT,aba,qd,bN,fi,aH,be,bg,bm,av,aT,alr,qd,bN,Nh,dR,fQ,fi,aH,be,bg,bm,av,aT,dR,NP,bj,fO,av];exact b9
end
end
section
variable{gl:eI} {P:Program} {f:Nat} {n:Int}
noncomputable def yz[Tok](l:List UInt8)(k:an->aw):aw:=eF l.length λa=>eF (oI l) λv=>k (.s a v)
section
variable[Tok]
theorem H9(l:List UInt8)(k:an->aw):yz l k=k (Cw l):=by unfold yz;rw[fd,fd];rfl
noncomputable def Iu:jq:=λ_ l b aET=>aZ l λx l=>bV l (jR x λk n=>bf (lQ k .i64) (bf (qX .i64 n) (yz (Lib.itoa (intOf n)) λr=> .ok r b aET []) .ax) .ax)
theorem aqe(d:Enters P f)
 (h:∀(n:Int) (c:Nat->Nat) (w:World),gl.ak c w-> -9223372036854775808<=n->n<=9223372036854775807->Calls P f #[.int .i64 n] w λe w'=>e= .returned (.string ⟨(Lib.itoa n).toArray⟩)/\Below w.heap.size w w'):i5 gl P f Iu:=by
 refine M3 d ?_;intro u args ub aET t y z A g;obtain⟨x,l,rfl,i⟩:=oZ g;obtain⟨rfl,j⟩:=wV i;obtain⟨k,n,rfl,o⟩:=x6 j;obtain⟨p,q⟩:=jt o;obtain⟨a,b⟩:=jt q;rw[H9] at b;simp only[aw.ok.injEq] at b;obtain⟨rfl,rfl,rfl,rfl⟩:=b;obtain⟨rfl,_⟩:=pH p;rw[zZ] at a;simp only[lr,cg,u1,wC] at a;have B:=dp a.1;have C:=dp a.2;exact⟨rfl,rfl,rfl,[.int .i64 (intOf n)],.string ⟨(Lib.itoa (intOf n)).toArray⟩,rfl,Q1 _,rfl,λc w r=>h (intOf n) c w r (by unfold intOf;omega) (by unfold intOf;omega)⟩
noncomputable def FZ:jq:=λ_ l b aET=>aZ l λx l=>aZ l λy l=>bV l (jR x λk n=>jR y λa m=>bf (lQ k .i64) (bf (lQ a .i64) (bf (Nat.beq m 18446744073709551626) (bf (qX .i64 n) (yz (Lib.itoa (intOf n)) λr=> .ok r b aET []) .ax) .ax) .ax) .ax)
theorem ap4(j:Enters P f)
 (h:∀(n:Int) (c:Nat->Nat) (w:World),gl.ak c w-> -9223372036854775808<=n->n<=9223372036854775807->Calls P f #[.int .i64 n,.int .i64 10] w λe w'=>e= .returned (.string ⟨(Lib.itoa n).toArray⟩)/\Below w.heap.size w w'):i5 gl P f FZ:=by
 refine M3 j ?_;intro u args ub aET B C D E o;obtain⟨x,l,rfl,d⟩:=oZ o;obtain⟨y,G,rfl,d⟩:=oZ d;obtain⟨rfl,p⟩:=wV d;obtain⟨k,n,rfl,g⟩:=x6 p;obtain⟨H,m,rfl,g⟩:=x6 g;obtain⟨q,a⟩:=jt g;obtain⟨r,a⟩:=jt a;obtain⟨t,a⟩:=jt a;obtain⟨b,i⟩:=jt a;rw[H9] at i;simp only[aw.ok.injEq] at i;obtain⟨rfl,rfl,rfl,rfl⟩:=i;obtain⟨rfl,_⟩:=pH q;obtain⟨rfl,_⟩:=pH r;have z:=gz t;subst z;rw[zZ] at b;simp only[lr,cg,u1,wC] at b;have I:=dp b.1;have J:=dp b.2;exact⟨rfl,rfl,rfl,[.int .i64 (intOf n),.int .i64 10],.string ⟨(Lib.itoa (intOf n)).toArray⟩,rfl,Q1 _,rfl,λc w A=>h (intOf n) c w A (by unfold intOf;omega) (by unfold intOf;omega)⟩
noncomputable def GQ(n:Int)(k:an->aw):aw:=eF (n+18446744073709551616).toNat λm=>k (.V .i64 m)
noncomputable def Pz:jq:=λ_ l b aET=>aZ l λx l=>aZ l λy l=>bV l (k6 x λn v=>k6 y λm c=>GQ (Lib.compareBytes (gR n v) (gR m c)) λr=> .ok r b aET [])
theorem aof:∀a c:List UInt8,-1<=Lib.compareBytes a c/\Lib.compareBytes a c<=1:=by
 intro a;induction a with
 |nil=>intro c;cases c<;>simp[Lib.compareBytes]
 |cons x r b=>
  intro c;cases c with
  |nil=>simp[Lib.compareBytes]
  |cons y s=>
   simp only[Lib.compareBytes];split
   ·omega
   ·split
    ·omega
    ·exact b s
theorem atP(g:Enters P f)
 (h:∀(a c:ByteArray) (w:World),Calls P f #[.string a,.string c] w λe w'=>e= .returned (.int .i64 (Lib.compareBytes a.data.toList c.data.toList))/\w'=w):i5 gl P f Pz:=by
 refine M3 g ?_;intro u args ub aET o p q r i;obtain⟨x,l,rfl,d⟩:=oZ i;obtain⟨y,t,rfl,d⟩:=oZ d;obtain⟨rfl,j⟩:=wV d;obtain⟨n,v,rfl,k⟩:=J3 j;obtain⟨m,c,rfl,b⟩:=J3 k;unfold GQ at b;rw[fd] at b;simp only[aw.ok.injEq] at b;obtain⟨rfl,rfl,rfl,rfl⟩:=b;have z:=aof (gR n v) (gR m c);refine⟨rfl,rfl,rfl,[.string (e7 n v),.string (e7 m c)],.int .i64 (Lib.compareBytes (gR n v) (gR m c)),rfl,?_,rfl,λ_ w _=>?_⟩
 ·show aG.bu (.int .i64 (intOf _))=_;congr 2;unfold intOf;omega
 ·refine(h (e7 n v) (e7 m c) w).mono ?_;rintro e w' ⟨rfl,rfl⟩;exact⟨by rw[pX,pX],Below.refl _ _⟩
theorem aaB{g:jq}(x:Enters P f)
 (h:∀u args ub aET b l o p,g u args ub aET= .ok b l o p->l=ub/\o=aET/\p=[]/\∃(r:List Value) (r1 d:Value),args.map bi=r.map aG.bu/\bi b= .a0 [.bu r1,.bu d]/\iO r1=true/\iO d=true/\b.cR=[]/\
  ∀c w,gl.ak c w->Calls P f r.toArray w λe w'=>e= .returned (.tuple #[r1,d])/\Below w.heap.size w w'):i5 gl P f g:=by
 intro u _ args ub aET b l o p y;obtain⟨rfl,rfl,rfl,r,r1,d,z,A,B,C,D,E⟩:=h u args ub aET b l o p y;refine⟨?_,λ_ _ _=>rfl,λk t=>?_⟩
 ·rw[z,A];refine⟨x,λg w vs G H I=>?_⟩;rw[sU.Ox I];refine(E g.U w G).mono ?_;rintro e w' ⟨rfl,J⟩;refine⟨_,g,rfl,ml.below H J,.inr (.inr (.inr (.inl ⟨_,[r1,d],rfl,rfl,rfl,λj q u a i=>?_⟩)))⟩
  match j,a,i with
  |0,a,i=>cases a;cases i;exact .inl (.inl (.bu B))
  |1,a,i=>cases a;cases i;exact .inl (.inl (.bu C))
  |_+2,a,_=>simp at a
 ·rw[D] at t;cases t
def u5:List UInt8->Nat->Nat
 |[],a=>a
 |c::r,a=>u5 r (a*10+(c.toNat-48))
def BP:List UInt8->Int
 |45::r=> -((u5 r 0:Nat):Int)
 |l=>((u5 l 0:Nat):Int)
def Y0(n:Int):Lib.NumEnd Int->Bool
 | .ok v=>v==n
 |_=>false
def UL(n:Nat):Lib.NumEnd Nat->Bool
 | .ok v=>v==n
 |_=>false
def w2:List Int:=(List.range 1401).map λ(i:Nat)=>((i:Int)-700)
theorem y8(h: -700<=n/\n<=700):n∈w2:=by refine gp.2 ⟨(n+700).toNat,by simp;omega,by omega⟩
theorem R5(a: -700<=n/\n<=700):Lib.parseIntB 64 (Lib.itoa n)= .ok n/\(Lib.itoa n).length<=4:=by
 have h:(w2.all λn=>Y0 n (Lib.parseIntB 64 (Lib.itoa n))&&Nat.ble (Lib.itoa n).length 4)=true:=by kernel_rfl
 have h:=jl.1 h n (y8 a);rw[cg] at h;refine⟨?_,dp h.2⟩;have h:=h.1;revert h;cases Lib.parseIntB 64 (Lib.itoa n) with
 |ok v=>
  intro h;have e:v=n:=by simpa[Y0] using h
  rw[e]
 |_=>intro h;cases h
theorem aA0{n:Nat}(a:n<=700):Lib.parseUintB 32 (Lib.itoa n)= .ok n/\(Lib.itoa n).length<=4:=by
 have h:((List.range 701).all λn=>UL n (Lib.parseUintB 32 (Lib.itoa n))&&Nat.ble (Lib.itoa n).length 4)=true:=by kernel_rfl
 have h:=jl.1 h n (by simp;omega);rw[cg] at h;refine⟨?_,dp h.2⟩;have h:=h.1;revert h;cases Lib.parseUintB 32 (Lib.itoa n) with
 |ok v=>
  intro h;have e:v=n:=by simpa[UL] using h
  rw[e]
 |_=>intro h;cases h
noncomputable def NH:jq:=λ_ l b aET=>aZ l λx l=>aZ l λy l=>aZ l λz l=>bV l (k6 x λn v=>jR y λk m=>jR z λa c=>bf (lQ k .i64) (bf (lQ a .i64) (bf (Nat.beq m 18446744073709551626) (bf (Nat.beq c 18446744073709551680)
 (bf (decide (-700<=BP (gR n v)/\BP (gR n v)<=700)) (bf (decide (Lib.itoa (BP (gR n v))=gR n v)) (GQ (BP (gR n v)) λr=> .ok (.a0 [r,.bu .nilIface]) b aET []) .ax) .ax) .ax) .ax) .ax) .ax)
theorem axr(g:Enters P f)
 (h:∀(s:ByteArray) (_:s.size<=9223372036854775806) (v:Int) (_:Lib.parseIntB 64 s.data.toList= .ok v) (w:World),Calls P f #[.string s,.int .i64 10,.int .i64 64] w λe w'=>e= .returned (.tuple #[.int .i64 v,.nilIface])/\(w'=w\/∃t,w'=Lib.bytesWorld w 5 t)):i5 gl P f NH:=by
 refine aaB g ?_;intro u args ub aET W X Z a1 i;obtain⟨x,l,rfl,j⟩:=oZ i;obtain⟨y,l',rfl,o⟩:=oZ j;obtain⟨z,a2,rfl,p⟩:=oZ o;obtain⟨rfl,q⟩:=wV p;obtain⟨n,v,rfl,r⟩:=J3 q;obtain⟨k,m,rfl,A⟩:=x6 r;obtain⟨k',m',rfl,B⟩:=x6 A;obtain⟨C,D⟩:=jt B;obtain⟨E,G⟩:=jt D;obtain⟨H,I⟩:=jt G;obtain⟨J,K⟩:=jt I;obtain⟨L,M⟩:=jt K;obtain⟨O,a⟩:=jt M;unfold GQ at a;rw[fd] at a;simp only[aw.ok.injEq] at a;obtain⟨rfl,rfl,rfl,rfl⟩:=a;obtain⟨rfl,_⟩:=pH C;obtain⟨rfl,_⟩:=pH E;have Q:=gz H;have R:=gz J;subst Q;subst R;have d:=nM L;have S:=nM O;have b:=R5 d;rw[S] at b;generalize BP (gR n v)=N at d b;refine⟨rfl,rfl,rfl,[.string (e7 n v),.int .i64 10,.int .i64 64],.int .i64 N,.nilIface,rfl,?_,rfl,rfl,rfl,λc w a3=>?_⟩
 ·show aG.a0 [aG.bu (.int .i64 (intOf _)),_]=_;have:intOf (N+18446744073709551616).toNat=N:=by unfold intOf;omega
  rw[this];rfl
 ·refine(h (e7 n v) (by rw[xK];have:=b.2;have a4:(gR n v).length=n:=xK n v;omega) N (by rw[pX];exact b.1) w).mono ?_;rintro e w' ⟨rfl,T⟩;refine⟨rfl,?_⟩;rcases T with rfl|⟨t,rfl⟩
  ·exact Below.refl _ _
  ·exact Lib.bytesWorld_below _ _ _
noncomputable def Mz:jq:=λ_ l b aET=>aZ l λx l=>aZ l λy l=>aZ l λz l=>bV l (k6 x λn v=>jR y λk m=>jR z λa c=>bf (lQ k .i64) (bf (lQ a .i64) (bf (Nat.beq m 18446744073709551626) (bf (Nat.beq c 18446744073709551648)
 (bf (Nat.ble (u5 (gR n v) 0) 700) (bf (decide (Lib.itoa ((u5 (gR n v) 0:Nat):Int)=gR n v)) (eF (u5 (gR n v) 0+18446744073709551616) λr=> .ok (.a0 [.V .u64 r,.bu .nilIface]) b aET []) .ax) .ax) .ax) .ax) .ax) .ax)
theorem amQ(g:Enters P f)
 (h:∀(s:ByteArray) (_:s.size<=9223372036854775806) (v:Nat) (_:Lib.parseUintB 32 s.data.toList= .ok v) (w:World),Calls P f #[.string s,.int .i64 10,.int .i64 32] w λe w'=>e= .returned (.tuple #[.int .u64 v,.nilIface])/\(w'=w\/w'=Lib.bytesWorld w 5 s)):i5 gl P f Mz:=by
 refine aaB g ?_;intro u args ub aET T W X Z i;obtain⟨x,l,rfl,j⟩:=oZ i;obtain⟨y,l',rfl,o⟩:=oZ j;obtain⟨z,a1,rfl,p⟩:=oZ o;obtain⟨rfl,q⟩:=wV p;obtain⟨n,v,rfl,r⟩:=J3 q;obtain⟨k,m,rfl,t⟩:=x6 r;obtain⟨k',m',rfl,A⟩:=x6 t;obtain⟨B,C⟩:=jt A;obtain⟨D,E⟩:=jt C;obtain⟨G,H⟩:=jt E;obtain⟨I,J⟩:=jt H;obtain⟨K,L⟩:=jt J;obtain⟨M,b⟩:=jt L;rw[fd] at b;simp only[aw.ok.injEq] at b;obtain⟨rfl,rfl,rfl,rfl⟩:=b;obtain⟨rfl,_⟩:=pH B;obtain⟨rfl,_⟩:=pH D;have O:=gz G;have Q:=gz I;subst O;subst Q;have d:u5 (gR n v) 0<=700:=dp K;have R:=nM M;have a:=aA0 d;rw[R] at a;generalize u5 (gR n v) 0=N at d a;refine⟨rfl,rfl,rfl,[.string (e7 n v),.int .i64 10,.int .i64 32],.int .u64 N,.nilIface,rfl,?_,rfl,rfl,rfl,λc w a2=>?_⟩
 ·show aG.a0 [aG.bu (.int .u64 (intOf _)),_]=_;have:intOf (N+18446744073709551616)=N:=by unfold intOf;omega
  rw[this];rfl
 ·refine(h (e7 n v) (by rw[xK];have:=a.2;have a3:(gR n v).length=n:=xK n v;omega) N (by rw[pX];exact a.1) w).mono ?_;rintro e w' ⟨rfl,S⟩;refine⟨rfl,?_⟩;rcases S with rfl|rfl
  ·exact Below.refl _ _
  ·exact Lib.bytesWorld_below _ _ _
end
end
section
variable{n x y p q:Int}
section
variable[Tok] {u:Fn} {b:Nat}
def bA(n:Int):an:= .s (Lib.itoa n).length (oI (Lib.itoa n))
def b5(p q:Int):aB:=[ao 1,bA p,bA q,.s 0 0,.s 0 0,.s 0 0,.aE]
def dZ(n:Int):Prop:= -700<=n/\n<=700
theorem jk(p q:Int):(b5 p q).length=7:=rfl
theorem iY(p q:Int):b8 (b5 p q)=true:=by unfold b5;rw[cX];rfl
theorem dP(n:Int)(ob:ej)(f:jm):aD ob (bA n) f=f (bA n) []:=rfl
theorem aAV(n:Int)(b:Nat)(d:List Nat):jP b d (bA n)=true:=rfl
theorem ab2(k:an->aw):bq true (bA n) k=k (ao (Lib.itoa n).length):=by rw[cX];have e:bq true (bA n) k=k (.V .i64 (Nat.add 18446744073709551616 (Lib.itoa n).length)):=rfl;rw[e];congr 2;rw[hZ];omega
theorem Nj(h:dZ n)(k:an->aw):bY (bA n) (.s 1 0x30) k=k (.F (decide (n=0))):=by
 have d:(w2.all λn=>jH (Lib.itoa n).length (oI (Lib.itoa n)) 1 0x30==decide (n=0))=true:=by kernel_rfl
 have e:=jl.1 d n (y8 h);rw[<-eq_of_beq e];rfl
theorem Bc(h:dZ n)(k:an->aw):bY (bA n) (.s 1 0x31) k=k (.F (decide (n=1))):=by
 have d:(w2.all λn=>jH (Lib.itoa n).length (oI (Lib.itoa n)) 1 0x31==decide (n=1))=true:=by kernel_rfl
 have e:=jl.1 d n (y8 h);rw[<-eq_of_beq e];rfl
theorem Vo(h:dZ n):(Lib.itoa n).length<=4:=(R5 h).2
theorem ahG{a c:Int}(o: -100000<=a/\a<=100000)(r: -100000<=c/\c<=100000)(k:an->aw):c8 (fA .mul (ao a) (ao c)) k=k (ao (a*c)):=by
 have d: -10000000000<=a*c/\a*c<=10000000000:=by
  have t:(a*c).natAbs<=100000*100000:=by rw[pV];exact s5 (by omega) (by omega)
  omega
 have e:fA .mul (ao a) (ao c)=some (ao (a*c)):=by
  rw[cX,cX,cX];have g:fA .mul (.V .i64 (a+18446744073709551616).toNat) (.V .i64 (c+18446744073709551616).toNat)=(if-18446744073709551616<=IntKind.i64.wrap (intOf (a+18446744073709551616).toNat*intOf (c+18446744073709551616).toNat) then some (.V .i64 (IntKind.i64.wrap (intOf (a+18446744073709551616).toNat*intOf (c+18446744073709551616).toNat)+18446744073709551616).toNat) else none):=rfl;have h:intOf (a+18446744073709551616).toNat=a:=by unfold intOf;omega
  have j:intOf (c+18446744073709551616).toNat=c:=by unfold intOf;omega
  have l:IntKind.i64.wrap (a*c)=a*c:=by
   generalize a*c=z at d;have fD:IntKind.i64.wrap z=if(true&&decide (z%18446744073709551616≥9223372036854775808))=true then z%18446744073709551616-18446744073709551616 else z%18446744073709551616:=rfl;rw[fD];by_cases w:0<=z
   ·rw[cU (by rw[yd,nm];omega)];omega
   ·rw[cv (by rw[yd,nm];omega)];omega
  rw[g,h,j,l,fS]
 rw[e];rfl
theorem Fu:(pQ:an)=ao 9:=by rw[cX];rfl
theorem arm:(Ui:an)=ao 18:=by rw[cX];rfl
structure Ms (u:Fn):Prop where
 Pd:∀n,dZ n->aK u 316 [bA n] (.F true)
 Rg:∀n,dZ n->aK u 317 [bA n,mQ,GC] (.a0 [ao n,.bu .nilIface])
 aep:∀n:Int,-1000000<=n/\n<=1000000->aK u 267 [ao n,mQ] (bA n)
theorem azV(H:Ms u)(g:dZ x)(h:dZ y){m:Int}(i:m=9\/m=18):∃s d,Dx u [bA x,bA y,ao m] 0 .nil= .ok (.a0 [ao x,ao y,.F true]) 0 s d:=by
 have j:=H.Pd x g;have k:=H.Pd y h;have l:=H.Rg x g;have o:=H.Rg y h;have r:=Vo g;have t:=Vo h;have e:∀z:Int,ao z≠an.undef:=λz=>by rw[cX];simp
 rw[Dx,vE,XY,ab2,hH,bk,fZ,ab2,hH,bk,NJ,dO,fZ,bg,dP,av,aT,hj,iz,QD,dO,fZ,bg,dP,av,aT,hj,iz,KA,dO,a6,MA,dP,av,aT,e2 _ _ (e _),e3 _ _ (e _),dP,av,aT,e2 _ _ (e _),e3 _ _ (e _),L5,b7,b7,gE,fO,av,av,av];exact b9
theorem afI(g:dZ x)(h:dZ y)(i:aK u 266 [bA x,bA y,ao 18] (.a0 [ao x,ao y,.F true]))(Hf:aK u 267 [ao (x+y),mQ] (bA (x+y))):∃s d,B2 u [bA x,bA y] 0 .nil= .ok (bA (x+y)) 0 s d:=by
 have e:∀z:Int,ao z≠an.undef:=λz=>by rw[cX];simp
 unfold dZ at g h;rw[B2,dE,abY,dP,dP,av,av,arm,aT,rq _ _ _ (e _),rr _ _ _ (e _),rN _ _ _ (e _),bL,VX,cK,b7,av,aT,QM,bj,dP,av];exact b9
theorem aye(g:dZ x)(h:dZ y)(i:aK u 266 [bA x,bA y,ao 9] (.a0 [ao x,ao y,.F true]))(Hf:aK u 267 [ao (x*y),mQ] (bA (x*y))):∃s d,Bh u [bA x,bA y] 0 .nil= .ok (bA (x*y)) 0 s d:=by
 have e:∀z:Int,ao z≠an.undef:=λz=>by rw[cX];simp
 unfold dZ at g h;rw[Bh,dE,acO,dP,dP,av,av,Fu,aT,rq _ _ _ (e _),rr _ _ _ (e _),rN _ _ _ (e _),bL,R6,ahG (by omega) (by omega),b7,av,aT,OH,bj,dP,av];exact b9
theorem aqh(H:aK u 316 [bA x] (.F true)):∃s d,C9 u [bA x] 0 .nil= .ok (bA x) 0 s d:=by rw[C9,dK,adv,bg,dP,av,aT,bL,NQ,bj,dP,av];exact b9
def Oq(u:Fn)(p q p' q':Int):Prop:=aK u 265 [bA p,bA q] (.a0 [bA p',bA q'])
theorem aiK(e:aK u 275 [bA p] (bA p))(g:aK u 275 [bA 1] (bA 1)):∃s d,Cf u [bA p,bA 1] 0 .nil= .ok (.a0 [bA p,bA 1]) 0 s d:=by
 have s1:dZ 1:=by unfold dZ;omega
 rw[Cf,dE,XG,bg,dP,av,aT,bg,dP,av,aT,Nj s1,bk,a6,abW,Bc s1,bN,bL,Br,dP,dP,av,av];exact b9
theorem WI{p' q':Int}(H:Oq u p q p' q'):∃s d,BR u [bA p,bA q] 0 .nil= .ok (.agg (b5 p' q')) 0 s d:=by
 have j:aK u 265 [bA p,bA q] (.a0 [bA p',bA q']):=H;have g:∀f:aB->aw,cC 0 1 aS dx f=f [aS,(.s 0 0),(.s 0 0),(.s 0 0),(.s 0 0),(.s 0 0),.aE]:=λf=>rfl;have h:∀f:aB->aw,cC 1 1 (bA p') [aS,(.s 0 0),(.s 0 0),(.s 0 0),(.s 0 0),(.s 0 0),.aE] f=f [aS,bA p',(.s 0 0),(.s 0 0),(.s 0 0),(.s 0 0),.aE]:=λf=>rfl;have i:∀f:aB->aw,cC 2 1 (bA q') [aS,bA p',(.s 0 0),(.s 0 0),(.s 0 0),(.s 0 0),.aE] f=f (b5 p' q'):=λf=>by
  have:b5 p' q'=[aS,bA p',bA q',(.s 0 0),(.s 0 0),(.s 0 0),.aE]:=by unfold b5;rw[bK]
  rw[this];rfl
 have k:=iY p' q';have l:=jk p' q';have e:∀z:Int,bA z≠an.undef:=λz=>by unfold bA;simp
 rw[BR,dE,adT,de,TQ,ce,dP,dP,av,av,aT,e2 _ _ (e _),e3 _ _ (e _),g,h,i,hL,dc,adx,gh,be,bj,bm,av];exact b9
theorem YF:bA 1= .s 1 0x31:=by kernel_rfl
theorem afK:∃s d,E4 u [bA n] 0 .nil= .ok (.agg (b5 n 1)) 0 s d:=by
 have e:∀f:aB->aw,cC 0 1 aS dx f=f [aS,(.s 0 0),(.s 0 0),(.s 0 0),(.s 0 0),(.s 0 0),.aE]:=λf=>rfl;have g:∀f:aB->aw,cC 1 1 (bA n) [aS,(.s 0 0),(.s 0 0),(.s 0 0),(.s 0 0),(.s 0 0),.aE] f=f [aS,bA n,(.s 0 0),(.s 0 0),(.s 0 0),(.s 0 0),.aE]:=λf=>rfl;have h:∀f:aB->aw,cC 2 1 (.s 1 0x31) [aS,bA n,(.s 0 0),(.s 0 0),(.s 0 0),(.s 0 0),.aE] f=f (b5 n 1):=λf=>by
  have:b5 n 1=[aS,bA n,.s 1 0x31,(.s 0 0),(.s 0 0),(.s 0 0),.aE]:=by unfold b5;rw[bK,YF]
  rw[this];rfl
 have i:=iY n 1;have j:=jk n 1;rw[E4,dK,VW,de,e,g,h,hL,dc,Yc,gh,be,bj,bm,av];exact b9
theorem anA:∃s d,C6 u [.agg (b5 p q)] 0 .nil= .ok (.agg (b5 p q)) 0 s d:=by have e:=iY p q;have g:=jk p q;have eO:(b5 p q)[0+0]? =some (ao 1):=rfl;rw[C6,dK,RR,cy,de,abo,bp,bb,aH,bc,bK,dj,bN,bL,aH,be,dc,M1,gh,be,bj,bm,av];exact b9
section
variable{a c b' d' p' q':Int}
theorem axc(r:b'=1)(t:d'=1)(e:aK u 209 [.agg (b5 a b')] (.agg (b5 a b')))(g:aK u 209 [.agg (b5 c d')] (.agg (b5 c d')))(w:aK u 274 [bA a,bA c] (bA (a+c)))(z:aK u 100 [bA (a+c)] (.agg (b5 (a+c) 1))):
 ∃s d,sq u [.agg (b5 a b'),.agg (b5 c d')] 0 .nil= .ok (.agg (b5 (a+c) 1)) 0 s d:=by
 have h:=jk a b';have i:=jk c d';have eV:=jk (a+c) 1;have j:=iY a b';have k:=iY c d';have A:=iY (a+c) 1;have a1:(b5 a b')[0+1]? =some (bA a):=rfl;have a2:(b5 a b')[0+2]? =some (bA b'):=rfl;have c1:(b5 c d')[0+1]? =some (bA c):=rfl;have c2:(b5 c d')[0+2]? =some (bA d'):=rfl;have l:dZ b':=by unfold dZ;omega
 have o:dZ d':=by unfold dZ;omega
 generalize b5 a b'=x at e h j a1 a2;generalize b5 c d'=y at g i k c1 c2;rw[sq,dE,Ht,cy,cy,de,aJ,cH,aN,aH,be,H7,aV,aN,bm,av,aT,aJ,cH,aN,aH,be,aV,aN,bm,av,aT,cH,aN,hD,cH,aN,hD,HA,bp,bb,aH,bc,Bc l,bN,fi,bb,aH,bc,Bc o,bN,CR,dR,bL,S7,bp,bb,aH,bc,bp,bb,aH,bc,ce,dP,dP,av,av,aT,bg,dP,av,aT,dc,B1,gh,be,bj,bm,av];exact b9
theorem aDS(e:dZ b')(h:dZ d')(w:b'≠1\/d'≠1)(i:aK u 209 [.agg (b5 a b')] (.agg (b5 a b')))(j:aK u 209 [.agg (b5 c d')] (.agg (b5 c d')))(z:aK u 211 [bA a,bA d'] (bA (a*d')))(A:aK u 211 [bA c,bA b'] (bA (c*b')))(B:aK u 274 [bA (a*d'),bA (c*b')] (bA (a*d'+c*b')))(C:aK u 211 [bA b',bA d'] (bA (b'*d')))(D:aK u 210 [bA (a*d'+c*b'),bA (b'*d')] (.agg (b5 p' q'))):
 ∃s d,sq u [.agg (b5 a b'),.agg (b5 c d')] 0 .nil= .ok (.agg (b5 p' q')) 0 s d:=by
 have k:=jk a b';have l:=jk c d';have eV:=jk p' q';have o:=iY a b';have r:=iY c d';have E:=iY p' q';have a1:(b5 a b')[0+1]? =some (bA a):=rfl;have a2:(b5 a b')[0+2]? =some (bA b'):=rfl;have c1:(b5 c d')[0+1]? =some (bA c):=rfl;have c2:(b5 c d')[0+2]? =some (bA d'):=rfl;generalize b5 a b'=x at i k o a1 a2;generalize b5 c d'=y at j l r c1 c2;by_cases g:b'=1
 ·have t:d'≠1:=by omega
  rw[sq,dE,Ht,cy,cy,de,aJ,cH,aN,aH,be,H7,aV,aN,bm,av,aT,aJ,cH,aN,aH,be,aV,aN,bm,av,aT,cH,aN,hD,cH,aN,hD,HA,bp,bb,aH,bc,Bc e,dm g,fi,bb,aH,bc,Bc h,gK t,CR,dR,a6,FK,bb,aJ,cH,aN,aH,bc,bb,aJ,cH,aN,aH,bc,aV,aV,aN,dP,dP,av,av,aT,K5,bb,aJ,cH,aN,aH,bc,bb,aJ,cH,aN,aH,bc,aV,aV,aN,dP,dP,av,av,aT,Nq,aV,aV,aN,dP,dP,av,av,aT,bb,aJ,cH,aN,aH,bc,bb,aJ,cH,aN,aH,bc,Mu,aV,aV,aN,dP,dP,av,av,aT,aV,aV,aN,dP,dP,av,av,aT,cH,aN,hD,B1,gh,be,bj,bm,av];exact b9
 ·rw[sq,dE,Ht,cy,cy,de,aJ,cH,aN,aH,be,H7,aV,aN,bm,av,aT,aJ,cH,aN,aH,be,aV,aN,bm,av,aT,cH,aN,hD,cH,aN,hD,HA,bp,bb,aH,bc,Bc e,gK g,iE,CR,dO,fQ,a6,FK,bb,aJ,cH,aN,aH,bc,bb,aJ,cH,aN,aH,bc,aV,aV,aN,dP,dP,av,av,aT,K5,bb,aJ,cH,aN,aH,bc,bb,aJ,cH,aN,aH,bc,aV,aV,aN,dP,dP,av,av,aT,Nq,aV,aV,aN,dP,dP,av,av,aT,bb,aJ,cH,aN,aH,bc,bb,aJ,cH,aN,aH,bc,Mu,aV,aV,aN,dP,dP,av,av,aT,aV,aV,aN,dP,dP,av,av,aT,cH,aN,hD,B1,gh,be,bj,bm,av];exact b9
theorem axK(e:aK u 209 [.agg (b5 a b')] (.agg (b5 a b')))(g:aK u 209 [.agg (b5 c d')] (.agg (b5 c d')))(l:aK u 211 [bA a,bA c] (bA (a*c)))(o:aK u 211 [bA b',bA d'] (bA (b'*d')))(r:aK u 210 [bA (a*c),bA (b'*d')] (.agg (b5 p' q'))):
 ∃s d,Fe u [.agg (b5 a b'),.agg (b5 c d')] 0 .nil= .ok (.agg (b5 p' q')) 0 s d:=by
 have h:=jk a b';have i:=jk c d';have eV:=jk p' q';have j:=iY a b';have k:=iY c d';have t:=iY p' q';have a1:(b5 a b')[0+1]? =some (bA a):=rfl;have a2:(b5 a b')[0+2]? =some (bA b'):=rfl;have c1:(b5 c d')[0+1]? =some (bA c):=rfl;have c2:(b5 c d')[0+2]? =some (bA d'):=rfl;generalize b5 a b'=x at e h j a1 a2;generalize b5 c d'=y at g i k c1 c2;rw[Fe,dE,aaA,cy,cy,de,Ud,aJ,cH,aN,aH,be,aV,aN,bm,av,aT,aJ,cH,aN,aH,be,aV,aN,bm,av,aT,R9,cH,aN,hD,cH,aN,hD,bb,aJ,cH,aN,aH,bc,bb,aJ,cH,aN,aH,bc,ab5,aV,aV,aN,dP,dP,av,av,aT,bb,aJ,cH,aN,aH,bc,bb,aJ,cH,aN,aH,bc,WF,aV,aV,aN,dP,dP,av,av,aT,aV,aV,aN,dP,dP,av,av,aT,cH,aN,hD,acW,gh,be,bj,bm,av];exact b9
end
end
end
end Go.Hf

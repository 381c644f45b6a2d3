import Derived.Test.YthiipifjdfmblaaGreatDoorAm
set_option linter.all false
set_option maxRecDepth 100000
namespace Go.Hf
open Go.RowKit
section
variable{t ti tj:aB} {vi vj vq X4:an} {bf:Bool} {A:Nat->aY} {T:cw->aB} {M:bE->bE->bE} {i sr:Nat} {L:aY}
structure fH where
 t:aB
 v:an
 aq:bE
 aM:Bool
def fH.U(r:fH):aB:=r.t++[r.v,.F r.aM]
def fH.oP[Tok](E:cr)(r:fH):Prop:=cq r.t/\cA E r.v r.aq/\r.aq.length<100
section
variable[Tok] {u:Fn} {b:Nat}
section
variable{E:cr} {r:fH}
theorem fH.oP.len(h:r.oP E):r.U.length=13:=by simp[fH.U,h.1.1]
theorem fH.oP.oV(h:r.oP E):0+0+11<=r.U.length:=by rw[h.len];omega
theorem fH.oP.dX(h:r.oP E):(r.U.drop (0+0)).take 11=r.t:=by simp[fH.U,<-h.1.1]
theorem fH.oP.H8(h:r.oP E):r.U[0+11]? =some r.v:=by unfold fH.U;rw[List.getElem?_append_right (by rw[h.1.1];omega),h.1.1];rfl
theorem fH.oP.zG(h:r.oP E):r.U[0+12]? =some (.F r.aM):=by unfold fH.U;rw[List.getElem?_append_right (by rw[h.1.1];omega),h.1.1];rfl
end
theorem jA{d:Nat}{a:List Nat}(s i o:Nat)(xs:aB)(z:aw)(h:eb a d=true:=by rfl)(c:d<4096:=by decide):met b a (.dH (b+d) s i o::xs) z=met b a xs z:=HJ c h s i o xs z
def oY[Tok](z:aB)(a:Bool)(t:aB):aB:=if a then bU bP eu [z,t] else bU bP fe [bU bP eu [t,z]]
def rU(t:aB):aB:=(t.drop (0+26)).take 11
def BK[Tok](t:aB):Prop:=t.length=37/\cq (rU t)
def kZ[Tok](a:aw)(L:aY):Prop:=∃v rs,dw 37 v rs/\(∀t∈rs,BK t)/\rs.map rU=L/\∃s d,a= .ok v 0 s d
theorem adc{z:aB}{a:Bool}:cq (oY z a t):=by cases a<;>exact⟨rfl,rfl⟩
structure xT [Tok] (u:Fn) (E:cr) (A:Nat->aY) (T:cw->aB) (M:bE->bE->bE) (R:List fH):Prop where
 ok:∀r∈R,r.oP E
 mul:∀r∈R,∀s∈R,fy u 118 E [r.v,s.v] (M r.aq s.aq)
 ahZ:∀r∈R,∀s∈R,∀v,cA E v (M r.aq s.aq)->aK u 119 [v] (.F (nI A (M r.aq s.aq)))
 PN:∀r∈R,∀s∈R,∀v,cA E v (M r.aq s.aq)->aK u 120 [v] (.agg (jC E T (M r.aq s.aq)))
 tok:∀r∈R,∀s∈R,cq (jC E T (M r.aq s.aq))
 zero:aK u 36 [] (.agg (E.num 0))
 si:q0 u 121
 yQ:o3 u 122
 not:∀t,cq t->aK u 123 [.agg t] (.agg (bU bP fe [t]))
def oa[Tok](E:cr)(A:Nat->aY)(T:cw->aB)(M:bE->bE->bE)(r s:fH):Option aB:=
 if nI A (M r.aq s.aq) then none else some (oY (cW (E.num 0)) (r.aM&&s.aM) (jC E T (M r.aq s.aq)))
theorem PH(hi:ti.length=11)(a:tj.length=11)(c:t.length=11):
 (ti++tj++[vi,vj,.F bf,vq]++ca).length=37/\
 (ti++tj++[vi,vj,.F bf,vq]++ca).take (0+26)++t++(ti++tj++[vi,vj,.F bf,vq]++ca).drop (0+26+11)=ti++tj++[vi,vj,.F bf,vq]++t/\
 (ti++tj++[vi,vj,.F bf,vq]++ca)[0+24]? =some (.F bf):=by
 have e:(ti++tj++[vi,vj,.F bf,vq]).length=26:=by simp[hi,a,ca]
 refine⟨by simp[hi,a,ca],?_,?_⟩
 ·rw[rV (by rw[e];omega),pn (by rw[e];omega),lH (by simp[hi,a,ca]),nj]
 ·rw[q5 (by rw[e];omega),sH (by simp[hi,a,ca])];simp[hi,a,ca]
theorem IV(hi:ti.length=11)(a:tj.length=11)(c:t.length=11):(ti++tj++[vi,vj,.F bf,vq]++t).length=37/\rU (ti++tj++[vi,vj,.F bf,vq]++t)=t:=by
 have e:(ti++tj++[vi,vj,.F bf,vq]).length=26:=by simp[hi,a]
 refine⟨by simp[hi,a,c],?_⟩;unfold rU;rw[List.drop_append_of_le_length (by omega),lO,kP,nY]
theorem dw.Rd{E:cr}{ps a rs:bE}{c:Bool}(d:cA E vi ps)(e:cA E vj a)(g:cA E vq rs)(h:b8 t=true):b8 ([vi,vj,.F c,vq]++t)=true:=by rcases d with⟨rfl,_⟩|rfl<;>rcases e with⟨rfl,_⟩|rfl<;>rcases g with⟨rfl,_⟩|rfl<;>exact h
theorem auN{E:cr}{R:List fH}(K:xT u E A T M R){k:Nat}{n p:fH}(P:R[i]? =some n)(Q:R[k]? =some p){j6:nP}(l:cA E vq (M n.aq p.aq))
 {h:aI}{aED:an}{H:aY}(ub:b4 h 0)(hh:da h)(S:h.aj (0+2099)= .az sr 182 13 (R.map fH.U) false)(W:db 0 2191 132 37 false h aED H)(eX:H.length<100000)
 (I:∀(h:aI) (aED:an) (t:aB),b4 h 0->da h->h.aj (0+2099)= .az sr 182 13 (R.map fH.U) false->db 0 2191 132 37 false h aED (H++[t])->BK t->rU t=oY (cW (E.num 0)) (n.aM&&p.aM) (jC E T (M n.aq p.aq))->kZ (j6 (.az (0+2099) sr 0 R.length) aED (ao i) (ao k) X4 (ao i) h) L):
 kZ (zf u 0 j6 (.az (0+2099) sr 0 R.length) aED (ao i) (ao k) vq X4 (ao i) h) L:=by
 have hi:i<R.length:=by rcases e6.1 P with⟨h,_⟩;exact h
 have hk:k<R.length:=by rcases e6.1 Q with⟨h,_⟩;exact h
 have hl:(R.map fH.U)[i]? =some n.U:=by rw[fo,P];rfl
 have hm:(R.map fH.U)[k]? =some p.U:=by rw[fo,Q];rfl
 have X:=dr P;have a1:=dr Q;have q:=K.ok _ X;have w:=K.ok _ a1;have em:=q.H8;have en:=q.zG;have a2:=q.oV;have J:=q.dX;have eq:=w.H8;have es:=w.zG;have a3:=w.oV;have N:=w.dX;have ev:=K.PN _ X _ a1 vq l;have c1:=K.tok _ X _ a1;have hz:=K.zero;have hn:=K.si _ (E.len 0) (E.eU 0);have c2:=iA (E.len 0) (E.eU 0);generalize jC E T (M n.aq p.aq)=a at ev c1 I;obtain⟨x,ho⟩:=c1;have hp:=E.len 0;have hv:=E.eU 0;have hw:=c2.aa;have hx:=c2.e5;have c3:=q.1;have c4:=w.1;have y:=q.2.1;have z:=w.2.1;generalize n.t=ti at c3 J;generalize p.t=tj at c4 N;generalize n.v=vi at y em;generalize p.v=vj at z eq;generalize n.aM=a4 at en I;generalize p.aM=a5 at es I;obtain⟨e,bs⟩:=c3;obtain⟨j,bx⟩:=c4;have cc:∀f:aB->aw,cC 0 11 (.agg ti) zt f=f (ti++(ca++[.aE,.aE,bG,.aE]++ca)):=λf=>by rw[tZ e (by simp[zt,ca])];rfl
 have cl:∀f:aB->aw,cC 11 11 (.agg tj) (ti++(ca++[.aE,.aE,bG,.aE]++ca)) f=f (ti++tj++([.aE,.aE,bG,.aE]++ca)):=λf=>by rw[tZ j (by simp[ca,e]),rV (by omega),nY,xk,lO,e];rfl
 have O:(ti++tj).length=22:=by simp[e,j]
 have cn:∀f:aB->aw,cC 22 1 vi (ti++tj++([.aE,.aE,bG,.aE]++ca)) f=f (ti++tj++([vi,.aE,bG,.aE]++ca)):=λf=>by rw[r4 y.cells (by simp[ca,e,j]),rV (by omega),nY,xk,lO,O,kD (ti++tj)];rfl
 have cp:∀f:aB->aw,cC 23 1 vj (ti++tj++([vi,.aE,bG,.aE]++ca)) f=f (ti++tj++([vi,vj,bG,.aE]++ca)):=λf=>by rw[r4 z.cells (by simp[ca,e,j]),Ic,nY,xk,lO,O,kD (ti++tj)];simp
 have cs:∀(c:Bool) (f:aB->aw),cC 24 1 (.F c) (ti++tj++([vi,vj,bG,.aE]++ca)) f=f (ti++tj++([vi,vj,.F c,.aE]++ca)):=λc f=>by rw[r4 (λf=>rfl) (by simp[ca,e,j]),Ic,nY,xk,lO,O,kD (ti++tj)];simp
 have c0:∀(c:Bool) (f:aB->aw),cC 25 1 vq (ti++tj++([vi,vj,.F c,.aE]++ca)) f=f (ti++tj++[vi,vj,.F c,vq]++ca):=λc f=>by rw[r4 l.cells (by simp[ca,e,j]),Ic,nY,xk,lO,O,kD (ti++tj)];simp
 have Z:∀(c:Bool) (h':aI),b4 h' 0->da h'->∀s1,h'.aj (0+2099)= .az sr 182 13 (R.map fH.U) false->db 0 2191 132 37 false h' aED H->h'.aj (0+2190)= .az s1 132 37 [ti++tj++[vi,vj,.F c,vq]++oY (cW (E.num 0)) (a4&&a5) a] false->
  kZ (eC 0 2191 none 132 37 608 aED (.az (0+2190) s1 0 1) false h' λex fn=>j6 (.az (0+2099) sr 0 R.length) ex (ao i) (ao k) X4 (ao i) fn) L:=by
  intro c h' hA h1 s1 ge l go;obtain⟨s',h2,gt,ha,hb,hc,he⟩:=tR (bytes:=608) l go (λo=>gs 0 _) eX (by omega);rw[he];have g:=IV e j (vi:=vi) (vj:=vj) (vq:=vq) (bf:=c) (t:=oY (cW (E.num 0)) (a4&&a5) a) adc.1;exact I h2 _ _ gt ha (by rw[hb.aj _ λd hd=>by simp at hd;omega];exact ge) hc ⟨g.1,by rw[g.2];exact adc⟩ g.2
 have m3:=K.yQ eu (.inr (.inr (.inl rfl))) [cW (E.num 0),a];have h3:=K.yQ eu (.inr (.inr (.inl rfl))) [a,cW (E.num 0)];have h4:=K.not (bU bP eu [a,cW (E.num 0)]) ⟨rfl,rfl⟩;have l1:(bU bP eu [cW (E.num 0),a]).length=11:=rfl;have l2:(bU bP eu [a,cW (E.num 0)]).length=11:=rfl;have eV:(bU bP fe [bU bP eu [a,cW (E.num 0)]]).length=11:=rfl;have hf:b8 (bU bP eu [cW (E.num 0),a])=true:=rfl;have h5:b8 (bU bP eu [a,cW (E.num 0)])=true:=rfl;have c5:b8 (bU bP fe [bU bP eu [a,cW (E.num 0)]])=true:=rfl;unfold kZ at Z ⊢;cases a4
 ·have g:=λt (B:t.length=11)=>PH e j (vi:=vi) (vj:=vj) (vq:=vq) (bf:=false) (t:=t) B;have C:=(g a x).1;have JC:=(g a x).2.2;have D:=(g _ eV).2.1;have gl:0+26+11<=(ti++tj++[vi,vj,.F false,vq]++ca).length:=by rw[C];omega
  have G:=IV e j (vi:=vi) (vj:=vj) (vq:=vq) (bf:=false) (t:=bU bP fe [bU bP eu [a,cW (E.num 0)]]) eV;have dq:=G.1;have ee:b8 (ti++tj++[vi,vj,.F false,vq]++bU bP fe [bU bP eu [a,cW (E.num 0)]])=true:=by rw[kD,kD,oA bs,oA bx];exact dw.Rd y z l c5
  rw[zf,bg,l.dU,av,aT,de,dc,bZ,hO,aV,aN,gu,hP,JU,aJ,jA,aN,hg,e8 a2,J,bZ,hO,aV,aN,gu,hP,aJ,jA,aN,hg,e8 a3,N,bZ,hO,aV,aN,gu,hP,Hr,aJ,jA,aN,hg,bc,bZ,hO,aV,aN,gu,hP,aJ,jA,aN,hg,bc,bZ,hO,aV,aN,gu,hP,GV,aJ,jA,aN,hg,bc,fQ,iE,dO,E1,cc,cl,cn,cp,cs,c0,hL,tw,cH,aN,hD,aT,Kr,bg,bm,av,aT,de,dc,bp,bb,aH,bc,a6,aH,be,N1,aH,be,lb,lw,av,av,gW,gX,av,aT,bg,bm,av,aT,bb,GD ‹_› (ga (gi (gF (gS fE)))),D,DS,aH,be,hX,av,gW];refine Z false _ ?_ ?_ _ ?_ ?_ ?_
  ·infer_instance
  ·infer_instance
  ·((repeat(first|exact S|refine ga ?_ ?_ ?_|refine gi ?_ ?_ ?_|refine gF ?_ ?_ ?_|refine l5 ?_ ?_ ?_))<;>decide)
  ·((repeat(first|exact W|refine db.fm ?_ ?_ ?_|refine db.eP ?_ ?_ ?_|refine db.fz ?_ ?_ ?_))<;>decide)
  ·exact i9
 ·cases a5
  ·have g:=λt (B:t.length=11)=>PH e j (vi:=vi) (vj:=vj) (vq:=vq) (bf:=false) (t:=t) B;have C:=(g a x).1;have JC:=(g a x).2.2;have D:=(g _ eV).2.1;have gl:0+26+11<=(ti++tj++[vi,vj,.F false,vq]++ca).length:=by rw[C];omega
   have G:=IV e j (vi:=vi) (vj:=vj) (vq:=vq) (bf:=false) (t:=bU bP fe [bU bP eu [a,cW (E.num 0)]]) eV;have dq:=G.1;have ee:b8 (ti++tj++[vi,vj,.F false,vq]++bU bP fe [bU bP eu [a,cW (E.num 0)]])=true:=by rw[kD,kD,oA bs,oA bx];exact dw.Rd y z l c5
   rw[zf,bg,l.dU,av,aT,de,dc,bZ,hO,aV,aN,gu,hP,JU,aJ,jA,aN,hg,e8 a2,J,bZ,hO,aV,aN,gu,hP,aJ,jA,aN,hg,e8 a3,N,bZ,hO,aV,aN,gu,hP,Hr,aJ,jA,aN,hg,bc,bZ,hO,aV,aN,gu,hP,aJ,jA,aN,hg,bc,bZ,hO,aV,aN,gu,hP,GV,aJ,jA,aN,hg,bc,fQ,fi,bZ,hO,aV,aN,gu,hP,aJ,jA,aN,hg,bc,dR,E1,cc,cl,cn,cp,cs,c0,hL,tw,cH,aN,hD,aT,Kr,bg,bm,av,aT,de,dc,bp,bb,aH,bc,a6,aH,be,N1,aH,be,lb,lw,av,av,gW,gX,av,aT,bg,bm,av,aT,bb,GD ‹_› (ga (gi (gF (gS fE)))),D,DS,aH,be,hX,av,gW];refine Z false _ ?_ ?_ _ ?_ ?_ ?_
   ·infer_instance
   ·infer_instance
   ·((repeat(first|exact S|refine ga ?_ ?_ ?_|refine gi ?_ ?_ ?_|refine gF ?_ ?_ ?_|refine l5 ?_ ?_ ?_))<;>decide)
   ·((repeat(first|exact W|refine db.fm ?_ ?_ ?_|refine db.eP ?_ ?_ ?_|refine db.fz ?_ ?_ ?_))<;>decide)
   ·exact i9
  ·have g:=λt (B:t.length=11)=>PH e j (vi:=vi) (vj:=vj) (vq:=vq) (bf:=true) (t:=t) B;have C:=(g a x).1;have JC:=(g a x).2.2;have D:=(g _ l1).2.1;have gl:0+26+11<=(ti++tj++[vi,vj,.F true,vq]++ca).length:=by rw[C];omega
   have G:=IV e j (vi:=vi) (vj:=vj) (vq:=vq) (bf:=true) (t:=bU bP eu [cW (E.num 0),a]) l1;have dq:=G.1;have ee:b8 (ti++tj++[vi,vj,.F true,vq]++bU bP eu [cW (E.num 0),a])=true:=by rw[kD,kD,oA bs,oA bx];exact dw.Rd y z l hf
   rw[zf,bg,l.dU,av,aT,de,dc,bZ,hO,aV,aN,gu,hP,JU,aJ,jA,aN,hg,e8 a2,J,bZ,hO,aV,aN,gu,hP,aJ,jA,aN,hg,e8 a3,N,bZ,hO,aV,aN,gu,hP,Hr,aJ,jA,aN,hg,bc,bZ,hO,aV,aN,gu,hP,aJ,jA,aN,hg,bc,bZ,hO,aV,aN,gu,hP,GV,aJ,jA,aN,hg,bc,fQ,fi,bZ,hO,aV,aN,gu,hP,aJ,jA,aN,hg,bc,dR,E1,cc,cl,cn,cp,cs,c0,hL,tw,cH,aN,hD,aT,Kr,bg,bm,av,aT,de,dc,bp,bb,aH,bc,bL,Sv,aH,be,aH,be,lb,lw,av,av,gW,gX,av,aT,bb,GD ‹_› (ga (gi (gF (gS fE)))),D,DS,aH,be,hX,av,gW];refine Z true _ ?_ ?_ _ ?_ ?_ ?_
   ·infer_instance
   ·infer_instance
   ·((repeat(first|exact S|refine ga ?_ ?_ ?_|refine gi ?_ ?_ ?_|refine gF ?_ ?_ ?_|refine l5 ?_ ?_ ?_))<;>decide)
   ·((repeat(first|exact W|refine db.fm ?_ ?_ ?_|refine db.eP ?_ ?_ ?_|refine db.fz ?_ ?_ ?_))<;>decide)
   ·exact i9
theorem agy{E:cr}{R:List fH}(K:xT u E A T M R)(ee:R.length<100){c:fH}(G:R[i]? =some c){j4:mS}
 (a4:∀(h:aI) (aED:an) (a:aY),b4 h 0->da h->h.aj (0+2099)= .az sr 182 13 (R.map fH.U) false->db 0 2191 132 37 false h aED a->(∀t∈a,BK t)->a.length<=12->kZ (j4 (.az (0+2099) sr 0 R.length) aED X4 (ao ((i:Int)+1)) h) ((a.map rU++L).take 12)):
 ∀(n k N:Nat) (h:aI) (aED:an) (a:aY) [b4 h 0] [da h],n+k=R.length->n<N->h.aj (0+2099)= .az sr 182 13 (R.map fH.U) false->db 0 2191 132 37 false h aED a->(∀t∈a,BK t)->a.length<=12->
 kZ (ih 3 11 12 13 54 55 N (uy u 0 (λp q w y z=>bR y aS λB=>j4 p q w B z)) (.az (0+2099) sr 0 R.length) aED (ao i) (ao k) X4 (ao i) h) ((a.map rU++((R.drop k).filterMap (oa E A T M c)++L)).take 12):=by
 have hi:i<R.length:=by rcases e6.1 G with⟨h,_⟩;exact h
 intro n;induction n with
 |zero=>intro k N h aED a ub H hk a5 I d C Q;obtain⟨N,rfl⟩:=cN N;rw[mb,lO,List.filterMap_nil,kP];generalize ih 3 11 12 13 54 55 N (uy u 0 (λp q w y z=>bR y aS λB=>j4 p q w B z))=j6;have l:=a4 h aED a ub H I d C Q;rw[uy,jw,bO,bk,a6,bK,cK];exact l
 |succ n bs=>
  intro k N h aED a ub H hk a5 I d C Q;obtain⟨N,rfl⟩:=cN N;have J:R[k]? =some (R[k]'(by omega)):=dC _;have Z:R.drop k=R[k]'(by omega)::R.drop (k+1):=iK (by omega);generalize (R[k]'(by omega))=e at J Z;have em:(R.map fH.U)[i]? =some c.U:=by rw[fo,G];rfl
  have en:(R.map fH.U)[k]? =some e.U:=by rw[fo,J];rfl
  have S:=dr G;have W:=dr J;have g:=K.ok _ S;have j:=K.ok _ W;rw[mb,Z];have O:=λ(h:aI) (aED:an) (a:aY) (a1:b4 h 0) (a2:da h)=>bs (k+1) N h aED a (by omega) (by omega);have bx:((k+1:Nat):Int)=(k:Int)+1:=by omega
  rw[bx] at O;have eX:a.length<100000:=by omega
  generalize ih 3 11 12 13 54 55 N (uy u 0 (λp q w y z=>bR y aS λB=>j4 p q w B z))=j6 at O;by_cases eq:a.length=12
  ·obtain⟨v,cc,cl⟩:=d.yt;rw[rV (by simp;omega),pn (by simp;omega)];refine⟨v,a,cc,C,rfl,?_⟩;have ha:((a.length:Nat):Int)=12:=by omega
   rw[uy,jw,bK,bO,bN,bL,Hh,d.len,xf,ix,bN,bL,vA,bj,cl,av];exact b9
  ·obtain⟨vq,D,es⟩:=K.mul _ S _ W;have ev:=D.eh;have a3:=K.ahZ _ S _ W vq D;have ex:=g.H8;have fn:=g.zG;have ge:=g.oV;have gl:=g.dX;have go:=j.H8;have gt:=j.zG;have hb:=j.oV;have j0:=j.dX;cases P:nI A (M c.aq e.aq)
   ·rw[P] at a3;have X:oa E A T M c e=some (oY (cW (E.num 0)) (c.aM&&e.aM) (jC E T (M c.aq e.aq))):=by unfold oa;rw[P];rfl
    rw[List.filterMap_cons_some X];have l:=auN K G J (j6:=λcn cp cs c0 c1 c2 c3=>bR c0 aS λc4=>j6 cn cp cs c4 c1 c2 c3) (X4:=X4) (L:=(a.map rU++(oY (cW (E.num 0)) (c.aM&&e.aM) (jC E T (M c.aq e.aq))::(R.drop (k+1)).filterMap (oa E A T M c)++L)).take 12) D ub H I d eX (λh aED t a1 a2 k1 k2 c5 dq=>by
     have:=O h aED (a++[t]) a1 a2 k1 k2 (λx o=>by
      rcases fr.1 o with o|o
      ·exact C x o
      ·simp at o;subst o;exact c5) (by simp;omega)
     rw[ly,kD,List.map_singleton,dq] at this;rw[bK,cK];exact this)
    unfold kZ at l ⊢;rw[uy,jw,bO,bN,bL,Hh,d.len,xf,ix,bk,a6,KB,bZ,hO,aV,aN,gu,hP,Oe,aJ,jA,aN,hg,bc,bZ,hO,aV,aN,gu,hP,aJ,jA,aN,hg,bc,aV (g.2.1.met _ _),aV (j.2.1.met _ _),aN,g.2.1.dU,j.2.1.dU,av,av,aT,Qs,e2 _ _,e3 _ _,bF,dF,bk,fZ,bg,D.dU,av,aT,I9,gE,dO,a6];exact l
   ·rw[P] at a3;have X:oa E A T M c e=none:=by unfold oa;rw[P];rfl
    rw[List.filterMap_cons_none X];have l:=O h aED a ub H I d C Q;unfold kZ at l ⊢;rw[uy,jw,bO,bN,bL,Hh,d.len,xf,ix,bk,a6,KB,bZ,hO,aV,aN,gu,hP,Oe,aJ,jA,aN,hg,bc,bZ,hO,aV,aN,gu,hP,aJ,jA,aN,hg,bc,aV (g.2.1.met _ _),aV (j.2.1.met _ _),aN,g.2.1.dU,j.2.1.dU,av,av,aT,Qs,e2 _ _,e3 _ _,bF,dF,bk,fZ,bg,D.dU,av,aT,I9,gE,dO,bL,bK,cK];exact l
end
end
section
variable{E:cr} {A:Nat->aY} {T:cw->aB} {M:bE->bE->bE} {R:List fH} {cl:aY} {ro:List (Option fH)}
section
variable[Tok] {u:Fn} {b:Nat}
theorem SB(u:Fn)(a:an)(b:Nat)(aET:b1):z5 u [a] b aET=OT u b a (ba b aET):=rfl
def m6[Tok](E:cr)(A:Nat->aY)(T:cw->aB)(M:bE->bE->bE):List fH->aY
 |[]=>[]
 |r::R=>(r::R).filterMap (oa E A T M r)++m6 E A T M R
theorem aBT(K:xT u E A T M R)(p:R.length<100){sr:Nat}:
 ∀(n k N:Nat) (h:aI) (aED:an) (a:aY),n+k=R.length->n<N->b4 h 0->da h->h.aj (0+2099)= .az sr 182 13 (R.map fH.U) false->db 0 2191 132 37 false h aED a->(∀t∈a,BK t)->a.length<=12->
 kZ (du 3 11 54 55 N (wx u 0 (λc d=>vA 0 c d)) (.az (0+2099) sr 0 R.length) aED (ao R.length) (ao k) h) ((a.map rU++m6 E A T M (R.drop k)).take 12):=by
 intro n;induction n with
 |zero=>intro k N h aED a q r ub w j e g l;obtain⟨N,rfl⟩:=cN N;obtain⟨v,x,y⟩:=e.yt;rw[fj,lO,show m6 E A T M []=[] from rfl,nj,pn (by simp;omega)];generalize du 3 11 54 55 N (wx u 0 (λc d=>vA 0 c d))=j4;refine⟨v,a,x,g,rfl,?_⟩;rw[wx,bO,bk,a6,vA,bj,y,av];exact b9
 |succ n z=>
  intro k N h aED a q r ub w j e g l;obtain⟨N,rfl⟩:=cN N;have B:R[k]? =some (R[k]'(by omega)):=dC _;have C:R.drop k=R[k]'(by omega)::R.drop (k+1):=iK (by omega);rw[fj];have i:=λ(h:aI) (aED:an) (a:aY)=>z (k+1) N h aED a (by omega) (by omega);have D:((k+1:Nat):Int)=(k:Int)+1:=by omega
  rw[D] at i;generalize du 3 11 54 55 N (wx u 0 (λc d=>vA 0 c d))=j4 at i;have o:=agy K p B (j4:=j4) (X4:=ao R.length) (sr:=sr) (L:=m6 E A T M (R.drop (k+1))) i (R.length-k) k 1000000 h aED a (by omega) (by omega) j e g l;have G:m6 E A T M (R.drop k)=(R.drop k).filterMap (oa E A T M (R[k]'(by omega)))++m6 E A T M (R.drop (k+1)):=by rw[C];rfl
  rw[G];unfold kZ at o ⊢;rw[wx,bO,bN,bL,ZN];exact o
theorem ahi(K:xT u E A T M R)(c:R.length<100){h:aI}{x:an}(ub:b4 h 0)(d:da h)(g:db 0 2099 182 13 false h x (R.map fH.U)):
 kZ (yj u 0 x h) ((m6 E A T M R).take 12):=by
 rcases g with⟨rfl,e⟩|⟨sr,rfl,e⟩
 ·have:R=[]:=by simpa using e
  subst this;refine⟨.aE,[],.inl ⟨rfl,rfl⟩,by simp,rfl,?_⟩;rw[yj,hy];rw[hQ,fj];rw[wx,bF,bO,bk,a6,vA,bj,yg,av];exact b9
 ·have a:=aBT K c (sr:=sr) R.length 0 1000000 h .aE [] (by omega) (by omega) ub d e (.inl ⟨rfl,rfl⟩) (by simp) (by simp);unfold kZ at a ⊢;rw[dS];rw[yj,jw];rw[bF];exact a
inductive xq [Tok] (u:Fn) (E:cr) (t:aB):Option fH->Prop
 |ax (v:an) (es:aY) (k:Int) (hv:dw 8 v es) (hk:k=0\/k=3) (h:aK u 116 [.agg t] (.a0 [v,ao k,.F (decide (k≠0))])):xq u E t none
 |iW (v:an) (ps:bE) (k:Int) (ol:aB) (hv:cA E v ps) (hk:k=1\/k=2) (h:aK u 116 [.agg t] (.a0 [v,ao k,.F (decide (k≠0))])) (hl:ol.length=7) (h2:aK u 117 [v] (.a0 [.agg ol,.F true])):xq u E t none
 |row (v:an) (ps:bE) (k:Int) (ol:aB) (hv:cA E v ps) (hk:k=1\/k=2) (h:aK u 116 [.agg t] (.a0 [v,ao k,.F (decide (k≠0))])) (hl:ol.length=7) (h2:aK u 117 [v] (.a0 [.agg ol,.F false])):xq u E t (some ⟨t,v,ps,decide (k=1)⟩)
theorem akR{t:aB}{v:an}{es:aY}{c:Bool}(a:t.length=11)(d:dw 8 v es):
 (∀f:aB->aw,cC 0 11 (.agg t) [aL,(.s 0 0),(.s 0 0),aL,(.s 0 0),(.s 0 0),(.s 0 0),(.s 0 0),(.s 0 0),.aE,.aE,.aE,bG] f=f (t++[.aE,bG]))/\(∀f:aB->aw,cC 11 1 v (t++[.aE,bG]) f=f (t++[v,bG]))/\∀f:aB->aw,cC 12 1 (.F c) (t++[v,bG]) f=f (t++[v,.F c]):=by
 refine⟨λf=>?_,λf=>?_,λf=>?_⟩
 ·rw[tZ a];rfl
 ·rw[r4 d.cells (by simp[a]),rV (by omega),nY,xk,lO,a];simp
 ·rw[r4 (λf=>rfl) (by simp[a]),Ic,nY,xk,lO,a];simp
theorem afa(hl:cl.length<100)(a3:ro.length=cl.length)(D:∀(i:Nat) (t:aB) (o:Option fH),cl[i]? =some t->ro[i]? =some o->cq t/\xq u E t o)(K:xT u E A T M (ro.filterMap id)):
 ∀(n k N:Nat) (h:aI) (aED:an),n+k=cl.length->n<N->b4 h 0->da h->db 0 2099 182 13 false h aED (((ro.take k).filterMap id).map fH.U)->
 kZ (du 3 19 20 21 N (sX u 0 (yj u 0)) aED (.aQ 11 cl) (ao cl.length) (ao k) h) ((m6 E A T M (ro.filterMap id)).take 12):=by
 intro n;induction n with
 |zero=>intro k N h aED G H ub w e;obtain⟨N,rfl⟩:=cN N;rw[nY] at e;have y:=ahi K (O8 (JE _ _) (by omega)) ub w e;rw[fj];generalize du 3 19 20 21 N (sX u 0 (yj u 0))=j4;unfold kZ at y ⊢;rw[sX,bO,bk,a6];exact y
 |succ n I=>
  intro k N h aED G H ub w e;obtain⟨N,rfl⟩:=cN N;have z:cl[k]? =some (cl[k]'(by omega)):=dC _;have l:ro[k]? =some (ro[k]'(by omega)):=dC _;have j:=D k _ _ z l;have B:ro.take (k+1)=ro.take k++[ro[k]'(by omega)]:=by rw[oG,l];rfl
  generalize (cl[k]'(by omega))=t at z j;generalize (ro[k]'(by omega))=o at l j B;obtain⟨⟨t1,t2⟩,j⟩:=j;rw[fj];have a:=λ(h:aI) (aED:an)=>I (k+1) N h aED (by omega) (by omega);have J:((k+1:Nat):Int)=(k:Int)+1:=by omega
  have eX:(((ro.take k).filterMap id).map fH.U).length<100000:=by have:=JE id (ro.take k);simp only[dS,ta] at this ⊢;omega
  rw[J,B,List.filterMap_append,ly] at a;generalize du 3 19 20 21 N (sX u 0 (yj u 0))=j4 at a;cases j with
  |ax v es m d p g=>
   have C:=d.eh;rw[show(List.filterMap id [(none:Option fH)]).map fH.U=[] from rfl,nj] at a;rcases p with rfl|rfl
   ·rw[gK (by simp)] at g;unfold kZ at a ⊢;rw[sX,bO,bN,bL,C2,bK,eE,ch,be,de,dc,aH,be,bg,bm,av,aT,Fs,rq _ _ _,rr _ _ _,rN _ _ _,hj,mG,lL,ze,gE,dR,bL,cK];refine a _ _ ?_ ?_ ?_
    ·infer_instance
    ·infer_instance
    ·((repeat(first|exact e|refine db.fm ?_ ?_ ?_|refine db.eP ?_ ?_ ?_|refine db.fz ?_ ?_ ?_))<;>decide)
   ·rw[dm (by simp)] at g;unfold kZ at a ⊢;rw[sX,bO,bN,bL,C2,bK,eE,ch,be,de,dc,aH,be,bg,bm,av,aT,Fs,rq _ _ _,rr _ _ _,rN _ _ _,hj,iz,fZ,i2,dj,bN,ze,gE,dO,bL,cK];refine a _ _ ?_ ?_ ?_
    ·infer_instance
    ·infer_instance
    ·((repeat(first|exact e|refine db.fm ?_ ?_ ?_|refine db.eP ?_ ?_ ?_|refine db.fz ?_ ?_ ?_))<;>decide)
  |iW v ps m L d p g lo O=>
   have C:=d.eh;rw[show(List.filterMap id [(none:Option fH)]).map fH.U=[] from rfl,nj] at a;rw[bN] at g;unfold kZ at a ⊢;rw[sX,bO,bN,bL,C2,bK,eE,ch,be,de,dc,aH,be,bg,bm,av,aT,Fs,rq _ _ _,rr _ _ _,rN _ _ _,hj,iz,fZ,i2,dj,bk,ze,gE,dO,a6,FW,bg,d.dU,av,aT,e2 _ _,e3 _ _,de,dc,hj,iz,a6,cK];refine a _ _ ?_ ?_ ?_
   ·infer_instance
   ·infer_instance
   ·((repeat(first|exact e|refine db.fm ?_ ?_ ?_|refine db.eP ?_ ?_ ?_|refine db.fz ?_ ?_ ?_))<;>decide)
  |row v ps m L d p g lo O=>
   have C:=d.eh;rw[bN] at g;obtain⟨P,q,r⟩:=akR (c:=decide (m=1)) t1 d;have rl:(t++[v,.F (decide (m=1))]).length=13:=by simp[t1]
   have a4:b8 (t++[v,.F (decide (m=1))])=true:=by rw[oA t2];rcases d with⟨rfl,_⟩|rfl<;>rfl
   have Z:∀(h':aI),b4 h' 0->da h'->∀s1,db 0 2099 182 13 false h' aED (((ro.take k).filterMap id).map fH.U)->h'.aj (0+2098)= .az s1 182 13 [t++[v,.F (decide (m=1))]] false->
    kZ (eC 0 2099 none 182 13 208 aED (.az (0+2098) s1 0 1) false h' λQ S=>bR (ao k) (ao 1) λx=>j4 Q (.aQ 11 cl) (ao cl.length) x S) ((m6 E A T M (ro.filterMap id)).take 12):=by
    intro h' a5 bs s1 W X;obtain⟨s',h2,q,r,bx,a1,a2⟩:=tR (bytes:=208) W X (λo=>gs 0 _) eX (by omega);rw[a2,cK];exact a h2 _ q r a1
   unfold kZ at Z ⊢;rw[sX,bO,bN,bL,C2,bK,eE,ch,be,de,dc,aH,be,bg,bm,av,aT,Fs,rq _ _ _,rr _ _ _,rN _ _ _,hj,iz,fZ,i2,dj,bk,ze,gE,dO,a6,FW,bg,d.dU,av,aT,e2 _ _,e3 _ _,de,dc,hj,mG,bL,Wo,aH,be,bK,dj,P,q,r,hL,hX,av,gW];refine Z _ ?_ ?_ _ ?_ ?_
   ·infer_instance
   ·infer_instance
   ·((repeat(first|exact e|refine db.fm ?_ ?_ ?_|refine db.eP ?_ ?_ ?_|refine db.fz ?_ ?_ ?_))<;>decide)
   ·exact i9
theorem aBz(c:cl.length<100)(d:ro.length=cl.length)(e:∀(i:Nat) (t:aB) (o:Option fH),cl[i]? =some t->ro[i]? =some o->cq t/\xq u E t o)(K:xT u E A T M (ro.filterMap id)):
 kZ (z5 u [.aQ 11 cl] 0 .nil) ((m6 E A T M (ro.filterMap id)).take 12):=by
 have a:=afa c d e K cl.length 0 1000000 (ba 0 .nil) .aE (by omega) (by omega) inferInstance inferInstance (.inl ⟨rfl,rfl⟩);unfold kZ at a ⊢;rw[z5,dK,OT,eA];rw[bF];exact a
end
end
section
variable[Tok] {u:Fn} {b:Nat}
theorem T9(u:Fn)(a c:an)(b:Nat)(aET:b1):AX u [a,c] b aET=QU u b a c (ba b aET):=rfl
theorem auY{p n v:an}{l:aY}(h:b8 [p,n]=true):∃s d,AX u [.agg [p,n],.aQ 11 l] 0 .nil= .ok (.agg (bU p n l)) 0 s d:=by have g:=(ks (l:=l) h).e5;have a:∀f:aB->aw,cC 0 1 gg ca f=f [gg,(.s 0 0),(.s 0 0),aL,(.s 0 0),(.s 0 0),(.s 0 0),(.s 0 0),(.s 0 0),.aE,.aE]:=λf=>rfl;have c:∀f:aB->aw,cC 1 2 (.agg [p,n]) [gg,(.s 0 0),(.s 0 0),aL,(.s 0 0),(.s 0 0),(.s 0 0),(.s 0 0),(.s 0 0),.aE,.aE] f=f [gg,p,n,aL,(.s 0 0),(.s 0 0),(.s 0 0),(.s 0 0),(.s 0 0),.aE,.aE]:=λf=>rfl;have e:∀f:aB->aw,cC 10 1 (.aQ 11 l) [gg,p,n,aL,(.s 0 0),(.s 0 0),(.s 0 0),(.s 0 0),(.s 0 0),.aE,.aE] f=f (bU p n l):=λf=>rfl;rw[AX,dE,QU,cy,de,aH,be,a,c,e,hL,dc,acG,gh,be,bj,bm,av];exact b9
theorem Ks{o:aB}(a:o.length=7)(c:b8 o=true):∃s d,Eh u [.agg o] 0 .nil= .ok (.agg (cW o)) 0 s d:=by
 have h:=(iA a c).e5;have tl:=(iA a c).aa;have e:∀f:aB->aw,cC 0 1 cZ ca f=f [cZ,(.s 0 0),(.s 0 0),aL,(.s 0 0),(.s 0 0),(.s 0 0),(.s 0 0),(.s 0 0),.aE,.aE]:=λf=>rfl;have g:∀f:aB->aw,cC 3 7 (.agg o) [cZ,(.s 0 0),(.s 0 0),aL,(.s 0 0),(.s 0 0),(.s 0 0),(.s 0 0),(.s 0 0),.aE,.aE] f=f (cW o):=λf=>by rw[tZ a];rfl
 rw[Eh,dK,Wz,cy,de,aH,be,e,g,hL,dc,RJ,gh,be,bj,bm,av];exact b9
theorem asv{E:cr}{c:Nat}(o:E.AF c){ps:bE}{v:an}(h:∀m∈ps,m.k≠c->∃t l,E.di m.k= .aQ 11 (t::l)/\l.length<1000)(g:cA E v ps)(i:ps.length<1000)(x:aK u 60 [ao 0] (.agg (E.num 0))):∃n:aB,n.length=7/\∃s d,ud u [v] 0 .nil= .ok (.a0 [.agg n,.F (h6 c ps)]) 0 s d:=by
 match ps,g,i,h with
 |[],g,i,h=>
  have a:∀k:an->aw,bq false v k=k (ao 0):=λk=>g.len k;have p:=E.eU 0;rw[show h6 c []=true from rfl];rw[ud,dK,Cm,de,a,bF,dj,bN,bL,aT,dc (E.len _),uT,gh,be (E.len _),bm,gE,fO,av,av];refine⟨_,?_,b9⟩
  first|rfl|exact E.len _
 |[m],g,i,h=>
  have a:∀k:an->aw,bq false v k=k (ao 1):=λk=>g.len k;rcases g with⟨_,e⟩|rfl
  ·cases e
  have y:(List.map E.bd [m])[0]? =some (E.bd m):=rfl;have gH:(E.bd m)[0+7]? =some (E.di m.k):=by simpa using E.kk m
  have q:0+0+7<=(E.bd m).length:=by rw[E.eG];omega
  have p:=E.eU m.U;by_cases j:m.k=c
  ·rw[show h6 c [m]=true by simp[h6,j]];have cS:E.di m.k= .aE:=by rw[j,o.nil]
   rw[cS] at gH;rw[ud,dK,Cm,de,a,bF,dj,bk,a6,GB,a,bF,bK,dj,fQ,bN,fi,hu,ko,ch,bc,hy,dj,De,dR,bN,bL,Xg,bF,hu,ko,ch,e8 q,show(0:Nat)+0=0 from rfl,E.jV,dc (E.len _),uT,gh,be (E.len _),bm,gE,fO,av,av];refine⟨_,?_,b9⟩
   first|rfl|exact E.len _
  ·obtain⟨t,l,a1,a2⟩:=h m eS j;rw[show h6 c [m]=false by simp[h6,j]];rw[a1] at gH;rw[ud,dK,Cm,de,a,bF,dj,bk,a6,GB,a,bF,bK,dj,fQ,bN,fi,hu,ko,ch,bc,eA,h9,dj,De,dR,bk,a6,hL,dc,uT,gh,be,bm,fO,av,av];refine⟨_,?_,b9⟩
   first|rfl|exact E.len _
 |m::w::r,g,i,h=>
  have a:∀k:an->aw,bq false v k=k (ao ((r.length+2:Nat):Int)):=λk=>by rw[g.len,dS];rfl
  rw[show h6 c (m::w::r)=false from rfl];simp only[h9] at i;rw[ud,dK,Cm,de,a,bF,dj,bk,a6,GB,a,bF,bK,dj,fQ,bk,iE,De,dO,fQ,a6,hL,dc,uT,gh,be,bm,fO,av,av];refine⟨_,?_,b9⟩
  first|rfl|exact E.len _
end
section
variable{x y:aB}
section
variable[Tok] {u:Fn} {b:Nat}
theorem aiH{o:aB}(c:o.length=7)(e:b8 o=true)(g:aK u 41 [.agg o] (.F true)):∃s d,vP u [.agg o] 0 .nil= .ok (.a0 [.aE,ao 0]) 0 s d:=by rw[vP,dK,Kt,cy,aH,be,bg,bm,av,aT,bL,Jv,yg,bF,b7,av,av];exact b9
theorem atd{E:cr}{c:Rat}{e:Nat}(g:E.AF e)(i:aK u 41 [.agg (E.num c)] (.F false))(j:aK u 110 [.aQ 8 [E.bd ⟨e,c⟩]] (.a0 [.aQ 8 [E.bd ⟨e,c⟩],ao 0])):
 ∃s d,vP u [.agg (E.num c)] 0 .nil= .ok (.a0 [.aQ 8 [E.bd ⟨e,c⟩],ao 0]) 0 s d:=by
 have h:∀f:aB->aw,cC 0 7 (.agg (E.num c)) fX f=f (E.bd ⟨e,c⟩):=λf=>by rw[tZ (E.len c),tF,kP,oc,oc,oc,oc,oc,oc,oc];unfold cr.bd;rw[g.nil];rfl
 have el:=E.len c;have k:=E.eU c;have l:=E.eG ⟨e,c⟩;have q:=E.gw ⟨e,c⟩;rw[vP,dK,Kt,cy,aH,be,bg,bm,av,aT,a6,XD,aH,be,h,hL,hX,av,gW,bg,gX,av,aT,e2 _ _,e3 _ _,Jv,mg,b7,av,av];exact b9
theorem C8{v:an}{es:aY}{h:aI}(c:dw 8 v es)(e:h.bQ=[]):∃s d,qG 0 v (ao 0) h= .ok (.a0 [v,ao 0]) 0 s d:=by have g:qG 0 v (ao 0) h=aD h.aj v λi s4=>aD h.aj (ao 0) λj k=>dJ 0 (.a0 [i,j]) (aA s4 (aA k [])) h:=rfl;rw[g,c.dU,b7,av,av];exact o0 e
section
variable{E:cr} {t:aB} {p n a:an} {o:aB} {ps qs rs:bE}
theorem asb(c:fk t 2 p n o a)(H:fy u 222 E [.agg o] ps):∃v,cA E v ps/\∃s d,lT u [.agg t] 0 .nil= .ok (.a0 [v,ao 0]) 0 s d:=by obtain⟨v,e,g⟩:=H;have eO:=c.eO;have eV:=c.eV;have h:=c.b2;rw[lT,dK,yB,cy,bp,bb,aH,bc,ff,dj,bN,bL,abe,bb,aH,e8 eV,c.t3,bg,bm,av,aT];rw[e2 _ _ e.eh,e3 _ _ e.eh];exact⟨v,e,C8 e da.eq⟩
theorem adQ(c:fk t 3 p fv o (.aQ 11 [x,y]))(i:cq x)(j:cq y)(r:aK u 85 [.agg t,fv,ao 2] (.F true))(k:fy u 173 E [.agg x] ps)(l:fy u 173 E [.agg y] qs)(q:∀v w,cA E v ps->cA E w qs->fy u 44 E [v,w] rs):
 ∃v,cA E v rs/\∃s d,lT u [.agg t] 0 .nil= .ok (.a0 [v,ao 0]) 0 s d:=by
 obtain⟨v,e,A⟩:=k;obtain⟨w,g,B⟩:=l;obtain⟨z,h,C⟩:=q v w e g;obtain⟨D,G⟩:=i;obtain⟨H,I⟩:=j;have eO:=c.eO;have cT:=c.cT;have gP:=c.gP;have tl:=c.aa;have J:=c.e5;have K:=e.eh;have L:=g.eh;have M:=h.eh;rw[lT,dK,yB,cy,bp,bb,aH,bc,ff,dj,bk,a6,BM,aH,be,bm,av,ff,aT,bL,bL,JR,bp,bb,aH,bc,bF,hu,Lr,ch,be,bg,bm,av,aT,e2 _ _,e3 _ _,bF,dF,bk,a6,Kz,bp,bb,aH,bc,bK,of,Qj,ch,be,bg,bm,av,aT,e2 _ _,e3 _ _,bF,dF,bk,a6,KQ,bb,bp,bb,aH,bc,adI,bL,ZP,ce,e.dU,g.dU,av,av,aT,e2 _ _,e3 _ _];exact⟨z,h,C8 h da.eq⟩
theorem XT(c:fk t 3 p eM o (.aQ 11 [x,y]))(i:cq x)(j:cq y)(r:aK u 85 [.agg t,fv,ao 2] (.F false))(A:aK u 85 [.agg t,eM,ao 2] (.F true))(k:fy u 173 E [.agg x] ps)(l:fy u 173 E [.agg y] qs)(q:∀v w,cA E v ps->cA E w qs->fy u 58 E [v,w] rs):
 ∃v,cA E v rs/\∃s d,lT u [.agg t] 0 .nil= .ok (.a0 [v,ao 0]) 0 s d:=by
 obtain⟨v,e,B⟩:=k;obtain⟨w,g,C⟩:=l;obtain⟨z,h,D⟩:=q v w e g;obtain⟨G,H⟩:=i;obtain⟨I,J⟩:=j;have eO:=c.eO;have cT:=c.cT;have gP:=c.gP;have tl:=c.aa;have K:=c.e5;have L:=e.eh;have M:=g.eh;have N:=h.eh;rw[lT,dK,yB,cy,bp,bb,aH,bc,ff,dj,bk,a6,BM,aH,be,bm,av,ff,aT,a6,Ji,aH,be,bm,av,ff,aT,bL,JR,bp,bb,aH,bc,bF,hu,Lr,ch,be,bg,bm,av,aT,e2 _ _,e3 _ _,bF,dF,bk,a6,Kz,bp,bb,aH,bc,bK,of,Qj,ch,be,bg,bm,av,aT,e2 _ _,e3 _ _,bF,dF,bk,a6,KQ,bb,bp,bb,aH,bc,acH,a6,R4,ce,e.dU,g.dU,av,av,aT,e2 _ _,e3 _ _];exact⟨z,h,C8 h da.eq⟩
theorem auQ{m:aB}(c:fk t 3 p n o (.aQ 11 [x]))(h:cq x)(l:aK u 85 [.agg t,fv,ao 2] (.F false))(q:aK u 85 [.agg t,eM,ao 2] (.F false))(r:aK u 85 [.agg t,jy,ao 1] (.F true))(i:aK u 60 [ao (-1)] (.agg m))(w:b8 m=true)(j:fy u 173 E [.agg x] ps)(k:∀v,cA E v ps->fy u 43 E [v,.agg m] rs):
 ∃v,cA E v rs/\∃s d,lT u [.agg t] 0 .nil= .ok (.a0 [v,ao 0]) 0 s d:=by
 obtain⟨v,e,A⟩:=j;obtain⟨z,g,B⟩:=k v e;obtain⟨C,D⟩:=h;have eO:=c.eO;have gP:=c.gP;have tl:=c.aa;have G:=c.e5;have H:=e.eh;have I:=g.eh;rw[lT,dK,yB,cy,bp,bb,aH,bc,ff,dj,bk,a6,BM,aH,be,bm,av,ff,aT,a6,Ji,aH,be,bm,av,ff,aT,a6,JB,aH,be,bm,av,bK,aT,bL,WU,bp,bb,aH,bc,bF,hu,aaX,ch,be,bg,bm,av,aT,e2 _ _,e3 _ _,bF,dF,bk,a6,UO,pE,aT i,ce,e.dU,bm,av,av,aT,e2 _ _,e3 _ _];exact⟨z,g,C8 g da.eq⟩
theorem afN{k:Int}{c:Nat}(g:E.di c= .aQ 11 [t])(e:fk t k p n o a)(i:0<=k/\k<100/\k≠2)(j:aK u 85 [.agg t,fv,ao 2] (.F false))(l:aK u 85 [.agg t,eM,ao 2] (.F false))(q:aK u 85 [.agg t,jy,ao 1] (.F false))(r:aK u 85 [.agg t,y3,ao 1] (.F false))(w:aK u 60 [ao 1] (.agg (E.num 1)))(z:aK u 110 [.aQ 8 [E.bd ⟨c,1⟩]] (.a0 [.aQ 8 [E.bd ⟨c,1⟩],ao 0])):
 ∃v,cA E v [⟨c,1⟩]/\∃s d,lT u [.agg t] 0 .nil= .ok (.a0 [v,ao 0]) 0 s d:=by
 have eO:=e.eO;have tl:=e.aa;have A:=e.e5;have h:E.num 1++[.aQ 11 [t]]=E.bd ⟨c,1⟩:=by unfold cr.bd;rw[g]
 refine⟨_,.inr rfl,?_⟩;rw[lT,dK,yB,cy,bp,bb,aH,bc,ff,dj,bk,a6,BM,aH,be,bm,av,ff,aT,a6,Ji,aH,be,bm,av,ff,aT,a6,JB,aH,be,bm,av,bK,aT,a6,abr,aH,be,bm,av,bK,aT,iE,Lw,dO,fQ,a6,Om,bK,aT,aJ,cH,aN,aH,be,aV,aN,hX,av,n5,Y1,LO E 1 _ (λf=>rfl),hL,adY (E.eU 1) (by omega) rfl,aN,Zn (E.eU 1) (by rw[E.len]) i9,h,av,n5,hO,aN,gX,av,aT,e2 _ _,e3 _ _];exact C8 (es:=[E.bd ⟨c,1⟩]) (.inr rfl) da.eq
end
end
end
section
variable{x y s:aB} {p' n' o':_}
section
variable[Tok] {u:Fn} {b:Nat}
section
variable{E:cr} {ps qs rs ss:bE}
theorem ag8{m:aB}(i:cq x)(j:cq y)(k:aK u 60 [ao (-1)] (.agg m))(C:b8 m=true)(l:fy u 173 E [.agg y] ps)(q:fy u 173 E [.agg x] qs)(r:∀v,cA E v qs->fy u 43 E [v,.agg m] rs)(A:∀v w,cA E v ps->cA E w rs->fy u 44 E [v,w] ss):
 ∃v,cA E v ss/\∃s d,Ed u [.agg x,.agg y] 0 .nil= .ok (.a0 [v,ao 0]) 0 s d:=by
 obtain⟨v,c,D⟩:=l;obtain⟨w,e,G⟩:=q;obtain⟨B,g,H⟩:=r w e;obtain⟨z,h,I⟩:=A v B c g;obtain⟨J,K⟩:=i;obtain⟨L,M⟩:=j;have N:=c.eh;have O:=e.eh;have P:=g.eh;have Q:=h.eh;rw[Ed,dE,Wk,cy,cy,aH,be,T5,bg,bm,av,aT,e2 _ _,e3 _ _,bF,dF,bk,a6,aH,be,WV,bg,bm,av,aT,e2 _ _,e3 _ _,bF,dF,bk,a6,pE,aT k,aci,ce,e.dU,bm,av,av,aT,e2 _ _,e3 _ _,bF,dF,bk,a6,V9,ce,c.dU,g.dU,av,av,aT,e2 _ _,e3 _ _,Dv,h.dU,b7,av,av];exact⟨z,h,b9⟩
end
section
variable{E:cr} {ps:bE} {t:aB} {p n a:an} {o:aB}
theorem ak7(c:fk t 3 p n o (.aQ 11 [x,y]))(g:cq x)(h:cq y)(i:aK u 85 [.agg t,eu,ao 2] (.F true))(H:fy u 108 E [.agg y,.agg x] ps):∃v,cA E v ps/\∃s d,q3 u [.agg t] 0 .nil= .ok (.a0 [v,ao 2,ao 0]) 0 s d:=by have gP:=c.gP;have tl:=c.aa;have j:=c.e5;obtain⟨v,e,k⟩:=H;obtain⟨l,q⟩:=g;obtain⟨r,w⟩:=h;have z:=e.eh;rw[q3,dK,Gl,cy,aH,be,bm,av,ff,aT,bL,UF,bb,aJ,cH,aN,aH,bc,aV,aN,bK,of,aJ,aV,aN,ch,be,bb,aJ,cH,aN,aH,bc,abF,aV,aN,bF,hu,aJ,aV,aN,ch,be,aV,aV,aN,bm,bm,av,av,aT,e2 _ _,e3 _ _,DJ,bF,dF,bk,a6,wn,e.dU,ff,b7,b7,av,av,av];exact⟨v,e,b9⟩
theorem aoq(c:fk t 3 p n o (.aQ 11 [s]))(e:fk s 3 p' n' o' (.aQ 11 [x,y]))(h:cq x)(i:cq y)(j:aK u 85 [.agg t,eu,ao 2] (.F false))(k:aK u 85 [.agg t,fe,ao 1] (.F true))(l:aK u 85 [.agg s,eu,ao 2] (.F true))(H:fy u 108 E [.agg x,.agg y] ps):∃v,cA E v ps/\∃s d,q3 u [.agg t] 0 .nil= .ok (.a0 [v,ao 1,ao 0]) 0 s d:=by have gP:=c.gP;have tl:=c.aa;have q:=c.e5;have r:=e.gP;have sl:=e.aa;have w:=e.e5;obtain⟨v,g,z⟩:=H;obtain⟨A,B⟩:=h;obtain⟨C,D⟩:=i;have G:=g.eh;rw[q3,dK,Gl,cy,aH,be,bm,av,ff,aT,a6,M6,aH,be,bm,av,bK,aT,fi,MN,bb,aH,bc,bF,hu,ch,be,bm,av,ff,aT,I0,dR,bL,WC,bb,aJ,cH,aN,aH,bc,aV,aN,bF,hu,ko,aJ,aV,aN,ch,bc,aV,aN,hu,Sb,aJ,aV,aN,ch,be,bb,aJ,cH,aN,aH,bc,aV,aN,bF,hu,ko,aJ,aV,aN,ch,bc,aeP,aV,aN,bK,of,aJ,aV,aN,ch,be,aV,aV,aN,bm,bm,av,av,aT,e2 _ _,e3 _ _,DJ,bF,dF,bk,a6,wn,g.dU,b7,b7,av,av,av];exact⟨v,g,b9⟩
theorem atq(c:fk t 3 p n o (.aQ 11 [s]))(e:fk s 3 p' n' o' (.aQ 11 [x,y]))(h:cq x)(i:cq y)(j:aK u 85 [.agg t,eu,ao 2] (.F false))(k:aK u 85 [.agg t,fe,ao 1] (.F true))(l:aK u 85 [.agg s,eu,ao 2] (.F false))(q:aK u 85 [.agg s,iB,ao 2] (.F true))(H:fy u 108 E [.agg y,.agg x] ps):∃v,cA E v ps/\∃s d,q3 u [.agg t] 0 .nil= .ok (.a0 [v,ao 3,ao 0]) 0 s d:=by have gP:=c.gP;have tl:=c.aa;have r:=c.e5;have w:=e.gP;have sl:=e.aa;have z:=e.e5;obtain⟨v,g,A⟩:=H;obtain⟨B,C⟩:=h;obtain⟨D,G⟩:=i;have I:=g.eh;rw[q3,dK,Gl,cy,aH,be,bm,av,ff,aT,a6,M6,aH,be,bm,av,bK,aT,fi,MN,bb,aH,bc,bF,hu,ch,be,bm,av,ff,aT,I0,dR,a6,XE,aH,be,bm,av,bK,aT,fi,ZG,bb,aH,bc,bF,hu,ch,be,bm,av,ff,aT,QB,dR,bL,Wy,bb,aJ,cH,aN,aH,bc,aV,aN,bF,hu,ko,aJ,aV,aN,ch,bc,aV,aN,bK,of,abn,aJ,aV,aN,ch,be,bb,aJ,cH,aN,aH,bc,aV,aN,bF,hu,ko,aJ,aV,aN,ch,bc,Wd,aV,aN,bF,hu,aJ,aV,aN,ch,be,aV,aV,aN,bm,bm,av,av,aT,e2 _ _,e3 _ _,DJ,bF,dF,bk,a6,wn,g.dU,i2,b7,b7,av,av,av];exact⟨v,g,b9⟩
end
end
end
section
variable{E:cr} {T:cw->aB} {ps:bE} {v:an}
section
variable[Tok] {u:Fn} {b:Nat}
theorem aoA(e:cA E v ps)(K:ps.length<1000)(o:o3 u 62)(p:∀m∈ps,aK u 126 [.agg (E.bd m)] (.agg (T m))/\cq (T m))(a:gT){s3:Nat}{X2:an}:∀(k N:Nat) (h:aI) (t:aB) [b4 h b],k<=ps.length->k<N->cq t->h.aj (b+3)= .box s3 t->
 ∃h',eY b [3,2078] h h'/\h'.aj (b+3)= .box s3 (mu fv ((ps.map T).take k) t)/\du 0 2 3 4 N (tM u b a) v X2 (.bn (b+3) s3 0) (ao ((k:Int)-1)) h=a X2 (.bn (b+3) s3 0) h':=by
 intro k;induction k with
 |zero=>intro N h t ub q r i g;obtain⟨N,rfl⟩:=cN N;refine⟨h,.refl,g,?_⟩;rw[fj];generalize du 0 2 3 4 N (tM u b a)=j4;rw[tM,bF,ix,bk,a6]
 |succ k w=>
  intro N h t ub q r i g;obtain⟨N,rfl⟩:=cN N;have d:ps[k]? =some (ps[k]'(by omega)):=dC _;have j:=p _ (dr d);generalize (ps[k]'(by omega))=m at d j;have l:(ps.map E.bd)[k]? =some (E.bd m):=by rw[fo,d];rfl
  have z:mu fv ((ps.map T).take (k+1)) t=mu fv ((ps.map T).take k) (bU bP fv [T m,t]):=by unfold mu;rw[oG,fo,d,JO];rfl
  obtain⟨L,M,O⟩:=j;obtain⟨t1,t2⟩:=i;obtain⟨A,B⟩:=BW (n:=fv) (x:=T m) (y:=t) B8;have P:=o fv (.inl rfl) [T m,t];have Q:=E.eG m;have mp:=E.gw m;rcases e with⟨R,C⟩|e
  ·rw[C] at l;cases l
  have D:∃c,eY b [3,2078] h c/\c.aj (b+3)= .box s3 (bU bP fv [T m,t])/\du 0 2 3 4 (N+1) (tM u b a) v X2 (.bn (b+3) s3 0) (ao (((k+1:Nat):Int)-1)) h=du 0 2 3 4 N (tM u b a) v X2 (.bn (b+3) s3 0) (ao ((k:Int)-1)) c:=by rw[fj,show((k+1:Nat):Int)-1=(k:Int) by omega];generalize du 0 2 3 4 N (tM u b a)=j4;subst e;refine⟨(h.fm b 2078 56 11 [T m,t] false).eP b 3 (bU bP fv [T m,t]),((ng (b4.lt (by decide))).mono (by simp)).trans ((ng (b4.lt (by decide))).mono (by simp)),gS (ga g),?_⟩;rw[tM,bF,ix,bN,bL,acn,bZ,aV,aV,aN,bK,eE,aJ,aV,aN,ch,be,aV,aN,bm,av,aT,aaT,aJ,cH,aN,aH,be,aV,aV,aN,lb,lw,av,av,n5,hO,aN,gX,av,aT,cH,aN,hD,e1]
  obtain⟨c,a1,a2,G⟩:=D
  haveI:b4 c b:=⟨by rw[a1.ar];exact ub.eq⟩
  obtain⟨h',H,I,J⟩:=w N c _ (by omega) (by omega) ⟨A,B⟩ a2;exact⟨h',a1.trans H,by rw[z];exact I,by rw[G];exact J⟩
theorem ayR(c:cA E v ps)(C:ps.length<1000)(D:o3 u 62)(t:∀m∈ps,aK u 126 [.agg (E.bd m)] (.agg (T m))/\cq (T m))(S:aK u 60 [ao 0] (.agg (E.num 0)))(G:q0 u 59):
 ∃s d,yN u [v] 0 .nil= .ok (.agg (jC E T ps)) 0 s d:=by
 by_cases j:ps=[]
 ·subst j;have ev:v= .aE\/v= .aQ 8 []:=by
   rcases c with⟨e,_⟩|e
   ·exact .inl e
   ·exact .inr e
  have el:∀k:an->aw,bq false v k=k (ao 0):=λk=>c.len k;have W:=G _ (E.len 0) (E.eU 0);have w:=iA (E.len 0) (E.eU 0);have X:=E.eU 0;have cl:=w.aa;have cp:=w.e5;rw[abI];rw[yN,dK,MH,de,el,bF,dj,bN,bL,Wu,bF,aT,bg,bm,av,aT,dc,Av,gh,be,bj,bm,av];exact b9
 have a4:0<ps.length:=rH.2 j;have l:ps[ps.length-1]? =some (ps[ps.length-1]'(by omega)):=dC _;have y:=t _ (dr l);generalize (ps[ps.length-1]'(by omega))=m at l y;have H:(ps.map T)[(ps.map T).length-1]? =some (T m):=by rw[dS,fo,l];rfl
 have a5:(ps.map E.bd)[ps.length-1]? =some (E.bd m):=by rw[fo,l];rfl
 have o:=A9 fv H;rw[<-K9 j,dS] at o;have I:=o.symm;obtain⟨bs,z,A⟩:=y;have J:cq (jC E T ps):=by rw[o];exact DV B8 ⟨z,A⟩
 have K:v= .aQ 8 (ps.map E.bd):=by
  rcases c with⟨_,n⟩|c
  ·simp at n;exact absurd n j
  ·exact c
 have bx:=E.eG m;have mp:=E.gw m;have n:∀a:an->aw,cP (ao (ps.length:Int)) (ao 2) a=a (ao (((ps.length-1:Nat):Int)-1)):=λa=>by rw[e1,show(ps.length:Int)-2=((ps.length-1:Nat):Int)-1 by omega]
 have L:∀a:an->aw,cP (ao (ps.length:Int)) (ao 1) a=a (ao ((ps.length-1:Nat):Int)):=λa=>by rw[e1,show(ps.length:Int)-1=((ps.length-1:Nat):Int) by omega]
 have B:∀(h:aI) (s3 s2:Nat) (Z:aB),b4 h 0->da h->h.aj (0+3)= .box s3 (T m)->h.aj (0+2)= .box s2 Z->Z.length=11->∃s d,du 0 2 3 4 1000000 (tM u 0 λg p i=>aW i.aj true 11 p λq=>aX 0 none 11 g q i λx r=>Av 0 g r) v (.bn (0+2) s2 0) (.bn (0+3) s3 0) (ao (((ps.length-1:Nat):Int)-1)) h= .ok (.agg (jC E T ps)) 0 s d:=by
  intro h s3 s2 Z M N O P hz;obtain⟨h',a1,a2,Q⟩:=aoA (b:=0) c C D t (λg p i=>aW i.aj true 11 p λq=>aX 0 none 11 g q i λx r=>Av 0 g r) (X2:= .bn (0+2) s2 0) (ps.length-1) 1000000 h (T m) (by omega) (by omega) ⟨z,A⟩ O
  haveI:b4 h' 0:=⟨by rw[a1.ar];exact M.eq⟩
  haveI:da h':=⟨by rw[a1.bQ];exact N.eq⟩
  have cc:h'.aj (0+2)= .box s2 Z:=by rw[a1.aj _ λd R=>by simp at R;omega];exact P
  rw[Q];rw[I] at a2;obtain⟨r1,cn⟩:=J;rw[aH,be,dc,Av,gh,be,bj,bm,av];exact b9
 rw[K] at B ⊢;rw[yN,dK,MH,de,eA,dS,bF,dj,bk,a6,Uq,eA,dS,bK,L,eE,ch,be,aed,bg,bm,av,aT,de,dc,eA,dS,ff,n];refine B _ _ _ _ inferInstance inferInstance (gS fE) (gi (gF fE)) ?_;rfl
end
end
section
variable{h:aI} {d q:Nat} {z:dM} {cs:aB} {es cl:aY} {E:cr}
section
variable[Tok] {u:Fn} {b:Nat}
theorem NZ{o:e9}[b4 h b](e:h.aj q=z)(i:b+4096<=q:=by omega)(a:d<4096:=by decide):(h.g4 b d o).aj q=z:=by rw[(ng (b4.lt a)).aj _ λc g=>by simp at g;omega];exact e
theorem rA{t:Nat}[b4 h b](e:h.aj q=z)(a:b+4096<=q:=by omega)(c:d<4096:=by decide):(h.fz b d t cs).aj q=z:=NZ e a c
theorem rK[b4 h b](e:h.aj q=z)(a:b+4096<=q:=by omega)(c:d<4096:=by decide):(h.eP b d cs).aj q=z:=NZ e a c
theorem vn{a sz:Nat}{aEQ:Bool}[b4 h b](e:h.aj q=z)(c:b+4096<=q:=by omega)(g:d<4096:=by decide):(h.fm b d a sz es aEQ).aj q=z:=NZ e c g
structure fc where
 v:an
 aq:bE
 k:Int
def fc.U[Tok](r:fc):aB:=[r.v,ao r.k,ao 0]
inductive zq [Tok] (u:Fn) (E:cr) (t:aB):Option fc->Prop
 |ax (v:an) (es:aY) (hv:dw 8 v es) (h:aK u 40 [.agg t] (.a0 [v,ao 0,ao 0])):zq u E t none
 |row (v:an) (ps:bE) (k:Int) (es:aY) (hv:dw 8 v es) (hk:1<=k/\k<=3) (h:aK u 40 [.agg t] (.a0 [v,ao k,ao 0])):zq u E t (some ⟨v,ps,k⟩)
theorem ai3{v:an}(a:dw 8 v es)(k:Int):
 (∀f:aB->aw,cC 0 1 v [.aE,aL,aL] f=f [v,aL,aL])/\(∀f:aB->aw,cC 1 1 (ao k) [v,aL,aL] f=f [v,ao k,ao 0]):=by
 refine⟨λf=>?_,λf=>?_⟩
 ·rw[r4 a.cells (by simp)];rfl
 ·rw[r4 (λf=>by rw[cX];rfl) (by simp),bF];rfl
theorem agJ{a:List (Option fc)}(hl:cl.length<100)(a5:a.length=cl.length)(I:∀(i:Nat) (t:aB) (o:Option fc),cl[i]? =some t->a[i]? =some o->cq t/\zq u E t o)(g:gx):
 ∀(n k N:Nat) (h:aI) (aED:an),n+k=cl.length->n<N->b4 h b->da h->db b 2082 118 3 false h aED (((a.take k).filterMap id).map fc.U)->
 ∃c h',b4 h' b/\da h'/\eY b [2081,2082] h h'/\db b 2082 118 3 false h' c ((a.filterMap id).map fc.U)/\fM 0 3 4 N (xd u b g) (.aQ 11 cl) aED (ao k) h=g c h':=by
 intro n;induction n with
 |zero=>intro k N h aED J K ub w j;obtain⟨N,rfl⟩:=cN N;rw[nY] at j;refine⟨aED,h,ub,w,.refl,j,?_⟩;rw[hI];generalize fM 0 3 4 N (xd u b g)=j3;rw[xd,eA,bO,bk,a6]
 |succ n L=>
  intro k N h aED J K ub w j;obtain⟨N,rfl⟩:=cN N;have G:cl[k]? =some (cl[k]'(by omega)):=dC _;have y:a[k]? =some (a[k]'(by omega)):=dC _;have l:=I k _ _ G y;have H:a.take (k+1)=a.take k++[a[k]'(by omega)]:=by rw[oG,y];rfl
  generalize (cl[k]'(by omega))=t at G l;generalize (a[k]'(by omega))=o at y l H;obtain⟨⟨t1,t2⟩,l⟩:=l;rw[hI];have p:=λ(h:aI) (aED:an)=>L (k+1) N h aED (by omega) (by omega);have M:((k+1:Nat):Int)=(k:Int)+1:=by omega
  have eX:(((a.take k).filterMap id).map fc.U).length<100000:=by have:=JE id (a.take k);simp only[dS,ta] at this ⊢;omega
  rw[M,H,List.filterMap_append,ly] at p;generalize fM 0 3 4 N (xd u b g)=j3 at p;cases l with
  |ax v es r O=>have P:=r.eh;rw[show(List.filterMap id [(none:Option fc)]).map fc.U=[] from rfl,nj] at p;obtain⟨c,h',r1,A,B,C,fp⟩:=p h aED ub w j;refine⟨c,h',r1,A,B,C,?_⟩;rw[<-fp];rw[xd,eA,bO,bN,bL,O1,bK,eE,ch,be,Lo,bg,bm,av,aT,rq _ _ _,rr _ _ _,rN _ _ _,bF,dj,bN,fi,dF,HB,dR,bk,a6,cK]
  |row v ps m es r hm O=>
   have P:=r.eh;have rl:([v,ao m,ao 0]:aB).length=3:=rfl;have bs:b8 [v,ao m,ao 0]=true:=by rcases r with⟨rfl,_⟩|rfl<;>(rw[cX,cX];rfl)
   obtain⟨Q,D⟩:=ai3 r m;have Z:∀(h':aI),b4 h' b->da h'->eY b [2081,2082] h h'->∀s1,db b 2082 118 3 false h' aED (((a.take k).filterMap id).map fc.U)->h'.aj (b+2081)= .az s1 118 3 [[v,ao m,ao 0]] false->
    ∃c e,b4 e b/\da e/\eY b [2081,2082] h e/\db b 2082 118 3 false e c ((a.filterMap id).map fc.U)/\(eC b 2082 none 118 3 40 aED (.az (b+2081) s1 0 1) false h' λR S=>bR (ao k) (ao 1) λx=>j3 (.aQ 11 cl) R x S)=g c e:=by
    intro h' bx cc T s1 W X;obtain⟨s',h2,D,a1,a2,a3,a4⟩:=tR (bytes:=40) W X (λo=>gs b _) eX (by omega);obtain⟨c,e,r1,A,B,C,fp⟩:=p h2 _ D a1 a3;refine⟨c,e,r1,A,(T.trans (a2.mono (by simp))).trans B,C,?_⟩;rw[a4,cK,fp]
   rw[xd,eA,bO,bN,bL,O1,bK,eE,ch,be,Lo,bg,bm,av,aT,rq _ _ _,rr _ _ _,rN _ _ _,bF,dj,bN,fi,dF,HB,dR,bN,bL,Tg,Q,D,hL,hX,av,gW];refine Z _ ?_ ?_ ?_ _ ?_ ?_
   ·infer_instance
   ·infer_instance
   ·exact(ng (b4.lt (by decide))).mono (by simp)
   ·((repeat(first|exact j|refine db.fm ?_ ?_ ?_|refine db.eP ?_ ?_ ?_|refine db.fz ?_ ?_ ?_))<;>decide)
   ·exact i9
theorem Zj{a:List (Option fc)}(l:cl.length<100)(n:a.length=cl.length)(p:∀(i:Nat) (t:aB) (o:Option fc),cl[i]? =some t->a[i]? =some o->cq t/\zq u E t o){aET:b1}:
 (a.filterMap id=[]/\gD (wq u [.aQ 11 cl] b aET) b aET .aE)\/ww (wq u [.aQ 11 cl] b aET) b aET 118 3 (a.filterMap id).length ((a.filterMap id).map fc.U) false:=by
 obtain⟨r,h',r1,g,j,w,fp⟩:=agJ (b:=b) l n p (λx A=>Qi b x A) cl.length 0 1000000 (ba b aET) .aE (by omega) (by omega) inferInstance inferInstance (.inl ⟨rfl,rfl⟩);have e:wq u [.aQ 11 cl] b aET=mH b [r] [] h':=by rw[wq,dK,UG,bF,<-Qi];exact fp
 have C:h'.ar=b+4096:=by rw[j.ar];rfl
 have c:∀k,k<b->h'.aj k=cE b aET k:=λk c=>by rw[j.aj k λd D=>by omega];exact kz aET c
 rw[e];rcases w with⟨rfl,B⟩|⟨s,rfl,y⟩
 ·exact .inl ⟨oM.1 B,yR (by omega) g.eq c⟩
 ·rw[dS];exact .inr (Sy (by omega) (by omega) (by omega) y g.eq c)
end
end
section
variable{E:cr} {A:Nat->aY} {h:aI} {d d1 s1:Nat} {y:aB}
section
variable[Tok] {u:Fn} {b:Nat}
theorem Ge(u:Fn)(a:an)(b:Nat)(aET:b1):xR u [a] b aET=JS u b a (ba b aET):=rfl
def jF[Tok](a:aw)(L:aY):Prop:=∃v,dw 11 v L/\∃s d,a= .ok v 0 s d
structure wH [Tok] (u:Fn) (E:cr) (A:Nat->aY) (T:cw->aB) (M:bE->bE->bE) (R:List fc):Prop where
 ok:∀r∈R,cA E r.v r.aq/\1<=r.k/\r.k<=3
 mul:∀r∈R,∀s∈R,fy u 58 E [r.v,s.v] (M r.aq s.aq)/\(M r.aq s.aq).length<1000
 di:∀r∈R,∀s∈R,∀m∈M r.aq s.aq,nT (E.di m.k) (A m.k)/\(A m.k).length<1000
 PN:∀r∈R,∀s∈R,∀v,cA E v (M r.aq s.aq)->aK u 61 [v] (.agg (jC E T (M r.aq s.aq)))
 tok:∀r∈R,∀s∈R,cq (jC E T (M r.aq s.aq))
 zero:aK u 60 [ao 0] (.agg (E.num 0))
 si:q0 u 59
 yQ:o3 u 62
def nb[Tok](E:cr)(A:Nat->aY)(T:cw->aB)(a:bE->bE->bE)(r s:fc):Option aB:=
 if nI A (a r.aq s.aq) then none else some (oY (cW (E.num 0)) (decide (r.k=1)&&decide (s.k=1)) (jC E T (a r.aq s.aq)))
def pA[Tok](E:cr)(A:Nat->aY)(T:cw->aB)(a:bE->bE->bE):List fc->aY
 |[]=>[]
 |r::R=>(r::R).filterMap (nb E A T a r)++pA E A T a R
theorem ahH{v:an}{a:bE}(i:cA E v a)(t:∀m∈a,nT (E.di m.k) (A m.k)/\(A m.k).length<1000)(H:a.length<1000)(j6:nP){X1 X2 o X4:an}:∀(n k N:Nat) (c:Bool),n+k=a.length->n<N->
 wc 3 8 9 10 11 13 14 N (sD u b j6) X1 X2 o X4 v (.F c) (ao k) h=j6 X1 X2 o X4 v (.F (c&& !nI A (a.drop k))) h:=by
 intro n;induction n with
 |zero=>intro k N c w x;obtain⟨N,rfl⟩:=cN N;rw[UC,lO,show nI A []=false from rfl,mG,Bool.and_true];generalize wc 3 8 9 10 11 13 14 N (sD u b j6)=z;rw[sD,gB,i.len,dS,bO,bk,a6]
 |succ n B=>
  intro k N c w x;obtain⟨N,rfl⟩:=cN N;have j:a[k]? =some (a[k]'(by omega)):=dC _;have g:=t _ (dr j);have p:a.drop k=a[k]'(by omega)::a.drop (k+1):=iK (by omega);generalize (a[k]'(by omega))=m at j g p;have q:(a.map E.bd)[k]? =some (E.bd m):=by rw[fo,j];rfl
  have gH:(E.bd m)[0+7]? =some (E.di m.k):=by simpa using E.kk m
  have C:nI A (a.drop k)=(decide (4<(A m.k).length)||nI A (a.drop (k+1))):=by rw[p];rfl
  have I:=g.2;have e:=λc=>B (k+1) N c (by omega) (by omega);have D:((k+1:Nat):Int)=(k:Int)+1:=by omega
  rw[D] at e;rw[UC,C];have l:∀k:an->aw,bq false v k=k (ao a.length):=λk=>by rw[i.len,dS]
  generalize wc 3 8 9 10 11 13 14 N (sD u b j6)=z at e;rcases i with⟨_,G⟩|rfl
  ·rw[G] at q;cases q
  cases c
  ·rw[Bool.false_and];rw[sD,gB,l,bO,bN,bL,Jy,fQ,iE,dO,bK,cK];exact e false
  ·by_cases r:4<(A m.k).length
   ·rw[dm r,Bool.true_or,iz,Bool.and_false];rw[sD,gB,l,bO,bN,bL,Jy,fQ,fi,bK,eE,bp,ko,ch,bc,g.1.len,p7,qd,bk,dR,cK];exact e false
   ·rw[gK r,Fa];rw[sD,gB,l,bO,bN,bL,Jy,fQ,fi,bK,eE,bp,ko,ch,bc,g.1.len,p7,qd,bN,dR,cK];exact e true
def ip[Tok](h:aI)(x:an)(aED:aY):Prop:=db 0 2175 56 11 false h x aED\/db 0 2184 56 11 false h x aED
theorem ip.len{h:aI}{x:an}{aED:aY}(r:ip h x aED)(k:an->aw):bq false x k=k (ao aED.length):=by rcases r with r|r<;>exact r.len k
theorem ip.yt{h:aI}{x:an}{aED:aY}(r:ip h x aED):∃v,dw 11 v aED/\∀f:an->eH->aw,aD h.aj x f=f v []:=by rcases r with r|r<;>exact r.yt
theorem aiA[ub:b4 h 0][q:da h](n:d=2175\/d=2184)(j:h.aj (0+d1)= .az s1 56 11 [y] false):
 ∃l h',b4 h' 0/\da h'/\eY 0 [2175,2184] h h'/\ip h' l ([]++[y])/\∀k:dg,eC 0 d none 56 11 176 .aE (.az (0+d1) s1 0 1) false h k=k l h':=by
 rcases n with rfl|rfl
 ·obtain⟨p,h',a,c,e,g,i⟩:=tR (b:=0) (d:=2175) (wk:=none) (aEQ:=false) (bytes:=176) (.inl ⟨rfl,rfl⟩) j (λo=>gs 0 _) (by simp) (by omega);exact⟨_,h',a,c,e.mono (by simp),.inl g,i⟩
 ·obtain⟨p,h',a,c,e,g,i⟩:=tR (b:=0) (d:=2184) (wk:=none) (aEQ:=false) (bytes:=176) (.inl ⟨rfl,rfl⟩) j (λo=>gs 0 _) (by simp) (by omega);exact⟨_,h',a,c,e.mono (by simp),.inr g,i⟩
theorem ip.kS{x:an}{aED:aY}[ub:b4 h 0][z:da h](r:ip h x aED)(t:d=2175\/d=2184)(a:h.aj (0+d1)= .az s1 56 11 [y] false)(p:aED.length<100000):
 ∃q h',b4 h' 0/\da h'/\eY 0 [2175,2184] h h'/\ip h' q (aED++[y])/\∀k:dg,eC 0 d none 56 11 176 x (.az (0+d1) s1 0 1) false h k=k q h':=by
 by_cases c:x= .aE/\aED=[]
 ·obtain⟨rfl,rfl⟩:=c;exact aiA t a
 rcases r with r|r
 ·obtain⟨s,rfl,e⟩:=r.resolve_left c;obtain⟨w,h',g,i,j,l,n⟩:=tR (b:=0) (d:=2175) (wk:=none) (aEQ:=false) (bytes:=176) (.inr ⟨s,rfl,e⟩) a (λo=>gs 0 _) p (by omega);exact⟨_,h',g,i,j.mono (by simp),.inl l,λk=>by rw[Ck (d':=2175)];exact n k⟩
 ·obtain⟨s,rfl,e⟩:=r.resolve_left c;obtain⟨w,h',g,i,j,l,n⟩:=tR (b:=0) (d:=2184) (wk:=none) (aEQ:=false) (bytes:=176) (.inr ⟨s,rfl,e⟩) a (λo=>gs 0 _) p (by omega);exact⟨_,h',g,i,j.mono (by simp),.inr l,λk=>by rw[Ck (d':=2184)];exact n k⟩
theorem ip.fz{d' t:Nat}{h:aI}{x:an}{aED:aY}{cs:aB}[b4 h 0](r:ip h x aED)(c:d'≠2175)(e:d'≠2184)(a:d'<4096):ip (h.fz 0 d' t cs) x aED:=by
 rcases r with r|r
 ·exact .inl (r.fz c a)
 ·exact .inr (r.fz e a)
theorem ip.eP{d':Nat}{h:aI}{x:an}{aED:aY}{cs:aB}[b4 h 0](r:ip h x aED)(c:d'≠2175)(e:d'≠2184)(a:d'<4096):ip (h.eP 0 d' cs) x aED:=by
 rcases r with r|r
 ·exact .inl (r.eP c a)
 ·exact .inr (r.eP e a)
theorem ip.fm{d' c e:Nat}{aER:Bool}{h:aI}{x:an}{aED es:aY}[b4 h 0](r:ip h x aED)(g:d'≠2175)(i:d'≠2184)(a:d'<4096):ip (h.fm 0 d' c e es aER) x aED:=by
 rcases r with r|r
 ·exact .inl (r.fm g a)
 ·exact .inr (r.fm i a)
theorem fc.afs(r:fc):r.U.length=3:=rfl
theorem fc.dX(r:fc):r.U[0+0]? =some r.v:=rfl
theorem fc.bM(r:fc):r.U[0+1]? =some (ao r.k):=rfl
theorem azg{T:cw->aB}{j:bE->bE->bE}{R:List fc}(K:wH u E A T j R){i k:Nat}{c e:fc}(n:R[i]? =some c)(o:R[k]? =some e){j4:mS}{sr:Nat}{L:aY}{vq:an}(g:cA E vq (j c.aq e.aq))
 {aED:an}{l:aY}(ub:b4 h 0)(a2:da h)(p:h.aj (0+2098)= .az sr 118 3 (R.map fc.U) false)(q:ip h aED l)(eX:l.length<100000)
 (z:∀(h:aI) (aED:an),b4 h 0->da h->h.aj (0+2098)= .az sr 118 3 (R.map fc.U) false->ip h aED (l++[oY (cW (E.num 0)) (decide (c.k=1)&&decide (e.k=1)) (jC E T (j c.aq e.aq))])->jF (j4 (.az (0+2098) sr 0 R.length) aED (ao i) (ao k) h) L):
 jF (Ch u 0 j4 (.az (0+2098) sr 0 R.length) aED (ao i) (ao k) vq h) L:=by
 have hi:i<R.length:=by rcases e6.1 n with⟨h,_⟩;exact h
 have hk:k<R.length:=by rcases e6.1 o with⟨h,_⟩;exact h
 have a3:(R.map fc.U)[i]? =some c.U:=by rw[fo,n];rfl
 have a4:(R.map fc.U)[k]? =some e.U:=by rw[fo,o];rfl
 have r:=dr n;have t:=dr o;have G:=K.ok _ r;have H:=K.ok _ t;have a5:=G.2;have bs:=H.2;have bx:=c.bM;have cc:=e.bM;have I:=K.PN _ r _ t vq g;have B:=K.tok _ r _ t;have hz:=K.zero;have cl:=K.si _ (E.len 0) (E.eU 0);have C:=iA (E.len 0) (E.eU 0);generalize jC E T (j c.aq e.aq)=a at I B z;obtain⟨cn,cp⟩:=B;have cs:=E.len 0;have c0:=E.eU 0;have c1:=C.aa;have c2:=C.e5;have m3:=K.yQ eu (.inr (.inr (.inl rfl))) [cW (E.num 0),a];have c3:=K.yQ eu (.inr (.inr (.inl rfl))) [a,cW (E.num 0)];have c4:=K.yQ fe (.inr (.inr (.inr rfl))) [bU bP eu [a,cW (E.num 0)]];have l1:(bU bP eu [cW (E.num 0),a]).length=11:=rfl;have l2:(bU bP eu [a,cW (E.num 0)]).length=11:=rfl;have eV:(bU bP fe [bU bP eu [a,cW (E.num 0)]]).length=11:=rfl;have c5:b8 (bU bP eu [cW (E.num 0),a])=true:=rfl;have dq:b8 (bU bP eu [a,cW (E.num 0)])=true:=rfl;have ee:b8 (bU bP fe [bU bP eu [a,cW (E.num 0)]])=true:=rfl;have Z:∀(d d1:Nat) (h':aI),d=2175\/d=2184->b4 h' 0->da h'->∀s1,h'.aj (0+2098)= .az sr 118 3 (R.map fc.U) false->ip h' aED l->h'.aj (0+d1)= .az s1 56 11 [oY (cW (E.num 0)) (decide (c.k=1)&&decide (e.k=1)) a] false->
  jF (eC 0 d none 56 11 176 aED (.az (0+d1) s1 0 1) false h' λJ M=>j4 (.az (0+2098) sr 0 R.length) J (ao i) (ao k) M) L:=by
  intro d d1 h' w em en s1 N g O;obtain⟨x',P,Q,S,W,X,a1⟩:=ip.kS g w O eX;rw[a1];exact z P _ Q S (by rw[W.aj _ λd w=>by simp at w;omega];exact N) X
 unfold jF at Z ⊢;by_cases x:c.k=1
 ·by_cases D:e.k=1
  ·rw[dm x,dm D] at Z;rw[Ch,bF,aT,bg,bm,av,aT,de,dc,bg,g.dU,av,aT,de,dc,gu,JH,bp,hP,hg,bc,bK,dj,bN,gB,fi,gu,hP,hg,bc,dj,F2,dR,bN,bL,aaO,aH,be,aH,be,lb,lw,av,av,gW,gX,av,aT,hX,av,gW];refine Z 2175 2174 _ (.inl rfl) ?_ ?_ _ ?_ ?_ ?_
   ·infer_instance
   ·infer_instance
   ·((repeat(first|exact p|refine ga ?_ ?_ ?_|refine gi ?_ ?_ ?_|refine gF ?_ ?_ ?_|refine l5 ?_ ?_ ?_))<;>decide)
   ·((repeat(first|exact q|refine ip.fm ?_ ?_ ?_ ?_|refine ip.eP ?_ ?_ ?_ ?_|refine ip.fz ?_ ?_ ?_ ?_))<;>decide)
   ·exact i9
  ·rw[dm x,gK D] at Z;rw[Ch,bF,aT,bg,bm,av,aT,de,dc,bg,g.dU,av,aT,de,dc,gu,JH,bp,hP,hg,bc,bK,dj,dm ‹_›,gB,fi,gu,hP,hg,bc,dj,bk,F2,dR,a6,aH,be,aH,be,Nw,lb,lw,av,av,gW,gX,av,aT,hX,av,gW,gX,av,aT,hX,av,gW];refine Z 2184 2183 _ (.inr rfl) ?_ ?_ _ ?_ ?_ ?_
   ·infer_instance
   ·infer_instance
   ·((repeat(first|exact p|refine ga ?_ ?_ ?_|refine gi ?_ ?_ ?_|refine gF ?_ ?_ ?_|refine l5 ?_ ?_ ?_))<;>decide)
   ·((repeat(first|exact q|refine ip.fm ?_ ?_ ?_ ?_|refine ip.eP ?_ ?_ ?_ ?_|refine ip.fz ?_ ?_ ?_ ?_))<;>decide)
   ·exact i9
 ·rw[gK x] at Z;rw[Ch,bF,aT,bg,bm,av,aT,de,dc,bg,g.dU,av,aT,de,dc,gu,JH,bp,hP,hg,bc,bK,dj,bk,gB,iE,F2,dO,fQ,a6,aH,be,aH,be,Nw,lb,lw,av,av,gW,gX,av,aT,hX,av,gW,gX,av,aT,hX,av,gW];refine Z 2184 2183 _ (.inr rfl) ?_ ?_ _ ?_ ?_ ?_
  ·infer_instance
  ·infer_instance
  ·((repeat(first|exact p|refine ga ?_ ?_ ?_|refine gi ?_ ?_ ?_|refine gF ?_ ?_ ?_|refine l5 ?_ ?_ ?_))<;>decide)
  ·((repeat(first|exact q|refine ip.fm ?_ ?_ ?_ ?_|refine ip.eP ?_ ?_ ?_ ?_|refine ip.fz ?_ ?_ ?_ ?_))<;>decide)
  ·exact i9
end
end
section
variable{E:cr} {A:Nat->aY} {T:cw->aB} {M:bE->bE->bE} {R:List fc} {sr:Nat} {C:fc->Bool}
section
variable[Tok] {u:Fn} {b:Nat}
theorem azO(K:wH u E A T M R)(c3:R.length<100){i:Nat}{c:fc}(w:R[i]? =some c){j3:mj}{L:aY}
 (bs:∀(h:aI) (aED:an) (a:aY),b4 h 0->da h->h.aj (0+2098)= .az sr 118 3 (R.map fc.U) false->ip h aED a->a.length<=12->jF (j3 (.az (0+2098) sr 0 R.length) aED (ao ((i:Int)+1)) h) ((a++L).take 12)):
 ∀(n k N:Nat) (h:aI) (aED:an) (a:aY),n+k=R.length->n<N->b4 h 0->da h->h.aj (0+2098)= .az sr 118 3 (R.map fc.U) false->ip h aED a->a.length<=12->
 jF (du 3 8 9 10 N (x2 u 0 (λo p q r=>bR q aS λt=>j3 o p t r)) (.az (0+2098) sr 0 R.length) aED (ao i) (ao k) h) ((a++((R.drop k).filterMap (nb E A T M c)++L)).take 12):=by
 have hi:i<R.length:=by rcases e6.1 w with⟨h,_⟩;exact h
 intro n;induction n with
 |zero=>intro k N h aED a hk bx ub x y j H;obtain⟨N,rfl⟩:=cN N;rw[fj,lO,List.filterMap_nil,kP];generalize du 3 8 9 10 N (x2 u 0 (λo p q r=>bR q aS λt=>j3 o p t r))=j4;have e:=bs h aED a ub x y j H;unfold jF at e ⊢;rw[x2,gB,jw,bO,bk,a6,bK,cK];exact e
 |succ n cc=>
  intro k N h aED a hk bx ub x y j H;obtain⟨N,rfl⟩:=cN N;have z:R[k]? =some (R[k]'(by omega)):=dC _;have a3:R.drop k=R[k]'(by omega)::R.drop (k+1):=iK (by omega);generalize (R[k]'(by omega))=d at z a3;have c4:(R.map fc.U)[i]? =some c.U:=by rw[fo,w];rfl
  have c5:(R.map fc.U)[k]? =some d.U:=by rw[fo,z];rfl
  have I:=dr w;have J:=dr z;have B:=(K.ok _ I).1;have D:=(K.ok _ J).1;rw[fj,a3];have G:=λ(h:aI) (aED:an) (a:aY)=>cc (k+1) N h aED a (by omega) (by omega);have cl:((k+1:Nat):Int)=(k:Int)+1:=by omega
  rw[cl] at G;generalize du 3 8 9 10 N (x2 u 0 (λo p q r=>bR q aS λt=>j3 o p t r))=j4 at G;obtain⟨⟨vq,O,dq⟩,cn⟩:=K.mul _ I _ J;have cp:=K.di _ I _ J;have ee:=O.eh;have em:=c.dX;have j0:=d.dX;have S:∀(l:Bool),(l=true->a.length<12)->jF (wc 3 8 9 10 11 13 14 1000000 (sD u 0 (B5 u 0 (λP Q W X Z=>bR X aS λa1=>j4 P Q W a1 Z))) (.az (0+2098) sr 0 R.length) aED (ao i) (ao k) vq (.F l) (ao ((0:Nat):Int)) h)
   ((a++((if l then(d::R.drop (k+1)).filterMap (nb E A T M c) else(R.drop (k+1)).filterMap (nb E A T M c))++L)).take 12):=by
   intro l cs;rw[ahH O cp cn _ (M c.aq d.aq).length 0 1000000 l (by omega) (by omega),u7];have e:=G h aED a ub x y j H;cases l
   ·rw[Bool.false_and,cU (by simp)];unfold jF at e ⊢;rw[B5,gB,hj,mG,bL,bK,cK];exact e
   ·rw[yd,cv rfl];cases a4:nI A (M c.aq d.aq)
    ·have a2:nb E A T M c d=some (oY (cW (E.num 0)) (decide (c.k=1)&&decide (d.k=1)) (jC E T (M c.aq d.aq))):=by unfold nb;rw[a4];rfl
     rw[List.filterMap_cons_some a2];have a5:=azg K w z (j4:=λP Q W X Z=>bR X aS λa1=>j4 P Q W a1 Z) (L:=(a++(oY (cW (E.num 0)) (decide (c.k=1)&&decide (d.k=1)) (jC E T (M c.aq d.aq))::(R.drop (k+1)).filterMap (nb E A T M c)++L)).take 12) O ub x y j (by omega) (λh aED c0 c1 k1 k2=>by have:=G h aED _ c0 c1 k1 k2 (by have:=cs rfl;simp;omega);rw[kD] at this;rw[bK,cK];exact this)
     unfold jF at a5 ⊢;rw[B5,gB,hj,mG,iz,a6];exact a5
    ·have a2:nb E A T M c d=none:=by unfold nb;rw[a4];rfl
     rw[List.filterMap_cons_none a2];unfold jF at e ⊢;rw[B5,gB,hj,iz,mG,bL,bK,cK];exact e
  by_cases en:a.length=12
  ·have g:=S false (by simp);rw[cU (by simp)] at g;have c2:(a++((d::R.drop (k+1)).filterMap (nb E A T M c)++L)).take 12=(a++((R.drop (k+1)).filterMap (nb E A T M c)++L)).take 12:=by rw[rV (by omega),rV (by omega)]
   rw[c2];unfold jF at g ⊢;rw[x2,gB,jw,bO,bN,bL,KH,bZ,hO,aV,aN,gu,hP,aJ,jA,aN,hg,bc,bZ,hO,aV,aN,gu,hP,aJ,jA,aN,hg,bc,NC,aV (B.met _ _),aV (D.met _ _),aN,B.dU,D.dU,av,av,aT,e2 _ _,e3 _ _,bF,dj,bN,gB,fi,j.len,xf,bO,bk,N2,dR];rw[bF];exact g
  ·have g:=S true (by omega);rw[cv rfl] at g;unfold jF at g ⊢;rw[x2,gB,jw,bO,bN,bL,KH,bZ,hO,aV,aN,gu,hP,aJ,jA,aN,hg,bc,bZ,hO,aV,aN,gu,hP,aJ,jA,aN,hg,bc,NC,aV (B.met _ _),aV (D.met _ _),aN,B.dU,D.dU,av,av,aT,e2 _ _,e3 _ _,bF,dj,bN,gB,fi,j.len,xf,bO,bN,N2,dR];rw[bF];exact g
theorem afk(K:wH u E A T M R)(p:R.length<100):
 ∀(n k N:Nat) (h:aI) (aED:an) (a:aY),n+k=R.length->n<N->b4 h 0->da h->h.aj (0+2098)= .az sr 118 3 (R.map fc.U) false->ip h aED a->a.length<=12->
 jF (fM 3 8 9 N (wi u 0 (λc d=>Ap 0 c d)) (.az (0+2098) sr 0 R.length) aED (ao k) h) ((a++pA E A T M (R.drop k)).take 12):=by
 intro n;induction n with
 |zero=>intro k N h aED a q r ub i j e l;obtain⟨N,rfl⟩:=cN N;obtain⟨v,t,w⟩:=e.yt;rw[hI,lO,show pA E A T M []=[] from rfl,nj,nY];generalize fM 3 8 9 N (wi u 0 (λc d=>Ap 0 c d))=j3;refine⟨v,t,?_⟩;rw[wi,gB,jw,bO,bk,a6,Ap,bj,w,av];exact b9
 |succ n x=>
  intro k N h aED a q r ub i j e l;obtain⟨N,rfl⟩:=cN N;have y:R[k]? =some (R[k]'(by omega)):=dC _;have z:R.drop k=R[k]'(by omega)::R.drop (k+1):=iK (by omega);rw[hI];have g:=λ(h:aI) (aED:an) (a:aY)=>x (k+1) N h aED a (by omega) (by omega);have B:((k+1:Nat):Int)=(k:Int)+1:=by omega
  rw[B] at g;generalize fM 3 8 9 N (wi u 0 (λc d=>Ap 0 c d))=j3 at g;have o:=azO K p y (j3:=j3) (sr:=sr) (L:=pA E A T M (R.drop (k+1))) g (R.length-k) k 1000000 h aED a (by omega) (by omega) ub i j e l;have D:pA E A T M (R.drop k)=(R.drop k).filterMap (nb E A T M (R[k]'(by omega)))++pA E A T M (R.drop (k+1)):=by rw[z];rfl
  rw[D];unfold jF at o ⊢;rw[wi,gB,jw,bO,bN,bL,UT];exact o
theorem WB(K:wH u E A T M R)(c:R.length<100){h:aI}{x:an}(ub:b4 h 0)(d:da h)(g:db 0 2098 118 3 false h x (R.map fc.U)):
 jF (wM u 0 x h) ((pA E A T M R).take 12):=by
 rcases g with⟨rfl,e⟩|⟨sr,rfl,e⟩
 ·have:R=[]:=by simpa using e
  subst this;refine⟨.aE,.inl ⟨rfl,rfl⟩,?_⟩;rw[wM];rw[hQ,hI];rw[wi,gB,hy,bF,bO,bk,a6,Ap,bj,yg,av];exact b9
 ·have a:=afk K c (sr:=sr) R.length 0 1000000 h .aE [] (by omega) (by omega) ub d e (.inl (.inl ⟨rfl,rfl⟩)) (by simp);unfold jF at a ⊢;rw[dS];rw[wM];rw[bF];exact a
def iV(C:fc->Bool)(R:List fc):List fc:=R.filter λr=> !C r&&decide (r.k≠3)
theorem ahC(a5:R.length<100)(K:wH u E A T M (iV C R))(i:∀r∈R,(∃es,dw 8 r.v es)/\1<=r.k/\r.k<=3/\∃w:aB,w.length=7/\aK u 45 [r.v] (.a0 [.agg w,.F (C r)])){q s:Nat}(bs:4096<=q):
 ∀(n k N:Nat) (h:aI) (aED:an),n+k=R.length->n<N->b4 h 0->da h->h.aj q= .az s 118 3 (R.map fc.U) false->db 0 2098 118 3 false h aED ((iV C (R.take k)).map fc.U)->
 jF (fM 3 4 5 N (tk u 0 (wM u 0)) aED (.az q s 0 R.length) (ao k) h) ((pA E A T M (iV C R)).take 12):=by
 intro n;induction n with
 |zero=>intro k N h aED G H ub y j c;obtain⟨N,rfl⟩:=cN N;rw[nY] at c;have z:=WB K (O8 (GP _ _) (by omega)) ub y c;rw[hI];generalize fM 3 4 5 N (tk u 0 (wM u 0))=j3;unfold jF at z ⊢;rw[tk,gB,jw,bO,bk,a6];exact z
 |succ n I=>
  intro k N h aED G H ub y j c;obtain⟨N,rfl⟩:=cN N;have l:R[k]? =some (R[k]'(by omega)):=dC _;have B:R.take (k+1)=R.take k++[R[k]'(by omega)]:=by rw[oG,l];rfl
  generalize (R[k]'(by omega))=r at l B;obtain⟨⟨bx,p⟩,cc,cl,w,ho,i⟩:=i _ (dr l);have cn:(R.map fc.U)[k]? =some r.U:=by rw[fo,l];rfl
  have r0:=r.dX;have r1:=r.bM;have rl:=r.afs;have cp:k<R.length:=by omega
  rw[hI];have a:=λ(h:aI) (aED:an)=>I (k+1) N h aED (by omega) (by omega);have J:((k+1:Nat):Int)=(k:Int)+1:=by omega
  have eX:((iV C (R.take k)).map fc.U).length<100000:=by have:=GP (λr:fc=> !C r&&decide (r.k≠3)) (R.take k);simp only[dS,ta,iV] at this ⊢;omega
  rw[J,B] at a;generalize fM 3 4 5 N (tk u 0 (wM u 0))=j3 at a;cases t:C r
  ·rw[t] at i;by_cases D:r.k=3
   ·have g:iV C (R.take k++[r])=iV C (R.take k):=by unfold iV;rw[List.filter_append];simp[D]
    rw[g] at a;unfold jF at a ⊢;rw[tk,gB,jw,bO,bN,bL,G4,gu,bp,hP,hg,bc,bg,p.dU,av,aT,e2 _ _,e3 _ _,J6,de,dc,hj,mG,gB,fi,gu,hP,hg,bc,i2,dF,bk,J8,dR,a6,bK,cK];refine a _ _ ?_ ?_ ?_ ?_
    ·infer_instance
    ·infer_instance
    ·exact rK (rA j)
    ·((repeat(first|exact c|refine db.fm ?_ ?_ ?_|refine db.eP ?_ ?_ ?_|refine db.fz ?_ ?_ ?_))<;>decide)
   ·have g:iV C (R.take k++[r])=iV C (R.take k)++[r]:=by unfold iV;rw[List.filter_append];simp[D,t]
    rw[g,ly] at a;have cs:b8 r.U=true:=by unfold fc.U;rcases p with⟨e,_⟩|e<;>(rw[e,cX,cX];rfl)
    have Z:∀(h':aI),b4 h' 0->da h'->∀s1,h'.aj q= .az s 118 3 (R.map fc.U) false->db 0 2098 118 3 false h' aED ((iV C (R.take k)).map fc.U)->h'.aj (0+2097)= .az s1 118 3 [r.U] false->
     jF (eC 0 2098 none 118 3 40 aED (.az (0+2097) s1 0 1) false h' λL O=>bR (ao k) aS λx=>j3 L (.az q s 0 R.length) x O) ((pA E A T M (iV C R)).take 12):=by
     intro h' c0 c1 s1 P Q S;obtain⟨s',W,X,a1,a2,a3,a4⟩:=tR (bytes:=40) Q S (λo=>gs 0 _) eX (by omega);rw[a4,bK,cK];exact a W _ X a1 (by rw[a2.aj _ λd hd=>by simp at hd;omega];exact P) a3
    unfold jF at Z ⊢;rw[tk,gB,jw,bO,bN,bL,G4,gu,bp,hP,hg,bc,bg,p.dU,av,aT,e2 _ _,e3 _ _,J6,de,dc,hj,mG,gB,fi,gu,hP,hg,bc,i2,dF,bN,J8,dR,bL,ad2,bF,gu,hg,be,hX,av,gW];refine Z _ ?_ ?_ _ ?_ ?_ ?_
    ·infer_instance
    ·infer_instance
    ·exact vn (rK (rA j))
    ·((repeat(first|exact c|refine db.fm ?_ ?_ ?_|refine db.eP ?_ ?_ ?_|refine db.fz ?_ ?_ ?_))<;>decide)
    ·exact i9
  ·rw[t] at i;have g:iV C (R.take k++[r])=iV C (R.take k):=by unfold iV;rw[List.filter_append];simp[t]
   rw[g] at a;unfold jF at a ⊢;rw[tk,gB,jw,bO,bN,bL,G4,gu,bp,hP,hg,bc,bg,p.dU,av,aT,e2 _ _,e3 _ _,J6,de,dc,hj,iz,gB,iE,J8,dO,fQ,a6,bK,cK];refine a _ _ ?_ ?_ ?_ ?_
   ·infer_instance
   ·infer_instance
   ·exact rK (rA j)
   ·((repeat(first|exact c|refine db.fm ?_ ?_ ?_|refine db.eP ?_ ?_ ?_|refine db.fz ?_ ?_ ?_))<;>decide)
theorem ap6{cl:aY}(e:R.length<100)(K:wH u E A T M (iV C R))(g:∀r∈R,(∃es,dw 8 r.v es)/\1<=r.k/\r.k<=3/\∃d:aB,d.length=7/\aK u 45 [r.v] (.a0 [.agg d,.F (C r)]))
 (i:∀b aET,(R=[]/\gD (u 46 [.aQ 11 cl] b aET) b aET .aE)\/ww (u 46 [.aQ 11 cl] b aET) b aET 118 3 R.length (R.map fc.U) false):
 jF (xR u [.aQ 11 cl] 0 .nil) ((pA E A T M (iV C R)).take 12):=by
 rcases i (ba 0 .nil).ar (ba 0 .nil).au with⟨rfl,c⟩|c
 ·obtain⟨h',a1,a2⟩:=my (u:=u) (b:=0) (h:=ba 0 .nil) c
  haveI:b4 h' 0:=⟨by rw[a1.ar];exact cY _⟩
  haveI:da h':=⟨by rw[a1.bQ];rfl⟩
  have a:=WB (R:=iV C []) K (by simp[iV]) (h:=h') (x:= .aE) inferInstance inferInstance (.inl ⟨rfl,rfl⟩);unfold jF at a ⊢;rw[xR,dK,JS,mg,av];rw[a2,hQ,gB,hI];rw[tk,gB,hy,bF,bO,bk,a6];exact a
 ·obtain⟨h',q,s,a1,a2,n,a4,j,o,k⟩:=YQ (u:=u) (b:=0) (h:=ba 0 .nil) c;have p:4096<=h'.ar:=a1;have l:4096<=q:=j;have a:=ahC e K g l R.length 0 1000000 h' .aE (by omega) (by omega) ⟨by omega⟩ ⟨by rw[a4];rfl⟩ a2 (.inl ⟨rfl,rfl⟩);unfold jF at a ⊢;rw[xR,dK,JS,mg,av];rw[k,bF];exact a
end
end
section
variable{h:aI} {X:an} {l:aY}
section
variable[Tok] {u:Fn} {b:Nat}
def zM[Tok](b:Nat)(h:aI)(X:an)(L:aY):Prop:=X= .aQ 11 L\/∃s,X= .az (b+2071) s 0 L.length/\h.aj (b+2071)= .az s 56 11 L false
theorem zM.jv{h':aI}{L:aY}{S:List Nat}(r:zM b h X L)(o:eY b S h h')(a:2071∉S):zM b h' X L:=by
 rcases r with r|⟨s,r1,d⟩
 ·exact .inl r
 ·refine .inr ⟨s,r1,?_⟩;rw[o.aj _ λc g=>?_]
  ·exact d
  ·intro e;have:c=2071:=by omega
   exact a (this▸g)
theorem af8(q:o3 u 62)(c:gT){a:Nat}{X1 X2:an}(J:l.length<1000)(r:∀t∈l,cq t):∀(k N:Nat) (h:aI) (t:aB),k<=l.length->k<N->b4 h b->zM b h X2 l->cq t->h.aj (b+5)= .box a t->
 ∃h',eY b [5,2092] h h'/\h'.aj (b+5)= .box a (mu eM (l.take k) t)/\du 2 4 5 6 N (rO u b c) X1 X2 (.bn (b+5) a 0) (ao ((k:Int)-1)) h=c X1 (.bn (b+5) a 0) h':=by
 intro k;induction k with
 |zero=>intro N h t w z ub e j g;obtain⟨N,rfl⟩:=cN N;refine⟨h,.refl,g,?_⟩;rw[fj];generalize du 2 4 5 6 N (rO u b c)=j4;rw[rO,bF,ix,bk,a6]
 |succ k A=>
  intro N h t w z ub e j g;obtain⟨N,rfl⟩:=cN N;have i:l[k]? =some (l[k]'(by omega)):=dC _;have o:=r _ (dr i);have p:mu eM (l.take (k+1)) t=mu eM (l.take k) (bU bP eM [l[k]'(by omega),t]):=by unfold mu;rw[oG,i,JO];rfl
  generalize (l[k]'(by omega))=x at i o p;obtain⟨K,L⟩:=o;obtain⟨t1,t2⟩:=j;obtain⟨B,C⟩:=BW (n:=eM) (x:=x) (y:=t) z1;have M:=q eM (.inr (.inl rfl)) [x,t];have O:k<l.length:=by omega
  have D:∃d,eY b [5,2092] h d/\d.aj (b+5)= .box a (bU bP eM [x,t])/\du 2 4 5 6 (N+1) (rO u b c) X1 X2 (.bn (b+5) a 0) (ao (((k+1:Nat):Int)-1)) h=du 2 4 5 6 N (rO u b c) X1 X2 (.bn (b+5) a 0) (ao ((k:Int)-1)) d:=by
   rw[fj,show((k+1:Nat):Int)-1=(k:Int) by omega];generalize du 2 4 5 6 N (rO u b c)=j4;refine⟨(h.fm b 2092 56 11 [x,t] false).eP b 5 (bU bP eM [x,t]),((ng (b4.lt (by decide))).mono (by simp)).trans ((ng (b4.lt (by decide))).mono (by simp)),gS (ga g),?_⟩;rcases e with rfl|⟨s,rfl,P⟩
   ·rw[rO,bF,ix,bN,bL,Mm,bZ,aV,aV,aN,bK,eE,aJ,aV,aN,ch,be,NU,aJ,cH,aN,aH,be,aV,aV,aN,lb,lw,av,av,n5,hO,aN,gX,av,aT,cH,aN,hD,e1]
   ·rw[rO,bF,ix,bN,bL,Mm,bZ,hO,aV,aN,gu,aJ,jA,aN,hg,be,NU,aJ,cH,aN,aH,be,aV,aV,aN,lb,lw,av,av,n5,hO,aN,gX,av,aT,cH,aN,hD,bK,e1]
  obtain⟨d,a1,a2,E⟩:=D;obtain⟨h',G,H,I⟩:=A N d _ (by omega) (by omega) ⟨by rw[a1.ar];exact ub.eq⟩ (e.jv a1 (by simp)) ⟨B,C⟩ a2;exact⟨h',a1.trans G,by rw[p];exact H,by rw[E];exact I⟩
theorem adt(D:o3 u 62)(E:l.length<1000)(y:∀t∈l,cq t)(G:l≠[]){s2:Nat}{Z:aB}(j:b4 h 0)(z:da h)(g:h.aj (0+2)= .box s2 Z)(P:Z.length=11)(i:zM 0 h X l):
 ∃s d,CN u 0 (.bn (0+2) s2 0) X h= .ok (.agg (mz eM l)) 0 s d:=by
 have Q:0<l.length:=rH.2 G;have k:l[l.length-1]? =some (l[l.length-1]'(by omega)):=dC _;have n:=y _ (dr k);have o:=A9 eM k;generalize (l[l.length-1]'(by omega))=x at k n o;have H:cq (mz eM l):=by rw[o];exact DV z1 n
 have I:=o.symm;obtain⟨J,K⟩:=n;have R:l.length-1<l.length:=by omega
 have A:∀a:an->aw,cP (ao (l.length:Int)) (ao 2) a=a (ao (((l.length-1:Nat):Int)-1)):=λa=>by rw[e1,show(l.length:Int)-2=((l.length-1:Nat):Int)-1 by omega]
 have B:∀a:an->aw,cP (ao (l.length:Int)) (ao 1) a=a (ao ((l.length-1:Nat):Int)):=λa=>by rw[e1,show(l.length:Int)-1=((l.length-1:Nat):Int) by omega]
 have C:∀(h:aI) (p:Nat),b4 h 0->da h->zM 0 h X l->h.aj (0+5)= .box p x->h.aj (0+2)= .box s2 Z->∃s d,du 2 4 5 6 1000000 (rO u 0 λc q e=>aW e.aj true 11 q λr=>aX 0 none 11 c r e λx w=>zW 0 c w) (.bn (0+2) s2 0) X (.bn (0+5) p 0) (ao (((l.length-1:Nat):Int)-1)) h= .ok (.agg (mz eM l)) 0 s d:=by
  intro h p j z i L g;obtain⟨h',a1,a2,M⟩:=af8 (b:=0) D (λc q e=>aW e.aj true 11 q λr=>aX 0 none 11 c r e λx w=>zW 0 c w) (X1:= .bn (0+2) s2 0) E y (l.length-1) 1000000 h x (by omega) (by omega) j i ⟨J,K⟩ L
  haveI:b4 h' 0:=⟨by rw[a1.ar];exact j.eq⟩
  haveI:da h':=⟨by rw[a1.bQ];exact z.eq⟩
  have S:h'.aj (0+2)= .box s2 Z:=by rw[a1.aj _ λd N=>by simp at N;omega];exact g
  rw[M];rw[I] at a2;obtain⟨r1,T⟩:=H;rw[aH,be,dc,zW,gh,be,bj,bm,av];exact b9
 have W:=i;rcases i with rfl|⟨s,rfl,O⟩
 ·rw[CN,eA,bK,B,eE,KC,ch,be,de,dc,eA,ff,A];refine C _ _ ?_ ?_ (.inl rfl) (gS fE) (gi (gF g))
  ·infer_instance
  ·infer_instance
 ·rw[CN,jw,bK,B,gu,KC,hg,be,de,dc,jw,ff,A];refine C _ _ ?_ ?_ (.inr ⟨_,rfl,gi (gF O)⟩) (gS fE) (gi (gF g))
  ·infer_instance
  ·infer_instance
theorem aoV{E:cr}{m:cw}(i:o3 u 62)(q:q0 u 59)(r:nT (E.di m.k) l)(H:l.length<900)(j:∀t∈l,cq t)(I:aK u 60 [ao 1] (.agg (E.num 1)))(k:aK u 65 [.agg (E.num m.U),.agg (E.num 1)] (.F (decide (m.U=1)))):
 ∃s d,xt u [.agg (E.bd m)] 0 .nil= .ok (.agg (qF (E.num m.U) (decide (m.U=1)) l)) 0 s d:=by
 have J:=E.eG m;have mp:=E.gw m;have gH:(E.bd m)[0+7]? =some (E.di m.k):=by simpa using E.kk m
 have c:0+0+7<=(E.bd m).length:=by rw[E.eG];omega
 have K:=E.eU m.U;have L:=E.eU 1;have M:=q _ (E.len m.U) (E.eU m.U);have n:=iA (E.len m.U) (E.eU m.U);have cl:=n.aa;have w:=n.e5;rcases r with⟨a,rfl⟩|⟨a,e⟩
 ·have x:qF (E.num m.U) (decide (m.U=1)) []=cW (E.num m.U):=by unfold qF mr;rw[if_pos (.inl rfl)];rfl
  rw[x];rw[xt,dK,IA,cy,de,bb,aH,e8 c,show(0:Nat)+0=0 from rfl,E.jV,bg,bm,av,aT,de,dc,Jz,bp,bb,aH,bc gH,a,hy,bF,dj,bN,bL,aH,be,dc,zW,gh,be,bj,bm,av];exact b9
 ·have N:0<l.length:=rH.2 e;by_cases p:m.U=1
  ·rw[dm p] at k ⊢;rw[xt,dK,IA,cy,de,bb,aH,e8 c,show(0:Nat)+0=0 from rfl,E.jV,bg,bm,av,aT,de,dc,Jz,bp,bb,aH,bc gH,a,eA,bF,dj,bk,a6,MV,bp,bb,aH,bc gH,a,bb,Pw,aJ,cH,aN,aH,e8 c,show(0:Nat)+0=0 from rfl,E.jV,bK,aT,aV,aV,aN,bm,bm,av,av,aT,hj,iz,a6];have g:mr (E.num m.U) true l=l:=by unfold mr;rw[if_neg (by simp[e])]
   unfold qF;rw[g];refine adt (Z:=ca) i (by omega) j e ?_ ?_ ?_ ?_ (.inl rfl)
   ·infer_instance
   ·infer_instance
   ·exact gi (gF fE)
   ·rfl
  ·rw[gK p] at k ⊢;have g:mr (E.num m.U) false l=cW (E.num m.U)::l:=by unfold mr;rw[if_pos (by simp)]
   unfold qF;rw[g];have Z:∀(h:aI) (s2 s:Nat) (Z:aB),b4 h 0->da h->h.aj (0+2)= .box s2 Z->Z.length=11->h.aj (0+2071)= .az s 56 11 [cW (E.num m.U)] false->∃y d,(eC 0 2073 none 56 11 176 (.az (0+2071) s 0 1) (.aQ 11 l) false h λz A=>CN u 0 (.bn (0+2) s2 0) z A)= .ok (.agg (mz eM (cW (E.num m.U)::l))) 0 y d:=by
    intro h s2 s Z O P B C D;rw[Ck (d':=2071),Gm (d:=2071) (d':=2071) (aED:=[cW (E.num m.U)]) D (λf=>QH _ _ _ f) (by rfl) (λo=>gs 0 _) (by simp;omega) (by simp;omega) _];refine adt i ?_ ?_ (by simp) ?_ ?_ (l5 B) C (.inr ⟨_,?_,pi⟩)
    ·simp;omega
    ·intro t G;rcases gy.1 G with h|h
     ·subst h;exact⟨cl,w⟩
     ·exact j t h
    ·infer_instance
    ·infer_instance
    ·simp[IY]
   rw[xt,dK,IA,cy,de,bb,aH,e8 c,show(0:Nat)+0=0 from rfl,E.jV,bg,bm,av,aT,de,dc,Jz,bp,bb,aH,bc gH,a,eA,bF,dj,bk,a6,MV,bp,bb,aH,bc gH,a,bb,Pw,aJ,cH,aN,aH,e8 c,show(0:Nat)+0=0 from rfl,E.jV,bK,aT,aV,aV,aN,bm,bm,av,av,aT,hj,mG,bL,ab0,aH,be,hX,av,gW];refine Z _ _ _ ca ?_ ?_ ?_ ?_ i9
   ·infer_instance
   ·infer_instance
   ·exact ga (gi (gF fE))
   ·rfl
end
end
end Go.Hf

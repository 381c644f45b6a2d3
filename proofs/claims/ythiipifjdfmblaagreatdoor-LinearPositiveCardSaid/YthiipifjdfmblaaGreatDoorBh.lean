import Derived.Test.YthiipifjdfmblaaGreatDoorBg
set_option linter.all false
set_option maxRecDepth 1000000
namespace Go.Hf
open Go.RowKit
section
variable{v x:an} {xs:aY}
abbrev ij:=Nat×Nat×Nat×Nat
def jF(s:ij):aB:=[.s s.1 s.2.1,.s s.2.2.1 s.2.2.2]
def l2(p:ij×aB):aB:=jF p.1++p.2
noncomputable def P6(s t:ij):Bool:=cS (jH s.2.2.1 s.2.2.2 t.2.2.1 t.2.2.2) (jH s.1 s.2.1 t.1 t.2.1)
noncomputable def tY(t:ij):List (ij×aB)->Option aB
 |[]=>none
 |p::r=>if P6 p.1 t then some p.2 else tY t r
section
variable[Tok] {u:Fn} {b:Nat}
def vn(E:List (ij×aB)):Prop:=E.length<=20/\∀p∈E,fU p.2
theorem US{p:ij×aB}(h:fU p.2):(l2 p).length=9/\b8 (l2 p)=true/\(l2 p)[0]? =some (.s p.1.1 p.1.2.1)/\((l2 p).drop 0).take 2=jF p.1/\((l2 p).drop (0+2)).take 7=p.2:=by
 obtain⟨a,c⟩:=h.v;refine⟨by simp[l2,jF,a],?_,rfl,rfl,?_⟩
 ·exact c
 ·show p.2.take 7=p.2;exact nY
theorem aFk{t:ij}{E:List (ij×aB)}(j:dw 9 v (E.map l2))(w:vn E){s3 s4:Nat}:∀(m i N:Nat) (h:aI),m+i=E.length->m<N->b4 h 0->da h->h.aj (0+3)= .box s3 (jF t)->h.aj (0+4)= .box s4 dx->
 ∃s d,du 0 3 4 6 N (Ej u 0 (λk l=>eT dx λm=>aX 0 none 7 k m l λ_ n=>Em 0 k bG n)) v (.bn (0+3) s3 0) (.bn (0+4) s4 0) (ao i) h= .ok (match tY t (E.drop i) with|some o=> .a0 [.agg o,.a9 true]|none=> .a0 [.agg dx,.a9 false]) 0 s d:=by
 intro m;induction m with
 |zero=>intro i N h F G ub fc y z;obtain⟨N,rfl⟩:=cN N;have a:=dw.len j;rw[ER] at a;obtain⟨H,I⟩:=uu;rw[lO];rw[fj];generalize du 0 3 4 6 N (Ej u 0 (λk l=>eT dx λm=>aX 0 none 7 k m l λ_ n=>Em 0 k bG n))=j4;rw[Ej,a,bO,bk,a6,hL,dc,Em,gh,be,bm,fQ,fO,av,av];exact b9
 |succ m J=>
  intro i N h F G ub fc y z;obtain⟨N,rfl⟩:=cN N;have a:=dw.len j;rw[ER] at a;obtain⟨p,c⟩:∃p,E[i]? =some p:=⟨_,dC (by omega)⟩;have hi:(E.map l2)[i]? =some (l2 p):=by simp[c]
  have A:=w.2 p (On c);obtain⟨B,P,-,C,K⟩:=US A;obtain⟨Q,R⟩:=A.v;have L:E.drop i=p::E.drop (i+1):=by rw[iK (by omega),(e6.1 c).2]
  have D:0+2<=(l2 p).length:=by rw[B];omega
  have apN:0+2+7<=(l2 p).length:=by rw[B];omega
  obtain rfl:v= .aQ 9 (E.map l2):=j.elim (λh=>by have:=h.2;rw[Nr] at this;subst this;simp at c) id;have M:mV false (.agg (jF p.1)) (.agg (jF t))= λk=>k (.a9 (P6 p.1 t)):=by funext k;exact OR _ _ _ _ _ _ _ _ k
  have e:=λk=>congrFun M k;have s2:(jF t).length=2:=rfl;rw[L];rw[fj];have q:=J (i+1) N h (by omega) (by omega) ub fc y z;have O:((i+1:Nat):Int)=(i:Int)+1:=by omega
  have S:=w.1;rw[O] at q;generalize du 0 3 4 6 N (Ej u 0 (λk l=>eT dx λm=>aX 0 none 7 k m l λ_ n=>Em 0 k bG n))=j4 at q;cases g:P6 p.1 t
  ·have r:tY t (p::E.drop (i+1))=tY t (E.drop (i+1)):=by rw[tY,g];rfl
   rw[r];rw[g] at e;rw[Ej,a,bO,bN,bL,Xg,bZ,aV,aV,aN,eE,ko,aJ,aV,aN,ch,e8 D,C,aJ,cH,aN,aH,be,e,a6,bK,cK];exact q
  ·have r:tY t (p::E.drop (i+1))=some p.2:=by rw[tY,g];rfl
   obtain⟨H,I⟩:=uu;rw[r];rw[g] at e;rw[Ej,a,bO,bN,bL,Xg,bZ,aV,aV,aN,eE,ko,aJ,aV,aN,ch,e8 D,C,aJ,cH,aN,aH,be,e,bL,ahC,eE,ko,ch,e8 apN,K,dc,Em,gh,be,bm,gE,fO,av,av];exact b9
def ZE(o:Option aB):an:=match o with
 |some o=> .a0 [.agg o,.a9 true]
 |none=> .a0 [.agg dx,.a9 false]
theorem aF2{t:ij}{E:List (ij×aB)}(c:dw 9 v (E.map l2))(a:vn E):∃s d,GS u [v,.agg (jF t)] 0 .nil= .ok (ZE (tY t E)) 0 s d:=by have F:=λ(h:aI) (ub:b4 h 0) (fc:da h) (s3 s4:Nat) (e:h.aj (0+3)= .box s3 (jF t)) (g:h.aj (0+4)= .box s4 dx)=>aFk (u:=u) c a (s3:=s3) (s4:=s4) E.length 0 1000000 h rfl (by have:=a.1;omega) ub fc e g;have i:(ao ((0:Nat):Int):an)=aL:=bF.symm;rw[i] at F;rw[GS,dE];rw[aj4,cy,de];exact F _ inferInstance inferInstance _ _ (gF fE) fE
def rA(a:List ij)(xs:aY):List (ij×aB):=a.zip xs
theorem az1{a:List ij}(q:dw 2 v (a.map jF))(C:dw 7 x xs)(G:a.length=xs.length)(D:∀o∈xs,fU o)(T:xs.length<=10):∀(m i N:Nat) (h:aI) (arZ:an),m+i=xs.length->m<N->b4 h 0->da h->pd 0 2078 137 9 h arZ (((rA a xs).take i).map l2)->
 ∃w s d,dw 9 w ((rA a xs).map l2)/\du 0 1 5 6 N (IK u 0 (λe f=>MH 0 e f)) v x arZ (ao i) h= .ok w 0 s d:=by
 have W:(rA a xs).length=xs.length:=by unfold rA;rw[List.length_zip];omega
 intro m;induction m with
 |zero=>intro i N h arZ H I ub fc g;obtain⟨N,rfl⟩:=cN N;have j:=dw.len q;rw[ER] at j;rw[nY] at g;obtain⟨w,y,l⟩:=g.dU;obtain⟨s,d,e⟩:=b9 (r:=w) (h:=h);refine⟨w,s,d,y,?_⟩;rw[fj];generalize du 0 1 5 6 N (IK u 0 (λe f=>MH 0 e f))=j4;rw[IK,j,bO,bk,iE,QN,fQ,dO,a6,MH,bj,l,av];exact e
 |succ m J=>
  intro i N h arZ H I ub fc g;obtain⟨N,rfl⟩:=cN N;have j:=dw.len q;have K:=dw.len C;rw[ER] at j;obtain⟨t,A⟩:∃t,a[i]? =some t:=⟨_,dC (by omega)⟩;obtain⟨o,c⟩:∃o,xs[i]? =some o:=⟨_,dC (by omega)⟩;have X:(a.map jF)[i]? =some (jF t):=by simp[A]
  obtain⟨eR,Z⟩:=(D o (On c)).v;have L:(rA a xs)[i]? =some (t,o):=by unfold rA;rw[List.getElem?_zip_eq_some];exact⟨A,c⟩
  have M:((rA a xs).take (i+1)).map l2=((rA a xs).take i).map l2++[l2 (t,o)]:=by rw[List.take_succ_eq_append_getElem (by omega),(e6.1 L).2,LZ];rfl
  obtain⟨ar,a1,-,-,-⟩:=US (p:=(t,o)) (D o (On c));obtain rfl:v= .aQ 2 (a.map jF):=q.elim (λh=>by have:=h.2;rw[Nr] at this;subst this;simp at A) id;obtain rfl:x= .aQ 7 xs:=C.elim (λh=>by have:=h.2;subst this;simp at c) id;have O:∀f:aB->aw,cC 0 2 (.agg (jF t)) [(.s 0 0),(.s 0 0),aL,(.s 0 0),(.s 0 0),(.s 0 0),(.s 0 0),(.s 0 0),.aE] f=f (jF t++[aL,(.s 0 0),(.s 0 0),(.s 0 0),(.s 0 0),(.s 0 0),.aE]):=λf=>rfl;have P:∀f:aB->aw,cC 2 7 (.agg o) (jF t++[aL,(.s 0 0),(.s 0 0),(.s 0 0),(.s 0 0),(.s 0 0),.aE]) f=f (l2 (t,o)):=λf=>by rw[tZ eR (by simp[jF])];congr 1;simp[jF,l2]
  have s2:(jF t).length=2:=rfl;have a2:b8 (jF t)=true:=rfl;have B:∃n,∀k:dg,eC 0 2078 (some [2078,2078]) 137 9 144 arZ (.az (0+2077) (ri h 0 2077) 0 1) false (h.fm 0 2077 137 9 [l2 (t,o)] false) k=k (.az (0+2078) n 0 (((rA a xs).take i).map l2++[l2 (t,o)]).length) ((h.fm 0 2077 137 9 [l2 (t,o)] false).ow 0 2078 n 137 9 (((rA a xs).take i).map l2++[l2 (t,o)]) false):=by
   have Q:pd 0 2078 137 9 (h.fm 0 2077 137 9 [l2 (t,o)] false) arZ (((rA a xs).take i).map l2):=g.aj (ga rfl);have E:∀o,gO 0 (some [2078,2078]) [(0+2078,o)]=true:=λo=>mN (by decide) rfl;have F:∀f:aY->aw,ke (h.fm 0 2077 137 9 [l2 (t,o)] false).aj 9 (.az (0+2077) (ri h 0 2077) 0 1) f=f [l2 (t,o)]:=λf=>LL i9 rfl f;have G:(((rA a xs).take i).map l2).length<=10:=by rw[ER,jl];omega
   rcases Q with⟨rfl,e⟩|⟨s,rfl,c⟩
   ·rw[e];exact⟨_,λk=>ak5 F (by simp) E (by simp) (by simp) k⟩
   ·refine⟨Nat.add s 1,λk=>?_⟩;rw[Gm (d:=2078) c F rfl E (by simp only[yc];omega) (by simp only[yc];omega) k,OD]
  obtain⟨n,B⟩:=B;have R:∀(xs:aB) (z:aw),met 0 [2078,2077] (arZ::xs) z=met 0 [2078,2077] xs z:=λxs z=>by
   rcases g with⟨rfl,_⟩|⟨s,rfl,_⟩
   ·exact aV (ajQ _ _) xs z
   ·exact hO _ _ _ _ _
  obtain⟨w,s,d,y,l⟩:=J (i+1) N _ _ (by omega) (by omega) inferInstance inferInstance (by rw[M];exact pd.new (h:=h.fm 0 2077 137 9 [l2 (t,o)] false) (s:=n));have S:((i+1:Nat):Int)=(i:Int)+1:=by omega
  rw[S] at l;refine⟨w,s,d,y,?_⟩;rw[fj];generalize du 0 1 5 6 N (IK u 0 (λe f=>MH 0 e f))=j4 at l;rw[IK,j,bO,bN,fi,K,bO,QN,fQ,dR,bN,bL,Xd,bZ,aV,aV,aN,eE,aJ,aV,aN,ch,be,bZ,aV,aV,aN,eE,amb,aJ,aV,aN,ch,be,O,P,hL,aV,aN,hX,av,n5,R,hO,aN,B,bK,cK];exact l
theorem aEN{a:List ij}(e:dw 2 v (a.map jF))(g:dw 7 x xs)(h:a.length=xs.length)(i:∀o∈xs,fU o)(j:xs.length<=10):∃w,dw 9 w ((rA a xs).map l2)/\∃s d,F1 u [v,x] 0 .nil= .ok w 0 s d:=by obtain⟨w,s,d,k,c⟩:=az1 (u:=u) e g h i j xs.length 0 1000000 (ba 0 .nil) .aE rfl (by omega) inferInstance inferInstance (.inl ⟨rfl,rfl⟩);have l:(ao ((0:Nat):Int):an)=aL:=bF.symm;rw[l] at c;refine⟨w,k,s,d,?_⟩;rw[F1,dE];rw[apV];exact c
end
end
section
variable{N':Nat} {h:aI} {R:an->Prop}
abbrev lT:=Nat×Nat×Nat×Nat×Nat
def sV(h:lT):ij:=(h.1,h.2.1,h.2.2.1,h.2.2.2.1)
def qi:lT:=(4,0x6c697370,2,0x6966,3)
def vx:List lT:=JR.map (λx=>(4,0x6c697370,x.1,x.2,1))++J6.map λx=>(4,0x6c697370,x.1,x.2,2)
def rO:List lT:=[(4,0x6c697370,3,0x6e6f74,1),(4,0x6c697370,3,0x6c656e,1),(4,0x75736572,4,0x74726565,1),(4,0x6c697370,13,0x62696e6172792d617070656e64,2),(4,0x6c697370,3,0x726576,1),(4,0x6c697370,10,0x747275652d6c69737470,1),(4,0x6c697370,4,0x6e617470,1),(4,0x6c697370,4,0x706f7370,1),(4,0x6c697370,7,0x696d706c696573,2),(4,0x6c697370,3,0x666978,1),(4,0x6c697370,3,0x696666,2),(4,0x6c697370,4,0x6e666978,1),(4,0x6c697370,2,0x7a70,1),
 (4,0x75736572,3,0x647562,1),(4,0x75736572,8,0x73616d652d6c656e,2),(4,0x75736572,5,0x7061697273,2),(4,0x75736572,4,0x64756273,1),(4,0x75736572,5,0x6576656e73,1),(4,0x75736572,4,0x6f646473,1),(4,0x75736572,4,0x786f7232,2)]
def pv:List lT:=qi::(vx++rO)
section
variable[Tok] {u:Fn} {b:Nat}
inductive mv:Nat->aB->Prop
 |var (n:Nat) (s:ij):mv n (yb (.s s.1 s.2.1) (.s s.2.2.1 s.2.2.2))
 |iW (n:Nat) (o:aB) (h:fU o):mv n (cW o)
 |kS (n:Nat) (h:lT) (hh:h∈pv) (l:aY) (hl:l.length=h.2.2.2.2) (ht:∀t∈l,mv n t):mv (n+1) (cO h l)
structure XN (F:aB) (ps:List ij) (pm:aB):Prop where
 iV:∃v,F[0+2]? =some v/\dw 2 v (ps.map jF)
 dn:F[0+3]? =some (ao 1)
 pm:(F.drop (0+15)).take 11=pm
inductive iS (D:lT->List ij->aB->Prop):List (ij×aB)->aB->aB->Prop
 |var (e:List (ij×aB)) (s:ij) (o:aB) (h:tY s e=some o):iS D e (yb (.s s.1 s.2.1) (.s s.2.2.1 s.2.2.2)) o
 |iW (e:List (ij×aB)) (o:aB):iS D e (cW o) o
 |V9 (e:List (ij×aB)) (a c d x y:aB) (ha:iS D e a x) (hx:x≠tu) (hc:iS D e c y):iS D e (cO qi [a,c,d]) y
 |ZB (e:List (ij×aB)) (a c d y:aB) (ha:iS D e a tu) (hd:iS D e d y):iS D e (cO qi [a,c,d]) y
 |aab (e:List (ij×aB)) (h:lT) (hh:h∈vx) (l xs:aY) (o:aB) (hl:l.length=xs.length) (hv:∀(i:Nat) (t x:aB),l[i]? =some t->xs[i]? =some x->iS D e t x) (ho:u4 h.2.2.2.1 xs o):iS D e (cO h l) o
 |fn (e:List (ij×aB)) (h:lT) (hh:h∈rO) (ps:List ij) (bd:aB) (hD:D h ps bd) (l xs:aY) (o:aB) (hl:l.length=xs.length) (hv:∀(i:Nat) (t x:aB),l[i]? =some t->xs[i]? =some x->iS D e t x) (hb:iS D (rA ps xs) bd o):iS D e (cO h l) o
def yL(D:lT->List ij->aB->Prop)(e:List (ij×aB))(t:aB)(r:an):Prop:=∃o k,r= .a0 [.agg o,ao k]/\(o.length=7/\b8 o=true)/\(-100<k/\k<100)/\((k=0/\fU o/\iS D e t o)\/k≠0)
def x2(D:lT->List ij->aB->Prop)(u:Fn)(w:an)(N:Nat)(t:aB):Prop:=∀e v,vn e->dw 9 v (e.map l2)->gN u 131 [.agg t,v] w N (yL D e t)
structure CJ (D:lT->List ij->aB->Prop) (M:Nat) (u:Fn) (w:an):Prop where
 bJ:∃n l,w= .aQ n l
 vr:∀h∈pv,aK u 153 [w,.agg (jF (sV h))] (.a0 [ao h.2.2.2.2,.a9 true])
 wl:∀h∈pv,∃k:Int,aK u 145 [.agg (jF (sV h))] (.a0 [ao k,.a9 (decide (h∉rO))])
 fn:∀h∈pv,∃F e,aK u 94 [w,.agg (jF (sV h))] (.a0 [.agg F,.a9 e])/\F.length=37/\b8 F=true/\(∃k:Int,-100<k/\k<100/\F[0+3]? =some (ao k))/\(h∈rO->∃ps bd,XN F ps bd/\D h ps bd/\mv M bd/\ps.length=h.2.2.2.2)
 Jv:∀h∈pv,∀l,l.length=h.2.2.2.2->aK u 85 [.agg (cO h l),.s 2 0x6966,ao 3] (.a9 (decide (h=qi)))
 uJ:O1 u
 val:∀(t:ij) v E,dw 9 v (E.map l2)->vn E->aK u 189 [v,.agg (jF t)] (ZE (tY t E))
 l2:∀v x (ps:List ij) (xs:aY),dw 2 v (ps.map jF)->dw 7 x xs->ps.length=xs.length->(∀o∈xs,fU o)->xs.length<=10->∃w,dw 9 w ((rA ps xs).map Go.Hf.l2)/\aK u 192 [v,x] w
section
variable{D:lT->List ij->aB->Prop} {M N:Nat} {w:an} {atf:b1} {q s:Nat}
theorem mv.v{n:Nat}{t:aB}(h:mv n t):cq t:=by
 cases h with
 |var n s=>have:=yH (p:= .s s.1 s.2.1) (n:= .s s.2.2.1 s.2.2.2) rfl;exact⟨this.aa,this.e5⟩
 |iW n o h=>have:=iA h.v.1 h.v.2;exact⟨this.aa,this.e5⟩
 |kS n h a l c d=>exact⟨(i4 h l).aa,(i4 h l).e5⟩
theorem aFH{z:Nat}(S:fu b atf q s w N h)(g:z<=N')(l:0<=N):∃h',fu b atf q s w N' h'/\(∀d,h'.aj (b+d)=h.aj (b+d))/\h'.aj q= .box s [w,ao z]/\∀k:dg,aX b none 1 (.bn q s (0+1)) (ao z) h k=k .undef h':=by
 obtain⟨i,p,j⟩:=S.aj;have a:q<h.bh:=by have:=S.bh;have:=S.lt;omega
 refine⟨h.eW b q (.ae (.box s [w,ao z])),⟨S.lt,S.dn,by rw[aI.qv];exact S.bh,⟨z,g,kB a⟩,λk c=>(aI.aaC k c).elim (S.bQ k) id,λk c e=>?_,S.tI⟩,λd=>?_,kB a,λk=>?_⟩
 ·rw[aI.tS a];simp[Go.Hf.dl,e];exact S.ag k c e
 ·have:=S.lt;rw[aI.tS a];simp[Go.Hf.dl,show b+d≠q by omega]
 ·rw[QO,tD (n:=1) (off:=0+1) (cs:=[w,ao i]) (new:=[ao z]) j rfl (by simp) (λo=>gs b _) a];rfl
theorem ii.mono{a:aw}(h:ii a b atf q s w N R)(i:N<=N'):ii a b atf q s w N' R:=by obtain⟨r,a8,d,z,c,e,j,g⟩:=h;exact⟨r,a8,d,z,c,e,by omega,g⟩
theorem ab6{o z:aB}{s6:Nat}{k:Int}(S:fu b atf q s w N h)(a:h.aj (b+6)= .box s6 z)(c:z.length=7)(d:o.length=7/\b8 o=true)(e:R (.a0 [.agg o,ao k])):ii (aX b none 7 (.bn (b+6) s6 0) (.agg o) h λ_ g=>tE b (.bn (b+6) s6 0) (ao k) g) b atf q s w N R:=by
 haveI:=S.ay
 obtain⟨i,j⟩:=d;rw[dc i a c,tE,gh (gS a),be,bm,b7,av,av];exact qO S.eP e
end
end
end
section
variable{e:List (ij×aB)} {v:an} {z:Nat}
section
variable[Tok] {u:Fn} {b:Nat} {D:lT->List ij->aB->Prop} {M N:Nat} {w:an} {atf:b1} {q s:Nat}
theorem auQ(aR:CJ D M u w)(g:vn e)(i:dw 9 v (e.map l2))(t:ij)(y:tM w)(A:q<b)(B:q%4096<2048)(C:z<=N)(F:cE b atf q= .box s [w,ao z]):ii (yu u [.bn q s 0,.agg (yb (.s t.1 t.2.1) (.s t.2.2.1 t.2.2.2)),v] b atf) b atf q s w N (yL D e (yb (.s t.1 t.2.1) (.s t.2.2.1 t.2.2.2))):=by
 have S:=fu.start A B C F y
 haveI:=S.ay
 have a:=yH (p:= .s t.1 t.2.1) (n:= .s t.2.2.1 t.2.2.2) rfl;have tl:=a.aa;have Q:=a.e5;have eO:=a.eO;have j:=a.eD;have t1:((yb (.s t.1 t.2.1) (.s t.2.2.1 t.2.2.2)).drop (0+1)).take 2=jF t:=a.t1;have s2:(jF t).length=2:=rfl;have R:b8 (jF t)=true:=rfl;have k:=dw.dU i;have ev:=aR.val t v e i g;have G:=λo (h:tY t e=some o)=>iS.var (D:=D) e t o h;have H:∀o,tY t e=some o->fU o:=by
  have:∀(E:List (ij×aB)) o,(∀p∈E,fU p.2)->tY t E=some o->fU o:=by
   intro E;induction E with
   |nil=>intro o _ h;cases h
   |cons p r I=>
    intro o l h;rw[tY] at h;split at h
    ·cases h;exact l p HO
    ·exact I o (λx J=>l x (OJ _ J)) h
  exactλo h=>this e o g.2 h
 generalize (yb (.s t.1 t.2.1) (.s t.2.2.1 t.2.2.2))=x at*;rw[yu,vE];cases c:tY t e with
 |none=>
  rw[c] at ev;obtain⟨K,L⟩:=uu;have O:(an.agg dx:an)≠ .undef:=by simp
  have P:aK u 189 [v,.agg (jF t)] (.a0 [.agg dx,.a9 false]):=ev;rw[CN,cy,de,bp,bb,aH,bc,bK,dj,bN,bL,WO,bb,aH,e8 j,t1,ce,k,bm,av,av,aT,e2 _ _,e3 _ _,de,aaK,dc,hj,uD,bL,hL,dc,tE,gh,be,bm,awr,b7,av,av];exact qO (((((S.fz).fz).fz).eP).eP) ⟨dx,6,rfl,uu,by omega,.inr (by omega)⟩
 |some o=>
  rw[c] at ev;have d:=H o c;obtain⟨T,X⟩:=d.v;have O:(an.agg o:an)≠ .undef:=by simp
  obtain⟨K,L⟩:=uu;have P:aK u 189 [v,.agg (jF t)] (.a0 [.agg o,.a9 true]):=ev;rw[CN,cy,de,bp,bb,aH,bc,bK,dj,bN,bL,WO,bb,aH,e8 j,t1,ce,k,bm,av,av,aT,e2 _ _,e3 _ _,de,aaK,dc,hj,tF,a6,aH,be,dc,tE,gh,be,bm,bF,b7,av,av];exact qO (((((S.fz).fz).fz).eP).eP) ⟨o,0,rfl,d.v,by omega,.inl ⟨rfl,d,G o c⟩⟩
theorem aE3{o:aB}(a:fU o)(d:tM w)(g:q<b)(h:q%4096<2048)(i:z<=N)(j:cE b atf q= .box s [w,ao z]):ii (yu u [.bn q s 0,.agg (cW o),v] b atf) b atf q s w N (yL D e (cW o)):=by
 have S:=fu.start g h i j d
 haveI:=S.ay
 have c:=iA a.v.1 a.v.2;have tl:=c.aa;have eO:=c.eO;have eV:=c.eV;have t3:=c.t3;obtain⟨l,n⟩:=uu;obtain⟨p,r⟩:=a.v;have k:=iS.iW (D:=D) e o;generalize cW o=x at*;rw[yu,vE];rw[CN,cy,de,bp,bb,aH,bc,bK,dj,bk,a6,IE,ff,dj,bN,bL,aaX,bb,aH,e8 eV,t3,dc,tE,gh,be,bm,bF,b7,av,av];exact qO (((S.fz).fz).eP) ⟨o,0,rfl,a.v,by omega,.inl ⟨rfl,a,k⟩⟩
end
end
section
variable{e:List (ij×aB)} {v:an} {h:aI} {s6:Nat} {z:aB}
section
variable[Tok] {u:Fn} {b:Nat} {D:lT->List ij->aB->Prop} {M N:Nat} {w:an} {atf:b1} {q s:Nat}
theorem Ch(o:aB):(an.agg o:an)≠ .undef:=by simp
theorem ae2{t a:aB}(C:x2 D u w N a)(j:vn e)(l:dw 9 v (e.map l2))(H:cq a)(n:∀o,iS D e a o->iS D e t o)(S:fu b atf q s w N h)(x:h.aj (b+6)= .box s6 z)(y:z.length=7):
 ii (fD u b 131 [.bn q s 0,.agg a,v] [] h λo p=>bS o 0 λi=>bS o 1 λr=>aX b none 7 (.bn (b+6) s6 0) i p λ_ g=>tE b (.bn (b+6) s6 0) r g) b atf q s w N (yL D e t):=by
 refine iv S (C e v j l) λr h' A c B=>?_;obtain⟨o,k,rfl,d,E,F⟩:=A
 haveI:=c.ay
 have G:=(B 6).trans x;have I:=Ch o;rw[e2 _ _,e3 _ _];exact ab6 c G y d ⟨o,k,rfl,d,E,F.elim (λh=> .inl ⟨h.1,h.2.1,n o h.2.2⟩) .inr⟩
theorem aER{a c d:aB}(p:∀t∈[a,c,d],cq t/\x2 D u w N t)(A:O1 u)(B:vn e)(l:dw 9 v (e.map l2))(S:fu b atf q s w N h){s4:Nat}(K:h.aj (b+4)= .box s4 (cO qi [a,c,d]))(L:h.aj (b+6)= .box s6 z)(F:z.length=7):
 ii (Xs u b (.bn (b+4) s4 0) v (.bn q s 0) (.bn (b+6) s6 0) h) b atf q s w N (yL D e (cO qi [a,c,d])):=by
 haveI:=S.ay
 have O:=i4 qi [a,c,d];have gP:=O.gP;have a4:([a,c,d]:aY)[0]? =some a:=rfl;have a5:([a,c,d]:aY)[1]? =some c:=rfl;have P:([a,c,d]:aY)[2]? =some d:=rfl;obtain⟨⟨bd,uJ⟩,Q⟩:=p a (by simp);obtain⟨⟨cl,R⟩,T⟩:=p c (by simp);obtain⟨⟨W,X⟩,Z⟩:=p d (by simp);have C:=dw.dU l;have ar:=λx y E j g=>iS.V9 (D:=D) e a c d x y E j g;have a1:=λy E g=>iS.ZB (D:=D) e a c d y E g;have k2:∀(ob:ej) (k:an->aw),cb ob 11 (.aQ 11 [a,c,d]) (ao 2) k=k (.ep d 0):=λob k=>eE (i:=2) P k;generalize cO qi [a,c,d]=t at*;rw[Xs,bp,bb,aH,bc,bF,hu,ch,be,C,av];refine iv S (Q e v B l) λr h' hr n G=>?_;obtain⟨o,k,rfl,ho,hk,hc⟩:=hr
 haveI:=n.ay
 have bs:=(G 4).trans K;have H:=(G 6).trans L;have bx:=Ch o;obtain⟨ol,op⟩:=ho;obtain⟨cc,cn⟩:=uu;by_cases I:k=0
 ·obtain⟨-,a2,J⟩:=hc.elim id λh=>absurd I h;obtain⟨b',a3,cs⟩:=A.nil o a2;rcases a3 with⟨rfl,j⟩|⟨rfl,j⟩
  ·rw[e2 _ _,RH,e3 _ _,de,dc,bF,dF,bk,a6,Zj,aH,be,bg,bm,av,aT,bL,ag8,bp,bb,aH,bc,ff,k2,ch,be,C,av];exact ae2 Z B l ⟨W,X⟩ (λy g=>a1 y (j▸J) g) (n.fz.eP) (gi (gF H)) F
  ·rw[e2 _ _,RH,e3 _ _,de,dc,bF,dF,bk,a6,Zj,aH,be,bg,bm,av,aT,a6,acx,bp,bb,aH,bc,bK,of,ch,be,C,av];exact ae2 T B l ⟨cl,R⟩ (λy g=>ar o y J j g) (n.fz.eP) (gi (gF H)) F
 ·rw[e2 _ _,RH,e3 _ _,de,dc,bF,dF,bN,bL,aH,be,dc,tE,gh,be,bm,b7,av,av];exact qO ((n.fz.eP).eP) ⟨o,k,rfl,⟨ol,op⟩,hk,.inr I⟩
end
end
section
variable[Tok] {u:Fn} {b:Nat} {D:lT->List ij->aB->Prop} {M N:Nat} {w:an} {atf:b1} {q s:Nat}
structure ID (D:lT->List ij->aB->Prop) (e:List (ij×aB)) (l xs:aY):Prop where
 v:∀(i:Nat) (t x:aB),l[i]? =some t->xs[i]? =some x->iS D e t x
 g:∀x∈xs,fU x
theorem akl{l:aY}(hl:l.length<=10)(P:∀t∈l,cq t/\x2 D u w N t){e:List (ij×aB)}{v:an}(Q:vn e)(I:dw 9 v (e.map l2)){hd:lT}{s4 s6 atb:Nat}{z F:aB}{pr:Bool}(hz:z.length=7)
 (K:∀(h:aI) (arZ:an) (xs:aY),fu b atf q s w N h->h.aj (b+4)= .box s4 (cO hd l)->h.aj (b+6)= .box s6 z->h.aj (b+14)= .box atb F->pd b 2206 54 7 h arZ xs->xs.length=l.length->ID D e l xs->
  ii (Du u b (.bn q s 0) (.bn (b+4) s4 0) (.bn (b+6) s6 0) (.a9 pr) (.bn (b+14) atb 0) arZ h) b atf q s w N (yL D e (cO hd l))):
 ∀(m i N':Nat) (h:aI) (arZ:an) (xs:aY),m+i=l.length->m<N'->fu b atf q s w N h->h.aj (b+4)= .box s4 (cO hd l)->h.aj (b+6)= .box s6 z->h.aj (b+14)= .box atb F->pd b 2206 54 7 h arZ xs->xs.length=i->ID D e l xs->
  ii (yJ 0 2 4 6 13 14 18 19 N' (Kt u b (Du u b)) (.bn q s 0) v (.bn (b+4) s4 0) (.bn (b+6) s6 0) (.a9 pr) (.bn (b+14) atb 0) arZ (ao i) h) b atf q s w N (yL D e (cO hd l)):=by
 have R:=i4 hd l;have gP:=R.gP;generalize cO hd l=t at*;have T:=dw.dU I;have J:∀k:an->aw,bq false (.aQ 11 l) k=k (ao l.length):=λk=>eA _ _ k;intro m;induction m with
 |zero=>
  intro i N' h arZ xs W X S p A B C d g;obtain⟨N',rfl⟩:=cN N'
  haveI:=S.ay
  have F:=K h arZ xs S p A B C (by omega) g;rw[X3];generalize yJ 0 2 4 6 13 14 18 19 N' (Kt u b (Du u b))=Z;rw[Kt,bp,bb,aH,bc,J,bO,bk,a6];exact F
 |succ m ar=>
  intro i N' h arZ xs W X S p A B C d g;obtain⟨N',rfl⟩:=cN N'
  haveI:=S.ay
  obtain⟨a,L⟩:∃a,l[i]? =some a:=⟨_,dC (by omega)⟩;obtain⟨⟨cn,uJ⟩,a1⟩:=P a (On L);have E:=ar (i+1) N';have a2:((i+1:Nat):Int)=(i:Int)+1:=by omega
  rw[a2] at E;rw[X3];generalize yJ 0 2 4 6 13 14 18 19 N' (Kt u b (Du u b))=Z at E;rw[Kt,bp,bb,aH,bc,J,bO,bN,bL,aa7,bp,bb,aH,bc,eE,ch,be,T,av];refine iv S (a1 e v Q I) λr h' hr G n=>?_;obtain⟨o,k,rfl,ho,hk,hc⟩:=hr
  haveI:=G.ay
  have a3:=(n 4).trans p;have a4:=(n 6).trans A;have a5:=(n 14).trans B;have O':=C.aj (n 2206);have cp:=Ch o;obtain⟨ol,op⟩:=ho;obtain⟨cs,c0⟩:=uu;by_cases O:k=0
  ·obtain⟨-,bd,bs⟩:=hc.elim id λh=>absurd O h;have bx:ID D e l (xs++[o]):=⟨λj t x H c=>by
    rw[Ih] at c;split at c
    ·exact g.v j t x H c
    ·rename_i c1;have:j=i:=by apply Classical.byContradiction;intro c2;rw[qQ (by simp;omega)] at c;cases c
     subst this;rw[d,Nat.sub_self] at c;rw[L] at H;cases H;cases c;exact bs,λx d=>(Ic.1 d).elim (g.g x) λh=>by simp at h;rw[h];exact bd⟩
   have cc:pd b 2206 54 7 (((h'.fz b 20 54 dx).eP b 20 o).fm b 2205 54 7 [o] false) arZ xs:=O'.aj (ga (gi (gF rfl)));obtain⟨s',cl⟩:=cc.kS (bytes:=112) (y:= .az (b+2205) (ri ((h'.fz b 20 54 dx).eP b 20 o) b 2205) 0 1) (r:=o) (λf=>LL i9 (by rfl) f) (by omega) (by omega);rw[e2 _ _,ZD,e3 _ _,de,dc,bF,dF,bk,a6,apX,aH,be,hX,av,gW,cl,bK,cK];exact E _ _ _ (by omega) (by omega) ((G.fz.eP).fm.ow) (l5 (ga (gi (gF a3)))) (l5 (ga (gi (gF a4)))) (l5 (ga (gi (gF a5)))) pd.new (by simp[d]) bx
  ·rw[e2 _ _,ZD,e3 _ _,de,dc,bF,dF,bN,bL,hL,dc,tE,gh,be,bm,b7,av,av];exact qO ((G.fz.eP).eP) ⟨dx,k,rfl,uu,hk,.inr O⟩
end
section
variable{hd:lT} {xs l:aY} {e:List (ij×aB)} {s6:Nat} {z:aB} {h:aI} {arZ:an}
section
variable[Tok] {u:Fn} {b:Nat} {D:lT->List ij->aB->Prop} {M N:Nat} {w:an} {atf:b1} {q s:Nat}
theorem au7(h:hd∈vx):∃a c n,hd=(4,0x6c697370,a,c,n)/\(((a,c)∈JR/\n=1)\/((a,c)∈J6/\n=2)):=by
 unfold vx at h;rcases Ic.1 h with h|h
 ·obtain⟨⟨a,c⟩,d,rfl⟩:=yd.1 h;exact⟨a,c,1,rfl,.inl ⟨d,rfl⟩⟩
 ·obtain⟨⟨a,c⟩,d,rfl⟩:=yd.1 h;exact⟨a,c,2,rfl,.inr ⟨d,rfl⟩⟩
theorem aF3(A:O1 u)(h:hd∈vx)(i:xs.length=hd.2.2.2.2)(d:∀x∈xs,fU x):(∃o k,aK u 191 [.agg (jF (sV hd)),.aQ 7 xs] (.a0 [.agg o,ao k])/\(o.length=7/\b8 o=true)/\((k=0/\fU o/\u4 hd.2.2.2.1 xs o)\/k=2))/\xs≠[]:=by
 obtain⟨a,c,n,rfl,⟨g,rfl⟩|⟨g,rfl⟩⟩:=au7 h
 ·match xs,i,d with
  |[x],_,d=>exact⟨A.bM a c x g (d x (by simp)),by simp⟩
 ·match xs,i,d with
  |[x,y],_,d=>exact⟨A.cv a c x y g (d x (by simp)) (d y (by simp)),by simp⟩
theorem azT(A:O1 u)(a:hd∈vx){s4:Nat}(j:z.length=7)(S:fu b atf q s w N h)(I:h.aj (b+4)= .box s4 (cO hd l))(n:h.aj (b+6)= .box s6 z)(p:pd b 2206 54 7 h arZ xs)(c:xs.length=l.length)(r:l.length=hd.2.2.2.2)(d:ID D e l xs):
 ii (WU u b (.bn (b+4) s4 0) arZ (.bn (b+6) s6 0) h) b atf q s w N (yL D e (cO hd l)):=by
 haveI:=S.ay
 have g:=i4 hd l;have B:=g.eD;have t1:((cO hd l).drop (0+1)).take 2=jF (sV hd):=g.t1;obtain⟨⟨o,k,J,i,C⟩,E⟩:=aF3 A a (c.trans r) d.g;obtain⟨x,F,G⟩:=p.dU;obtain rfl:x= .aQ 7 xs:=F.elim (λh=>absurd h.2 E) id;have s2:(jF (sV hd)).length=2:=rfl;have K:b8 (jF (sV hd))=true:=rfl;have H:=λo (h:u4 hd.2.2.2.1 xs o)=>iS.aab (D:=D) e hd a l xs o c.symm d.v h;have L:=Ch o;generalize cO hd l=t at*;generalize jF (sV hd)=y at*;rw[WU,bb,aH,e8 B,t1,ce,bm,G,av,av,aT,e2 _ _,e3 _ _];exact ab6 S n j i ⟨o,k,rfl,i,by omega,C.elim (λh=> .inl ⟨h.1,h.2.1,H o h.2.2⟩) λh=> .inr (by omega)⟩
theorem aE6(aR:CJ D M u w)(A:∀t,mv M t->x2 D u w N t)(B:hd∈rO){a:List ij}{c F:aB}(E:XN F a c)(G:D hd a c)(i:mv M c)(a1:F.length=37)(a2:a.length=hd.2.2.2.2){s4 atb:Nat}(hz:z.length=7)(S:fu b atf q s w N h)(H:h.aj (b+6)= .box s6 z)(a3:h.aj (b+14)= .box atb F)(j:pd b 2206 54 7 h arZ xs)(I:xs.length=l.length)(hl:l.length=hd.2.2.2.2)(a4:l.length<=10)(d:ID D e l xs):
 ii (Z3 u b (.bn q s 0) (.bn (b+6) s6 0) (.bn (b+14) atb 0) arZ h) b atf q s w N (yL D e (cO hd l)):=by
 haveI:=S.ay
 obtain⟨x,J,K⟩:=j.dU;obtain⟨⟨iV,a5,g⟩,-,L⟩:=E;obtain⟨asC,n,bs⟩:=aR.l2 iV x a xs g J (by omega) d.g (by omega);have O:vn (rA a xs):=⟨by unfold rA;rw[List.length_zip];omega,λp P=>d.g _ (List.of_mem_zip P).2⟩;have C:=A c i (rA a xs) asC O n;have Q:=dw.dU g;have R:=dw.dU n;have T:0+15+11<=F.length:=by omega
 obtain⟨bx,cc⟩:=i.v;have X:=λo (h:iS D (rA a xs) c o)=>iS.fn (D:=D) e hd B a c G l xs o I.symm d.v h;have mp:∀(xs:aB) (z:aw),met b [2206] (iV::xs) z=met b [2206] xs z:=λxs z=>aV (dw.met g b _) xs z;have Z:∀(xs:aB) (z:aw),met b [2206] (arZ::xs) z=met b [2206] xs z:=λxs z=>by
  rcases j with⟨rfl,_⟩|⟨s,rfl,_⟩
  ·exact aV (ajQ _ _) xs z
  ·exact hO _ _ _ _ _
 generalize cO hd l=t at*;rw[Z3,bb,aJ,cH,aN,aH,e8 T,L,bb,aJ,cH,aN,aH,bc,ahL,mp,Z,aN,Q,K,av,av,aT,R];refine He S C λr h' hr y ar=>?_;obtain⟨o,k,rfl,ho,hk,hc⟩:=hr
 haveI:=y.ay
 have cl:=(ar 6).trans H;have cn:=Ch o;obtain⟨ol,op⟩:=ho;rw[e2 _ _,e3 _ _,cH,aN,pf,tE,gh,be,bm,b7,av,av];exact qO y.eP ⟨o,k,rfl,⟨ol,op⟩,hk,hc.elim (λh=> .inl ⟨h.1,h.2.1,X o h.2.2⟩) .inr⟩
end
end
section
variable[Tok] {u:Fn} {b:Nat} {D:lT->List ij->aB->Prop} {M N:Nat} {w:an} {atf:b1} {q s:Nat}
theorem aFq{α:Type}{l:List α}(h:l.length=3):∃a c d,l=[a,c,d]:=by
 match l,h with
 |[a,c,d],_=>exact⟨a,c,d,rfl⟩
theorem avm:∀h∈pv,h=qi\/h∈vx\/h∈rO:=λh a=>by
 rcases pG.1 a with h|h
 ·exact .inl h
 ·exact .inr (Ic.1 h)
theorem auD(aR:CJ D M u w){hd:lT}(I:hd∈pv){l:aY}(J:l.length=hd.2.2.2.2)(a1:l.length<=10)(bs:∀t∈l,cq t/\∀N',N'<N->x2 D u w N' t)(cp:∀t,mv M t->∀N',N'<N->x2 D u w N' t){e:List (ij×aB)}{v:an}(he:vn e)(hv:dw 9 v (e.map l2))(c0:tM w){z:Nat}(h1:q<b)(h2:q%4096<2048)(h3:z<=N)(dz:N<=10000)(h4:cE b atf q= .box s [w,ao z]):ii (yu u [.bn q s 0,.agg (cO hd l),v] b atf) b atf q s w N (yL D e (cO hd l)):=by
 have S:=fu.start h1 h2 h3 h4 c0
 haveI:=S.ay
 have B:=i4 hd l;have tl:=B.aa;have tp:=B.e5;have eO:=B.eO;have gP:=B.gP;have p:=B.eD;have t1:((cO hd l).drop (0+1)).take 2=jF (sV hd):=B.t1;obtain⟨L,ee⟩:=uu;have ka:fu b atf q s w N (((ba b atf).fz b 4 56 (cO hd l)).fz b 6 54 dx):=S.fz.fz;obtain⟨z,h3,y⟩:=ka.aj;have f1:([w,ao z]:aB)[0+1]? =some (ao z):=rfl;by_cases hz:z=0
 ·subst hz;generalize cO hd l=t at*;rw[yu,vE];have c3:([w,ao ((0:Nat):Int)]:aB)[0+1]? =some (ao 0):=rfl;rw[CN,cy,de,bp,bb,aH,bc,bK,dj,bk,a6,IE,ff,dj,bk,a6,Qf,vF,bp,bb,aH y,bc c3,bK,bO,bN,bL,hL,dc,tE,gh,be,bm,Fu,b7,av,av];exact qO (ka.eP) ⟨dx,9,rfl,uu,by omega,.inr (by omega)⟩
 ·obtain⟨n,rfl⟩:∃n,N=n+1:=⟨N-1,by omega⟩;obtain⟨h2,O,bx,C,a2⟩:=aFH (N':=n) (z:=z-1) ka (by omega) (by omega)
  haveI:=O.ay
  have j:=(bx 4).trans (gF fE);have g:=(bx 6).trans (fE (h:=(ba b atf).fz b 4 56 (cO hd l)) (d:=6) (t:=54) (cs:=dx));have f0:([w,ao ((z-1:Nat):Int)]:aB)[0+0]? =some w:=rfl;have a3:((z:Nat):Int)-1=((z-1:Nat):Int):=by omega
  obtain⟨em,en,cc⟩:=aR.bJ;have ar:=aR.vr hd I;obtain⟨kp,pr⟩:=aR.wl hd I;obtain⟨F,eq,fn,c4,es,⟨wA,c1,c2,ev⟩,c5⟩:=aR.fn hd I;have T:=aR.Jv hd I l J;rw[<-i2] at T;have ex:=Ch F;have cl:∀z:Int,(ao z:an)≠ .undef:=λz=>by rw[cX];simp
  have ge:=cl hd.2.2.2.2;have gl:=cl kp;have s2:(jF (sV hd)).length=2:=rfl;have go:b8 (jF (sV hd))=true:=rfl;have ll:∀k:an->aw,bq false (.aQ 11 l) k=k (ao hd.2.2.2.2):=λk=>by rw[<-J];exact eA _ _ k
  have E:∀(r:List Nat) (xs:aB) (z:aw),met b r (w::xs) z=met b r xs z:=λr xs z=>by rw[cc];exact aV (aCL _ _ _ _) xs z
  have G:∀(ob:ej) (f:jm),aD ob w f=f w []:=λob f=>by rw[cc];exact mg ob _ _ f
  have ms:=λ(o:Nat) (z:aw)=>A3 O o z;refine ii.mono (N:=n) ?_ (by omega);have a4:∀t∈l,cq t/\x2 D u w n t:=λt X=>⟨(bs t X).1,(bs t X).2 n (by omega)⟩;have dd:∀t,mv M t->x2 D u w n t:=λt X=>cp t X n (by omega);rw[yu,vE];by_cases H:hd∈rO
  ·obtain⟨ps,bd,cn,hD,dq,dt⟩:=c5 H;have gt:=cn.dn;have hi:hd≠qi:=by rintro rfl;revert H;decide
   rw[GG (λh=>h H)] at pr;rw[GG hi] at T;have K:=λ(atb:Nat) (h:aI) (arZ:an) (xs:aY) (S:fu b atf q s w n h) (j:h.aj (b+4)= .box (qk (ba b atf) b 4 56) (cO hd l)) (g:h.aj (b+6)= .box (qk ((ba b atf).fz b 4 56 (cO hd l)) b 6 54) dx) (Z:h.aj (b+14)= .box atb F) (P:pd b 2206 54 7 h arZ xs) (Q:xs.length=l.length) (R:ID D e l xs)=>aE6 aR dd H cn hD dq c4 dt (s4:=qk (ba b atf) b 4 56) (s6:=qk ((ba b atf).fz b 4 56 (cO hd l)) b 6 54) L S g Z P Q J a1 R;have A:=λ(atb:Nat)=>akl (b:=b) (atf:=atf) (q:=q) (s:=s) (s4:=qk (ba b atf) b 4 56) (s6:=qk ((ba b atf).fz b 4 56 (cO hd l)) b 6 54) (atb:=atb) (z:=dx) (F:=F) (pr:=false) (hd:=hd) a1 a4 he hv L (λh arZ xs S j g Z P Q R=>by
    haveI:=S.ay
    rw[Du,a6];exact K atb h arZ xs S j g Z P Q R) l.length 0 1000000
   generalize cO hd l=t at*;rw[CN,cy,de,bp,bb,aH,bc,bK,dj,bk,a6,IE,ff,dj,bk,a6,Qf,vF,bp,bb,aH y,bc,bK,bO,bk,a6,Sm,vF,bp,bb,aH y,bc,bK,e1,a3,UM,vF,bb,a2,vF,bb,aJ,ms,aH C,bc,bb,aJ,cH,aN,aH,e8 p,t1,RK,E,aV,aN,G,bm,av,av,aT,e2 _ _,e3 _ _,hj,tF,a6,RL,bp,bb,aH,bc,ll,dF,bk,a6,Uh,bb,aH,e8 p,t1,bg,bm,av,aT,e2 _ _,e3 _ _,vF,bb,aJ,ms,aH C,bc,Ut,bb,aJ,cH,aN,aH,e8 p,t1,E,aV,aN,G,bm,av,av,aT,e2 _ _,e3 _ _,tw,T5,cH,aN,pf,hj,uD,fi,bb,aH,bc,bK,dF,OS,fQ,dR,bk,a6,Ov,aH,be,bm,av,aT,a6,aaR];have a5:(ao ((0:Nat):Int):an)=aL:=bF.symm;rw[a5] at A;exact A _ _ .aE [] rfl (by omega) (O.fz.eP) (gi (gF j)) (gi (gF g)) (gS fE) (.inl ⟨rfl,rfl⟩) rfl ⟨λi t x _ h=>by simp at h,λx h=>by cases h⟩
  ·rw[pl H] at pr;have a5:(ao ((0:Nat):Int):an)=aL:=bF.symm;by_cases hi:hd=qi
   ·subst hi;rw[pl rfl] at T;obtain⟨a,c,d,rfl⟩:=aFq (l:=l) J;have K:=λ(h:aI) (S:fu b atf q s w n h) (j:h.aj (b+4)= .box (qk (ba b atf) b 4 56) (cO qi [a,c,d])) (g:h.aj (b+6)= .box (qk ((ba b atf).fz b 4 56 (cO qi [a,c,d])) b 6 54) dx)=>aER a4 aR.uJ he hv S j g L;generalize cO qi [a,c,d]=t at*;rw[CN,cy,de,bp,bb,aH,bc,bK,dj,bk,a6,IE,ff,dj,bk,a6,Qf,vF,bp,bb,aH y,bc,bK,bO,bk,a6,Sm,vF,bp,bb,aH y,bc,bK,e1,a3,UM,vF,bb,a2,vF,bb,aJ,ms,aH C,bc,bb,aJ,cH,aN,aH,e8 p,t1,RK,E,aV,aN,G,bm,av,av,aT,e2 _ _,e3 _ _,hj,tF,a6,RL,bp,bb,aH,bc,ll,dF,bk,a6,Uh,bb,aH,e8 p,t1,bg,bm,av,aT,e2 _ _,e3 _ _,vF,bb,aJ,ms,aH C,bc,Ut,bb,aJ,cH,aN,aH,e8 p,t1,E,aV,aN,G,bm,av,av,aT,e2 _ _,e3 _ _,tw,T5,cH,aN,pf,hj,tF,iE,OS,fQ,dO,a6,Ov,aH,be,bm,av,aT,bL];exact K _ (O.fz.eP) (gi (gF j)) (gi (gF g))
   ·have hp:hd∈vx:=(avm hd I).elim (λh=>absurd h hi) λh=>h.elim id λh=>absurd h H;rw[GG hi] at T;have A:=λ(atb:Nat)=>akl (b:=b) (atf:=atf) (q:=q) (s:=s) (s4:=qk (ba b atf) b 4 56) (s6:=qk ((ba b atf).fz b 4 56 (cO hd l)) b 6 54) (atb:=atb) (z:=dx) (F:=F) (pr:=true) (hd:=hd) a1 a4 he hv L (λh arZ xs S j g Z P Q R=>by
     haveI:=S.ay
     rw[Du,bL];exact azT aR.uJ hp L S j g P Q J R) l.length 0 1000000
    rw[a5] at A;generalize cO hd l=t at*;rw[CN,cy,de,bp,bb,aH,bc,bK,dj,bk,a6,IE,ff,dj,bk,a6,Qf,vF,bp,bb,aH y,bc,bK,bO,bk,a6,Sm,vF,bp,bb,aH y,bc,bK,e1,a3,UM,vF,bb,a2,vF,bb,aJ,ms,aH C,bc,bb,aJ,cH,aN,aH,e8 p,t1,RK,E,aV,aN,G,bm,av,av,aT,e2 _ _,e3 _ _,hj,tF,a6,RL,bp,bb,aH,bc,ll,dF,bk,a6,Uh,bb,aH,e8 p,t1,bg,bm,av,aT,e2 _ _,e3 _ _,vF,bb,aJ,ms,aH C,bc,Ut,bb,aJ,cH,aN,aH,e8 p,t1,E,aV,aN,G,bm,av,av,aT,e2 _ _,e3 _ _,tw,T5,cH,aN,pf,hj,tF,iE,OS,fQ,dO,a6,Ov,aH,be,bm,av,aT,a6,aaR];exact A _ _ .aE [] rfl (by omega) (O.fz.eP) (gi (gF j)) (gi (gF g)) (gS fE) (.inl ⟨rfl,rfl⟩) rfl ⟨λi t x _ h=>by simp at h,λx h=>by cases h⟩
end
section
variable{t:aB} {e:List (ij×aB)} {v:an}
section
variable[Tok] {u:Fn} {b:Nat} {D:lT->List ij->aB->Prop} {M N:Nat} {w:an}
theorem aAe:(pv.all λh=>Nat.ble h.2.2.2.2 3)=true:=by decide+kernel
theorem aFZ(L:Nat)(aR:∀n,L<=n->CJ D M (bB bD n) w):∀(k n N d:Nat) (t:aB),L+k<=n->N*(M+2)+d<k->N<=10000->mv d t->x2 D (bB bD n) w N t:=by
 intro k;induction k with
 |zero=>intro n N d t _ h;omega
 |succ k r=>
  intro n N d t G H C a;obtain⟨n,rfl⟩:∃m,n=m+1:=⟨n-1,by omega⟩;have x:=aR n (by omega);intro e v y z;refine tJ (aM 131 yu n) λc _ _ _ _ _ g i j p=>?_;cases a with
  |var _ s=>exact auQ x y z s c g i j p
  |iW _ o E=>exact aE3 E c g i j p
  |kS d h A l F a=>
   have I:=pn (cB aAe A);have B:∀N',N'<N->N'*(M+2)+(M+2)<=N*(M+2):=λN' h=>by have:=dr (M+2) (show N'+1<=N by omega);rw[xB] at this;omega
   exact auD x A F (by omega) (λt h=>⟨(a t h).v,λN' q=>r n N' d t (by omega) (by have:=B N' q;omega) (by omega) (a t h)⟩) (λt h N' q=>r n N' M t (by omega) (by have:=B N' q;omega) (by omega) h) y z c g i j C p
theorem aFO(aR:bl λu=>CJ D M u w):bl λu=>∀d t,d<=50->mv d t->x2 D u w 2000 t:=by obtain⟨L,aR⟩:=aR;exact⟨L+(2000*(M+2)+51),λn a d t hd c=>aFZ L aR (2000*(M+2)+51) n 2000 d t a (by omega) (by omega) c⟩
theorem Wd{f d s z:Nat}{a:an}{args:aB}{R:an->Prop}{h:aI}[ub:b4 h 0][fc:da h](i:h.aj (0+d)= .box s [a,ao z])(j:z<=N)(hd:d<2048)(l:tM a)(C:gN u f args a N R):∃r h',R r/\b4 h' 0/\da h'/\(∀k,k≠0+d->h'.aj k=h.aj k)/\(∃c,c<=N/\h'.aj (0+d)= .box s [a,ao (c:Nat)])/\∀k:dg,fD u 0 f (.bn (0+d) s 0::args) [] h k=k r h':=by
 obtain⟨q,a8,dd⟩:=h;have n:0+4096<=q:=ub.eq;obtain rfl:dd=[]:=fc.eq;obtain⟨r,g,d',c,o,p,x,y,A,H⟩:= @C l q a8 (0+d) s z (by omega) (by omega) j i;refine⟨r,.mk q g [],p,⟨n⟩,⟨rfl⟩,A,⟨c,x,y⟩,λk=>?_⟩;have B:fD u 0 f (.bn (0+d) s 0::args) [] (.mk q a8 []) k=jT 0 q [] k (u f (.bn (0+d) s 0::args) q a8):=rfl;rw[B,o];have E:jT 0 q [] k (.ok r q g d')=bf (Nat.ble q q) (k r (.mk q g (aA (gZ 0 d') []))) .ax:=rfl;have F:∀d:List Nat,gZ 0 d=[]:=λd=>by
  induction d with
  |nil=>rfl
  |cons k d G=>exact G
 rw[E,ek,pl (sm q),cM,F];rfl
def ZV(D:lT->List ij->aB->Prop)(e:List (ij×aB))(t:aB)(r:an):Prop:=∃o n k,r= .a0 [.agg o,ao n,ao k]/\(o.length=7/\b8 o=true)/\(-100<k/\k<100)/\((k=0/\fU o/\iS D e t o)\/(k≠0/\o=dx))
theorem aEE(j:cq t)(C:x2 D u w 2000 t)(c:∃n l,w= .aQ n l)(p:vn e)(g:dw 9 v (e.map l2)):∃r,ZV D e t r/\∃s d,Jz u [w,.agg t,v,ao 2000] 0 .nil= .ok r 0 s d:=by
 obtain⟨tl,P⟩:=j;obtain⟨Q,S⟩:=uu;have q:=dw.dU g;have x:tM w:=λb=>by obtain⟨n,l,rfl⟩:=c;rfl
 have y:∀f:aB->aw,cC 0 1 w [.aE,aL] f=f [w,aL]:=λf=>by obtain⟨n,l,rfl⟩:=c;rfl
 have z:∀f:aB->aw,cC 1 1 (ao 2000) [w,aL] f=f [w,ao ((2000:Nat):Int)]:=λf=>r4 Jy.cells (by simp) f;have f1:([w,ao ((2000:Nat):Int)]:aB)[0+1]? =some (ao 2000):=rfl;have A:max (2000:Int) 0=2000:=by omega
 rw[Jz,GH];rw[ai4,cy,de,bF,aaW,A,ab3,y,z,hL,cy,vF,bp,bb,aH,bc f1,aH,be,q,av];obtain⟨r,h',B,T,W,E,⟨a,X,F⟩,G⟩:=Wd (u:=u) (f:=131) (N:=2000) (h:=(((ba 0 .nil).fz 0 5 56 t).fz 0 8 54 dx).fz 0 19 191 [w,ao ((2000:Nat):Int)]) (args:=[.agg t,v]) (R:=yL D e t) (d:=19) fE (sm _) (by decide) x (C e v p g);have Z:h'.aj (0+8)= .box (qk ((ba 0 .nil).fz 0 5 56 t) 0 8 54) dx:=(E (0+8) (by decide)).trans (gF fE);obtain⟨o,k,rfl,H,I,J⟩:=B;have ar:=Ch o;obtain⟨K,L⟩:=H;have O:([w,ao a]:aB)[0+1]? =some (ao a):=rfl;rw[G];by_cases i:k=0
 ·refine⟨.a0 [.agg o,ao (2000-a),ao 0],⟨o,_,0,rfl,⟨K,L⟩,by omega,.inl ⟨rfl,(J.elim id λh=>absurd i h).2⟩⟩,?_⟩;rw[e2 _ _,UZ,e3 _ _,de,dc,bF,dF,bk,a6,amV,aJ,cH,aN,aH,be,vF,bb,aJ,cH,aN,aH (gi (gF F)),bc O,e1,cH,aN,pf,SV,gh,be,bm,b7,bF,b7,av,av,av];exact b9
 ·refine⟨.a0 [.agg dx,ao 0,ao k],⟨dx,_,k,rfl,uu,I,.inr ⟨i,rfl⟩⟩,?_⟩;rw[e2 _ _,UZ,e3 _ _,de,dc,bF,dF,bN,bL,hL,dc,SV,gh,be,bm,b7,b7,av,av,av];exact b9
def Lc(D:lT->List ij->aB->Prop)(e:List (ij×aB))(t:aB)(r:an):Prop:=∃x a,r= .a0 [.a9 x,.a9 a]/\(a=true->∃o,iS D e t o/\(o=nb true->x=true)/\(o=nb false->x=false))
theorem aoA(i:cq t)(j:∃n l,w= .aQ n l)(p:dw 9 v (e.map l2)){r:an}(q:ZV D e t r)(H:aK u 64 [w,.agg t,v,ao 2000] r)(J:aK u 66 [] (.agg tu))(y:∀o,fU o\/o=dx->∃x,aK u 65 [.agg o,.agg tu] (.a9 x)/\(o=nb true->x=false)/\(o=nb false->x=true)):∃r,Lc D e t r/\∃s d,HB u [w,.agg t,v] 0 .nil= .ok r 0 s d:=by
 obtain⟨o,n,k,rfl,z,a,g⟩:=q;obtain⟨tl,K⟩:=i;obtain⟨L,O⟩:=z;have A:=dw.dU p;have B:∀(ob:ej) (f:jm),aD ob w f=f w []:=λob f=>by obtain⟨n,l,rfl⟩:=j;exact mg ob _ _ f
 obtain⟨x,P,C,E⟩:=y o (g.elim (λh=> .inl h.2.1) λh=> .inr h.2);have c:=Ch o;obtain⟨F,G⟩:=(xd false).v;obtain⟨Q,R⟩:=uu;have Tt:(Tt:an)=ao 2000:=by rw[cX];rfl
 have S:tu.length=7:=F;have T:b8 tu=true:=G;refine⟨.a0 [.a9 (!x),.a9 (decide (k=0))],⟨_,_,rfl,λa=>?_⟩,?_⟩
 ·have a:=gd a;rcases g with⟨_,W,I⟩|⟨h,_⟩
  ·exact⟨o,I,λh=>by rw[C h];rfl,λh=>by rw[E h];rfl⟩
  ·exact absurd a h
 ·rw[HB,vE];rw[adV,cy,aH,be,B,bm,A,Tt,av,av,av,aT,rq _ _ _ c,rr _ _ _ c,rN _ _ _ c,de,afs,dc,aJ,cH,aN,aH,be,aT,aV,aV,aN,bm,bm,av,av,aT,hj,bF,dj,ah6,fO,fO,av,av];exact b9
end
end
section
variable{e:List (ij×aB)} {v:an} {cl:aY}
section
variable[Tok] {u:Fn} {b:Nat} {D:lT->List ij->aB->Prop} {M N:Nat} {w:an}
theorem aq6(F:∃n l,w= .aQ n l)(G:dw 9 v (e.map l2))(hl:cl.length<=100)(H:∀t∈cl,cq t/\∃r,Lc D e t r/\aK u 20 [w,.agg t,v] r):∀(m i N:Nat) (h:aI) (c:Bool),m+i=cl.length->m<N->da h->
 ∃x j,(x=false->j=true->c=false/\∀t∈cl.drop i,∃o,iS D e t o/\o≠nb true)/\∃s d,fs 0 1 2 8 9 N (Cg u 0 (λf g=>DF 0 f dh g)) w (.aQ 11 cl) v (.a9 c) (ao i) h= .ok (.a0 [.a9 x,.a9 j]) 0 s d:=by
 have q:=dw.dU G;have y:∀(ob:ej) (f:jm),aD ob w f=f w []:=λob f=>by obtain⟨n,l,rfl⟩:=F;exact mg ob _ _ f
 have p:∀k:an->aw,bq false (.aQ 11 cl) k=k (ao cl.length):=λk=>eA _ _ k;have I:∀x:Bool,(an.a9 x:an)≠ .undef:=λx=>by simp
 intro m;induction m with
 |zero=>intro i N h c J K fc;obtain⟨N,rfl⟩:=cN N;refine⟨c,true,λz _=>⟨z,by rw[lO];simp⟩,?_⟩;rw[gI];generalize fs 0 1 2 8 9 N (Cg u 0 (λf g=>DF 0 f dh g))=L;rw[Cg,p,bO,bk,a6,DF,fO,gE,fO,av,av];exact b9
 |succ m O=>
  intro i N h c J K fc;obtain⟨N,rfl⟩:=cN N;obtain⟨a,C⟩:∃a,cl[i]? =some a:=⟨_,dC (by omega)⟩;obtain⟨⟨a3,uJ⟩,r,⟨x,j,rfl,P⟩,a4⟩:=H a (On C);have Q:cl.drop i=a::cl.drop (i+1):=by rw[iK (by omega),(e6.1 C).2]
  have A:=λc=>O (i+1) N h c (by omega) (by omega) fc;have R:((i+1:Nat):Int)=(i:Int)+1:=by omega
  rw[R] at A;have a5:=I x;rw[gI];generalize fs 0 1 2 8 9 N (Cg u 0 (λf g=>DF 0 f dh g))=L at A;cases j
  ·refine⟨false,false,λ_ h=>by simp at h,?_⟩;rw[Cg,p,bO,bN,bL,UF,eE,ch,be,TI,y,bm,q,av,av,av,aT,e2 _ _,e3 _ _,hj,uD,bL,DF,fQ,fO,fO,av,av];exact b9
  ·obtain⟨o,S,T,-⟩:=P rfl;obtain⟨W,X,z,E⟩:=A (c||x);refine⟨W,X,λZ a2=>?_,?_⟩
   ·obtain⟨B,ar⟩:=z Z a2;rw[Bool.or_eq_false_iff] at B;refine⟨B.1,λt h=>?_⟩;rw[Q] at h;rcases pG.1 h with rfl|h
    ·exact⟨o,S,λh=>by have:=T h;rw[B.2] at this;cases this⟩
    ·exact ar t h
   ·cases c
    ·rw[Cg,p,bO,bN,bL,UF,eE,ch,be,TI,y,bm,q,av,av,av,aT,e2 _ _,e3 _ _,hj,tF,a6,Z2,gE,fZ,dO,bK,cK];exact E
    ·rw[Cg,p,bO,bN,bL,UF,eE,ch,be,TI,y,bm,q,av,av,av,aT,e2 _ _,e3 _ _,hj,tF,a6,Z2,gE,lL,dR,bK,cK];exact E
theorem aDz(i:∃n l,w= .aQ n l)(j:dw 9 v (e.map l2))(k:cl.length<=100)(H:∀t∈cl,cq t/\∃r,Lc D e t r/\aK u 20 [w,.agg t,v] r):
 ∃x g,(x=false->g=true->∀t∈cl,∃o,iS D e t o/\o≠nb true)/\∃s d,J8 u [w,.aQ 11 cl,v] 0 .nil= .ok (.a0 [.a9 x,.a9 g]) 0 s d:=by
 obtain⟨x,g,p,h⟩:=aq6 (u:=u) i j k H cl.length 0 1000000 (ba 0 .nil) false rfl (by omega) inferInstance;refine⟨x,g,λa c=>(p a c).2,?_⟩;have q:(ao ((0:Nat):Int):an)=aL:=bF.symm;rw[q,<-fQ] at h;rw[J8,vE];rw[ajA];exact h
end
end
section
variable{o:aB}
section
variable[Tok] {u:Fn} {b:Nat} {N:Nat} {w:an}
theorem lA.g(h:lA o):EG o:=by
 rcases h with h|⟨x,c,rfl⟩
 ·exact .inl h
 ·refine .inr ⟨xN x,(ah3 c).1,?_⟩;have hd:(wZ.all λx=>Nat.ble (xN x).num.natAbs 1000&&Nat.ble (xN x).den 1000)=true:=by decide+kernel
  have a:=cB hd c;rw[Hi] at a;have d:=pn a.1;have e:=pn a.2;have g:=Bt 4 (xN x).num.natAbs (by omega);have i:=Bt 4 (xN x).den (by omega);exact⟨by unfold fc;omega,by unfold fc;simp only[Int.natAbs_natCast];omega⟩
theorem h0.g{n c:Nat}(h:h0 n c o)(a:∀o∈to,EG o):rK n c o:=by
 induction h with
 |leaf h=>exact .leaf (a _ h)
 |cons _ _ d e=>exact .cons d e
theorem aFn:∀o∈to,EG o:=λo h=>by
 rcases Ic.1 h with h|h
 ·exact .inl h
 ·obtain⟨x,a,rfl⟩:=yd.1 h;by_cases c:x∈wZ
  ·exact lA.g (.inr ⟨x,c,rfl⟩)
  ·refine .inr ⟨(x.1:Rat),?_,?_⟩
   ·have:x=(-4,1)\/x=(4,1):=by
     have hd:(aEB.all λx=>decide (x∈wZ)||(decide (x=(-4,1))||decide (x=(4,1))))=true:=by decide+kernel
     have:=cB hd a;simp only[dS,fo] at this;exact this.resolve_left c
    rcases this with rfl|rfl<;>rfl
   ·have hd:(aEB.all λx=>Nat.ble x.1.natAbs 1000)=true:=by decide+kernel
    have d:=pn (cB hd a);have e:=Bt 4 x.1.natAbs (by omega);exact⟨by unfold fc;show(cU x.1.natAbs).length<=100;omega,by show fc ((1:Nat):Int)<=100;decide⟩
def Sb(o:aB):Prop:=∃c,c<=100/\rK 6 c o
theorem re.Pk(h:re o):Sb o:=by
 have e:∃n c,n<=3/\h0 n c o:=by
  cases h with
  |tt o h=>exact⟨0,1,by omega,.leaf (gv _ h)⟩
  |DW x h=>exact⟨0,1,by omega,.leaf (OY h)⟩
  |im n c j a d g i hd=>exact⟨n+1,_,by omega,.cons i hd⟩
 obtain⟨n,c,g,h⟩:=e;have k:=h.amJ;have:2^(n+1)<=2^4:=Nat.pow_le_pow_right (by decide) (by omega);exact⟨c,by omega,(h.g aFn).le (by omega)⟩
theorem Sb.MV(h:Sb o):fU o:=by obtain⟨c,a,h⟩:=h;exact yB h (by omega)
theorem akF:∀{l:aY},(∀a∈l,Sb a)->∃n c,c<=1+101*l.length/\rK n c (k5 l)
 |[],_=>⟨0,1,by simp,.leaf (.inl (by simp[kY,k5,tu]))⟩
 |a::l,h=>by obtain⟨n,c,j,d⟩:=akF (l:=l) λx e=>h x (OJ _ e);obtain⟨g,k,i⟩:=h a HO;exact⟨n+6+1,1+g+c,by simp;omega,.cons (i.le (by omega)) (d.le (by omega))⟩
theorem ar5:Rw re fU:=⟨λo h=>h.Pk.MV.v,λo h=>yB (n:=0) (.leaf h.g) (by omega),λl h g=>by
 obtain⟨n,c,i,j⟩:=akF λa e=>(g a e).Pk;exact yB j (by omega),λa d e hd=>by
 obtain⟨c,i,k⟩:=e.Pk;obtain⟨r,t,p⟩:=hd.Pk;exact yB (.cons k p) (by omega)⟩
theorem azj:bl λu=>∀BX N,oi BX N->gN u 63 [ao 2] BX N (BN fU):=((adE.and vf).and UE).up λn h BX N a=>tJ (aM 63 uq n) λc _ _ _ _ _ d e g i=>amK (dz:=1) h.1.1 ar5 (by omega) (h.1.2 BX N a) (h.2 BX N a) c d e g i
def Uq(r:an):Prop:=∃e,vn e/\dw 9 r (e.map l2)
def Om:aY:=[[.s 1 0x78],[.s 1 0x79],[.s 1 0x7a],[.s 1 0x6e]]
section
variable{BX:an} {atf:b1} {q s:Nat}
theorem atR(B:∀a c,aK u 28 [.s a c] (.agg [kl,.s a c]))(C:gN u 63 [ao 2] BX N (BN fU)){sn:Nat}:∀(m i d:Nat) (h:aI) (arZ:an) (e:List (ij×aB)),m+i=4->m<d->fu b atf q s BX N h->h.aj (b+2054)= .az sn 9 1 Om false->pd b 2067 137 9 h arZ (e.map l2)->e.length=i->(∀p∈e,fU p.2)->
 ii (fs 0 3 6 7 8 d (JH u b (λq r=>PT b q r)) (.bn q s 0) arZ (.az (b+2054) sn 0 4) (ao 4) (ao i) h) b atf q s BX N Uq:=by
 intro m;induction m with
 |zero=>
  intro i d h arZ e D E S g j x l;obtain⟨d,rfl⟩:=cN d
  haveI:=S.ay
  obtain⟨v,F,G⟩:=j.dU;rw[gI];generalize fs 0 3 6 7 8 d (JH u b (λq r=>PT b q r))=H;rw[JH,bO,bk,a6,PT,bj,G,av];exact qO S ⟨e,⟨by omega,l⟩,F⟩
 |succ m I=>
  intro i d h arZ e D E S g j x l;obtain⟨d,rfl⟩:=cN d
  haveI:=S.ay
  obtain⟨a,c,hi⟩:∃a c,Om[i]? =some [.s a c]:=by
   have:i=0\/i=1\/i=2\/i=3:=by omega
   rcases this with rfl|rfl|rfl|rfl<;>exact⟨_,_,rfl⟩
  have J:=B a c;have n:=I (i+1) d;have K:((i+1:Nat):Int)=(i:Int)+1:=by omega
  rw[K] at n;have f0:([.s a c]:aB)[0]? =some (.s a c):=rfl;have L:=λ(k:an->aw)=>gu (sz:=1) (len:=4) (i:=i) g (by omega) k;rw[gI];generalize fs 0 3 6 7 8 d (JH u b (λq r=>PT b q r))=H at n;have us:([kl,.s a c]:aB)=jF (4,0x75736572,a,c):=rfl;rw[us] at J;have s2:(jF (4,0x75736572,a,c)).length=2:=rfl;rw[JH,bO,bN,bL,adF,L,ady,hg,bc,bg,DQ,av,aT];rw[ff];refine iv S C λr h' M z A=>?_;obtain⟨o,rfl,t⟩:=M
  haveI:=z.ay
  obtain⟨O,Z⟩:=t.v;obtain⟨ar,a1,-,-,-⟩:=US (p:=((4,0x75736572,a,c),o)) t;have P:∀f:aB->aw,cC 0 2 (.agg (jF (4,0x75736572,a,c))) [(.s 0 0),(.s 0 0),aL,(.s 0 0),(.s 0 0),(.s 0 0),(.s 0 0),(.s 0 0),.aE] f=f (jF (4,0x75736572,a,c)++[aL,(.s 0 0),(.s 0 0),(.s 0 0),(.s 0 0),(.s 0 0),.aE]):=λf=>rfl;have Q:∀f:aB->aw,cC 2 7 (.agg o) (jF (4,0x75736572,a,c)++[aL,(.s 0 0),(.s 0 0),(.s 0 0),(.s 0 0),(.s 0 0),.aE]) f=f (l2 ((4,0x75736572,a,c),o)):=λf=>by rw[tZ O (by simp[jF])];congr 1;simp[jF,l2]
  have R:=(j.aj (A 2067)).aj (h':=h'.fm b 2066 137 9 [l2 ((4,0x75736572,a,c),o)] false) (ga rfl);obtain⟨s',T⟩:=R.kS (bytes:=144) (y:= .az (b+2066) (ri h' b 2066) 0 1) (r:=l2 ((4,0x75736572,a,c),o)) (λf=>LL i9 (by rfl) f) (by rw[ER];omega) (by omega);have W:=λ(h:aI) (arZ:an) (S:fu b atf q s BX N h) (g:h.aj (b+2054)= .az sn 9 1 Om false) (j:pd b 2067 137 9 h arZ (e.map l2++[l2 ((4,0x75736572,a,c),o)]))=>n h arZ (e++[((4,0x75736572,a,c),o)]) (by omega) (by omega) S g (by rw[LZ];exact j) (by simp[x]) λp X=>(Ic.1 X).elim (l p) λh=>by simp at h;rw[h];exact t
  generalize a2:jF (4,0x75736572,a,c)=y at*;rw[P,Q,hL,hX,av,gW,T,bK,cK];exact W _ _ (z.fm.ow) (l5 (ga ((A 2054).trans g))) pd.new
theorem aFv(e:∀a c,aK u 28 [.s a c] (.agg [kl,.s a c]))(g:gN u 63 [ao 2] BX N (BN fU))(h:tM BX){z:Nat}(j:q<b)(k:q%4096<2048)(l:z<=N)(n:cE b atf q= .box s [BX,ao z]):ii (IA u [.bn q s 0] b atf) b atf q s BX N Uq:=by
 have S:=fu.start j k l n h
 haveI:=S.ay
 have d:∀(ob:ej) (i a c:Nat) (es:aY) (hi:i<es.length) (f:aY->eH->aw),cj ob 1 i (.s a c) es f=f (es.set i [.s a c]) []:=λob i a c es hi f=>HE (λ_=>rfl) (λ_=>rfl) rfl hi f;have p:((((cG 4 [(.s 0 0)]).set 0 [.s 1 0x78]).set 1 [.s 1 0x79]).set 2 [.s 1 0x7a]).set 3 [.s 1 0x6e]=Om:=rfl;have F:=atR (u:=u) e g (sn:=ri (ba b atf) b 2054) 4 0 1000000 ((ba b atf).fm b 2054 9 1 Om false) .aE [] rfl (by omega) S.fm i9 (.inl ⟨rfl,rfl⟩) rfl (by simp);have r:(ao ((0:Nat):Int):an)=aL:=bF.symm;rw[r] at F;rw[IA,dK];rw[afm,d _ _ _ _ _ (by decide),d _ _ _ _ _ (by decide),d _ _ _ _ _ (by decide),d _ _ _ _ _ (by decide),p,av,av,av,av,gW,jw];exact F
end
theorem awB:bl λu=>∀BX N,oi BX N->gN u 18 [] BX N Uq:=(azj.and (bl.run (C:=λu=>∀a c,aK u 28 [.s a c] (.agg [kl,.s a c])) λn a c=>hE (Z4 n a c))).up λn h BX N d=>tJ (aM 18 IA n) λe _ _ _ _ _ g i j k=>aFv h.2 (h.1 BX N d) e g i j k
end
end
def qg(r:Nat->Rat)(k:Nat):Rat:=if k=0 then 1 else if k<10 then r (k-1) else r ((k-10)/9)*r ((k-10) %9)
def iV(r:Nat->Rat):bE->Rat
 |[]=>0
 |m::p=>m.U*qg r m.k+iV r p
theorem WC(r:Nat->Rat):∀p q,iV r (p++q)=iV r p+iV r q
 |[],q=>by simp[iV,gb]
 |m::p,q=>by simp only[LH,iV,WC r p q,z6]
theorem apK(r:Nat->Rat)(m:cw):∀p,iV r (mq p m)=iV r p+m.U*qg r m.k
 |[]=>by simp[mq,iV];grind
 |t::p=>by
  have a:=apK r m p;simp only[mq];split
  ·simp only[iV,a];grind
  ·split
   ·rename_i c b;split
    ·rename_i d;have e:t.U*qg r t.k+m.U*qg r m.k=(t.U+m.U)*qg r m.k:=by rw[b];grind
     simp only[iV]
     grind
    ·simp only[iV]
     grind
   ·simp only[iV];grind
theorem ajB(r:Nat->Rat):∀l p,iV r (hU p l)=iV r p+iV r l
 |[],p=>by simp[hU,iV,As]
 |m::l,p=>by
  have e:hU p (m::l)=hU (mZ p m) l:=rfl;rw[e,ajB r l];have:iV r (mZ p m)=iV r p+m.U*qg r m.k:=by
   unfold mZ;split
   ·rename_i h;rw[h];grind
   ·exact apK r m p
  rw[this];simp only[iV,z6]
theorem SN(r:Nat->Rat)(l:bE):iV r (ei l)=iV r l:=by unfold ei;rw[ajB];simp[iV,Rat.zero_add]
theorem ab0(r:Nat->Rat):∀p,iV r (hB p)= -iV r p
 |[]=>by simp[hB,iV]
 |m::p=>by
  have a:=ab0 r p;unfold hB at*;simp only[mG,iV,a]
  grind
theorem aAn(r:Nat->Rat)(p q:bE):iV r (lW p q)=iV r p-iV r q:=by unfold lW;rw[SN,WC,ab0];grind
theorem aEP(r:Nat->Rat){k l:Nat}(c:k<10)(d:l<10):qg r (fW k l)=qg r k*qg r l:=by
 unfold fW;by_cases a:k=0
 ·rw[y1 a,a];simp[qg,Rat.one_mul]
 ·by_cases b:l=0
  ·rw[Ca a,y1 b,b];simp[qg,Rat.mul_one]
  ·rw[Ca a,Ca b];have e:(10+9*(min k l-1)+(max k l-1)-10)/9=min k l-1:=by omega
   have g:(10+9*(min k l-1)+(max k l-1)-10) %9=max k l-1:=by omega
   unfold qg;rw[Ca (by omega),Ca (by omega),Ca a,y1 c,Ca b,y1 d,e,g];by_cases h:k<=l
   ·rw[Nat.min_eq_left h,Nat.max_eq_right h]
   ·rw[Nat.min_eq_right (by omega),Nat.max_eq_left (by omega),Rat.mul_comm]
theorem ahW(r:Nat->Rat){x:cw}(a:x.k<10):∀{q:bE},(∀m∈q,m.k<10)->iV r (q.map λy=>⟨fW x.k y.k,x.U*y.U⟩)=x.U*qg r x.k*iV r q
 |[],_=>by simp[iV,Rat.mul_zero]
 |y::q,h=>by
  have b:=ahW r a (q:=q) λm c=>h m (OJ _ c);simp only[mG,iV,b,aEP r a (h y HO)]
  grind
theorem aow(r:Nat->Rat):∀{p q:bE},(∀m∈p,m.k<10)->(∀m∈q,m.k<10)->iV r (eK fW p q)=iV r p*iV r q
 |[],q,_,_=>by simp[eK,iV,jb]
 |x::p,q,h,g=>by
  have a:=aow r (p:=p) (q:=q) (λm b=>h m (OJ _ b)) g;unfold eK at*;simp only[Ph,WC,a,ahW r (h x HO) g,iV]
  grind
section
variable{h:lT} {l:aY} {a c o:aB}
def uT(h g:lT):Bool:=Nat.beq h.1 g.1&&(Nat.beq h.2.1 g.2.1&&(Nat.beq h.2.2.1 g.2.2.1&&Nat.beq h.2.2.2.1 g.2.2.2.1))
theorem adl:(pv.all λh=>pv.all λg=> !uT h g||Nat.beq h.2.2.2.2 g.2.2.2.2)=true:=by decide+kernel
theorem aED:(vx.all λh=> !uT h qi&&rO.all λg=> !uT h g)=true:=by decide+kernel
theorem aFD:(rO.all λg=> !uT g qi)=true:=by decide+kernel
theorem Na(h:lT):uT h h=true:=by simp[uT,wT]
theorem En(g:h∈vx):h≠qi/\h∉rO:=by
 have:=cB aED g;rw[Hi] at this;refine⟨λe=>?_,λi=>?_⟩
 ·have b:=this.1;rw[e,Na] at b;cases b
 ·have d:=cB this.2 i;rw[Na] at d;cases d
theorem Te(b:h∈rO):h≠qi:=λe=>by have:=cB aFD b;rw[e,Na] at this;cases this
section
variable[Tok] {D:lT->List ij->aB->Prop} {e:List (ij×aB)}
theorem Ls{g:lT}{m:aY}(p:h∈pv)(q:g∈pv)(E:cO h l=cO g m):h=g/\l=m:=by
 have b:bU (.s h.1 h.2.1) (.s h.2.2.1 h.2.2.2.1) l=bU (.s g.1 g.2.1) (.s g.2.2.1 g.2.2.2.1) m:=E;unfold bU at b;simp only[kP,an.s.injEq,an.aQ.injEq,and_true,true_and] at b;obtain⟨⟨d,i⟩,⟨j,k⟩,r⟩:=b;have n:=cB (cB adl p) q;have t:uT h g=true:=by simp[uT,d,i,j,k]
 rw[t] at n;have u:=dp (show Nat.beq h.2.2.2.2 g.2.2.2.2=true from n);exact⟨Prod.ext d (Prod.ext i (Prod.ext j (Prod.ext k u))),r⟩
def Inv(D:lT->List ij->aB->Prop)(e:List (ij×aB))(h:lT)(l:aY)(o:aB):Prop:=
 (h=qi/\∃a c d,l=[a,c,d]/\((∃x,iS D e a x/\x≠tu/\iS D e c o)\/(iS D e a tu/\iS D e d o)))\/
 (h∈vx/\∃xs:aY,l.length=xs.length/\(∀(i:Nat) (t x:aB),l[i]? =some t->xs[i]? =some x->iS D e t x)/\u4 h.2.2.2.1 xs o)\/
 (h∈rO/\∃b g,∃xs:aY,D h b g/\l.length=xs.length/\(∀(i:Nat) (t x:aB),l[i]? =some t->xs[i]? =some x->iS D e t x)/\iS D (rA b xs) g o)
theorem NA{a c:Int}{l m:aB}(h:a≠c)(b: -1000<a:=by omega)(d: -1000<c:=by omega):ao a::l≠ao c::m:=λe=>h (Mh (s5 e).1 b d)
theorem Qj(b:h∈vx):h∈pv:=OJ _ (gv _ b)
theorem Ff(b:h∈rO):h∈pv:=OJ _ (xb _ b)
theorem AM{t:aB}(w:iS D e t o):(∀s:ij,t=yb (.s s.1 s.2.1) (.s s.2.2.1 s.2.2.2)->tY s e=some o)/\(∀x,t=cW x->o=x)/\(∀h l,h∈pv->t=cO h l->Inv D e h l o):=by
 have u:∀{p n:an} {x:aB},yb p n≠cW x:=λh=>by unfold yb cW at h;rw[bK,ff] at h;exact NA (a:=1) (c:=2) (by omega) (by omega) (by omega) h
 have i:∀{p n:an} {h:lT} {l:aY},yb p n≠cO h l:=λh=>by unfold yb cO bU at h;rw[bK,i2] at h;exact NA (a:=1) (c:=3) (by omega) (by omega) (by omega) h
 have rZ:∀{x:aB} {h:lT} {l:aY},cW x≠cO h l:=λh=>by unfold cW cO bU at h;rw[ff,i2] at h;exact NA (a:=2) (c:=3) (by omega) (by omega) (by omega) h
 cases w with
 |var _ s o h=>refine⟨λz E=>?_,λx E=>absurd E u,λh l _ E=>absurd E i⟩;unfold yb at E;simp only[kP,an.s.injEq,and_true,true_and] at E;have:s=z:=Prod.ext E.1.1 (Prod.ext E.1.2 (Prod.ext E.2.1 E.2.2));rw[<-this];exact h
 |iW _ o=>refine⟨λs E=>absurd E.symm u,λx E=>?_,λh l _ E=>absurd E rZ⟩;unfold cW at E;simpa using E
 |V9 _ a c d x y k A B=>refine⟨λs E=>absurd E.symm i,λx E=>absurd E.symm rZ,λh l b E=>?_⟩;obtain⟨rfl,rfl⟩:=Ls HO b E;exact .inl ⟨rfl,a,c,d,rfl,.inl ⟨x,k,A,B⟩⟩
 |ZB _ a c d y k hd=>refine⟨λs E=>absurd E.symm i,λx E=>absurd E.symm rZ,λh l b E=>?_⟩;obtain⟨rfl,rfl⟩:=Ls HO b E;exact .inl ⟨rfl,a,c,d,rfl,.inr ⟨k,hd⟩⟩
 |aab _ g j C xs o q r F=>refine⟨λs E=>absurd E.symm i,λx E=>absurd E.symm rZ,λh l b E=>?_⟩;obtain⟨rfl,rfl⟩:=Ls (Qj j) b E;exact .inr (.inl ⟨j,xs,q,r,F⟩)
 |fn _ g j G H I C xs o q r J=>refine⟨λs E=>absurd E.symm i,λx E=>absurd E.symm rZ,λh l b E=>?_⟩;obtain⟨rfl,rfl⟩:=Ls (Ff j) b E;exact .inr (.inr ⟨j,G,H,xs,I,q,r,J⟩)
theorem aod(d:h∈vx)(g:iS D e (cO h l) o):∃xs:aY,l.length=xs.length/\(∀(i:Nat) (t x:aB),l[i]? =some t->xs[i]? =some x->iS D e t x)/\u4 h.2.2.2.1 xs o:=by
 obtain⟨j,k⟩:=En d;rcases(AM g).2.2 h l (Qj d) rfl with⟨b,_⟩|⟨_,b⟩|⟨b,_⟩
 ·exact absurd b j
 ·exact b
 ·exact absurd b k
theorem W9(g:h∈vx)(i:iS D e (cO h [a,c]) o):∃x y,iS D e a x/\iS D e c y/\u4 h.2.2.2.1 [x,y] o:=by
 obtain⟨xs,j,b,d⟩:=aod g i
 match xs,j,b,d with
 |[x,y],_,b,d=>exact⟨x,y,b 0 a x rfl rfl,b 1 c y rfl rfl,d⟩
theorem afW(d:h∈rO)(k:iS D e (cO h l) o):∃g j,∃xs:aY,D h g j/\l.length=xs.length/\(∀(i:Nat) (t x:aB),l[i]? =some t->xs[i]? =some x->iS D e t x)/\iS D (rA g xs) j o:=by
 rcases(AM k).2.2 h l (Ff d) rfl with⟨b,_⟩|⟨b,_⟩|⟨_,b⟩
 ·exact absurd b (Te d)
 ·exact absurd d (En b).2
 ·exact b
theorem X9{d:aB}(g:iS D e (cO qi [a,c,d]) o):(∃x,iS D e a x/\x≠tu/\iS D e c o)\/(iS D e a tu/\iS D e d o):=by
 rcases(AM g).2.2 qi _ HO rfl with⟨_,i,j,d',E,h⟩|⟨b,_⟩|⟨b,_⟩
 ·simp only[kP,and_true] at E;obtain⟨rfl,rfl,rfl⟩:=E;exact h
 ·exact absurd rfl (En b).1
 ·exact absurd rfl (Te b)
end
end
section
variable{h:lT} {t o:aB} {l xs:aY}
def M6:lT:=(4,0x6c697370,8,0x62696e6172792d2b,2)
def NO:lT:=(4,0x6c697370,8,0x62696e6172792d2a,2)
def F4:lT:=(4,0x6c697370,1,0x3c,2)
def Bz:lT:=(4,0x6c697370,3,0x6e6f74,1)
def UG:lT:=(4,0x6c697370,3,0x6c656e,1)
def Tg:lT:=(4,0x75736572,4,0x74726565,1)
def zW:List lT:=[M6,NO,F4,(4,0x6c697370,3,0x636172,1),(4,0x6c697370,3,0x636472,1),(4,0x6c697370,5,0x636f6e7370,1)]
def wM:List lT:=[UG,Tg]
theorem Qi:∀h∈zW,h∈vx:=by decide+kernel
theorem RP:∀h∈wM,h∈rO:=by decide+kernel
section
variable[Tok] {D:lT->List ij->aB->Prop} {e:List (ij×aB)}
inductive wI:aB->Prop
 |var (s:ij):wI (yb (.s s.1 s.2.1) (.s s.2.2.1 s.2.2.2))
 |iW (o:aB):wI (cW o)
 |kS (h:lT) (hh:h∈qi::(zW++wM)) (l:aY) (ht:∀t∈l,wI t):wI (cO h l)
theorem aci(a:h∈qi::(zW++wM)):h∈pv:=by
 rcases pG.1 a with rfl|a
 ·exact HO
 ·exact(Ic.1 a).elim (λh=>Qj (Qi _ h)) λh=>Ff (RP _ h)
theorem QS(H:wI t)(d:h∈pv)(E:t=cO h l):h∈qi::(zW++wM)/\∀s∈l,wI s:=by
 cases H with
 |var s=>unfold yb cO bU at E;rw[bK,i2] at E;exact absurd E (NA (a:=1) (c:=3) (by omega) (by omega) (by omega))
 |iW o=>unfold cW cO bU at E;rw[ff,i2] at E;exact absurd E (NA (a:=2) (c:=3) (by omega) (by omega) (by omega))
 |kS g b m i=>obtain⟨rfl,rfl⟩:=Ls (aci b) d E;exact⟨b,i⟩
structure x0 (D:lT->List ij->aB->Prop):Prop where
 fn:∀h ps bd ps' bd',D h ps bd->D h ps' bd'->ps=ps'/\bd=bd'
 adQ:∀h∈wM,∀ps bd,D h ps bd->wI bd
 ax:∀ps bd,D Bz ps bd->∃s:ij,ps=[s]/\bd=cO qi [yb (.s s.1 s.2.1) (.s s.2.2.1 s.2.2.2),cW (nb false),cW (nb true)]
theorem ald{ys:aY}(b:l.length=xs.length)(d:l.length=ys.length)(H:∀(i:Nat) (t x y:aB),l[i]? =some t->xs[i]? =some x->ys[i]? =some y->x=y):xs=ys:=by refine List.ext_getElem (by omega) λi a c=>?_;exact H i (l[i]'(by omega)) _ _ (dC _) (dC _) (dC _)
theorem aEJ(c:h∈zW){p:aB}(a:u4 h.2.2.2.1 xs o)(b:u4 h.2.2.2.1 xs p):o=p:=by
 simp only[zW,pG,CY,wN] at c;rcases c with rfl|rfl|rfl|rfl|rfl|rfl
 ·exact(a.add rfl).trans (b.add rfl).symm
 ·exact(a.mul rfl).trans (b.mul rfl).symm
 ·exact(a.Lo rfl).trans (b.Lo rfl).symm
 ·exact(a.PE rfl).trans (b.PE rfl).symm
 ·exact(a.ako rfl).trans (b.ako rfl).symm
 ·exact(a.agq rfl).trans (b.agq rfl).symm
theorem aE1(H:x0 D){e:List (ij×aB)}(C:iS D e t o):wI t->∀o',iS D e t o'->o=o':=by
 induction C with
 |var e s o h=>intro _ o' g;have:=(AM g).1 s rfl;rw[h] at this;exact jZ this
 |iW e o=>intro _ o' g;exact((AM g).2.1 o rfl).symm
 |V9 e a c d x y E F Q p G=>
  intro T o' g;have j:=(QS T HO rfl).2;rcases X9 g with⟨I,b,n,A⟩|⟨b,n⟩
  ·exact G (j c (by simp)) _ A
  ·exact absurd (p (j a (by simp)) _ b) F
 |ZB e a c d y E hd p J=>
  intro T o' g;have j:=(QS T HO rfl).2;rcases X9 g with⟨I,b,n,A⟩|⟨b,n⟩
  ·exact absurd (p (j a (by simp)) _ b).symm n
  ·exact J (j d (by simp)) _ n
 |aab e h k l xs o q K L r=>
  intro T o' g;obtain⟨b,j⟩:=QS T (Qj k) rfl;obtain⟨ys,u,w,z⟩:=aod k g;obtain rfl:=ald q u λi t x y a c d=>r i t x a c (j t (On a)) y (w i t y a d);have M:h∈zW:=by
   rcases pG.1 b with rfl|b
   ·exact absurd rfl (En k).1
   ·exact(Ic.1 b).elim id λh=>absurd (RP _ h) (En k).2
  exact aEJ M L z
 |fn e h k R S B l xs o q K W r N=>
  intro T o' g;obtain⟨b,j⟩:=QS T (Ff k) rfl;obtain⟨X,Z,ys,O,u,w,z⟩:=afW k g;obtain rfl:=ald q u λi t x y a c d=>r i t x a c (j t (On a)) y (w i t y a d);obtain⟨rfl,rfl⟩:=H.fn _ _ _ _ _ B O;have P:h∈wM:=by
   rcases pG.1 b with rfl|b
   ·exact absurd rfl (Te k)
   ·exact(Ic.1 b).elim (λh=>absurd k (En (Qi _ h)).2) id
  exact N (H.adQ _ P _ _ B) _ z
theorem ap6(s:ij):P6 s s=true:=by
 have e:∀a c:Nat,jH a c a c=true:=λa c=>by unfold jH;rw[Nat.beq_refl,Nat.beq_refl];rfl
 unfold P6;rw[e,e];rfl
theorem agL(H:x0 D){a:aB}(b:iS D e (bU bP fe [a]) o):∃x,iS D e a x/\((x=tu/\o=nb true)\/(x≠tu/\o=nb false)):=by
 have b:iS D e (cO Bz [a]) o:=b;obtain⟨n,p,xs,i,j,c,d⟩:=afW (by decide) b;obtain⟨s,rfl,rfl⟩:=H.ax _ _ i
 match xs,j,c,d with
 |[x],_,c,d=>
  refine⟨x,c 0 a x rfl rfl,?_⟩;have g:∀y,iS D (rA [s] [x]) (yb (.s s.1 s.2.1) (.s s.2.2.1 s.2.2.2)) y->y=x:=λy k=>by
   have:=(AM k).1 s rfl;have e:tY s (rA [s] [x])=some x:=by simp[tY,rA,ap6]
   rw[e] at this;exact(jZ this).symm
  rcases X9 d with⟨y,dB,cT,n2⟩|⟨dB,cT⟩
  ·rw[g y dB] at cT;exact .inr ⟨cT,(AM n2).2.1 _ rfl⟩
  ·exact .inl ⟨(g _ dB).symm,(AM cT).2.1 _ rfl⟩
theorem aw0(x:Bool):nb x=tu↔x=false:=by
 cases x
 ·exact⟨λ_=>rfl,λ_=>rfl⟩
 ·refine⟨λh=>?_,λh=>by cases h⟩;unfold nb tu nt at h;simp at h
theorem aFU{x y:Bool}(h:nb x=nb y):x=y:=by cases x<;>cases y<;>first|rfl|exact absurd ((aw0 true).1 (by first|exact h|exact h.symm)) (by simp)
end
end
section
variable{i:Nat} {t:aB} {P:bE}
section
variable[Tok] {D:lT->List ij->aB->Prop} {e:List (ij×aB)} {a c o:aB}
theorem aiA(b:iS D e (bU bP fv [a,c]) o):∃x y,iS D e a x/\iS D e c y/\fG o=fG x+fG y:=by obtain⟨x,y,d,g,j⟩:=W9 (h:=M6) (Qi _ (by decide)) b;exact⟨x,y,d,g,by rw[j.add rfl,wv];rfl⟩
theorem LR(b:iS D e (bU bP eM [a,c]) o):∃x y,iS D e a x/\iS D e c y/\fG o=fG x*fG y:=by obtain⟨x,y,d,g,j⟩:=W9 (h:=NO) (Qi _ (by decide)) b;exact⟨x,y,d,g,by rw[j.mul rfl,wv];rfl⟩
theorem Q3(b:iS D e (bU bP eu [a,c]) o):∃x y,iS D e a x/\iS D e c y/\o=nb (decide (fG x<fG y)):=by obtain⟨x,y,d,g,j⟩:=W9 (h:=F4) (Qi _ (by decide)) b;exact⟨x,y,d,g,j.Lo rfl⟩
theorem x1{x:aB}(b:iS D e (cW x) o):o=x:=(AM b).2.1 x rfl
theorem ap7(i:Nat):wI (ec i):=by
 have b:∀j,wI (dW j):=λj=> .var (4,0x75736572,1,0x78+j);unfold ec;split
 ·exact b i
 ·split
  ·exact .kS UG (by decide) [dW (i-3)] λt h=>by simp at h;rw[h];exact b _
  ·exact .kS Tg (by decide) [dW (i-6)] λt h=>by simp at h;rw[h];exact b _
noncomputable def ln(D:lT->List ij->aB->Prop)(e:List (ij×aB))(i:Nat):Rat:=open Classical in if h:∃o,iS D e (ec i) o then fG h.choose else 0
theorem Cr(H:x0 D)(b:iS D e (ec i) o):fG o=ln D e i:=by have h:∃o,iS D e (ec i) o:=⟨o,b⟩;unfold ln;rw[dif_pos h,aE1 H b (ap7 i) _ h.choose_spec]
theorem UC(r:Nat->Rat)(m:cw):iV r [m]=m.U*qg r m.k:=by simp[iV,As]
theorem aoc(r:Nat->Rat):qg r 0=1:=rfl
theorem alQ(r:Nat->Rat)(h:i<9):qg r (i+1)=r i:=by unfold qg;rw[if_neg (by omega),if_pos (by omega)];rfl
theorem azW(H:x0 D){n:Nat}{l:bE}(h:mL n t l):∀o,iS D e t o->fG o=iV (ln D e) l:=by
 induction h with
 |num z d=>intro o b;rw[x1 b,wv,UC,aoc,Rat.mul_one]
 |add n z i t l d hi h g=>intro o b;obtain⟨x,y,j,k,r⟩:=aiA b;obtain⟨p,q,dB,cT,n2⟩:=LR j;rw[r,g y k,n2,x1 dB,wv,Cr H cT];show _=(z:Rat)*qg _ (i+1)+iV _ l;rw[alQ _ hi]
theorem acq(H:x0 D)(h:n1 t P)(b:iS D e t o):fG o=iV (ln D e) P:=by obtain⟨n,l,_,h,rfl⟩:=h;rw[SN];exact azW H h o b
theorem aF5{o:aB}(h:o∈kY):fG o=0:=NC λr e=>by
 rcases WB h with⟨_,_,_,_,rfl⟩|⟨_,_,rfl⟩
 ·unfold ef b5 nt at e;exact zC (c:=2) (d:=1) (by omega) (by omega) (by omega) e
 ·unfold ef b5 uV at e;exact zC (c:=3) (d:=1) (by omega) (by omega) (by omega) e
theorem aFj(a d:aB):fG (jU a d)=0:=NC λr e=>by unfold ef b5 jU at e;exact zC (c:=4) (d:=1) (by omega) (by omega) (by omega) e
theorem amI(H:x0 D)(h:tf t P)(b:iS D e t o):fG o=iV (ln D e) P:=by
 cases h with
 |var i hi=>rw[tc hi] at b;rw[Cr H b,UC];show _=1*qg _ (i+1);rw[alQ _ (by omega),Rat.one_mul]
 |num x g=>rw[x1 b,(ah3 g).1,wv,SN,UC];show _=xN x*qg _ 0;rw[aoc,Rat.mul_one]
 |tt o j=>rw[x1 b,aF5 j];rfl
 |im n k l a d p hd=>rw[x1 b,aFj];rfl
theorem agZ(r:Nat->Rat)(T:cw->aB):∀(l:bE),l≠[]->(∀m∈l,∀x,iS D e (T m) x->fG x=m.U*qg r m.k)->∀o,iS D e (mz fv (l.map T)) o->fG o=iV r l
 |[],h,_,_,_=>absurd rfl h
 |[m],_,h,o,b=>by rw[h m (by simp) o b,UC]
 |m::n::l,_,h,o,b=>by obtain⟨x,y,d,g,j⟩:=aiA (a:=T m) (c:=mz fv ((n::l).map T)) b;rw[j,h m (by simp) x d,agZ r T (n::l) (by simp) (λk p=>h k (OJ _ p)) y g];rfl
theorem atq(H:x0 D){m:cw}(z:fT m.k)(b:iS D e (jM m) o):fG o=m.U*qg (ln D e) m.k:=by
 have u:∀l:aY,(l=[]/\qg (ln D e) m.k=1)\/(∃i,l=[ec i]/\qg (ln D e) m.k=ln D e i)\/(∃i j,l=[ec i,ec j]/\qg (ln D e) m.k=ln D e i*ln D e j)->∀o,iS D e (mz eM (mr (ef m.U) (decide (m.U=1)) l)) o->fG o=m.U*qg (ln D e) m.k:=by
  intro l w o b;rcases w with⟨rfl,g⟩|⟨i,rfl,g⟩|⟨i,j,rfl,g⟩<;>rw[g]<;>unfold mr at b
  ·rw[y1 (.inl rfl)] at b;rw[x1 b,wv,Rat.mul_one]
  ·split at b
   ·obtain⟨x,y,d,k,n⟩:=LR (a:=cW (ef m.U)) (c:=ec i) b;rw[n,x1 d,wv,Cr H k]
   ·rename_i r;have d:m.U=1:=by apply Classical.byContradiction;intro h;exact r (.inr (GG h))
    rw[d,Rat.one_mul];exact Cr H b
  ·split at b
   ·obtain⟨x,y,d,k,n⟩:=LR (a:=cW (ef m.U)) (c:=mz eM [ec i,ec j]) b;obtain⟨p,q,dB,cT,n2⟩:=LR (a:=ec i) (c:=ec j) k;rw[n,x1 d,wv,n2,Cr H dB,Cr H cT]
   ·rename_i r;have d:m.U=1:=by apply Classical.byContradiction;intro h;exact r (.inr (GG h))
    obtain⟨p,q,dB,cT,n2⟩:=LR (a:=ec i) (c:=ec j) b;rw[d,Rat.one_mul,n2,Cr H dB,Cr H cT]
 refine u (fb m.k) ?_ o b;unfold fb qg;split
 ·exact .inl ⟨rfl,rfl⟩
 ·split
  ·exact .inr (.inl ⟨_,rfl,rfl⟩)
  ·exact .inr (.inr ⟨_,_,rfl,rfl⟩)
theorem ajq(H:x0 D)(d:∀m∈P,fT m.k)(b:iS D e (jC dk jM P) o):fG o=iV (ln D e) P:=by
 by_cases h:P=[]
 ·subst h;rw[abI,k8.num] at b;rw[x1 b,wv];rfl
 ·rw[K9 h] at b;exact agZ _ jM P h (λm g x j=>atq H (d m g) j) o b
end
end
section
variable{t a:aB} {p P:bE} {n:Nat} {h:lT}
section
variable[Tok] {D:lT->List ij->aB->Prop} {e:List (ij×aB)} {o:aB}
theorem aFA(H:x0 D){k:Int}(h:Ji t k p)(j:iS D e t o)(g:o≠nb true):(k=2->0<=iV (ln D e) p)/\(k=1->0<iV (ln D e) p):=by
 obtain⟨a,b,P,Q,l,rfl,u⟩:=h;have q:∀x,iS D e a x->fG x=iV (ln D e) P:=λx c=>l.elim (λh=>acq H h.1 c) λh=>amI H h.1 c;have r:∀x,iS D e b x->fG x=iV (ln D e) Q:=λx c=>l.elim (λh=>acq H h.2 c) λh=>amI H h.2 c;rw[aAn];rcases u with⟨rfl,rfl⟩|⟨rfl,rfl⟩
 ·obtain⟨x,y,d,i,rfl⟩:=Q3 j;rw[q x d,r y i] at g;refine⟨λ_=>?_,λh=>by omega⟩;have:¬iV (ln D e) P<iV (ln D e) Q:=λh=>g (by rw[pl h])
  grind
 ·obtain⟨z,w,d⟩:=agL H j;obtain⟨x,y,A,i,rfl⟩:=Q3 w;rw[q y i,r x A] at d;refine⟨λh=>by omega,λ_=>?_⟩;have:iV (ln D e) Q<iV (ln D e) P:=by
   apply Classical.byContradiction;intro h;rw[GG h] at d;rcases d with⟨_,h⟩|⟨h,_⟩
   ·exact g h
   ·exact h rfl
  grind
theorem aFr(H:x0 D){b:Bool}(d:∀m∈P,fT m.k)(l:0<=iV (ln D e) P)(i:b=true->0<iV (ln D e) P)(g:iS D e (oY (cW (dk.num 0)) b (jC dk jM P)) o):o=nb true:=by
 cases b with
 |true=>obtain⟨x,y,dB,cT,rfl⟩:=Q3 (a:=cW (dk.num 0)) (c:=jC dk jM P) g;rw[ajq H d cT,x1 dB,k8.num,wv,pl (i rfl)]
 |false=>
  obtain⟨z,eO,dB⟩:=agL H (a:=bU bP eu [jC dk jM P,cW (dk.num 0)]) g;obtain⟨x,y,j,k,rfl⟩:=Q3 eO;rw[ajq H d j,x1 k,k8.num,wv] at dB;have:¬iV (ln D e) P<0:=by grind
  rw[GG this] at dB;rcases dB with⟨_,h⟩|⟨h,_⟩
  ·exact h
  ·exact absurd rfl h
theorem aaT(H:x0 D):∀(R:List fH),(∀r∈R,jp r.aq/\(r.aM=false->0<=iV (ln D e) r.aq)/\(r.aM=true->0<iV (ln D e) r.aq))->∀t∈m6 dk fb jM jK R,∀o,iS D e t o->o=nb true
 |[],_,t,h=>by cases h
 |r::R,c,t,h=>by
  rcases Ic.1 (show t∈(r::R).filterMap (oa dk fb jM jK r)++m6 dk fb jM jK R from h) with h|h
  ·obtain⟨s,k,b⟩:=List.mem_filterMap.1 h;unfold oa at b;split at b
   ·cases b
   ·simp only[O5] at b;subst b;obtain⟨r1,l,g⟩:=c r (by simp);obtain⟨i,s2,s3⟩:=c s k;have P:=Hm r1 i;have j:iV (ln D e) (jK r.aq s.aq)=iV (ln D e) r.aq*iV (ln D e) s.aq:=by unfold jK;rw[SN];exact aow _ r1.k i.k
    have r0:0<=iV (ln D e) r.aq:=by
     cases h:r.aM with
     |false=>exact l h
     |true=>exact Rat.le_of_lt (g h)
    have s0:0<=iV (ln D e) s.aq:=by
     cases h:s.aM with
     |false=>exact s2 h
     |true=>exact Rat.le_of_lt (s3 h)
    intro o q;refine aFr H P.k ?_ (λd=>?_) q
    ·rw[j];exact Rat.mul_nonneg r0 s0
    ·rw[Hi] at d;rw[j];exact Rat.mul_pos (g d.1) (s3 d.2)
  ·exact aaT H R (λx u=>c x (OJ _ u)) t h
theorem mv.mono(h:mv n t):mv (n+1) t:=by
 induction h with
 |var n s=>exact .var _ s
 |iW n o h=>exact .iW _ o h
 |kS n h b l c g d=>exact .kS _ h b l c d
theorem mv.le{m:Nat}(h:mv n t)(b:n<=m):mv m t:=by
 induction b with
 |refl=>exact h
 |step _ c=>exact c.mono
theorem SU(c:h∈pv)(d:h.2.2.2.2=1)(g:mv n a):mv (n+1) (cO h [a]):= .kS n h c [a] d.symm λt b=>by simp at b;rw[b];exact g
theorem Ew(d:h∈pv)(g:h.2.2.2.2=2){b:aB}(i:mv n a)(j:mv n b):mv (n+1) (cO h [a,b]):= .kS n h d [a,b] g.symm λt c=>by
 simp at c;rcases c with rfl|rfl
 ·exact i
 ·exact j
theorem xY:∀h∈[M6,NO,F4,Bz,UG,Tg,(4,0x6c697370,5,0x657175616c,2)],h∈pv:=by decide+kernel
theorem aik:∀h∈iu++i1++lS,h∈pv:=by decide+kernel
theorem azz:(u0.all λx=>Nat.blt x.2.natAbs 1000)=true:=by kernel_rfl
theorem Pw{z:Rat}(h:fV z)(n:Nat):mv n (cW (ef z)):= .iW n _ (yB (n:=0) (c:=1) (.leaf (.inr ⟨z,rfl,by
 have b:∀k:Nat,k<1000->(cU k).length<=100:=λk g=>by
  have:=xt (x:=k) (y:=999) (by omega);have e:(cU 999).length=3:=by decide+kernel
  omega
 unfold fc;refine⟨b _ (by have:=abE h;unfold dZ at this;omega),b _ ?_⟩;rcases h with h|h
 ·omega
 ·have d:=cB azz h.mem;have i:(z.den:Int).natAbs<1000:=pn d;omega⟩)) (by omega))
theorem aaG(i:Nat):mv 1 (ec i):=by
 have b:∀j,mv 0 (dW j):=λj=> .var 0 (4,0x75736572,1,0x78+j);unfold ec;split
 ·exact(b i).mono
 ·split
  ·exact SU (h:=UG) (xY _ (by decide)) rfl (b _)
  ·exact SU (h:=Tg) (xY _ (by decide)) rfl (b _)
theorem aE9{l:bE}(h:mL n t l):mv (n+4) t:=by
 induction h with
 |num z b=>exact Pw (adN b) _
 |add n z i t l b hi h c=>exact Ew (h:=M6) (xY _ (by decide)) rfl ((Ew (h:=NO) (n:=1) (xY _ (by decide)) rfl (Pw (adN b) _) (aaG i)).le (by omega)) c
theorem GJ(h:n1 t P):mv 6 t:=by obtain⟨n,l,b,h,_⟩:=h;exact(aE9 h).le (by omega)
theorem JB(h:je t)(n:Nat):mv n t:=by
 cases h with
 |var i hi=>exact .var n (4,0x75736572,1,0x78+i)
 |iW o h=>exact .iW n o h.Pk.MV
theorem Ql(h:qw t)(n:Nat):mv (n+1) t:=by
 cases h with
 |t0 _ h=>exact JB h _
 |kS h l b H=>exact .kS n h (aik h b) l H.ab λt c=>JB (H.ah t c) n
theorem Lit.KH(h:Lit t):mv 8 t:=by
 have g:∀{a:aB},mv 7 a->mv 8 (bU bP fe [a]):=λd=>SU (h:=Bz) (xY _ (by decide)) rfl d;have i:∀{n:Nat} {a b:aB},mv n a->mv n b->mv (n+1) (bU bP eu [a,b]):=λd c=>Ew (h:=F4) (xY _ (by decide)) rfl d c;have j:∀{n:Nat} {a b:aB},mv n a->mv n b->mv (n+1) (bU bP iB [a,b]):=λd c=>Ew (h:=(4,0x6c697370,5,0x657175616c,2)) (xY _ (by decide)) rfl d c;cases h with
 |Lb a b P Q d c=>exact(i (GJ d) (GJ c)).mono
 |Qw a b P Q d c=>exact g (i (GJ d) (GJ c))
 |Lh a b P Q d c=>exact g (j (GJ d) (GJ c))
 |Me a h=>exact Ql h 7
 |iR a h=>exact g (Ql h 6)
 |nH a b h c=>exact g (j (Ql h 5) (JB c 6))
 |eq a b h c=>exact j (Ql h 6) (JB c 7)
 |aE a b h c=>exact g (i (JB h 6) (JB c 6))
theorem XD{h:lT}(c:h∈pv)(d:h.2.2.2.2=2)(b:h.1=4/\h.2.1=0x6c697370){n:Nat}:∀{l:aY},l≠[]->(∀t∈l,mv n t)->mv (n+l.length) (mz (.s h.2.2.1 h.2.2.2.1) l)
 |[],h,_=>absurd rfl h
 |[x],_,h=>(h x (by simp)).le (by simp)
 |x::y::r,_,g=>by
  have i:=XD c d b (n:=n) (l:=y::r) (by simp) λt j=>g t (OJ _ j);have k:=(g x (by simp)).le (m:=n+(y::r).length) (by simp);have:=Ew c d k i;have e:cO h [x,mz (.s h.2.2.1 h.2.2.2.1) (y::r)]=mz (.s h.2.2.1 h.2.2.2.1) (x::y::r):=by show bU (.s h.1 h.2.1) _ _=_;rw[b.1,b.2];rfl
  rw[e] at this;exact this
theorem as6{m:cw}(hd:fV m.U):mv 4 (jM m):=by
 have i:=oD m.k;have j:=avC (c:=ef m.U) (asT:=decide (m.U=1)) (l:=fb m.k);have g:∀t∈mr (ef m.U) (decide (m.U=1)) (fb m.k),mv 1 t:=by
  intro t b;have d:∀t∈fb m.k,mv 1 t:=by
   intro t b;unfold fb at b;split at b
   ·cases b
   ·split at b
    ·simp at b;rw[b];exact aaG _
    ·simp at b;rcases b with rfl|rfl<;>exact aaG _
  unfold mr at b;split at b
  ·rcases pG.1 b with rfl|h
   ·exact Pw hd _
   ·exact d t h
  ·exact d t b
 exact(XD (h:=NO) (xY _ (by decide)) rfl ⟨rfl,rfl⟩ TZ g).le (by omega)
theorem aru(d:p.length<=36)(hd:∀m∈p,fV m.U):mv 40 (jC dk jM p):=by
 cases p with
 |nil=>exact Pw aey _
 |cons m r=>exact(XD (h:=M6) (n:=4) (xY _ (by decide)) rfl ⟨rfl,rfl⟩ (l:=(m::r).map jM) (by simp) λt b=>by obtain⟨x,c,rfl⟩:=yd.1 b;exact as6 (hd x c)).le (by rw[ER];omega)
theorem amh:∀(R:List fH),(∀r∈R,jp r.aq)->∀t∈m6 dk fb jM jK R,mv 42 t
 |[],_,t,h=>by cases h
 |r::R,b,t,h=>by
  rcases Ic.1 (show t∈(r::R).filterMap (oa dk fb jM jK r)++m6 dk fb jM jK R from h) with h|h
  ·obtain⟨s,g,e⟩:=List.mem_filterMap.1 h;unfold oa at e;split at e
   ·cases e
   ·simp only[O5] at e;subst e;have P:=Hm (b r (by simp)) (b s g);have c:=aru P.aa P.ad;have d:mv 40 (cW (dk.num 0)):=Pw aey _;unfold oY;split
    ·exact(Ew (h:=F4) (xY _ (by decide)) rfl d c).mono
    ·exact SU (h:=Bz) (xY _ (by decide)) rfl (Ew (h:=F4) (xY _ (by decide)) rfl c d)
  ·exact amh R (λx i=>b x (OJ _ i)) t h
end
end
def tG(a:aw):aB:=match a with
 | .ok (.a0 [.agg F,.a9 _]) _ _ _=>F
 |_=>[]
def Ua(a:aw):Bool:=match a with
 | .ok (.a0 [.agg _,.a9 _]) ub _ _=>Nat.beq ub 0
 |_=>false
theorem atW{a:aw}(h:Ua a=true):∃e s d,a= .ok (.a0 [.agg (tG a),.a9 e]) 0 s d:=by
 unfold Ua at h;split at h
 ·rename_i F e ub s d;have:=dp h;subst this;exact⟨e,s,d,rfl⟩
 ·cases h
def Og:aY->List ij
 |[]=>[]
 |[.s a b,.s c d]::r=>(a,b,c,d)::Og r
 |_::r=>(0,0,0,0)::Og r
def QL:aY->Bool
 |[]=>true
 |[.s _ _,.s _ _]::r=>QL r
 |_=>false
theorem aks:∀{l:aY},QL l=true->(Og l).map jF=l
 |[],_=>rfl
 |x::r,h=>by
  unfold QL at h;split at h
  ·rename_i e;cases e
  ·rename_i a b c d g e;simp only[kP] at e;obtain⟨rfl,rfl⟩:=e;simp only[Og,mG,aks h,jF]
  ·cases h
def PP(x:Option an):aY:=match x with
 |some (.aQ _ l)=>l
 |_=>[]
def Xa(n:Nat)(x:Option an):Bool:=match x with
 |some (.aQ m _)=>Nat.beq m n
 |_=>false
theorem aqG{n:Nat}{x:Option an}(h:Xa n x=true):x=some (.aQ n (PP x)):=by
 unfold Xa at h;split at h
 ·have:=dp h;subst this;rfl
 ·cases h
noncomputable def Dc(x y:aB):Bool:=vS (.agg x) (.agg y)
theorem D9{x y:aB}(h:Dc x y=true):x=y:=by have:=RA (.agg x) (.agg y) h;simpa using this
section
variable[Tok]
noncomputable def agh:aY:=kY++[ef 0,ef 1,ef (-1),ef 2]
theorem ax2:∀o∈agh,fU o:=λo h=>by
 rcases Ic.1 h with h|h
 ·exact Zb h
 ·have a:∀z:Int,(fc z<=100/\fc 1<=100)->fU (ef z):=λz b=>yB (n:=0) (.leaf (.inr ⟨z,rfl,b⟩)) (by omega);simp only[pG,CY,wN] at h;rcases h with rfl|rfl|rfl|rfl
  ·exact a 0 (by decide+kernel)
  ·exact a 1 (by decide+kernel)
  ·exact a (-1) (by decide+kernel)
  ·exact a 2 (by decide+kernel)
noncomputable def abn(t:aB):aB:=match t with
 |[_,.s a b,.s c d,_,_,_,_,_,_,_,_]=>yb (.s a b) (.s c d)
 |_=>cW tu
noncomputable def Nh(E:List lT):Nat->aB->Bool
 |0,t=>false
 |n+1,t=>Dc (abn t) t||(agh.any (λo=>Dc (cW o) t)||E.any λh=>Xa 11 t[10]? &&(Dc ((cO h []).take 10) (t.take 10)&&(Nat.beq t.length 11&&(Nat.beq (PP t[10]?).length h.2.2.2.2&&(PP t[10]?).all (Nh E n)))))
theorem aF0{h:lT}{t:aB}{l:aY}(a:(cO h []).take 10=t.take 10)(b:t[10]? =some (.aQ 11 l))(c:t.length=11):cO h l=t:=by
 have e:t.drop 10=[.aQ 11 l]:=by rw[iK (by omega),iL (by omega)];rw[(e6.1 b).2]
 rw[<-Bx 10 t,<-a,e];rfl
theorem Wk{E:List lT}(c:∀h∈E,h∈pv):∀{n:Nat} {t:aB},Nh E n t=true->mv n t/\((∀h∈E,h∈qi::(zW++wM))->wI t)
 |0,t,h=>by cases h
 |n+1,t,h=>by
  simp only[Nh,dS] at h;rcases h with h|h|h
  ·have h:=D9 h;unfold abn at h;split at h
   ·rw[<-h];exact⟨.var _ (_,_,_,_),λ_=> .var (_,_,_,_)⟩
   ·rw[<-h];exact⟨.iW _ _ (xd false),λ_=> .iW _⟩
  ·obtain⟨o,q,h⟩:=pL.1 h;rw[<-D9 h];exact⟨.iW _ o (ax2 o q),λ_=> .iW o⟩
  ·obtain⟨g,d,h⟩:=pL.1 h;simp only[Hi] at h;obtain⟨i,j,k,b,r⟩:=h;have e:=aF0 (D9 j) (aqG i) (dp k);have b:=dp b;clear i j k;generalize PP t[10]? =l at*;subst e;have p:∀s∈l,mv n s/\((∀h∈E,h∈qi::(zW++wM))->wI s):=λs a=>by exact Wk c (cB r a)
   exact⟨.kS n g (c g d) l b λs a=>(p s a).1,λH=> .kS g (H g d) l λs a=>(p s a).2 H⟩
end
section
variable[Tok]
noncomputable def Wp(x:an):Bool:=r7 x gq js js false gq gq gq (λ_ _=>true) gq
noncomputable def Fw(F:aB):aY:=PP F[2]?
def Be(F:aB):aB:=(F.drop (0+15)).take 11
noncomputable def R7(F:aB):Bool:=match Fw F with
 |[[.s a b,.s c d]]=>Dc (cO qi [yb (.s a b) (.s c d),cW (nb false),cW (nb true)]) (Be F)
 |_=>false
noncomputable def CH(h:lT)(a c:aw):Bool:=Ua c&&(Nat.beq (tG c).length 37&&(b8 (tG c)&&(([ao 0,ao 1,ao 2,ao 3].any λk=>Dc [k] (((tG c).drop 3).take 1))&&
 (!(rO.any λg=>uT g h)||(Ua a&&(Dc (((tG c).drop 2).take 2) [.aQ 2 (Fw (tG a)),ao 1]&&(Dc (Be (tG a)) (Be (tG c))&&(QL (Fw (tG a))&&(Nat.beq (Fw (tG a)).length h.2.2.2.2&&(Nh pv 40 (Be (tG a))&&((!(wM.any λg=>uT g h)||Nh (qi::(zW++wM)) 40 (Be (tG a)))&&(!uT Bz h||R7 (tG a)))))))))))))
noncomputable def tk(n:Nat)(w:an)(h:lT):aw:=bB bD n 94 [w,.agg (jF (sV h))] 0 .nil
noncomputable def IX(i k n:Nat)(a:aw):Bool:= @aw.rec (λ_=>Bool) false (λw ub _ _=>cS (Nat.beq ub 0) (cS (Wp w) (((pv.drop i).take k).all λh=>cS (dy (bB bD (n+60) 153 [w,.agg (jF (sV h))] 0 .nil) (.a0 [ao h.2.2.2.2,.a9 true])) (CH h (tk 60 w h) (tk (n+60) w h))))) a
end
end Go.Hf

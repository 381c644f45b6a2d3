import Derived.Test.YthiipifjdfmblaaGreatDoorBb
import Derived.Test.YthiipifjdfmblaaGreatDoorAq
import Derived.Test.YthiipifjdfmblaaGreatDoorAn
import Derived.Test.YthiipifjdfmblaaGreatDoorBa
set_option linter.all false
set_option maxRecDepth 100000
namespace Go.Hf
open Go.RowKit
section
variable{a b:Nat} {c d:Rat} {p q:bE}
theorem U5:fV 0:= .inl ⟨rfl,by decide,by decide⟩
theorem DN(b:Nat):fW 0 b=b:=rfl
theorem IQ(a:Nat):fW a 0=a:=by
 unfold fW;split
 ·omega
 ·rw[cv rfl]
theorem H1(e:a≠0:=by omega)(g:b≠0:=by omega):fW a b=10+9*(min a b-1)+(max a b-1):=by unfold fW;rw[if_neg e,if_neg g]
theorem FV{c d:Nat}(i:a<10)(j:b<10)(k:c<10)(l:d<10)(h:fW a b=fW c d):(a=c/\b=d)\/(a=d/\b=c):=by
 rcases ku a with rfl|pa
 ·rw[DN] at h;rcases ku c with rfl|e
  ·rw[DN] at h;omega
  ·rcases ku d with rfl|g
   ·rw[IQ] at h;omega
   ·rw[H1] at h;omega
 ·rcases ku b with rfl|n
  ·rw[IQ] at h;rcases ku c with rfl|e
   ·rw[DN] at h;omega
   ·rcases ku d with rfl|g
    ·rw[IQ] at h;omega
    ·rw[H1] at h;omega
  ·rw[H1] at h;rcases ku c with rfl|e
   ·rw[DN] at h;omega
   ·rcases ku d with rfl|g
    ·rw[IQ] at h;omega
    ·rw[H1] at h;omega
theorem aao{x:cw}(j:x.k<10):∀{g:bE},lI g->(∀m∈g,m.k<10)->∀k,fa (g.map λy=>(⟨fW x.k y.k,x.U*y.U⟩:cw)) k=[]\/∃y∈g,fW x.k y.k=k/\fa (g.map λy=>(⟨fW x.k y.k,x.U*y.U⟩:cw)) k=[⟨k,x.U*y.U⟩]
 |[],_,_,k=> .inl rfl
 |y::r,h,l,k=>by
  obtain⟨t,u⟩:=o4.1 h;have w:=l y eS;by_cases e:fW x.k y.k=k
  ·subst e;right;refine⟨y,eS,rfl,?_⟩;rw[gm];have o:=Fx (m:=(⟨fW x.k y.k,x.U*y.U⟩:cw)) (r:=r.map λy=>⟨fW x.k y.k,x.U*y.U⟩);simp only at o;rw[o];have:fa (r.map λy=>(⟨fW x.k y.k,x.U*y.U⟩:cw)) (fW x.k y.k)=[]:=by unfold fa;rw[List.filter_eq_nil_iff];intro m n;obtain⟨z,i,rfl⟩:=gp.1 n;have a:=t z i;have A:=l z (gv _ i);simp only[nm];intro h;rcases FV j A j w h with h|h<;>omega
   rw[this]
  ·have B:fa ((y::r).map λy=>(⟨fW x.k y.k,x.U*y.U⟩:cw)) k=fa (r.map λy=>(⟨fW x.k y.k,x.U*y.U⟩:cw)) k:=by unfold fa;rw[List.map_cons,List.filter_cons_of_neg (by simpa using e)]
   rw[B];rcases aao j u (λm n=>l m (gv _ n)) k with h|⟨z,i,h⟩
   ·exact .inl h
   ·exact .inr ⟨z,gv _ i,h⟩
theorem Yj{g:bE}(l:lI g)(n:∀m∈g,m.k<10):∀{ps:bE},lI ps->(∀m∈ps,m.k<10)->∀k,∃i:List (cw×cw),fa (eK fW ps g) k=i.map (λz=>⟨k,z.1.U*z.2.U⟩)/\(i.map (·.1)).Sublist ps/\∀z∈i,z.2∈g/\fW z.1.k z.2.k=k
 |[],_,_,k=>⟨[],rfl,by simp,by simp⟩
 |x::r,h,o,k=>by
  obtain⟨D,u⟩:=o4.1 h;obtain⟨i,e,s,t⟩:=Yj l n u (λm w=>o m (gv _ w)) k;have A:eK fW (x::r) g=(g.map λy=>⟨fW x.k y.k,x.U*y.U⟩)++eK fW r g:=by simp[eK]
  rw[A,E3,e];rcases aao (o x eS) l n k with f|⟨y,B,C,f⟩
  ·exact⟨i,by rw[f];rfl,s.trans (List.sublist_cons_self _ _),t⟩
  ·refine⟨(x,y)::i,by rw[f];rfl,s.cons_cons x,λz j=>?_⟩;rcases gy.1 j with rfl|j
   ·exact⟨B,C⟩
   ·exact t z j
theorem sQ(h:c=1\/c= -1):gQ 1 c:=by
 rcases h with rfl|rfl
 ·exact⟨1,rfl,by decide⟩
 ·exact⟨-1,rfl,by decide⟩
theorem Ti(h:c=1\/c= -1):c∈([1,-1]:List Rat):=by simpa using h
theorem jp.co(h:jp p){m:cw}(e:m∈p):gQ 16 m.U\/m.U∈pz:=by
 rcases h.t with t|t
 ·exact .inl (t m e).1
 ·by_cases g:m.k=0
  ·exact .inr ((t m e).1 g)
  ·exact .inl ((sQ ((t m e).2 g)).mono (by omega))
theorem att(h:gQ 16 c\/c∈pz)(g:gQ 16 d\/d∈pz):l9 c d=true/\fV (c*d):=by
 rcases h with h|h<;>rcases g with g|g
 ·exact⟨axR h g,wY ((h.mul g).mono (by omega))⟩
 ·obtain⟨z,rfl,e⟩:=h;have:=cB (cB W7 (JV e)) g;simp only[cg] at this;exact⟨this.1,sc this.2.2⟩
 ·obtain⟨z,rfl,e⟩:=g;have:=cB (cB W7 (JV e)) h;simp only[cg] at this;rw[Rat.mul_comm];exact⟨this.2.1,sc this.2.2⟩
 ·have:=cB (cB anp h) g;simp only[cg] at this;exact⟨this.1,sc this.2⟩
def zs(c d:Rat):Prop:=kj c d=true/\kj d c=true/\fV (c+d)
theorem apG(h:zs c d):zs d c:=⟨h.2.1,h.1,by rw[Et];exact h.2.2⟩
theorem Js{a b:Rat}(i:gQ 16 a)(j:gQ 16 b)(k:gQ 16 c)(l:gQ 16 d):zs (a*b) (c*d):=by
 obtain⟨x,rfl,n⟩:=i;obtain⟨y,rfl,o⟩:=j;obtain⟨z,rfl,r⟩:=k;obtain⟨w,rfl,t⟩:=l;have fC:tQ (x*y).natAbs=true:=by rw[pV];exact cB (cB S6 (mem_range (by omega))) (mem_range (by omega))
 have e:tQ (z*w).natAbs=true:=by rw[pV];exact cB (cB S6 (mem_range (by omega))) (mem_range (by omega))
 have g:(x*y).natAbs<=256:=by rw[pV];have:=s5 n o;omega
 have h:(z*w).natAbs<=256:=by rw[pV];have:=s5 r t;omega
 rw[<-GN,<-GN];exact⟨MW fC e g h,MW e fC h g,wY ⟨x*y+z*w,by rw[Rat.intCast_add],by omega⟩⟩
theorem Ta{q n m:Rat}(e:q∈pz)(g:gQ 16 n)(h:gQ 8 m):zs (n*q) m:=by obtain⟨z,rfl,i⟩:=g;obtain⟨w,rfl,j⟩:=h;have:=cB (cB (cB amB (JV i)) e) (JV j);simp only[cg] at this;exact⟨this.1,this.2.1,sc this.2.2⟩
theorem an2(u:jp p)(w:jp q){x y i h:cw}(j:x∈p)(n:y∈q)(o:i∈p)(k:h∈q)(B:x.k<i.k)(C:x.k=h.k)(D:y.k=i.k):zs (x.U*y.U) (i.U*h.U):=by
 rcases u.t with e|e<;>rcases w.t with g|g
 ·exact Js (e x j).1 (g y n).1 (e i o).1 (g h k).1
 ·have r:=sQ ((g y n).2 (by omega));by_cases l:x.k=0
  ·have z:=(g h k).1 (by omega);refine apG (Ta z (e i o).1 ?_);exact(((e x j).2 l).mul r).mono (by omega)
  ·exact Js (e x j).1 (r.mono (by omega)) (e i o).1 ((sQ ((g h k).2 (by omega))).mono (by omega))
 ·have t:=sQ ((e i o).2 (by omega));by_cases l:x.k=0
  ·have A:=(e x j).1 l;rw[Rat.mul_comm x.U];exact Ta A (g y n).1 ((t.mul ((g h k).2 (by omega))).mono (by omega))
  ·exact Js ((sQ ((e x j).2 l)).mono (by omega)) (g y n).1 (t.mono (by omega)) (g h k).1
 ·have r:=(g y n).2 (by omega);have t:=(e i o).2 (by omega);by_cases l:x.k=0
  ·have:=cB (cB (cB (cB agG ((e x j).1 l)) ((g h k).1 (by omega))) (Ti r)) (Ti t);simp only[cg] at this;exact⟨this.1,this.2.1,sc this.2.2⟩
  ·exact Js ((sQ ((e x j).2 l)).mono (by omega)) ((sQ r).mono (by omega)) ((sQ t).mono (by omega)) ((sQ ((g h k).2 (by omega))).mono (by omega))
theorem zn(g:jp p)(i:jp q):Mo p q:=by
 have B:∀x∈p,∀y∈q,l9 x.U y.U=true/\fV (x.U*y.U):=λx n y o=>att (g.co n) (i.co o);have C:∀k,fa (eK fW p q) k=[]\/(∃x∈p,∃y∈q,fa (eK fW p q) k=[⟨k,x.U*y.U⟩])\/∃a c,fa (eK fW p q) k=[⟨k,a⟩,⟨k,c⟩]/\zs a c:=by
  intro k;obtain⟨A,e,s,j⟩:=Yj i.U.g0 i.k g.U.g0 g.k k;have sz:(A.map (·.1)).Pairwise λx y=>x.k<y.k:=List.Pairwise.sublist s g.U.g0;have l:∀z∈A,z.1∈p:=λz h=>s.subset (Nn h);rw[e]
  match A,sz,l,j with
  |[],_,_,_=>exact .inl rfl
  |[z],_,l,j=>exact .inr (.inl ⟨z.1,l z (by simp),z.2,(j z (by simp)).1,rfl⟩)
  |[z,w],sz,l,j=>
   have a:=j z (by simp);have c:=j w (by simp);have fC:=l z (by simp);have t:=l w (by simp);have D:z.1.k<w.1.k:=by simpa using sz
   refine .inr (.inr ⟨_,_,rfl,?_⟩);rcases FV (g.k _ fC) (i.k _ a.1) (g.k _ t) (i.k _ c.1) (a.2.trans c.2.symm) with h|h
   ·omega
   ·exact an2 g i fC a.1 t c.1 D h.1 h.2
  |z::w::v::r,sz,l,j=>
   exfalso;have a:=j z (by simp);have c:=j w (by simp);have d:=j v (by simp);have fC:=l z (by simp);have t:=l w (by simp);have E:=l v (by simp);simp only[gm,o4] at sz;have G:=sz.1 w.1 (by simp);have H:=sz.2.1 v.1 (by simp);rcases FV (g.k _ fC) (i.k _ a.1) (g.k _ t) (i.k _ c.1) (a.2.trans c.2.symm) with h|h
   ·omega
   ·rcases FV (g.k _ fC) (i.k _ a.1) (g.k _ E) (i.k _ d.1) (a.2.trans d.2.symm) with h'|h'
    ·omega
    ·omega
 refine⟨g.aa,i.aa,g.k,i.k,B,λk=>?_,λk=>?_⟩
 ·rcases C k with h|⟨x,n,y,o,h⟩|⟨a,c,h,u⟩
  ·exact .inl h
  ·exact .inr (.inl ⟨_,h⟩)
  ·exact .inr (.inr ⟨_,_,h,u.1,u.2.1,trivial⟩)
 ·rw[<-AT];rcases C k with h|⟨x,n,y,o,h⟩|⟨a,c,h,u⟩
  ·rw[h];exact U5
  ·rw[h];simp only[cx,fP,jb];exact(B x n y o).2
  ·rw[h];simp only[cx,fP,jb];exact u.2.2
end
section
variable{z:Int} {n:Nat} {t:aB} {l:bE}
section
variable[Tok]
theorem bl.run{C:Fn->Prop}(h:∀n,C (bB bD (n+9))):bl C:=bl.kQ 9 h
structure mf (u:Fn) (E:cr) (t:aB) (p:bE):Prop where
 t11:cq t
 ah:fy u 154 E [.agg t] p
 ai:fy u 173 E [.agg t] p
section
variable{E:cr} {K:Nat->Prop} {L:Nat} (H:kI E K L)
include H
theorem kI.fC:bl λu=>aK u 37 [ao (-1)] (.agg (E.num (-1)))/\aK u 60 [ao (-1)] (.agg (E.num (-1))):=qx.imp λn h=>by rw[H.num];have a:=h.int (-1) (by decide);have c:=h.zh (-1) (by decide);exact⟨a,c⟩
theorem kI.aku:∃g,∀n,g<=n->∀a b P Q,mf (bB bD n) E a P->mf (bB bD n) E b Q->nB K Q->nv E K P (hB Q)->fy (bB bD (n+1)) 99 E [.agg a,.agg b] (ei (P++hB Q))/\fy (bB bD (n+1)) 108 E [.agg b,.agg a] (ei (P++hB Q)):=by
 obtain⟨g,h⟩:=(H.fC.and (H.neg.and H.add));refine⟨g,λn x a b P Q d e o p=>?_⟩;obtain⟨m,q,r⟩:=h n x;have u:b8 (E.num (-1))=true:=E.eU _;refine⟨?_,?_⟩
 ·obtain⟨v,i,j⟩:=anq d.t11 e.t11 m.1 u d.ah e.ah (λv c=>(q v Q c o).1) (λv w c k=>(r v w P (hB Q) c k p).1);exact⟨v,i,cI (aM 99 DG n) j⟩
 ·obtain⟨v,i,j⟩:=ag8 e.t11 d.t11 m.2 u d.ai e.ai (λv c=>(q v Q c o).2) (λv w c k=>(r v w P (hB Q) c k p).2);exact⟨v,i,cI (aM 108 Ed n) j⟩
theorem kI.Qm:bl λu=>∀c,fV c->mf u E (cW (ef c)) (ei [⟨0,c⟩]):=H.const.up λn h c i=>by
 have a:=iA (jk c.num c.den) (iY c.num c.den);have e:E.num c=b5 c.num c.den:=H.num c;have b:=h c i;rw[e] at b;refine⟨⟨a.aa,a.e5⟩,?_,?_⟩
 ·obtain⟨v,d,g⟩:=avJ a b.1;exact⟨v,d,cI (aM 154 lV n) g⟩
 ·obtain⟨v,d,g⟩:=asb a b.2;exact⟨v,d,cI (aM 173 lT n) g⟩
end
theorem agD:bl λu=>∀i,i<9->mf u dk (ec i) [⟨i+1,1⟩]:=bl.kQ 40 λn=>by
 intro i hi;have a:cA dk (.aQ 8 [b5 1 1++[atR (i+1)]]) [⟨i+1,1⟩]:= .inr rfl;refine⟨rM i,⟨_,a,?_⟩,⟨_,a,?_⟩⟩
 ·have h:=cB (T6 n) (mem_range hi);exact eN h
 ·have h:=cB (Y9 n) (mem_range hi);exact eN h
theorem adN(a:z.natAbs<=4):fV (z:Rat):=wY ⟨z,rfl,by omega⟩
theorem adw(d:z.natAbs<=4):jp (ei [⟨0,(z:Rat)⟩]):=by
 have b:=rf [⟨0,(z:Rat)⟩];have c:∀m∈ei [⟨0,(z:Rat)⟩],m.k=0:=pD (K:=λk=>k=0) _ (by simp) (by simp);refine⟨b,λm a=>by rw[c m a];omega,?_,.inl λm a=>?_⟩
 ·have:=pP [⟨0,(z:Rat)⟩] [];simp at this;show(hU [] _).length<=6;omega
 ·have e:=m7 b.g0 a;rw[tv,c m a] at e;simp only[cx,fP,jb] at e;rw[<-e];exact⟨⟨z,rfl,by omega⟩,λ_=>⟨z,rfl,by omega⟩⟩
theorem adf{i:Nat}(hi:i<9):jp [⟨i+1,1⟩]:=
 ⟨⟨vC _ _,λm a=>by simp at a;rw[a];show(1:Rat)≠0;decide⟩,λm a=>by simp at a;rw[a];simp only;omega,by simp,.inl λm a=>by simp at a;subst a;exact⟨⟨1,rfl,by decide⟩,λh=>by simp at h⟩⟩
theorem Xe(z:Rat)(i:Nat):ei (eK fW (ei [⟨0,z⟩]) [⟨i+1,1⟩])=ei [⟨i+1,z⟩]:=by
 by_cases h:z=0
 ·subst h;have e:ei [⟨0,0⟩]=[]:=by simp[ei,hU,mZ]
  rw[e];refine LW λk=>?_;simp only[eK,List.flatMap_nil,cx];split<;>simp[jb]
 ·rw[Yv ⟨vC _ _,λm a=>by simp at a;rw[a];exact h⟩];refine LW λk=>?_;simp[eK,DN,Rat.mul_one]
structure ac1 (u:Fn):Prop where
 HD:∀x y:aB,aK u 98 [.agg (bU bP fv [x,y]),fv,ao 2] (.F true)/\aK u 85 [.agg (bU bP fv [x,y]),fv,ao 2] (.F true)
 g2:∀x y:aB,aK u 98 [.agg (bU bP eM [x,y]),fv,ao 2] (.F false)/\aK u 85 [.agg (bU bP eM [x,y]),fv,ao 2] (.F false)
 dh:∀x y:aB,aK u 98 [.agg (bU bP eM [x,y]),eM,ao 2] (.F true)/\aK u 85 [.agg (bU bP eM [x,y]),eM,ao 2] (.F true)
 ns:∀x:aB,aK u 98 [.agg (bU bP jy [x]),fv,ao 2] (.F false)/\aK u 85 [.agg (bU bP jy [x]),fv,ao 2] (.F false)
 hM:∀x:aB,aK u 98 [.agg (bU bP jy [x]),eM,ao 2] (.F false)/\aK u 85 [.agg (bU bP jy [x]),eM,ao 2] (.F false)
 qP:∀x:aB,aK u 98 [.agg (bU bP jy [x]),jy,ao 1] (.F true)/\aK u 85 [.agg (bU bP jy [x]),jy,ao 1] (.F true)
 h8:∀x y:aB,aK u 98 [.agg (bU bP eu [x,y]),eu,ao 2] (.F true)/\aK u 85 [.agg (bU bP eu [x,y]),eu,ao 2] (.F true)
 fI:∀x:aB,aK u 98 [.agg (bU bP fe [x]),eu,ao 2] (.F false)/\aK u 85 [.agg (bU bP fe [x]),eu,ao 2] (.F false)
 Ga:∀x:aB,aK u 98 [.agg (bU bP fe [x]),fe,ao 1] (.F true)/\aK u 85 [.agg (bU bP fe [x]),fe,ao 1] (.F true)
 el:∀x y:aB,aK u 98 [.agg (bU bP iB [x,y]),eu,ao 2] (.F false)/\aK u 85 [.agg (bU bP iB [x,y]),eu,ao 2] (.F false)
 lU:∀x y:aB,aK u 98 [.agg (bU bP iB [x,y]),iB,ao 2] (.F true)/\aK u 85 [.agg (bU bP iB [x,y]),iB,ao 2] (.F true)
theorem G7:bl ac1:=bl.run λn=>⟨λx y=>⟨hE (akr n x y),hE (akB n x y)⟩,
 λx y=>⟨hE (aoB n x y),hE (ayB n x y)⟩,
 λx y=>⟨hE (ani n x y),hE (auD n x y)⟩,
 λx=>⟨hE (au2 n x),hE (ahQ n x)⟩,
 λx=>⟨hE (aC5 n x),hE (aAe n x)⟩,
 λx=>⟨hE (ahX n x),hE (ahL n x)⟩,
 λx y=>⟨hE (aw9 n x y),hE (avH n x y)⟩,
 λx=>⟨hE (aiu n x),hE (azW n x)⟩,
 λx=>⟨hE (aqN n x),hE (apB n x)⟩,
 λx y=>⟨hE (aqc n x y),hE (ahS n x y)⟩,
 λx y=>⟨hE (asz n x y),hE (alQ n x y)⟩⟩
def BF(z:Int)(i:Nat):aB:=bU bP eM [cW (ef z),ec i]
theorem aC0:bl λu=>∀(z:Int) i,z.natAbs<=4->i<9->mf u dk (BF z i) (ei [⟨i+1,z⟩]):=by
 refine((k8.Qm.and agD).and (Kg.and G7)).up λn h z i e hi=>?_;obtain⟨⟨r,x⟩,o,q⟩:=h;obtain⟨y,A⟩:=q.g2 (cW (ef z)) (ec i);obtain⟨B,C⟩:=q.dh (cW (ef z)) (ec i);have c:=r z (adN e);have a:=x i hi;have d:=ks (p:=bP) (n:=eM) (l:=[cW (ef z),ec i]) rfl;refine⟨⟨d.aa,d.e5⟩,?_,?_⟩
 ·obtain⟨v,b,g⟩:=acf d c.t11 a.t11 y B c.ah a.ah (λv w j k=>(o v w _ _ j k (zn (adw e) (adf hi))).1);rw[Xe] at b;exact⟨v,b,cI (aM 154 lV n) g⟩
 ·obtain⟨v,b,g⟩:=XT d c.t11 a.t11 A C c.ai a.ai (λv w j k=>(o v w _ _ j k (zn (adw e) (adf hi))).2);rw[Xe] at b;exact⟨v,b,cI (aM 173 lT n) g⟩
inductive mL:Nat->aB->bE->Prop
 |num (z:Int) (hz:z.natAbs<=4):mL 0 (cW (ef z)) [⟨0,z⟩]
 |add (n:Nat) (z:Int) (i:Nat) (t:aB) (l:bE) (hz:z.natAbs<=4) (hi:i<9) (h:mL n t l):mL (n+1) (bU bP fv [BF z i,t]) (⟨i+1,z⟩::l)
theorem mL.amE(h:mL n t l):pw 4 l/\l.length=n+1/\(∀m∈l,m.k<10)/\(fa l 0).length<=1/\∀k,k≠0->(fa l k).length<=n:=by
 induction h with
 |num z j=>
  refine⟨λm g=>by simp at g;rw[g];exact⟨z,rfl,j⟩,rfl,λm g=>by simp at g;rw[g];simp,?_,λk o=>?_⟩
  ·have:=GP (λm:cw=>decide (m.k=0)) [⟨0,(z:Rat)⟩];exact this
  ·simp[fa];omega
 |add n z i t l j hi h q=>
  obtain⟨a,b,c,d,e⟩:=q;refine⟨λm g=>?_,by simp[b],λm g=>?_,?_,λk o=>?_⟩
  ·rcases gy.1 g with rfl|g
   ·exact⟨z,rfl,j⟩
   ·exact a m g
  ·rcases gy.1 g with rfl|g
   ·simp only;omega
   ·exact c m g
  ·have:fa (⟨i+1,(z:Rat)⟩::l) 0=fa l 0:=by unfold fa;rw[List.filter_cons_of_neg (by simp)]
   rw[this];exact d
  ·by_cases p:i+1=k
   ·have:fa (⟨i+1,(z:Rat)⟩::l) k=⟨i+1,(z:Rat)⟩::fa l k:=by unfold fa;rw[List.filter_cons_of_pos (by simpa using p)]
    rw[this];have:=e k o;simp;omega
   ·have:fa (⟨i+1,(z:Rat)⟩::l) k=fa l k:=by unfold fa;rw[List.filter_cons_of_neg (by simpa using p)]
    rw[this];have:=e k o;omega
theorem mL.OO(h:mL n t l)(p:n<=2):pw 8 (ei l)/\(∀m∈ei l,m.k=0->gQ 4 m.U)/\(ei l).length<=n+1/\(∀m∈ei l,m.k<10):=by
 obtain⟨a,b,c,d,e⟩:=h.amE;have j:=rf l;have o:∀m∈ei l,m.k<10:=pD (K:=λk=>k<10) _ (by simp) c;have co:∀m∈ei l,m.U=cx l m.k:=λm g=>by rw[<-m7 j.g0 g,tv]
 refine⟨λm g=>?_,λm g i=>?_,?_,o⟩
 ·rw[co m g];refine(a.cx m.k).mono ?_;by_cases i:m.k=0
  ·rw[i];omega
  ·have:=e m.k i;omega
 ·rw[co m g,i];exact(a.cx 0).mono (by omega)
 ·have:=pP l [];simp only[kT,kM] at this;show(hU [] l).length<=_;omega
theorem HY:∀n,n<=2->bl λu=>∀t l,mL n t l->mf u dk t (ei l)
 |0,_=>k8.Qm.imp λn h t l g=>by
  cases g with
  |num z j=>exact h z (adN j)
 |k+1,P=>by
  refine((aC0.and (HY k (by omega))).and (k8.add.and G7)).up λn h t l g=>?_;obtain⟨⟨a,I⟩,B,hi⟩:=h;cases g with
  |add _ z i o b j J C=>
   have m:=a z i j J;have r:=I o b C;obtain⟨M,N⟩:=hi.HD (BF z i) o;have d:=ks (p:=bP) (n:=fv) (l:=[BF z i,o]) rfl;obtain⟨f1,f2,f3,f4⟩:=C.OO (by omega);have D:=rf [⟨i+1,(z:Rat)⟩];have G:∀m∈ei [⟨i+1,(z:Rat)⟩],m.k=i+1:=pD (K:=λk=>k=i+1) _ (by simp) (by simp);have O:pw 80 (ei [⟨i+1,(z:Rat)⟩]):=λm a=>by have e:=m7 D.g0 a;rw[tv,G m a] at e;simp only[cx,fP,jb] at e;rw[<-e];exact⟨z,rfl,by omega⟩
   have Q:(ei [⟨i+1,(z:Rat)⟩]).length<=1:=by have:=pP [⟨i+1,(z:Rat)⟩] [];simp only[kT,h9,kM] at this;exact this
   have A:nv dk fT (ei [⟨i+1,(z:Rat)⟩]) (ei b):=Vg D (rf b) O (λm a=>(f1 m a).mono (by omega)) (by omega) (λm a=>by rw[G m a];exact .inl (by omega)) (λm a=> .inl (f4 m a));have e:ei (ei [⟨i+1,(z:Rat)⟩]++ei b)=ei (⟨i+1,(z:Rat)⟩::b):=LW λk=>by rw[qp,tv,tv];simp only[cx,jb]
   refine⟨⟨d.aa,d.e5⟩,?_,?_⟩
   ·obtain⟨v,c,q⟩:=RU d m.t11 r.t11 M m.ah r.ah (λv w x y=>(B v w _ _ x y A).1);rw[e] at c;exact⟨v,c,cI (aM 154 lV n) q⟩
   ·obtain⟨v,c,q⟩:=adQ d m.t11 r.t11 N m.ai r.ai (λv w x y=>(B v w _ _ x y A).2);rw[e] at c;exact⟨v,c,cI (aM 173 lT n) q⟩
def lW(p q:bE):bE:=ei (p++hB q)
theorem aoR{q:bE}(h:g7 q):g7 (hB q):=
 ⟨by unfold lI hB;rw[List.pairwise_map];exact h.g0,λm b=>by
  obtain⟨x,c,rfl⟩:=gp.1 b;intro a;have a:x.U*(-1)=0:=a;have:x.U*(-1)*(-1)=0:=by rw[a,xW]
  rw[Rat.mul_assoc,show(-1:Rat)*(-1)=1 from by decide+kernel,Rat.mul_one] at this;exact h.jD x c this⟩
theorem at0{m:Nat}{a b:aB}{k:bE}(B:mL n a l)(C:mL m b k)(D:n<=2)(c:m<=2):nB fT (ei k)/\nv dk fT (ei l) (hB (ei k))/\jp (lW (ei l) (ei k)):=by
 obtain⟨a1,a2,M,a4⟩:=B.OO D;obtain⟨q,G,N,r⟩:=C.OO c;have i:=rf l;have u:=rf k;have j:=aoR u;have w:pw 8 (hB (ei k)):=λm c=>by obtain⟨x,d,rfl⟩:=gp.1 c;exact(q x d).neg
 have y:∀m∈hB (ei k),m.k<10:=λm c=>by obtain⟨x,d,rfl⟩:=gp.1 c;exact r x d
 have O:(hB (ei k)).length=(ei k).length:=by simp[hB]
 refine⟨atN u (λm c=>(q m c).mono (by omega)) (by omega) (λm c=> .inl (r m c)),Vg i j (λm c=>(a1 m c).mono (by omega)) (λm c=>(w m c).mono (by omega)) (by omega) (λm c=> .inl (a4 m c)) (λm c=> .inl (y m c)),?_⟩;have A:=rf (ei l++hB (ei k));have one:∀{p:bE},lI p->∀k,(fa p k).length<=1:=λ{p} h k=>by rcases um h k with e|⟨x,_,_,e⟩<;>rw[e]<;>simp
 have zero:∀{p:bE},(∀m∈p,m.k=0->gQ 4 m.U)->gQ 4 (cx p 0)->True:=λ_ _=>trivial;have c0:∀{p:bE},lI p->(∀m∈p,m.k=0->gQ 4 m.U)->gQ 4 (cx p 0):=λ{p} h o=>by
  by_cases g:∃m∈p,m.k=0
  ·obtain⟨m,c,e⟩:=g;rw[<-e,m7 h c];exact o m c e
  ·rw[Dm λm c e=>g ⟨m,c,e⟩];exact gQ.zero _
 refine⟨A,pD (K:=λk=>k<10) _ (by simp) λm c=>(fr.1 c).elim (a4 m) (y m),?_,.inl λm c=>?_⟩
 ·have:=pP (ei l++hB (ei k)) [];simp only[kT,kM,lh] at this;show(hU [] _).length<=6;omega
 ·have e:m.U=cx (ei l) m.k+cx (hB (ei k)) m.k:=by rw[<-qp,<-tv];exact(m7 A.g0 c).symm
  rw[e];refine⟨?_,λo=>?_⟩
  ·have I:=(a1.cx m.k).mono (B':=8) (by have:=GW 8 (one i.g0 m.k);omega);have J:=(w.cx m.k).mono (B':=8) (by have:=GW 8 (one j.g0 m.k);omega);exact I.add J
  ·rw[o];refine(c0 i.g0 a2).add (c0 j.g0 λm c g=>?_);obtain⟨x,d,rfl⟩:=gp.1 c;exact(G x d g).neg
end
end
section
variable{o t:aB} {n c m:Nat}
section
variable[Tok]
def JK(o:aB):Prop:=∃k a1 c1 a2 c2 a b a4 d e g,-1000<k/\k<1000/\nr o k a1 c1 a2 c2 a b a4 d e g .aE
theorem Dk(p q:Int):JK (b5 p q):=⟨1,_,_,_,_,0,0,0,0,0,0,by omega,by omega,⟨rfl,rfl⟩⟩
theorem ac8:JK dx:=⟨0,0,0,0,0,0,0,0,0,0,0,by omega,by omega,⟨by unfold dx;rw[bF],rfl⟩⟩
theorem ah7(h:o∈to):(∃a1 c1 a2 c2,o=nt a1 c1 a2 c2)\/(∃a c,o=uV a c)\/∃x∈aEB,o=b5 x.1 x.2:=by
 unfold to at h;rcases fr.1 h with h|h
 ·simp only[kY,gy,LZ,or_false] at h;rcases h with h|h|h|h|h|h|h|h
  ·exact .inl ⟨_,_,_,_,h⟩
  ·exact .inl ⟨_,_,_,_,h⟩
  ·exact .inl ⟨_,_,_,_,h⟩
  ·exact .inl ⟨_,_,_,_,h⟩
  ·exact .inl ⟨_,_,_,_,h⟩
  ·exact .inr (.inl ⟨_,_,h⟩)
  ·exact .inr (.inl ⟨_,_,h⟩)
  ·exact .inr (.inl ⟨_,_,h⟩)
 ·obtain⟨x,b,rfl⟩:=gp.1 h;exact .inr (.inr ⟨x,b,rfl⟩)
theorem Er(o:aB)(h:o∈to):wL o:=by
 rcases ah7 h with⟨a1,c1,a2,c2,rfl⟩|⟨a,c,rfl⟩|⟨x,_,rfl⟩
 ·exact⟨2,_,_,_,_,_,_,_,_,_,_,by omega,by omega,⟨rfl,rfl⟩⟩
 ·exact⟨3,_,_,_,_,_,_,_,_,_,_,by omega,by omega,⟨rfl,rfl⟩⟩
 ·exact⟨1,_,_,_,_,_,_,_,_,_,_,by omega,by omega,⟨rfl,rfl⟩⟩
theorem aD4(o:aB)(h:o∈to):JK o:=by obtain⟨k,a1,c1,a2,c2,a,b,a4,d,e,g,j,l,i⟩:=Er o h;exact⟨k,a1,c1,a2,c2,a,b,a4,d,e,g,by omega,by omega,i⟩
abbrev h0 (n c:Nat) (o:aB):Prop:=lJ (· ∈to) n c o
abbrev jX (n c:Nat) (o:aB):Prop:=lJ JK n c o
theorem h0.NM(h:h0 n c o):jX n c o:=by
 induction h with
 |bh h=>exact .bh (aD4 _ h)
 |cons _ _ a b=>exact .cons a b
theorem h0.mono(h:h0 n c o):h0 (n+1) c o:=by
 induction h with
 |bh h=>exact .bh h
 |cons _ _ a b=>exact .cons a b
theorem jX.mono(h:jX n c o):jX (n+1) c o:=by
 induction h with
 |bh h=>exact .bh h
 |cons _ _ a b=>exact .cons a b
theorem jX.le(h:jX n c o)(a:n<=m):jX m c o:=by
 induction a with
 |refl=>exact h
 |step _ b=>exact b.mono
theorem h0.amJ(h:h0 n c o):c<2^(n+1):=by
 induction h with
 | @bh n o h=>exact O5 (Nat.succ_ne_zero n)
 | @cons n c b a d _ _ e g=>rw[D2 2 (n+1)];omega
theorem jX.v(h:jX n c o):∃k a1 c1 a2 c2 a b a4 g i j L,-1000<k/\k<1000/\nr o k a1 c1 a2 c2 a b a4 g i j L/\((L= .aE)\/∃m d e x y,n=m+1/\L= .aQ 7 [x,y]/\jX m d x/\jX m e y):=by
 cases h with
 |bh h=>obtain⟨k,a1,c1,a2,c2,a,b,a4,g,i,j,l,p,q⟩:=h;exact⟨k,a1,c1,a2,c2,a,b,a4,g,i,j,.aE,l,p,q,.inl rfl⟩
 |cons r u=>exact⟨4,_,_,_,_,_,_,_,_,_,_,_,by omega,by omega,ye,.inr ⟨_,_,_,_,_,rfl,rfl,r,u⟩⟩
theorem jX.ak(h:jX n c o):o.length=7/\b8 o=true:=by obtain⟨k,a1,c1,a2,c2,b,d,a4,e,g,i,L,_,_,a,_⟩:=h.v;exact⟨a.aa,a.pure⟩
theorem ac7:∀m,bl λu=>∀n c j l x y,n<=m->jX n c x->jX j l y->∃e,aK u 65 [.agg x,.agg y] (.F e)/\(x=y->e=true):=by
 have step:∀(P:Nat->aB->Prop) (Q:∀n c o,jX n c o->True) (m:Nat),(bl λu=>∀n c j l x y,n<m->jX n c x->jX j l y->∃e,aK u 65 [.agg x,.agg y] (.F e)/\(x=y->e=true))->bl λu=>∀n c j l x y,n<=m->jX n c x->jX j l y->∃e,aK u 65 [.agg x,.agg y] (.F e)/\(x=y->e=true):=by
  intro P Q m D;refine D.up λN h n c j l x y H R S=>?_;obtain⟨k,a1,c1,a2,c2,a3,c3,a4,c4,a5,c5,L,r,w,z,T⟩:=R.v;obtain⟨k',c0,d1,dq,d2,ee,d3,em,d4,D9,d5,L',A,B,C,I⟩:=S.v;have W:∃e,(x=y->e=true)/\∃s d,n3 (bB bD N) [.agg x,.agg y] 0 .nil= .ok (.F e) 0 s d:=by
   rcases T with rfl|⟨X,en,es,ev,ex,eq,rfl,eR,Z⟩
   ·rcases I with rfl|⟨q',bs,bx,cc,cl,cn,rfl,J,K⟩
    ·exact FP z C ⟨r,w⟩ ⟨A,B⟩ (.inl ⟨rfl,rfl⟩) (.inl ⟨rfl,rfl⟩) (by simp) (by simp) λi p q a g=>by simp at a
    ·exact FP z C ⟨r,w⟩ ⟨A,B⟩ (.inl ⟨rfl,rfl⟩) (.inr rfl) (by simp) (by simp) λi p q a g=>by simp at a
   ·rcases I with rfl|⟨q',bs,bx,cc,cl,cn,rfl,J,K⟩
    ·exact FP z C ⟨r,w⟩ ⟨A,B⟩ (.inr rfl) (.inl ⟨rfl,rfl⟩) (by simp) (by simp) λi p q a g=>by simp at g
    ·refine FP z C ⟨r,w⟩ ⟨A,B⟩ (.inr rfl) (.inr rfl) (by simp) (by simp) λi p q a g=>?_;have cp:(∃d,jX (n-1) d p):=by
      have M:n-1=X:=by omega
      match i,a with
      |0,a=>simp at a;subst a;exact⟨_,by rw[M];exact eR⟩
      |1,a=>simp at a;subst a;exact⟨_,by rw[M];exact Z⟩
      |_+2,a=>simp at a
     have cs:(∃m d,jX m d q):=by
      match i,g with
      |0,g=>simp at g;subst g;exact⟨_,_,J⟩
      |1,g=>simp at g;subst g;exact⟨_,_,K⟩
      |_+2,g=>simp at g
     obtain⟨fn,E⟩:=cp;obtain⟨ge,gl,G⟩:=cs;exact⟨E.ak.1,E.ak.2,G.ak.1,G.ak.2,h _ _ _ _ p q (by omega) E G⟩
  obtain⟨e,h1,h2⟩:=W;exact⟨e,cI (aM 65 n3 N) h2,h1⟩
 intro m;induction m with
 |zero=>exact step (λ_ _=>True) (λ_ _ _ _=>trivial) 0 (bl.jr.imp λn _ j c O l x y H=>by omega)
 |succ m D=>exact step (λ_ _=>True) (λ_ _ _ _=>trivial) (m+1) (D.imp λn h j c O l x y H=>h j c O l x y (by omega))
inductive GE:Nat->aB->Prop
 |ij (n a1 c1 a2 c2:Nat):GE n (yb (.s a1 c1) (.s a2 c2))
 |iW (n m c:Nat) (o:aB) (hm:m<=4) (h:jX m c o):GE n (cW o)
 |kS (n a1 c1 a2 c2:Nat) (l:aY) (hl:l.length<900) (h:∀t∈l,GE n t):GE (n+1) (bU (.s a1 c1) (.s a2 c2) l)
theorem GE.mono(h:GE n t):GE (n+1) t:=by
 induction h with
 |ij n a1 c1 a2 c2=>exact .ij _ _ _ _ _
 |iW n m c o a h=>exact .iW _ m c o a h
 |kS n a1 c1 a2 c2 l b h d=>exact .kS _ _ _ _ _ l b d
theorem GE.le(h:GE n t)(a:n<=m):GE m t:=by
 induction a with
 |refl=>exact h
 |step _ b=>exact b.mono
theorem GE.v(h:GE n t):∃k a1 c1 a2 c2 o a I c,-1000<k/\k<1000/\fk t k (.s a1 c1) (.s a2 c2) o a/\dw 11 a I/\I.length<900/\jX 4 c o/\(I=[]\/∃m,n=m+1/\∀t∈I,GE m t):=by
 have b:∃c,jX 4 c dx:=⟨1,.bh ac8⟩;obtain⟨d,b⟩:=b;cases h with
 |ij n a1 c1 a2 c2=>exact⟨1,_,_,_,_,_,_,[],d,by omega,by omega,yH rfl,.inl ⟨rfl,rfl⟩,by simp,b,.inl rfl⟩
 |iW n m c o e h=>exact⟨2,_,_,_,_,_,_,[],c,by omega,by omega,iA h.ak.1 h.ak.2,.inl ⟨rfl,rfl⟩,by simp,h.le e,.inl rfl⟩
 |kS n a1 c1 a2 c2 l g h=>exact⟨3,_,_,_,_,_,_,l,d,by omega,by omega,ks rfl,.inr rfl,g,b,.inr ⟨n,rfl,h⟩⟩
theorem GE.t11(h:GE n t):cq t:=by obtain⟨k,a1,c1,a2,c2,o,a,I,c,_,_,b,_⟩:=h.v;exact⟨b.aa,b.e5⟩
def OX(u:Fn)(x y:aB):Prop:=∃e,aK u 24 [.agg x,.agg y] (.F e)/\(x=y->e=true)
theorem Wa:∀m,bl λu=>∀n g x y,n<=m->GE n x->GE g y->OX u x y:=by
 have step:∀m,(bl λu=>∀n g x y,n<m->GE n x->GE g y->OX u x y)->bl λu=>∀n g x y,n<=m->GE n x->GE g y->OX u x y:=by
  intro m H;have J:bl λu=>∀n g a j I d,n<m->dw 11 a I->dw 11 j d->I.length<900->d.length<900->(∀t∈I,GE n t)->(∀t∈d,GE g t)->∃e,aK u 68 [a,j] (.F e)/\(I=d->e=true):=H.up λN h n g a j I d C l w S T dB cT=>by
   obtain⟨e,A,B⟩:=Xv l w (by omega) (by omega) λi p q K L=>by have P:=dB p (dr K);have Q:=cT q (dr L);exact⟨P.t11,Q.t11,h n g p q C P Q⟩
   exact⟨e,cI (aM 68 r9 N) B,A⟩
  have D:bl λu=>∀a j I d,dw 11 a I->dw 11 j d->I.length<900->d.length<900->(I=[]\/d=[])->∃e,aK u 68 [a,j] (.F e)/\(I=d->e=true):=bl.jr.up λN _ a j I d l w S T W=>by
   obtain⟨e,A,B⟩:=Xv (u:=bB bD N) l w (by omega) (by omega) λi p q K L=>by
    rcases W with rfl|rfl
    ·simp at K
    ·simp at L
   exact⟨e,cI (aM 68 r9 N) B,A⟩
  refine((J.and D).and (ac7 4)).up λN h n g x y C X Z=>?_;obtain⟨⟨J,D⟩,a3⟩:=h;obtain⟨k,a1,c1,a2,c2,o,a,I,c,k1,k2,hv,l,M,ho,a4⟩:=X.v;obtain⟨k',c3,d1,c4,d2,o',j,d,c',a5,bs,bx,w,O,cc,cl⟩:=Z.v;have ab7:∃e,aK (bB bD N) 68 [a,j] (.F e)/\(I=d->e=true):=by
   rcases a4 with h1|⟨p,c5,dB⟩
   ·exact D a j I d l w M O (.inl h1)
   ·rcases cl with h2|⟨q,eq,cT⟩
    ·exact D a j I d l w M O (.inr h2)
    ·exact J p q a j I d (by omega) l w M O dB cT
  obtain⟨e,A,B⟩:=ab7;have cn:a=j->I=d:=λz=>by
   rcases l with⟨E,cp⟩|E<;>rcases w with⟨G,cs⟩|G
   ·rw[cp,cs]
   ·rw[E,G] at z;cases z
   ·rw[E,G] at z;cases z
   ·rw[E,G] at z;simpa using z
  obtain⟨r,r1,c0⟩:=ao7 hv bx ⟨k1,k2⟩ ⟨a5,bs⟩ l w (a3 _ _ _ _ o o' (cY _) ho cc) ⟨e,A,λz=>B (cn z)⟩;exact⟨r,cI (aM 24 wa N) c0,r1⟩
 intro m;induction m with
 |zero=>exact step 0 (bl.jr.imp λn _ g R x y C=>by omega)
 |succ m H=>exact step (m+1) (H.imp λn h g R x y C=>h g R x y (by omega))
end
end
section
variable{n c:Nat} {o t:aB} {w:Nat×Nat×Nat}
section
variable[Tok]
theorem h0.le{m:Nat}(h:h0 n c o)(a:n<=m):h0 m c o:=by
 induction a with
 |refl=>exact h
 |step _ b=>exact b.mono
theorem h0.eo(a:n<=3)(h:h0 n c o):c<=15:=by have b:=h.amJ;have d:2^(n+1)<=2^4:=Nat.pow_le_pow_right (by omega) (by omega);omega
theorem h0.ak{n c:Nat}{o:aB}(h:h0 n c o):o.length=7/\b8 o=true:=h.NM.ak
theorem Kv:∀m,m<=9->bl λu=>∀n c o,n<m->h0 n c o->∀l:Int,(c:Int)<=l->l<100000->aK u 324 [.agg o,ao l] (ao (l-c))
 |0,_=>bl.jr.imp λn _ k c o i=>by omega
 |m+1,j=>by
  refine((Kv m (by omega)).and ((Kv m (by omega)).up (C:=λu=>∀c o,h0 m c o->∀l:Int,(c:Int)<=l->l<100000->aK u 324 [.agg o,ao l] (ao (l-c))) λN h c o a l b d=>cI (aM 324 D5 N) (apZ Er h (by omega) a b d))).imp λN h n c o p a l b d=>?_;rcases kW n m with g|q
  ·exact h.1 n c o g a l b d
  ·have e:n=m:=by omega
   subst e;exact h.2 c o a l b d
theorem anx:bl λu=>∀n c o,n<=3->h0 n c o->aK u 271 [.agg o] (ao c):=(Kv 4 (by omega)).up λN h n c o b a=>
 cI (aM 271 Ec N) (ayF Er a (by have:=a.eo b;omega) (h n c o (by omega) a 3001 (by have:=a.eo b;omega) (by omega)))
theorem Le:∀m,m<=9->bl λu=>∀n c o,n<m->h0 n c o->∀l:Int,(c:Int)<l->l<100000->aK u 169 [.agg o,ao l] (ao c)
 |0,_=>bl.jr.imp λn _ k c o i=>by omega
 |m+1,j=>by
  refine((Le m (by omega)).and ((Le m (by omega)).up (C:=λu=>∀c o,h0 m c o->∀l:Int,(c:Int)<l->l<100000->aK u 169 [.agg o,ao l] (ao c)) λN h c o a l b d=>cI (aM 169 A6 N) (ako Er h a b d))).imp λN h n c o p a l b d=>?_;rcases kW n m with g|q
  ·exact h.1 n c o g a l b d
  ·have e:n=m:=by omega
   subst e;exact h.2 c o a l b d
theorem KR:bl λu=>∀n c o,n<=3->h0 n c o->aK u 106 [.agg o] (ao c):=(Le 4 (by omega)).up λN h n c o b a=>
 cI (aM 106 ES N) (atW Er a (h n c o (by omega) a 3001 (by have:=a.eo b;omega) (by omega)))
theorem aqJ:∀m,bl λu=>∀n c o,n<=m->h0 n c o->aK u 107 [.agg o] (.F true):=by
 have p:bl λu=>∀o∈to,aK u 107 [.agg o] (.F true):=bl.kQ 40 λn=>by intro o e;have h:=cB (axv n) e;exact eN h
 intro m;induction m with
 |zero=>
  refine p.imp λN h n c o g e=>?_;cases e with
  |bh k=>exact h o k
  |cons _ _=>omega
 |succ m q=>
  refine(p.and (q.up (C:=λu=>∀n c l a d,n<=m->h0 n c a->h0 n l d->aK u 107 [.agg [ao 4,.s 0 0,.s 0 0,.s 0 0,.s 0 0,.s 0 0,.aQ 7 [a,d]]] (.F true)) λN h n c l a d g i j=>
   cI (aM 107 Dz N) (awj i.ak j.ak (h n c a g i) (h n l d g j)))).imp λN h n c o g e=>?_
  cases e with
  |bh k=>exact h.1 o k
  |cons i j=>exact h.2 _ _ _ _ _ (by omega) i j
theorem azj:bl λu=>∀n c o,n<=3->h0 n c o->aK u 39 [.agg o] (.F true):=(KR.and (aqJ 3)).up λN h n c o d a=>
 cI (aM 39 BI N) (aqa a.ak (by have:=a.eo d;omega) (h.1 n c o d a) (h.2 n c o d a))
inductive m5:aB->Nat×Nat×Nat->Prop
 |ij (i:Nat) (hi:i<3):m5 (dW i) (1,0,0)
 |iW (n c:Nat) (o:aB) (hn:n<=3) (h:h0 n c o):m5 (cW o) (0,0,c)
theorem m5.t11(h:m5 t w):cq t:=by
 cases h with
 |ij i hi=>exact⟨rfl,rfl⟩
 |iW n c o a h=>exact⟨(iA h.ak.1 h.ak.2).aa,(iA h.ak.1 h.ak.2).e5⟩
theorem m5.F(h:m5 t w):w.1<=1/\w.2.1=0/\w.2.2<=15/\w.1+w.2.2<=15:=by
 cases h with
 |ij i hi=>simp
 |iW n c o a h=>have:=h.eo a;simp;omega
structure ayk (u:Fn) (t:aB) (w:Nat×Nat×Nat):Prop where
 ah:∀x y z:Int,0<=x/\x<400000->0<=y/\y<400000->0<=z/\z<400000->aK u 233 [.agg t,.agg (ew x y z)] (.agg (ew (x+w.1) (y+w.2.1) (z+w.2.2)))
 ai:aK u 242 [.agg t] (t3 w.1 w.2.1 w.2.2)
 ab:∀l:Int,((w.1+w.2.2:Nat):Int)<l->l<100000->aK u 307 [.agg t,ao l] (ao ((w.1+w.2.2:Nat)))
 ad:aK u 308 [.agg t,ao 200] (ao 1)
 f:aK u 261 [.agg t] (.F true)
theorem AV:bl λu=>∀t w,m5 t w->ayk u t w:=by
 have j:bl λu=>∀t w,m5 t w->aK u 141 [.agg t] .aE:=bl.jr.up λN _ t w h=>by
  cases h with
  |ij i hi=>exact cI (aM 141 tY N) (Te (yH (p:=kl) (n:=uF i) rfl) (by omega))
  |iW n c o g h=>exact cI (aM 141 tY N) (Te (iA h.ak.1 h.ak.2) (by omega))
 have k:bl λu=>∀i,i<3->aK u 261 [.agg (dW i)] (.F true):=bl.kQ 40 λn=>by intro i hi;have h:=cB (aiO n) (mem_range hi);exact eN h
 have q:bl λu=>∀t w,m5 t w->∀x y z:Int,0<=x/\x<400000->0<=y/\y<400000->0<=z/\z<400000->aK u 233 [.agg t,.agg (ew x y z)] (.agg (ew (x+w.1) (y+w.2.1) (z+w.2.2))):=anx.up λN h t w d x y z H I J=>by
  cases d with
  |ij i hi=>have:=cI (aM 233 qK N) (aya (u:=bB bD N) (yH (p:=kl) (n:=uF i) rfl) (x:=x) (y:=y) (z:=z) (by omega));show aK (bB bD (N+1)) 233 [.agg (yb kl (uF i)),.agg (ew x y z)] _;simpa using this
  |iW n c o g a=>have:=cI (aM 233 qK N) (auy (iA a.ak.1 a.ak.2) (by have:=a.eo g;omega) (h n c o g a) (x:=x) (y:=y) (z:=z) (by omega));simpa using this
 have r:bl λu=>∀t w,m5 t w->aK u 242 [.agg t] (t3 w.1 w.2.1 w.2.2):=KR.up λN h t w d=>by
  cases d with
  |ij i hi=>exact cI (aM 242 qI N) (aD8 (yH (p:=kl) (n:=uF i) rfl))
  |iW n c o g a=>exact cI (aM 242 qI N) (amF (iA a.ak.1 a.ak.2) (h n c o g a))
 have A:bl λu=>∀t w,m5 t w->∀l:Int,((w.1+w.2.2:Nat):Int)<l->l<100000->aK u 307 [.agg t,ao l] (ao ((w.1+w.2.2:Nat))):=(KR.and j).up λN h t w d l B C=>by
  cases d with
  |ij i hi=>exact cI (aM 307 qV N) (agh (yH (p:=kl) (n:=uF i) rfl) (by omega) C (h.2 _ _ (.ij i hi)))
  |iW n c o g a=>have:=cI (aM 307 qV N) (aq3 (iA a.ak.1 a.ak.2) (l:=l) (by simp at B;omega) (h.1 n c o g a));simpa using this
 have D:bl λu=>∀t w,m5 t w->aK u 308 [.agg t,ao 200] (ao 1):=j.up λN h t w d=>cI (aM 308 uh N) (aw8 d.t11 (by omega) (h t w d));have E:bl λu=>∀n c o,n<=3->h0 n c o->aK u 261 [.agg (cW o)] (.F true):=(azj.and (ac7 4)).up λN h n c o g a=>by obtain⟨e,G,_⟩:=h.2 n c 4 1 o dx (by omega) a.NM (.bh ac8);exact cI (aM 261 vr N) (amV (iA a.ak.1 a.ak.2) G (h.1 n c o g a))
 refine(((q.and r).and (A.and D)).and (E.and k)).imp λN h t w d=>⟨h.1.1.1 t w d,h.1.1.2 t w d,h.1.2.1 t w d,h.1.2.2 t w d,?_⟩;cases d with
 |ij i hi=>exact h.2.2 i hi
 |iW n c o g a=>exact h.2.1 n c o g a
structure kx (l:aY) (aR:List (Nat×Nat×Nat)):Prop where
 len:aR.length=l.length
 eV:l.length<=3
 eD:1<=l.length
 al:∀(i:Nat) (t:aB) (al:Nat×Nat×Nat),l[i]? =some t->aR[i]? =some al->m5 t al
theorem kx.di{l:aY}{aR:List (Nat×Nat×Nat)}(h:kx l aR)(a:t∈l):∃w,m5 t w:=by
 obtain⟨i,hi⟩:=Nb a;have b:i<aR.length:=by rw[h.len];exact(e6.1 hi).1
 exact⟨_,h.al i t _ hi (dC b)⟩
theorem Uz:∀(aR:List (Nat×Nat×Nat)),(∀w∈aR,w.1<=1/\w.2.1=0/\w.2.2<=15)->(dY aR).1<=aR.length/\(dY aR).2.1=0/\(dY aR).2.2<=15*aR.length
 |[],_=>by simp[dY]
 |w::r,h=>by obtain⟨a,b,c⟩:=Uz r λx g=>h x (gv _ g);obtain⟨d,e,f⟩:=h w eS;have i:dY (w::r)=(w.1+(dY r).1,w.2.1+(dY r).2.1,w.2.2+(dY r).2.2):=rfl;rw[i];simp only[h9];omega
theorem kx.F{l:aY}{aR:List (Nat×Nat×Nat)}(h:kx l aR):(dY aR).1<=3/\(dY aR).2.1=0/\(dY aR).2.2<=45:=by
 have:=Uz aR λw a=>by
  obtain⟨i,hi⟩:=Nb a;have d:i<l.length:=by rw[<-h.len];exact(e6.1 hi).1
  have:=(h.al i _ w (dC d) hi).F;omega
 have e:=h.len;have g:=h.eV;omega
theorem i4(h:Nat×Nat×Nat×Nat×Nat)(l:aY):fk (cO h l) 3 (.s h.1 h.2.1) (.s h.2.2.1 h.2.2.2.1) dx (.aQ 11 l):=ks rfl
def k9(aR:List (Nat×Nat×Nat)):Int:=if(dY aR).1=0 then-1 else 1
structure HK (u:Fn) (a:aB) (r:Int):Prop where
 aa:∀i,i<3->∀b aET,u 183 [.agg a,.agg (dW i)] b aET= .ok (ao r) b aET []
 g:∀i,i<3->∀b aET,u 183 [.agg (dW i),.agg a] b aET= .ok (ao (-r)) b aET []
 fG:∀i,i<3->aK u 188 [.agg a,.agg (dW i)] (ao r)
 cT:∀i,i<3->aK u 188 [.agg (dW i),.agg a] (ao (-r))
 v:aK u 199 [.agg a] (.F true)
theorem SS(aR:List (Nat×Nat×Nat))(a:(dY aR).2.1=0):oz ((dY aR).1:Nat) ((1+(dY aR).2.1:Nat):Int) ((dY aR).2.2:Nat) 1 0 0=k9 aR/\oz 1 0 0 ((dY aR).1:Nat) ((1+(dY aR).2.1:Nat):Int) ((dY aR).2.2:Nat)= -k9 aR:=by
 unfold oz k9 e4;generalize (dY aR).1=v;rw[a];rcases Hi v 1 with h|h|h
 ·have:v=0:=by omega
  subst this;simp
 ·subst h;simp
 ·have b:¬((v:Int)<1):=by omega
  have d:(1:Int)<v:=by omega
  have e:v≠0:=by omega
  simp[b,d,e]
theorem Iv:bl λu=>∀h∈iu++i1,∀l aR,kx l aR->HK u (cO h l) (k9 aR):=by
 have a3:bl λu=>∀c:Int,-100000<c->aK u 331 [ao c] (.F false):=bl.jr.up λN _ c H=>cI (aM 331 Dd N) (aDX H);have a4:bl λu=>∀a c:Int,-100000<a-> -100000<c->aK u 281 [ao a,ao c] (ao (e4 a c)):=a3.up λN h a c S H=>cI (aM 281 wO N) (ail S H h);have a5:bl λu=>∀x y z L M O:Int,(-100000<x/\ -100000<L)->(-100000<y/\ -100000<M)->(-100000<z/\ -100000<O)->aK u 234 [eV x y z,eV L M O] (ao (oz x y z L M O)):=a4.up λN h x y z L M O T bs hz=>cI (aM 234 xC N) (axf T bs hz h);have bx:bl λu=>∀h l aR,kx l aR->aK u 233 [.agg (cO h l),.agg (ew 0 0 0)] (.agg (ew ((dY aR).1:Nat) ((1+(dY aR).2.1:Nat):Int) ((dY aR).2.2:Nat))):=AV.up λN h g l aR j=>by
  have:=cI (aM 233 qK N) (aeW (a:= .aE) (i4 g l) j.len (by have:=j.eV;omega) (λi t w q k=>by have p:=j.al i t w q k;have B:=p.F;exact⟨p.t11,by omega,by omega,by omega,(h t w p).ah⟩) (x:=0) (y:=0) (z:=0) (by omega) (by omega) (by omega))
  have e:((0:Int)+1+((dY aR).2.1:Nat))=((1+(dY aR).2.1:Nat):Int):=by omega
  rw[e,Int.zero_add,Int.zero_add] at this;exact this
 have cc:bl λu=>∀h l aR,kx l aR->aK u 242 [.agg (cO h l)] (t3 ((dY aR).1:Nat) ((1+(dY aR).2.1:Nat):Int) ((dY aR).2.2:Nat)):=AV.up λN h g l aR j=>by
  have:=cI (aM 242 qI N) (ap2 (a:= .aE) (i4 g l) j.len (by have:=j.eV;omega) (λi t w q k=>by have p:=j.al i t w q k;have B:=p.F;exact⟨p.t11,by omega,by omega,by omega,(h t w p).ai⟩))
  have e:((1:Int)+((dY aR).2.1:Nat))=((1+(dY aR).2.1:Nat):Int):=by omega
  rw[e] at this;exact this
 have cl:bl λu=>∀a c:Int,-100000<a-> -100000<c->aK u 243 [ao a,ao c] (ao (e4 a c)):=bl.jr.up λN _ a c S H=>cI (aM 243 xp N) (amw S H);have Z:bl λu=>∀i,i<3->aK u 233 [.agg (dW i),.agg (ew 0 0 0)] (.agg (ew 1 0 0))/\aK u 242 [.agg (dW i)] (t3 1 0 0):=AV.imp λN h i hi=>by have a:=(h _ _ (.ij i hi)).ah 0 0 0 (by omega) (by omega) (by omega);have r:=(h _ _ (.ij i hi)).ai;simp at a r;exact⟨a,r⟩
 have cn:bl λu=>∀h l aR,kx l aR->(∀i,i<3->(∀b aET,u 183 [.agg (cO h l),.agg (dW i)] b aET= .ok (ao (k9 aR)) b aET [])/\∀b aET,u 183 [.agg (dW i),.agg (cO h l)] b aET= .ok (ao (-k9 aR)) b aET []):=((bx.and Z).and a5).up λN h g l aR j i hi=>by
  obtain⟨⟨q,k⟩,J⟩:=h;have B:=j.F;obtain⟨P,Q⟩:=SS aR B.2.1;have R:k9 aR≠0/\ -10<k9 aR/\k9 aR<10:=by unfold k9;split<;>omega
  have D:cq (cO g l):=⟨(i4 g l).aa,(i4 g l).e5⟩;have E:cq (dW i):=⟨rfl,rfl⟩;have r1:=J ((dY aR).1:Nat) ((1+(dY aR).2.1:Nat):Int) ((dY aR).2.2:Nat) 1 0 0 (by omega) (by omega) (by omega);have K:=J 1 0 0 ((dY aR).1:Nat) ((1+(dY aR).2.1:Nat):Int) ((dY aR).2.2:Nat) (by omega) (by omega) (by omega);rw[P] at r1;rw[Q] at K;refine⟨λb aET=>?_,λb aET=>?_⟩
  ·rw[aM 183 (me xx)];exact yU (Ja D.2 E.2) (acD D E (q g l aR j) (k i hi).1 r1 R.1 R.2.1) b aET
  ·rw[aM 183 (me xx)];exact yU (Ja E.2 D.2) (acD E D (k i hi).1 (q g l aR j) K (by omega) (by omega)) b aET
 have cp:bl λu=>∀h l aR,kx l aR->(∀i,i<3->aK u 188 [.agg (cO h l),.agg (dW i)] (ao (k9 aR))/\aK u 188 [.agg (dW i),.agg (cO h l)] (ao (-k9 aR))):=((cc.and Z).and cl).up λN h g l aR j i hi=>by
  obtain⟨⟨q,k⟩,J⟩:=h;have B:=j.F;obtain⟨P,Q⟩:=SS aR B.2.1;have R:k9 aR≠0:=by unfold k9;split<;>omega
  have D:cq (cO g l):=⟨(i4 g l).aa,(i4 g l).e5⟩;have E:cq (dW i):=⟨rfl,rfl⟩;have r1:=Sf D E (by omega) (by omega) (by omega) (q g l aR j) (k i hi).2 J (by rw[P];exact R);have K:=Sf E D (by omega) (by omega) (by omega) (k i hi).2 (q g l aR j) J (by rw[Q];omega);rw[P] at r1;rw[Q] at K;exact⟨cI (aM 188 uu N) r1,cI (aM 188 uu N) K⟩
 have cs:bl λu=>∀h∈iu++i1,∀l aR,kx l aR->aK u 199 [.agg (cO h l)] (.F true):=by
  have a1:bl λu=>∀h l,aK u 141 [.agg (cO h l)] (.aQ 11 l):=bl.jr.up λN _ g l=>cI (aM 141 tY N) (ajq (a:= .aE) (i4 g l));have c0:bl λu=>∀h l aR,kx l aR->∃c:Int,0<=c/\c<=3000/\aK u 307 [.agg (cO h l),ao 3001] (ao c):=(AV.and a1).up λN h g l aR j=>by
   have B:∀w∈aR,w.1+w.2.2<=15:=λw A=>by
    obtain⟨i,hi⟩:=Nb A;have c4:i<l.length:=by rw[<-j.len];exact(e6.1 hi).1
    exact(j.al i _ w (dC c4) hi).F.2.2.2
   have a2:∀aR:List (Nat×Nat×Nat),(∀w∈aR,w.1+w.2.2<=15)->(aR.map λw=>w.1+w.2.2).sum<=15*aR.length:=by
    intro aR;induction aR with
    |nil=>intro _;simp
    |cons w r c5=>intro h;have:=c5 λx T=>h x (gv _ T);have:=h w eS;simp;omega
   have a2:=a2 aR B;have:=j.len;have:=j.eV;have r:=apD (a:= .aE) (i4 g l) (C:=aR.map λw=>w.1+w.2.2) (l:=3001) (by simpa using j.len) (by omega) (by omega) (λi t c q k=>by
    rw[fo] at k;cases A:aR[i]? with
    |none=>rw[A] at k;cases k
    |some w=>rw[A] at k;simp at k;have p:=j.al i t w q A;have B:=p.F;subst k;exact⟨p.t11,by omega,(h.1 t w p).ab⟩) (h.2 g l) (by omega)
   exact⟨_,by omega,by omega,cI (aM 307 qV N) r⟩
  have dq:bl λu=>∀h l aR,kx l aR->aK u 308 [.agg (cO h l),ao 201] (ao 2):=(AV.and a1).up λN h g l aR j=>by
   have r:=ai4 (u:=bB bD N) (t:=cO g l) ⟨(i4 g l).aa,(i4 g l).e5⟩ (I:=l) (by have:=j.eV;omega) (λt p=>by obtain⟨w,A⟩:=j.di p;exact⟨A.t11,(h.1 t w A).ad⟩) (h.2 g l)
   rw[cU (by have:=j.eD;omega)] at r;exact cI (aM 308 uh N) r
  have ee:bl λu=>∀h∈iu++i1,aK u 292 [.agg [.s h.1 h.2.1,.s h.2.2.1 h.2.2.2.1]] (.F true):=bl.kQ 30 λn=>by intro h G;have:=cB (aDA n) (o2 _ G);exact eN this
  have em:bl λu=>aK u 65 [.agg dx,.agg dx] (.F true):=bl.kQ 9 λn=>eN (ayw n);have en:bl λu=>∀h∈iu++i1,∀l aR,kx l aR->aK u 261 [.agg (cO h l)] (.F true):=((AV.and ee).and em).up λN h g G l aR j=>
   cI (aM 261 vr N) (avn (i4 g l) (by have:=j.eV;omega) h.2 (h.1.2 g G) λt p=>by obtain⟨w,A⟩:=j.di p;exact⟨A.t11,(h.1.1 t w A).f⟩)
  have eq:bl λu=>∀h l aR,kx l aR->∃c:Int,0<=c/\c<=3000/\aK u 259 [.agg (cO h l)] (ao c):=c0.up λN h g l aR j=>by obtain⟨c,c1,c2,X⟩:=h g l aR j;exact⟨c,c1,c2,cI (aM 259 Ez N) (amb ⟨(i4 g l).aa,(i4 g l).e5⟩ X)⟩
  have es:bl λu=>∀h l aR,kx l aR->aK u 260 [.agg (cO h l)] (ao 2):=dq.up λN h g l aR j=>
   cI (aM 260 Fp N) (aoc ⟨(i4 g l).aa,(i4 g l).e5⟩ (h g l aR j))
  exact((eq.and es).and en).up λN h g G l aR j=>by obtain⟨c,c1,c2,X⟩:=h.1.1 g l aR j;exact cI (aM 199 Fg N) (amU ⟨(i4 g l).aa,(i4 g l).e5⟩ ⟨c1,c2⟩ (by omega) X (h.1.2 g l aR j) (h.2 g G l aR j))
 exact((cn.and cp).and cs).imp λN h g G l aR j=>⟨λi hi=>(h.1.1 g l aR j i hi).1,λi hi=>(h.1.1 g l aR j i hi).2,λi hi=>(h.1.2 g l aR j i hi).1,λi hi=>(h.1.2 g l aR j i hi).2,h.2 g G l aR j⟩
end
end
section
variable{E:cr} {K:Nat->Prop} {mY:Nat->Bool} {p:bE} {i r:Nat} {h:Nat×Nat×Nat×Nat×Nat} {l:aY}
def x4:bE->Bool
 |[]=>true
 |m::r=> !decide (m.U=0)&&((r.all λx=>Nat.blt m.k x.k)&&x4 r)
theorem B6:∀{p:bE},x4 p=true->g7 p
 |[],_=>⟨List.Pairwise.nil,by simp⟩
 |m::r,h=>by
  simp only[x4,cg,LH,decide_eq_false_iff_not] at h;have b:=B6 h.2.2;refine⟨o4.2 ⟨λx a=>?_,b.g0⟩,λx a=>?_⟩
  ·have:=cB h.2.1 a;exact dp this
  ·rcases gy.1 a with rfl|a
   ·exact h.1
   ·exact b.jD x a
def adL(mY:Nat->Bool)(p:bE):Bool:=p.all λm=>mY m.k&&rQ m.U
def arn(sB:Nat->Bool)(p q:bE):Bool:=p.all λx=>q.all λy=>bif Nat.beq x.k y.k then kj x.U y.U&&(kj y.U x.U&&(rQ (x.U+y.U)&&sB x.k)) else true
def v8(mY sB:Nat->Bool)(p q:bE):Bool:=x4 p&&(x4 q&&(Nat.ble (p.length+q.length) 39&&(adL mY p&&(adL mY q&&arn sB p q))))
def IT(mY:Nat->Bool)(p:bE):Bool:=x4 p&&(Nat.ble p.length 39&&p.all λm=>mY m.k&&(l9 m.U (-1)&&rQ (m.U*(-1))))
section
variable[Tok]
theorem Gq{sB:Nat->Bool}(t:∀k,mY k=true->K k)(B:∀k,sB k=true->E.s k){q:bE}(h:v8 mY sB p q=true):nv E K p q:=by
 simp only[v8,cg] at h;obtain⟨C,D,G,H,I,J⟩:=h;have n:=B6 C;have u:=B6 D;have mp:∀m∈p,K m.k/\fV m.U:=λm c=>by have:=cB H c;simp only[cg] at this;exact⟨t _ this.1,sc this.2⟩
 have o:∀m∈q,K m.k/\fV m.U:=λm c=>by have:=cB I c;simp only[cg] at this;exact⟨t _ this.1,sc this.2⟩
 have w:∀x∈p,∀y∈q,x.k=y.k->kj x.U y.U=true/\kj y.U x.U=true/\fV (x.U+y.U)/\E.s x.k:=λx g y j e=>by have:=cB (cB J g) j;rw[e,gb,dN] at this;simp only[cg] at this;exact⟨this.1,this.2.1,sc this.2.2.1,e▸B _ this.2.2.2⟩
 refine⟨n,dp G,λm c=>(mp m c).1,λm c=>(o m c).1,λm c=>(o m c).2,aco n.g0 u.g0 λx g y j e=>?_,λk=>?_⟩
 ·obtain⟨a,b,_,d⟩:=w x g y j e;exact⟨a,b,d⟩
 ·rw[<-AT,E3];rcases um n.g0 k with e|⟨x,g,z,e⟩<;>rcases um u.g0 k with f|⟨y,j,A,f⟩<;>rw[e,f]
  ·exact U5
  ·simp only[kP,cx,cv A,jb];exact(o y j).2
  ·simp only[nj,cx,cv z,jb];exact(mp x g).2
  ·simp only[pL,kP,cx,cv z,cv A,jb];exact(w x g y j (by omega)).2.2.1
theorem HP(c:∀k,mY k=true->K k)(h:IT mY p=true):nB K p:=by
 simp only[IT,cg] at h;obtain⟨d,e,g⟩:=h;have b:∀m∈p,K m.k/\l9 m.U (-1)=true/\fV (m.U*(-1)):=λm a=>by have:=cB g a;simp only[cg] at this;exact⟨c _ this.1,this.2.1,sc this.2.2⟩
 exact⟨B6 d,dp e,λm a=>(b m a).1,λm a=>(b m a).2.1,λm a=>(b m a).2.2⟩
structure Nv (u:Fn) (E:cr) (t:aB) (k:Int) (p:bE):Prop where
 ah:∃v,cA E v p/\aK u 35 [.agg t] (.a0 [v,ao k,ao 0])
 ai:∃v,cA E v p/\aK u 40 [.agg t] (.a0 [v,ao k,ao 0])
def vh(a b:aB):aB:=bU bP eu [a,b]
def xZ(a b:aB):aB:=bU bP fe [bU bP eu [a,b]]
def oX(a b:aB):aB:=bU bP fe [bU bP iB [a,b]]
theorem kI.adg{L:Nat}(H:kI E K L)(S:aB->bE->Prop)(C:bl λu=>∀t P,S t P->mf u E t P):bl λu=>∀a b P Q,S a P->S b Q->nB K Q->nv E K P (hB Q)->
 Nv u E (vh a b) 2 (lW P Q)/\Nv u E (xZ b a) 1 (lW P Q)/\Nv u E (oX a b) 3 (lW P Q):=by
 obtain⟨D,G⟩:=H.aku;have J:bl λu=>∀a b P Q,S a P->S b Q->nB K Q->nv E K P (hB Q)->cq a/\cq b/\fy u 99 E [.agg a,.agg b] (lW P Q)/\fy u 108 E [.agg b,.agg a] (lW P Q):=bl.kv D C λn M h a b P Q j k o q=>by obtain⟨x,y⟩:=G n M a b P Q (h a P j) (h b Q k) o q;exact⟨(h a P j).t11,(h b Q k).t11,x,y⟩
 refine(J.and G7).up λn h a b P Q j k o q=>?_;obtain⟨h,I⟩:=h;obtain⟨e,g,x,y⟩:=h a b P Q j k o q;have w:=ks (p:=bP) (n:=fe) (l:=[bU bP eu [b,a]]) rfl;have z:=ks (p:=bP) (n:=fe) (l:=[bU bP iB [a,b]]) rfl;have A:=ks (p:=bP) (n:=eu) (l:=[a,b]) rfl;have B:=ks (p:=bP) (n:=eu) (l:=[b,a]) rfl;have vq:=ks (p:=bP) (n:=iB) (l:=[a,b]) rfl;refine⟨⟨?_,?_⟩,⟨?_,?_⟩,⟨?_,?_⟩⟩
 ·obtain⟨v,c,d⟩:=axz A e g (I.h8 a b).1 x;exact⟨v,c,cI (aM 35 qU n) d⟩
 ·obtain⟨v,c,d⟩:=ak7 A e g (I.h8 a b).2 y;exact⟨v,c,cI (aM 40 q3 n) d⟩
 ·obtain⟨v,c,d⟩:=avg w B g e (I.fI _).1 (I.Ga _).1 (I.h8 b a).1 x;exact⟨v,c,cI (aM 35 qU n) d⟩
 ·obtain⟨v,c,d⟩:=aoq w B g e (I.fI _).2 (I.Ga _).2 (I.h8 b a).2 y;exact⟨v,c,cI (aM 40 q3 n) d⟩
 ·obtain⟨v,c,d⟩:=avh z vq e g (I.fI _).1 (I.Ga _).1 (I.el a b).1 (I.lU a b).1 x;exact⟨v,c,cI (aM 35 qU n) d⟩
 ·obtain⟨v,c,d⟩:=atq z vq e g (I.fI _).2 (I.Ga _).2 (I.el a b).2 (I.lU a b).2 y;exact⟨v,c,cI (aM 40 q3 n) d⟩
def pk(a:aB)(r k:Nat):an:=if k=r then .aQ 11 [a] else if k=2 then .aQ 11 [dW 0] else if k=4 then .aQ 11 [dW 1] else if k=6 then .aQ 11 [dW 2] else .aE
def iF(a:aB)(r k:Nat):aY:=if k=r then[a] else if k=2 then[dW 0] else if k=4 then[dW 1] else if k=6 then[dW 2] else[]
theorem tN(a:aB)(r k:Nat):nT (pk a r k) (iF a r k):=by
 unfold pk iF;split
 ·exact .inr ⟨rfl,by simp⟩
 ·split
  ·exact .inr ⟨rfl,by simp⟩
  ·split
   ·exact .inr ⟨rfl,by simp⟩
   ·split
    ·exact .inr ⟨rfl,by simp⟩
    ·exact .inl ⟨rfl,rfl⟩
def qS(b:Fn->Prop)(a:aB)(r:Nat):cr:=acT b (λk=>k≠r) (pk a r) (iF a r) (tN a r)
def mE(r k:Nat):Prop:=k=0\/k=2\/k=4\/k=6\/k=r
noncomputable def tC(a:aB)(r:Nat)(x:aB):Nat:=open Classical in if x=a then r else 2*oN x+2
theorem amW(h:Nat×Nat×Nat×Nat×Nat)(l:aY)(i:Nat):dW i≠cO h l:=by intro e;have a:=(yH (p:=kl) (n:=uF i) rfl).eO;have b:=(i4 h l).eO;have c:yb kl (uF i)=cO h l:=e;rw[c,b] at a;have:=Mh (pl a) (by omega) (by omega);omega
theorem tc(h:i<3):dW i=ec i:=by unfold ec;rw[if_pos h]
theorem Ou(hi:i<3):tC (cO h l) r (dW i)=2*i+2:=by unfold tC;rw[if_neg (amW h l i),tc hi,xr]
theorem asI{a:aB}:tC a r a=r:=by unfold tC;rw[if_pos rfl]
noncomputable def pT(a:aB)(r:Nat)(x y:aB):Int:=e4 (tC a r x) (tC a r y)
theorem DZ(a:aB)(r:Nat)(x y:aB): -100<pT a r x y/\pT a r x y<100:=by have:=xo (tC a r x) (tC a r y);unfold pT;omega
theorem rg{k:Nat}(b:r=1\/r=8)(a:mE r k):(k=0/\iF (cO h l) r k=[])\/∃t,iF (cO h l) r k=[t]/\tC (cO h l) r t=k/\k≠0/\((t=cO h l/\k=r)\/∃i,i<3/\t=dW i/\k=2*i+2):=by
 unfold mE at a;rcases a with rfl|rfl|rfl|rfl|rfl
 ·left;refine⟨rfl,?_⟩;unfold iF;rw[cz];rfl
 ·right;refine⟨dW 0,?_,Ou (by omega),by omega,.inr ⟨0,by omega,rfl,rfl⟩⟩;unfold iF;rw[cz];rfl
 ·right;refine⟨dW 1,?_,Ou (by omega),by omega,.inr ⟨1,by omega,rfl,rfl⟩⟩;unfold iF;rw[cz];rfl
 ·right;refine⟨dW 2,?_,Ou (by omega),by omega,.inr ⟨2,by omega,rfl,rfl⟩⟩;unfold iF;rw[cz];rfl
 ·right;refine⟨cO h l,?_,asI,by omega,.inl ⟨rfl,rfl⟩⟩;unfold iF;rw[if_pos rfl]
theorem Iq{j:Nat}(a:r=1\/r=8)(hi:mE r i)(b:mE r j):(jd (pT (cO h l) r) (iF (cO h l) r i) (iF (cO h l) r j)<0↔i<j)/\(jd (pT (cO h l) r) (iF (cO h l) r i) (iF (cO h l) r j)=0↔i=j):=by
 rcases rg (h:=h) (l:=l) a hi with⟨c,e⟩|⟨t,e,d,c,g⟩<;>rcases rg (h:=h) (l:=l) a b with⟨f0,f⟩|⟨s,f,es,f0,k⟩<;>(try clear g)<;>(try clear k)
 ·rw[e,f];simp[jd,ja];omega
 ·rw[e,f];simp[jd];omega
 ·rw[e,f];simp[jd];omega
 ·rw[e,f];simp only[jd,h9,kT,As,g8,ja];unfold pT;rw[d,es];unfold e4;split
  ·simp;omega
  ·split
   ·simp;omega
   ·simp;omega
def dQ(aR:List (Nat×Nat×Nat)):Nat:=if(dY aR).1=0 then 1 else 8
theorem nF(aR:List (Nat×Nat×Nat)):dQ aR=1\/dQ aR=8:=by unfold dQ;split<;>omega
theorem X5(aR:List (Nat×Nat×Nat))(hi:i<3):e4 (dQ aR) (2*i+2:Nat)=k9 aR/\e4 (2*i+2:Nat) (dQ aR)= -k9 aR:=by
 unfold dQ k9 e4;split
 ·constructor
  ·rw[fS]
  ·rw[cz,fS];rfl
 ·constructor
  ·rw[cz,fS]
  ·rw[fS]
theorem WQ:∃L,nk<=L/\∀n,L<=n->∀h∈iu++i1,∀l aR,kx l aR->HK (bB bD n) (cO h l) (k9 aR)/\∀g,n9 (bB bD n) (qS g (cO h l) (dQ aR)) (mE (dQ aR))/\py (bB bD n) (qS g (cO h l) (dQ aR)) (mE (dQ aR)):=by
 have R:∀(u:Fn) (h:Nat×Nat×Nat×Nat×Nat) (l:aY) (aR:List (Nat×Nat×Nat)) (x y:cw),mE (dQ aR) x.k->mE (dQ aR) y.k->(x.k≠y.k\/y.k≠dQ aR)->vm u->HK u (cO h l) (k9 aR)->∀(i:Nat) (p q:aB),(iF (cO h l) (dQ aR) x.k)[i]? =some p->(iF (cO h l) (dQ aR) y.k)[i]? =some q->
  cq p/\cq q/\(∀b aET,u 183 [.agg p,.agg q] b aET= .ok (ao (pT (cO h l) (dQ aR) p q)) b aET [])/\aK u 188 [.agg p,.agg q] (ao (pT (cO h l) (dQ aR) p q)):=by
  intro u h l aR x y o w A S M i p q j z;have T:cq (cO h l):=⟨(i4 h l).aa,(i4 h l).e5⟩;rcases rg (h:=h) (l:=l) (nF aR) o with⟨a1,e⟩|⟨t,e,a2,a1,a3⟩
  ·rw[e] at j;simp at j
  ·rcases rg (h:=h) (l:=l) (nF aR) w with⟨f0,f⟩|⟨s,f,es,f0,a4⟩
   ·rw[f] at z;simp at z
   ·rw[e] at j;rw[f] at z;have a5:i=0:=by have:=(e6.1 j).1;simp at this;exact this
    subst a5;simp at j z;subst j;subst z;unfold pT;rw[a2,es];rcases a3 with⟨rfl,G⟩|⟨a,N,rfl,G⟩<;>rcases a4 with⟨rfl,D⟩|⟨d,O,rfl,D⟩
    ·exact absurd (G.trans D.symm) (A.elim id λh=>absurd D h)
    ·rw[G,D,(X5 aR O).1];exact⟨T,⟨rfl,rfl⟩,M.aa d O,M.fG d O⟩
    ·rw[G,D,(X5 aR N).2];exact⟨⟨rfl,rfl⟩,T,M.g a N,M.cT a N⟩
    ·have bs:e4 ((x.k:Nat):Int) ((y.k:Nat):Int)=e4 a d:=by rw[G,D];unfold e4;split<;>(try split)<;>(try split)<;>(try split)<;>omega
     rw[bs,tc N,tc O];exact⟨rM _,rM _,S.mP a d (by omega) (by omega),S.Bt a d (by omega) (by omega)⟩
 have P:∀(g:Fn->Prop) (h:Nat×Nat×Nat×Nat×Nat) (l:aY) (aR:List (Nat×Nat×Nat)) (k:Nat),dw 11 ((qS g (cO h l) (dQ aR)).di k) (iF (cO h l) (dQ aR) k):=λg h l aR k=>by
  rcases tN (cO h l) (dQ aR) k with⟨e,h⟩|⟨e,h⟩
  ·exact .inl ⟨e,h⟩
  ·exact .inr e
 have I:∀(a:aB) (r k:Nat),(iF a r k).length<=1:=λa r k=>by unfold iF;split<;>(try split)<;>(try split)<;>(try split)<;>simp
 have bx:bl λu=>∀h∈iu++i1,∀l aR,kx l aR->∀g (x y:cw),mE (dQ aR) x.k->mE (dQ aR) y.k->(x.k≠y.k\/y.k≠dQ aR)->(iF (cO h l) (dQ aR) x.k).length=(iF (cO h l) (dQ aR) y.k).length->
  aK u 285 [(qS g (cO h l) (dQ aR)).di x.k,(qS g (cO h l) (dQ aR)).di y.k,dI 183] (ao (ja (pT (cO h l) (dQ aR)) (iF (cO h l) (dQ aR) x.k) (iF (cO h l) (dQ aR) y.k))):=(zB.and Iv).up λn H h B l aR C g x y o w A Q=>
  cI (aM 285 uZ n) (Up (P g h l aR x.k) (P g h l aR y.k) Q (by have:=I (cO h l) (dQ aR) x.k;omega) λi p q j z=>by obtain⟨a,b,c,_⟩:=R _ h l aR x y o w A H.1 (H.2 h B l aR C) i p q j z;exact⟨a,b,DZ _ _ _ _,c⟩)
 have q:bl λu=>∀h∈iu++i1,∀l aR,kx l aR->∀g,n9 u (qS g (cO h l) (dQ aR)) (mE (dQ aR))/\py u (qS g (cO h l) (dQ aR)) (mE (dQ aR)):=(bx.and (zB.and Iv)).up λn H h B l aR C g=>by
  have X:∀{x y:cw},(x.k≠y.k\/x.k≠dQ aR)->(x.k≠y.k\/y.k≠dQ aR):=λ{x y} h=>by omega
  refine⟨λx y o w A=>?_,λx y o w A=>?_⟩
  ·have hb:=Bl (c:=pT (cO h l) (dQ aR)) (DZ _ _) (iF (cO h l) (dQ aR) x.k) (iF (cO h l) (dQ aR) y.k);have J:=Iq (h:=h) (l:=l) (nF aR) o w;refine⟨_,by unfold jd;split<;>(try split)<;>omega,J.1,J.2,λub aET=>?_⟩;rw[aM 237 (me vO)];exact yU (Ja (cr.gw _ _) (cr.gw _ _)) (TS (P g h l aR x.k) (P g h l aR y.k) (by have:=I (cO h l) (dQ aR) x.k;omega) (by have:=I (cO h l) (dQ aR) y.k;omega) (DZ _ _) λQ=>H.1 h B l aR C g x y o w (X A) Q) ub aET
  ·have hb:=Bl (c:=pT (cO h l) (dQ aR)) (DZ _ _) (iF (cO h l) (dQ aR) x.k) (iF (cO h l) (dQ aR) y.k);have J:=Iq (h:=h) (l:=l) (nF aR) o w;refine⟨_,by unfold jd;split<;>(try split)<;>omega,J.1,J.2,?_⟩;exact cI (aM 176 tW n) (SU (E:=qS g (cO h l) (dQ aR)) (tN _ _ x.k) (tN _ _ y.k) (by have:=I (cO h l) (dQ aR) x.k;omega) (by have:=I (cO h l) (dQ aR) y.k;omega) λi p q j z=>by obtain⟨a,b,_,c⟩:=R _ h l aR x y o w (X A) H.2.1 (H.2.2 h B l aR C) i p q j z;exact⟨a,b,DZ _ _ _ _,c⟩)
 obtain⟨L,Z⟩:=Iv.and q;exact⟨nk+L,by omega,λn hn h B l aR C=>⟨(Z n (by omega)).1 h B l aR C,λg=>(Z n (by omega)).2 h B l aR C g⟩⟩
noncomputable def m3:Nat:=WQ.choose
theorem aaD:nk<=m3/\∀n,m3<=n->∀h∈iu++i1,∀l aR,kx l aR->HK (bB bD n) (cO h l) (k9 aR)/\∀a,n9 (bB bD n) (qS a (cO h l) (dQ aR)) (mE (dQ aR))/\py (bB bD n) (qS a (cO h l) (dQ aR)) (mE (dQ aR)):=WQ.choose_spec
noncomputable def p0(h:Nat×Nat×Nat×Nat×Nat)(l:aY)(aR:List (Nat×Nat×Nat)):cr:=qS (nd m3) (cO h l) (dQ aR)
theorem YJ(A:h∈iu++i1){aR:List (Nat×Nat×Nat)}(B:kx l aR):kI (p0 h l aR) (mE (dQ aR)) m3 where
 num:=λc=>rfl
 Y:=rfl
 len:=λk u=>⟨(iF (cO h l) (dQ aR) k).length,by
  rcases rg (h:=h) (l:=l) (nF aR) u with⟨_,e⟩|⟨t,e,_⟩<;>rw[e]<;>simp,λy=>by
  rcases tN (cO h l) (dQ aR) k with⟨e,g⟩|⟨e,g⟩
  ·show bq false (pk (cO h l) (dQ aR) k) y=_;rw[e,g];exact hy y
  ·show bq false (pk (cO h l) (dQ aR) k) y=_;rw[e];exact eA _ _ y⟩
 mP:=λn z=>(aaD.2 n z h A l aR B).2 _
 Oy:=by
  refine(Iv.and zB).imp λn H k u=>?_;have C:dw 11 ((p0 h l aR).di k) (iF (cO h l) (dQ aR) k):=by
   rcases tN (cO h l) (dQ aR) k with⟨e,g⟩|⟨e,g⟩
   ·exact .inl ⟨e,g⟩
   ·exact .inr e
  refine⟨_,C,?_,λt q=>?_,λt q=>?_,λi s t w q=>?_⟩
  ·rcases rg (h:=h) (l:=l) (nF aR) u with⟨_,e⟩|⟨t,e,_⟩<;>rw[e]<;>simp
  ·rcases rg (h:=h) (l:=l) (nF aR) u with⟨_,e⟩|⟨s,e,_,_,w⟩
   ·rw[e] at q;cases q
   ·rw[e] at q;simp at q;subst q;rcases w with⟨rfl,_⟩|⟨i,_,rfl,_⟩
    ·exact⟨(i4 h l).aa,(i4 h l).e5⟩
    ·exact⟨rfl,rfl⟩
  ·rcases rg (h:=h) (l:=l) (nF aR) u with⟨_,e⟩|⟨s,e,_,_,w⟩
   ·rw[e] at q;cases q
   ·rw[e] at q;simp at q;subst q;rcases w with⟨rfl,_⟩|⟨i,hi,rfl,_⟩
    ·exact(H.1 h A l aR B).v
    ·rw[tc hi];exact H.2.yS i (by omega)
  ·rcases rg (h:=h) (l:=l) (nF aR) u with⟨_,e⟩|⟨x,e,_⟩
   ·rw[e] at w;simp at w
   ·rw[e] at q;simp at q
 Au:=λn z=>(kK (ie aaD.1 z)).1
 has:=⟨λc=>rfl,by show pk (cO h l) (dQ aR) 0= .aE;unfold pk;rw[if_neg (by have:=nF aR;omega)];rfl⟩
 inj:=λj k D u e=>by
  have e:pk (cO h l) (dQ aR) j=pk (cO h l) (dQ aR) k:=e;have G:iF (cO h l) (dQ aR) j=iF (cO h l) (dQ aR) k:=by
   rcases tN (cO h l) (dQ aR) j with⟨a,b⟩|⟨a,b⟩<;>rcases tN (cO h l) (dQ aR) k with⟨c,d⟩|⟨c,d⟩
   ·rw[b,d]
   ·rw[a,c] at e;cases e
   ·rw[a,c] at e;cases e
   ·rw[a,c] at e;simpa using e
  have o:=Iq (h:=h) (l:=l) (nF aR) D u;rw[G] at o;exact o.2.1 ((Iq (h:=h) (l:=l) (nF aR) u u).2.2 rfl)
 er:= .inl rfl
end
end
section
variable{p:bE} {rv:Nat->Nat}
def Gt(B:Nat)(c:Rat):Bool:=Nat.beq c.den 1&&Nat.ble c.num.natAbs B
theorem Vu{B:Nat}{c:Rat}(h:Gt B c=true):gQ B c:=by
 simp only[Gt,cg] at h;refine⟨c.num,?_,dp h.2⟩;apply Rat.ext
 ·rfl
 ·exact gz h.1
def F5(p:bE):Bool:=x4 p&&(Nat.ble p.length 6&&((p.all λm=>Nat.blt m.k 10)&&((p.all λm=>Gt 16 m.U&&(!Nat.beq m.k 0||Gt 8 m.U))||p.all λm=>bif Nat.beq m.k 0 then pz.any (λr=>decide (r=m.U)) else(decide (m.U=1)||decide (m.U= -1)))))
theorem abC(h:F5 p=true):jp p:=by
 simp only[F5,cg,ny] at h;obtain⟨c,d,g,i⟩:=h;refine⟨B6 c,λm a=>dp (cB g a),dp d,?_⟩;rcases i with h|h
 ·refine .inl λm a=>?_;have:=cB h a;simp only[cg,ny] at this;refine⟨Vu this.1,λb=>?_⟩;rcases this.2 with e|e
  ·rw[b] at e;simp at e
  ·exact Vu e
 ·refine .inr λm a=>?_;have:=cB h a;refine⟨λb=>?_,λb=>?_⟩
  ·rw[b,gb,dN] at this;obtain⟨r,j,e⟩:=vc.1 this;rw[<-nM e];exact j
  ·have e:Nat.beq m.k 0=false:=by
    cases k:Nat.beq m.k 0 with
    |true=>exact absurd (gz k) b
    |false=>rfl
   rw[e,cond_false,ny] at this;rcases this with e|e
   ·exact .inl (nM e)
   ·exact .inr (nM e)
def wZ:List (Int×Int):=aEB.drop 2
def xN(x:Int×Int):Rat:=mkRat x.1 x.2.toNat
theorem ahg:(aEB.all λx=>decide ((xN x).num=x.1)&&(decide (((xN x).den:Int)=x.2)&&rQ (xN x)))=true:=by kernel_rfl
theorem ah3[Tok]{x:Int×Int}(h:x∈wZ):b5 x.1 x.2=ef (xN x)/\fV (xN x):=by have:=cB ahg (List.mem_of_mem_drop h);simp only[cg] at this;refine⟨?_,sc this.2.2⟩;unfold ef;rw[nM this.1,nM this.2.1]
section
variable[Tok]
inductive lz (rv:Nat->Nat):aB->bE->Prop
 |ij (i:Nat) (hi:i<3):lz rv (dW i) [⟨rv i,1⟩]
 |num (x:Int×Int) (hx:x∈wZ):lz rv (cW (b5 x.1 x.2)) (ei [⟨0,xN x⟩])
 |tt (o:aB) (ho:o∈kY):lz rv (cW o) []
 |im (n c c':Nat) (a d:aB) (ha:h0 n c a) (hd:h0 n c' d):lz rv (cW (jU a d)) []
def zw(rv:Nat->Nat):List bE:=[[⟨rv 0,1⟩],[⟨rv 1,1⟩],[⟨rv 2,1⟩],[]]++wZ.map λx=>ei [⟨0,xN x⟩]
theorem lz.mem{t:aB}(h:lz rv t p):p∈zw rv:=by
 cases h with
 |ij i hi=>
  have:i=0\/i=1\/i=2:=by omega
  rcases this with rfl|rfl|rfl<;>simp[zw]
 |num x a=>exact yc _ (Nn a)
 |tt o b=>simp[zw]
 |im=>simp[zw]
section
variable{E:cr} {K:Nat->Prop} {L:Nat} (H:kI E K L)
include H
theorem kI.PD(q:∀i,i<3->E.di (rv i)= .aQ 11 [dW i]):bl λu=>∀t p,lz rv t p->mf u E t p:=by
 have w:bl λu=>∀i,i<3->mf u E (dW i) [⟨rv i,1⟩]:=bl.kQ 40 λn=>by
  intro i hi;have z:E.bd ⟨rv i,1⟩=b5 1 1++[atR (i+1)]:=by
   unfold cr.bd;rw[H.num,q i hi];have A:atR (i+1)= .aQ 11 [dW i]:=by unfold atR;rw[cz,fS,tc hi];rfl
   rw[A];rfl
  have g:cA E (.aQ 8 [b5 1 1++[atR (i+1)]]) [⟨rv i,1⟩]:= .inr (by rw[<-z];rfl);refine⟨⟨rfl,rfl⟩,⟨_,g,?_⟩,⟨_,g,?_⟩⟩
  ·have h:=cB (T6 n) (mem_range (show i<9 by omega));rw[<-tc hi] at h;exact eN h
  ·have h:=cB (Y9 n) (mem_range (show i<9 by omega));rw[<-tc hi] at h;exact eN h
 have B:bl λu=>(∀o∈kY,fy u 154 E [.agg (cW o)] []/\fy u 173 E [.agg (cW o)] [])/\∀a d,fy u 154 E [.agg (cW (jU a d))] []/\fy u 173 E [.agg (cW (jU a d))] []:=bl.run λn=>by
  have g:cA E .aE []:= .inl ⟨rfl,rfl⟩;refine⟨λo j=>⟨⟨_,g,?_⟩,⟨_,g,?_⟩⟩,λa d=>⟨⟨_,g,hE (aA8 n a d)⟩,⟨_,g,hE (axL n a d)⟩⟩⟩
  ·have h:=cB (auw n) j;exact eN h
  ·have h:=cB (afq n) j;exact eN h
 refine((w.and B).and H.Qm).imp λn h t p C=>?_;cases C with
 |ij i hi=>exact h.1.1 i hi
 |num x k=>obtain⟨e,j⟩:=ah3 k;rw[e];exact h.2 _ j
 |tt o j=>obtain⟨a,r⟩:=h.1.2.1 o j;have b:h0 0 1 o:= .bh (o2 _ j);exact⟨⟨(iA b.ak.1 b.ak.2).aa,(iA b.ak.1 b.ak.2).e5⟩,a,r⟩
 |im n c G x y k D=>obtain⟨a,r⟩:=h.1.2.2 x y;have b:(jU x y).length=7/\b8 (jU x y)=true:=h0.ak (lJ.cons k D);exact⟨⟨(iA b.1 b.2).aa,(iA b.1 b.2).e5⟩,a,r⟩
end
inductive ka:aB->bE->Prop
 |t0 (t:aB) (p:bE) (h:lz (· +1) t p):ka t p
 |plus (t s:aB) (p q:bE) (h:lz (· +1) t p) (g:lz (· +1) s q):ka (bU bP fv [t,s]) (ei (p++q))
 |MU (t s:aB) (p q:bE) (h:lz (· +1) t p) (g:lz (· +1) s q):ka (bU bP eM [t,s]) (ei (eK fW p q))
 |neg (t:aB) (p:bE) (h:lz (· +1) t p):ka (bU bP jy [t]) (hB p)
def oR:List bE:=zw (· +1)
def uk(k:Nat):Bool:=Nat.blt k 10||(Nat.blt k 91&&Nat.ble ((k-10)/9) ((k-10) %9))
theorem y7(k:Nat)(h:uk k=true):fT k:=by
 simp only[uk,ny,cg] at h;rcases h with h|h
 ·exact .inl (dp h)
 ·exact .inr ⟨dp h.1,dp h.2⟩
def zU(_:Nat):Bool:=true
theorem E0:(oR.all λp=>F5 p&&(IT uk p&&oR.all λq=>v8 uk zU p q))=true:=by kernel_rfl
theorem aaq:(oR.all λp=>oR.all λq=>v8 uk zU p (hB q)&&(F5 (lW p q)||h6 0 (lW p q)))=true:=by kernel_rfl
theorem axG:(oR.all λp=>oR.all λq=>oR.all λr=>v8 uk zU (ei (p++q)) (hB r))=true:=by kernel_rfl
theorem ano:(oR.all λp=>oR.all λq=>oR.all λr=>v8 uk zU (ei (eK fW p q)) (hB r))=true:=by kernel_rfl
theorem alU:(oR.all λp=>oR.all λr=>v8 uk zU (hB p) (hB r))=true:=by kernel_rfl
end
end
section
variable{h:Nat×Nat×Nat×Nat×Nat} {l:aY} {aR:List (Nat×Nat×Nat)} {a b:aB} {P Q:bE}
section
variable[Tok]
theorem Tm(i:Nat)(hi:i<3):dk.di (i+1)= .aQ 11 [dW i]:=by show atR (i+1)=_;unfold atR;rw[cz,fS,tc hi];rfl
theorem WN{rv:aB}{p:bE}(h:p∈oR):jp p:=by have:=cB E0 h;simp only[cg] at this;exact abC this.1
theorem aBj(n:Nat)(h:((((∀t p,lz (· +1) t p->mf (bB bD n) dk t p)/\∀(p q:an) (ps j:bE),cA dk p ps->cA dk q j->nv dk fT ps j->fy (bB bD n) 156 dk [p,q] (ei (ps++j))/\fy (bB bD n) 44 dk [p,q] (ei (ps++j)))/\
 (∀(p q:an) (ps j:bE),cA dk p ps->cA dk q j->Mo ps j->fy (bB bD n) 118 dk [p,q] (ei (eK fW ps j))/\fy (bB bD n) 58 dk [p,q] (ei (eK fW ps j)))/\∀(p:an) (ps:bE),cA dk p ps->nB fT ps->fy (bB bD n) 155 dk [p,.agg (dk.num (-1))] (hB ps)/\fy (bB bD n) 43 dk [p,.agg (dk.num (-1))] (hB ps))/\
 (aK (bB bD n) 37 [ao (-1)] (.agg (dk.num (-1)))/\aK (bB bD n) 60 [ao (-1)] (.agg (dk.num (-1))))/\ac1 (bB bD n)))(t:aB)(p:bE)(C:ka t p)(D:¬lz (· +1) t p):mf (bB bD (n+1)) dk t p:=by
 obtain⟨⟨⟨o,r⟩,u,x⟩,y,I⟩:=h;cases C with
 |t0 _ _ g=>exact absurd g D
 |plus t s p q dB cT=>
  have a:=o t p dB;have b:=o s q cT;have A:nv dk fT p q:=Gq y7 (λ_ _=>trivial) (by have:=cB E0 dB.mem;simp only[cg] at this;exact cB this.2.2 cT.mem)
  have c:=ks (p:=bP) (n:=fv) (l:=[t,s]) rfl;refine⟨⟨c.aa,c.e5⟩,?_,?_⟩
  ·obtain⟨v,d,e⟩:=RU c a.t11 b.t11 (I.HD t s).1 a.ah b.ah (λv w i k=>(r v w _ _ i k A).1);exact⟨v,d,cI (aM 154 lV n) e⟩
  ·obtain⟨v,d,e⟩:=adQ c a.t11 b.t11 (I.HD t s).2 a.ai b.ai (λv w i k=>(r v w _ _ i k A).2);exact⟨v,d,cI (aM 173 lT n) e⟩
 |MU t s p q dB cT=>
  have a:=o t p dB;have b:=o s q cT;have z:=zn (WN (rv:=[]) dB.mem) (WN (rv:=[]) cT.mem);have c:=ks (p:=bP) (n:=eM) (l:=[t,s]) rfl;refine⟨⟨c.aa,c.e5⟩,?_,?_⟩
  ·obtain⟨v,d,e⟩:=acf c a.t11 b.t11 (I.g2 t s).1 (I.dh t s).1 a.ah b.ah (λv w i k=>(u v w _ _ i k z).1);exact⟨v,d,cI (aM 154 lV n) e⟩
  ·obtain⟨v,d,e⟩:=XT c a.t11 b.t11 (I.g2 t s).2 (I.dh t s).2 a.ai b.ai (λv w i k=>(u v w _ _ i k z).2);exact⟨v,d,cI (aM 173 lT n) e⟩
 |neg t p dB=>
  have a:=o t p dB;have N:nB fT p:=HP y7 (by have:=cB E0 dB.mem;simp only[cg] at this;exact this.2.1)
  have c:=ks (p:=bP) (n:=jy) (l:=[t]) rfl;have B:b8 (dk.num (-1))=true:=dk.eU _;refine⟨⟨c.aa,c.e5⟩,?_,?_⟩
  ·obtain⟨v,d,e⟩:=aiz c a.t11 (I.ns t).1 (I.hM t).1 (I.qP t).1 y.1 B a.ah (λv i=>(x v _ i N).1);exact⟨v,d,cI (aM 154 lV n) e⟩
  ·obtain⟨v,d,e⟩:=auQ c a.t11 (I.ns t).2 (I.hM t).2 (I.qP t).2 y.2 B a.ai (λv i=>(x v _ i N).2);exact⟨v,d,cI (aM 173 lT n) e⟩
theorem asS:bl λu=>∀t p,ka t p->mf u dk t p:=by
 have d:=k8.PD (rv:=(· +1)) Tm;have e:=(((d.and k8.add).and (Kg.and k8.neg)).and (k8.fC.and G7));have i:bl λu=>∀t p,ka t p->¬lz (· +1) t p->mf u dk t p:=by refine e.up λn h t p c j=>?_;exact aBj n h t p c j
 refine(d.and i).imp λn h t p c=>?_;by_cases g:lz (· +1) t p
 ·exact h.1 t p g
 ·exact h.2 t p c g
theorem agC(d:h∈iu++i1)(o:kx l aR):bl λu=>mf u (p0 h l aR) (cO h l) [⟨dQ aR,1⟩]:=by
 have H:=YJ d o;have j:(p0 h l aR).di (dQ aR)= .aQ 11 [cO h l]:=by show pk (cO h l) (dQ aR) (dQ aR)=_;unfold pk;rw[if_pos rfl]
 have p:bl λu=>(aK u 98 [.agg (cO h l),fv,ao 2] (.F false)/\aK u 98 [.agg (cO h l),eM,ao 2] (.F false)/\aK u 98 [.agg (cO h l),jy,ao 1] (.F false)/\aK u 98 [.agg (cO h l),y3,ao 1] (.F false))/\aK u 85 [.agg (cO h l),fv,ao 2] (.F false)/\aK u 85 [.agg (cO h l),eM,ao 2] (.F false)/\aK u 85 [.agg (cO h l),jy,ao 1] (.F false)/\aK u 85 [.agg (cO h l),y3,ao 1] (.F false):=bl.run λn=>by have a:=cB (ajJ n l) d;have b:=cB (ayl n l) d;simp only[cg] at a b;exact⟨⟨eN a.1,eN a.2.1,eN a.2.2.1,eN a.2.2.2⟩,eN b.1,eN b.2.1,eN b.2.2.1,eN b.2.2.2⟩
 refine((p.and qx).and H.Cg).up λn g=>?_;obtain⟨⟨⟨⟨a1,a2,q,a4⟩,r,w,x,y⟩,k⟩,z⟩:=g;have A:aK (bB bD n) 37 [ao 1] (.agg ((p0 h l aR).num 1)):=k.int 1 (by decide);have B:aK (bB bD n) 60 [ao 1] (.agg ((p0 h l aR).num 1)):=k.zh 1 (by decide);have C:g7 [⟨dQ aR,1⟩]:=⟨vC _ _,λm c=>by simp at c;rw[c];show(1:Rat)≠0;decide⟩;have D:cA (p0 h l aR) (.aQ 8 [(p0 h l aR).bd ⟨dQ aR,1⟩]) [⟨dQ aR,1⟩]:= .inr rfl;have G:=z D C (λm c=>by simp at c;rw[c];exact⟨.inr (.inr (.inr (.inr rfl))),wY ⟨1,rfl,by decide⟩⟩) (by simp);refine⟨⟨(i4 h l).aa,(i4 h l).e5⟩,?_,?_⟩
 ·obtain⟨v,e,i⟩:=ayK j (i4 h l) (by omega) a1 a2 q a4 A;exact⟨v,e,cI (aM 154 lV n) i⟩
 ·obtain⟨v,e,i⟩:=afN j (i4 h l) (by omega) r w x y B G;exact⟨v,e,cI (aM 173 lT n) i⟩
inductive i6 (M:Nat) (u:Fn) (t:aB):Prop
 |ax (t11:cq t) (a:aK u 116 [.agg t] (.a0 [.aE,ao 0,.F false])) (r:aK u 40 [.agg t] (.a0 [.aE,ao 0,ao 0])):i6 M u t
 |zero (t11:cq t) (v v':an) (es aEK:aY) (p:bE) (hv:dw 8 v es) (a:aK u 116 [.agg t] (.a0 [v,ao 3,.F true])) (hv':dw 8 v' aEK) (r:aK u 40 [.agg t] (.a0 [v',ao 3,ao 0])) (c:∀n,M<=n->∃ol:aB,ol.length=7/\aK (bB bD n) 45 [v'] (.a0 [.agg ol,.F (h6 0 p)])):i6 M u t
 |row (t11:cq t) (k:Int) (hk:k=1\/k=2) (p:bE) (v v':an) (ol:aB) (hv:cA dk v p) (hv':cA dk v' p) (a:aK u 116 [.agg t] (.a0 [v,ao k,.F true])) (r:aK u 40 [.agg t] (.a0 [v',ao k,ao 0])) (hl:ol.length=7)
  (c:aK u 117 [v] (.a0 [.agg ol,.F (h6 0 p)])) (c':∀n,M<=n->∃ol:aB,ol.length=7/\aK (bB bD n) 45 [v'] (.a0 [.agg ol,.F (h6 0 p)])) (hp:h6 0 p=true\/jp p):i6 M u t
def KP(E:cr)(K:Nat->Prop)(u:Fn):Prop:=∀v p,cA E v p->(∀m∈p,K m.k)->p.length<1000->(∃c:aB,c.length=7/\aK u 117 [v] (.a0 [.agg c,.F (h6 0 p)]))/\∃c:aB,c.length=7/\aK u 45 [v] (.a0 [.agg c,.F (h6 0 p)])
section
variable{E:cr} {K:Nat->Prop} {L:Nat} (H:kI E K L) (hA:∀k,K k->k≠0->∃t l,E.di k= .aQ 11 (t::l)/\l.length<1000)
include H hA
theorem kI.si:bl λu=>KP E K u:=qx.up λn h v p e g i=>by
 have j:aK (bB bD n) 37 [ao 0] (.agg (E.num 0)):=by rw[H.num];exact h.int 0 (by decide)
 have k:aK (bB bD n) 60 [ao 0] (.agg (E.num 0)):=by rw[H.num];exact h.zh 0 (by decide)
 obtain⟨o,eR,q⟩:=av8 H.has (λm c d=>hA _ (g m c) d) e i j;obtain⟨r,w,x⟩:=asv H.has (λm c d=>hA _ (g m c) d) e i k;exact⟨⟨o,eR,cI (aM 117 uL n) q⟩,r,w,cI (aM 45 ud n) x⟩
theorem kI.oX{o:Nat}(y:∀n,o<=n->KP E K (bB bD n))(S:aB->bE->Prop)(z:bl λu=>∀t P,S t P->mf u E t P):bl λu=>∀a b P Q,S a P->S b Q->nB K Q->nv E K P (hB Q)->i6 o u (oX a b):=by
 have q:=(H.adg S z).and (H.si hA);refine(q.and (q.up (C:=λu=>∀a b P Q,S a P->S b Q->nB K Q->nv E K P (hB Q)->∃v,cA E v (lW P Q)/\aK u 116 [.agg (Go.Hf.oX a b)] (.a0 [v,ao 3,.F true])) λn h a b P Q e g i c=>?_)).imp λn h a b P Q e g i c=>?_
 ·obtain⟨v,j,k⟩:=(h.1 a b P Q e g i c).2.2.ah;have d:=ks (p:=bP) (n:=fe) (l:=[bU bP iB [a,b]]) rfl;exact⟨v,j,cI (aM 116 yo n) (PI ⟨d.aa,d.e5⟩ j (by omega) k)⟩
 ·obtain⟨⟨A,N⟩,B⟩:=h;obtain⟨v,j,k⟩:=B a b P Q e g i c;obtain⟨w,x,D⟩:=(A a b P Q e g i c).2.2.ai;have d:=ks (p:=bP) (n:=fe) (l:=[bU bP iB [a,b]]) rfl;have G:∀m∈lW P Q,K m.k:=pD _ (by simp) λm I=>(fr.1 I).elim (c.iy m) (c.lF m);have J:(lW P Q).length<1000:=by have:=pP (P++hB Q) [];have:=c.len;simp only[kT,lh] at*;show(hU [] _).length<1000;omega
  exact .zero ⟨d.aa,d.e5⟩ v w _ _ _ j k x D λn M=>(y n M w _ x G J).2
end
theorem EU:∀k,fT k->k≠0->∃t l,dk.di k= .aQ 11 (t::l)/\l.length<1000:=by
 intro k _ g;have c:=oD k;rcases ru k with⟨e,h⟩|⟨e,h⟩
 ·unfold atR at e;rw[if_neg g] at e;split at e<;>cases e
 ·cases d:fb k with
  |nil=>exact absurd d h
  |cons t l=>rw[d] at c e;exact⟨t,l,e,by simp at c;omega⟩
theorem acx:∀k,mE (dQ aR) k->k≠0->∃t c,(p0 h l aR).di k= .aQ 11 (t::c)/\c.length<1000:=by
 intro k d g;rcases rg (h:=h) (l:=l) (nF aR) d with⟨e,_⟩|⟨t,e,_⟩
 ·exact absurd e g
 ·rcases tN (cO h l) (dQ aR) k with⟨a,b⟩|⟨a,b⟩
  ·rw[e] at b;cases b
  ·rw[e] at a;exact⟨t,[],a,by simp⟩
noncomputable def iS:Nat:=(k8.si EU).choose
theorem ID:∀n,iS<=n->KP dk fT (bB bD n):=(k8.si EU).choose_spec
theorem ZK(S:aB->bE->Prop)(N:bl λu=>∀t P,S t P->mf u dk t P):bl λu=>∀a b P Q,S a P->S b Q->nB fT Q->nv dk fT P (hB Q)->(h6 0 (lW P Q)=true\/jp (lW P Q))->i6 iS u (vh a b)/\i6 iS u (xZ b a):=by
 have A:=(k8.adg S N).and (k8.si EU);refine(A.and (A.up (C:=λu=>∀a b P Q,S a P->S b Q->nB fT Q->nv dk fT P (hB Q)->(∃v,cA dk v (lW P Q)/\aK u 116 [.agg (vh a b)] (.a0 [v,ao 2,.F true]))/\∃v,cA dk v (lW P Q)/\aK u 116 [.agg (xZ b a)] (.a0 [v,ao 1,.F true])) λn h a b P Q d e g c=>?_)).imp λn h a b P Q d e g c B=>?_
 ·obtain⟨⟨v,i,x⟩,_⟩:=(h.1 a b P Q d e g c).1;obtain⟨⟨w,j,y⟩,_⟩:=(h.1 a b P Q d e g c).2.1;have k:=ks (p:=bP) (n:=fe) (l:=[bU bP eu [b,a]]) rfl;have tl:=ks (p:=bP) (n:=eu) (l:=[a,b]) rfl;exact⟨⟨v,i,cI (aM 116 yo n) (PI ⟨tl.aa,tl.e5⟩ i (by omega) x)⟩,w,j,cI (aM 116 yo n) (PI ⟨k.aa,k.e5⟩ j (by omega) y)⟩
 ·obtain⟨⟨D,G⟩,O⟩:=h;obtain⟨⟨v,i,x⟩,w,j,y⟩:=O a b P Q d e g c;obtain⟨I,J,R⟩:=(D a b P Q d e g c).1.ai;obtain⟨w',M,T⟩:=(D a b P Q d e g c).2.1.ai;have k:=ks (p:=bP) (n:=fe) (l:=[bU bP eu [b,a]]) rfl;have tl:=ks (p:=bP) (n:=eu) (l:=[a,b]) rfl;have o:∀m∈lW P Q,fT m.k:=pD _ (by simp) λm X=>(fr.1 X).elim (c.iy m) (c.lF m);have q:(lW P Q).length<1000:=by have:=pP (P++hB Q) [];have:=c.len;simp only[kT,lh] at*;show(hU [] _).length<1000;omega
  obtain⟨⟨Z,eR,a1⟩,_⟩:=G v _ i o q;obtain⟨⟨a2,a3,a4⟩,_⟩:=G w _ j o q;exact⟨.row ⟨tl.aa,tl.e5⟩ 2 (.inr rfl) _ v I Z i J x R eR a1 (λn z=>(ID n z I _ J o q).2) B,.row ⟨k.aa,k.e5⟩ 1 (.inl rfl) _ w w' a2 j M y T a3 a4 (λn z=>(ID n z w' _ M o q).2) B⟩
def n1(t:aB)(P:bE):Prop:=∃n l,n<=2/\mL n t l/\P=ei l
theorem VZ:bl λu=>∀t P,n1 t P->mf u dk t P:=((HY 0 (by omega)).and ((HY 1 (by omega)).and (HY 2 (by omega)))).imp λn h t P c=>by
 obtain⟨k,l,d,c,rfl⟩:=c
 match k,d,c with
 |0,_,c=>exact h.1 t l c
 |1,_,c=>exact h.2.1 t l c
 |2,_,c=>exact h.2.2 t l c
theorem KG:bl λu=>∀a b P Q,n1 a P->n1 b Q->i6 iS u (vh a b)/\i6 iS u (xZ b a)/\i6 iS u (oX a b):=((ZK n1 VZ).and (k8.oX EU ID n1 VZ)).imp λn h a b P Q c d=>by obtain⟨k,l,i,j,rfl⟩:=id c;obtain⟨q,r,o,p,rfl⟩:=id d;obtain⟨r1,e,g⟩:=at0 j p i o;exact⟨(h.1 a b _ _ c d r1 e (.inr g)).1,(h.1 a b _ _ c d r1 e (.inr g)).2,h.2 a b _ _ c d r1 e⟩
abbrev tf:=lz (· +1)
theorem ax3(g:tf a P)(d:tf b Q):nB fT Q/\nv dk fT P (hB Q)/\(h6 0 (lW P Q)=true\/jp (lW P Q)):=by have e:=cB E0 d.mem;have c:=cB (cB aaq g.mem) d.mem;simp only[cg,ny] at e c;exact⟨HP y7 e.2.1,Gq y7 (λ_ _=>trivial) c.1,c.2.symm.imp id abC⟩
theorem UR:bl λu=>∀a b P Q,tf a P->tf b Q->i6 iS u (vh a b)/\i6 iS u (xZ b a):=(ZK tf (k8.PD Tm)).imp λn h a b P Q c d=>by obtain⟨r1,e,g⟩:=ax3 c d;exact h a b P Q c d r1 e g
theorem amZ(e:ka a P)(c:tf b Q):nB fT Q/\nv dk fT P (hB Q):=by
 refine⟨?_,Gq (sB:=zU) y7 (λ_ _=>trivial) ?_⟩
 ·have d:=cB E0 c.mem;simp only[cg] at d;exact HP y7 d.2.1
 ·cases e with
  |t0 _ _ g=>have:=cB (cB aaq g.mem) c.mem;simp only[cg] at this;exact this.1
  |plus t s p q dB cT=>exact cB (cB (cB axG dB.mem) cT.mem) c.mem
  |MU t s p q dB cT=>exact cB (cB (cB ano dB.mem) cT.mem) c.mem
  |neg t p dB=>exact cB (cB alU dB.mem) c.mem
theorem Fl:bl λu=>∀a b P Q,ka a P->tf b Q->i6 iS u (oX a b):=(k8.oX EU ID ka asS).imp λn h a b P Q c d=>by obtain⟨r1,e⟩:=amZ c d;exact h a b P Q c (.t0 _ _ d) r1 e
def Gb(r k:Nat):Bool:=Nat.beq k 0||(Nat.beq k 2||(Nat.beq k 4||(Nat.beq k 6||Nat.beq k r)))
theorem XL{r:Nat}(k:Nat)(h:Gb r k=true):mE r k:=by simp only[Gb,ny] at h;unfold mE;rcases h with h|h|h|h|h<;>have:=gz h<;>omega
def wj(i:Nat):Nat:=2*i+2
theorem aA6:(([1,8]:List Nat).all λr=>(zw wj).all λq=>IT (Gb r) q&&v8 (Gb r) (λk=> !Nat.beq k r) [⟨r,1⟩] (hB q))=true:=by kernel_rfl
theorem aEg(i:Nat)(hi:i<3):(p0 h l aR).di (wj i)= .aQ 11 [dW i]:=by
 show pk (cO h l) (dQ aR) (wj i)=_;have c:=nF aR;have:i=0\/i=1\/i=2:=by omega
 unfold pk;rcases this with rfl|rfl|rfl<;>rw[cU (by unfold wj;omega)]<;>rfl
end
end
end Go.Hf

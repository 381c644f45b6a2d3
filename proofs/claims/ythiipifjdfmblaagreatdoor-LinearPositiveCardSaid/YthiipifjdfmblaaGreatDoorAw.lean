import Derived.Test.YthiipifjdfmblaaGreatDoorAv
set_option linter.all false
set_option maxRecDepth 100000
namespace Go.Hf
open Go.RowKit
section
variable{a b:Nat} {c d:Rat} {p q:bE}
theorem U5:fV 0:= .inl ⟨rfl,by decide,by decide⟩
theorem DN(b:Nat):fW 0 b=b:=rfl
theorem IQ(a:Nat):fW a 0=a:=by
 unfold fW;split
 ·omega
 ·rw[y1 rfl]
theorem H1(e:a≠0:=by omega)(g:b≠0:=by omega):fW a b=10+9*(min a b-1)+(max a b-1):=by unfold fW;rw[if_neg e,if_neg g]
theorem FV{c d:Nat}(i:a<10)(j:b<10)(k:c<10)(hd:d<10)(h:fW a b=fW c d):(a=c/\b=d)\/(a=d/\b=c):=by
 rcases P1 a with rfl|pa
 ·rw[DN] at h;rcases P1 c with rfl|e
  ·rw[DN] at h;omega
  ·rcases P1 d with rfl|g
   ·rw[IQ] at h;omega
   ·rw[H1] at h;omega
 ·rcases P1 b with rfl|l
  ·rw[IQ] at h;rcases P1 c with rfl|e
   ·rw[DN] at h;omega
   ·rcases P1 d with rfl|g
    ·rw[IQ] at h;omega
    ·rw[H1] at h;omega
  ·rw[H1] at h;rcases P1 c with rfl|e
   ·rw[DN] at h;omega
   ·rcases P1 d with rfl|g
    ·rw[IQ] at h;omega
    ·rw[H1] at h;omega
theorem aao{x:cw}(j:x.k<10):∀{g:bE},lI g->(∀m∈g,m.k<10)->∀k,fa (g.map λy=>(⟨fW x.k y.k,x.U*y.U⟩:cw)) k=[]\/∃y∈g,fW x.k y.k=k/\fa (g.map λy=>(⟨fW x.k y.k,x.U*y.U⟩:cw)) k=[⟨k,x.U*y.U⟩]
 |[],_,_,k=> .inl rfl
 |y::r,h,l,k=>by
  obtain⟨t,u⟩:=ku.1 h;have w:=l y HO;by_cases e:fW x.k y.k=k
  ·subst e;right;refine⟨y,HO,rfl,?_⟩;rw[mG];have o:=Fx (m:=(⟨fW x.k y.k,x.U*y.U⟩:cw)) (r:=r.map λy=>⟨fW x.k y.k,x.U*y.U⟩);simp only at o;rw[o];have:fa (r.map λy=>(⟨fW x.k y.k,x.U*y.U⟩:cw)) (fW x.k y.k)=[]:=by unfold fa;rw[List.filter_eq_nil_iff];intro m n;obtain⟨z,i,rfl⟩:=yd.1 n;have a:=t z i;have A:=l z (OJ _ i);simp only[fo];intro h;rcases FV j A j w h with h|h<;>omega
   rw[this]
  ·have B:fa ((y::r).map λy=>(⟨fW x.k y.k,x.U*y.U⟩:cw)) k=fa (r.map λy=>(⟨fW x.k y.k,x.U*y.U⟩:cw)) k:=by unfold fa;rw[List.map_cons,List.filter_cons_of_neg (by simpa using e)]
   rw[B];rcases aao j u (λm n=>l m (OJ _ n)) k with h|⟨z,i,h⟩
   ·exact .inl h
   ·exact .inr ⟨z,OJ _ i,h⟩
theorem Yj{g:bE}(n:lI g)(o:∀m∈g,m.k<10):∀{j:bE},lI j->(∀m∈j,m.k<10)->∀k,∃i:List (cw×cw),fa (eK fW j g) k=i.map (λz=>⟨k,z.1.U*z.2.U⟩)/\(i.map (·.1)).Sublist j/\∀z∈i,z.2∈g/\fW z.1.k z.2.k=k
 |[],_,_,k=>⟨[],rfl,by simp,by simp⟩
 |x::r,h,t,k=>by
  obtain⟨E,w⟩:=ku.1 h;obtain⟨i,e,s,u⟩:=Yj n o w (λm A=>t m (OJ _ A)) k;have B:eK fW (x::r) g=(g.map λy=>⟨fW x.k y.k,x.U*y.U⟩)++eK fW r g:=by simp[eK]
  rw[B,E3,e];rcases aao (t x HO) n o k with f|⟨y,C,D,f⟩
  ·exact⟨i,by rw[f];rfl,s.trans (List.sublist_cons_self _ _),u⟩
  ·refine⟨(x,y)::i,by rw[f];rfl,s.cons_cons x,λz l=>?_⟩;rcases pG.1 l with rfl|l
   ·exact⟨C,D⟩
   ·exact u z l
theorem sQ(h:c=1\/c= -1):gQ 1 c:=by
 rcases h with rfl|rfl
 ·exact⟨1,rfl,by decide⟩
 ·exact⟨-1,rfl,by decide⟩
theorem Ti(h:c=1\/c= -1):c∈([1,-1]:List Rat):=by simpa using h
theorem jp.co(h:jp p){m:cw}(e:m∈p):gQ 16 m.U\/m.U∈pz:=by
 rcases h.t with t|t
 ·exact .inl (t m e).1
 ·by_cases g:m.k=0
  ·exact .inr ((t m e).1 g)
  ·exact .inl ((sQ ((t m e).2 g)).mono (by omega))
theorem att(h:gQ 16 c\/c∈pz)(g:gQ 16 d\/d∈pz):l9 c d=true/\fV (c*d):=by
 rcases h with h|h<;>rcases g with g|g
 ·exact⟨axR h g,wY ((h.mul g).mono (by omega))⟩
 ·obtain⟨z,rfl,e⟩:=h;have:=cB (cB W7 (JV e)) g;simp only[Hi] at this;exact⟨this.1,sc this.2.2⟩
 ·obtain⟨z,rfl,e⟩:=g;have:=cB (cB W7 (JV e)) h;simp only[Hi] at this;rw[Rat.mul_comm];exact⟨this.2.1,sc this.2.2⟩
 ·have:=cB (cB anp h) g;simp only[Hi] at this;exact⟨this.1,sc this.2⟩
def zs(c d:Rat):Prop:=kj c d=true/\kj d c=true/\fV (c+d)
theorem apG(h:zs c d):zs d c:=⟨h.2.1,h.1,by rw[mC];exact h.2.2⟩
theorem Js{a b:Rat}(i:gQ 16 a)(j:gQ 16 b)(k:gQ 16 c)(hd:gQ 16 d):zs (a*b) (c*d):=by
 obtain⟨x,rfl,l⟩:=i;obtain⟨y,rfl,n⟩:=j;obtain⟨z,rfl,o⟩:=k;obtain⟨w,rfl,r⟩:=hd;have fC:tQ (x*y).natAbs=true:=by rw[JY];exact cB (cB S6 (mem_range (by omega))) (mem_range (by omega))
 have e:tQ (z*w).natAbs=true:=by rw[JY];exact cB (cB S6 (mem_range (by omega))) (mem_range (by omega))
 have g:(x*y).natAbs<=256:=by rw[JY];have:=FE l n;omega
 have h:(z*w).natAbs<=256:=by rw[JY];have:=FE o r;omega
 rw[<-nj,<-nj];exact⟨MW fC e g h,MW e fC h g,wY ⟨x*y+z*w,by rw[Rat.intCast_add],by omega⟩⟩
theorem Ta{q n m:Rat}(e:q∈pz)(g:gQ 16 n)(h:gQ 8 m):zs (n*q) m:=by obtain⟨z,rfl,i⟩:=g;obtain⟨w,rfl,j⟩:=h;have:=cB (cB (cB amB (JV i)) e) (JV j);simp only[Hi] at this;exact⟨this.1,this.2.1,sc this.2.2⟩
theorem an2(u:jp p)(w:jp q){x y i h:cw}(j:x∈p)(n:y∈q)(o:i∈p)(k:h∈q)(B:x.k<i.k)(C:x.k=h.k)(D:y.k=i.k):zs (x.U*y.U) (i.U*h.U):=by
 rcases u.t with e|e<;>rcases w.t with g|g
 ·exact Js (e x j).1 (g y n).1 (e i o).1 (g h k).1
 ·have r:=sQ ((g y n).2 (by omega));by_cases l:x.k=0
  ·have z:=(g h k).1 (by omega);refine apG (Ta z (e i o).1 ?_);exact(((e x j).2 l).mul r).mono (by omega)
  ·exact Js (e x j).1 (r.mono (by omega)) (e i o).1 ((sQ ((g h k).2 (by omega))).mono (by omega))
 ·have t:=sQ ((e i o).2 (by omega));by_cases l:x.k=0
  ·have A:=(e x j).1 l;rw[Rat.mul_comm x.U];exact Ta A (g y n).1 ((t.mul ((g h k).2 (by omega))).mono (by omega))
  ·exact Js ((sQ ((e x j).2 l)).mono (by omega)) (g y n).1 (t.mono (by omega)) (g h k).1
 ·have r:=(g y n).2 (by omega);have t:=(e i o).2 (by omega);by_cases l:x.k=0
  ·have:=cB (cB (cB (cB agG ((e x j).1 l)) ((g h k).1 (by omega))) (Ti r)) (Ti t);simp only[Hi] at this;exact⟨this.1,this.2.1,sc this.2.2⟩
  ·exact Js ((sQ ((e x j).2 l)).mono (by omega)) ((sQ r).mono (by omega)) ((sQ t).mono (by omega)) ((sQ ((g h k).2 (by omega))).mono (by omega))
theorem zn(g:jp p)(i:jp q):Mo p q:=by
 have B:∀x∈p,∀y∈q,l9 x.U y.U=true/\fV (x.U*y.U):=λx n y o=>att (g.co n) (i.co o);have C:∀k,fa (eK fW p q) k=[]\/(∃x∈p,∃y∈q,fa (eK fW p q) k=[⟨k,x.U*y.U⟩])\/∃a c,fa (eK fW p q) k=[⟨k,a⟩,⟨k,c⟩]/\zs a c:=by
  intro k;obtain⟨A,e,s,j⟩:=Yj i.U.g0 i.k g.U.g0 g.k k;have sz:(A.map (·.1)).Pairwise λx y=>x.k<y.k:=List.Pairwise.sublist s g.U.g0;have l:∀z∈A,z.1∈p:=λz h=>s.subset (Io h);rw[e]
  match A,sz,l,j with
  |[],_,_,_=>exact .inl rfl
  |[z],_,l,j=>exact .inr (.inl ⟨z.1,l z (by simp),z.2,(j z (by simp)).1,rfl⟩)
  |[z,w],sz,l,j=>
   have a:=j z (by simp);have c:=j w (by simp);have fC:=l z (by simp);have t:=l w (by simp);have D:z.1.k<w.1.k:=by simpa using sz
   refine .inr (.inr ⟨_,_,rfl,?_⟩);rcases FV (g.k _ fC) (i.k _ a.1) (g.k _ t) (i.k _ c.1) (a.2.trans c.2.symm) with h|h
   ·omega
   ·exact an2 g i fC a.1 t c.1 D h.1 h.2
  |z::w::v::r,sz,l,j=>
   exfalso;have a:=j z (by simp);have c:=j w (by simp);have d:=j v (by simp);have fC:=l z (by simp);have t:=l w (by simp);have E:=l v (by simp);simp only[mG,ku] at sz;have F:=sz.1 w.1 (by simp);have G:=sz.2.1 v.1 (by simp);rcases FV (g.k _ fC) (i.k _ a.1) (g.k _ t) (i.k _ c.1) (a.2.trans c.2.symm) with h|h
   ·omega
   ·rcases FV (g.k _ fC) (i.k _ a.1) (g.k _ E) (i.k _ d.1) (a.2.trans d.2.symm) with h'|h'
    ·omega
    ·omega
 refine⟨g.aa,i.aa,g.k,i.k,B,λk=>?_,λk=>?_⟩
 ·rcases C k with h|⟨x,n,y,o,h⟩|⟨a,c,h,u⟩
  ·exact .inl h
  ·exact .inr (.inl ⟨_,h⟩)
  ·exact .inr (.inr ⟨_,_,h,u.1,u.2.1,trivial⟩)
 ·rw[<-AT];rcases C k with h|⟨x,n,y,o,h⟩|⟨a,c,h,u⟩
  ·rw[h];exact U5
  ·rw[h];simp only[cx,w6,As];exact(B x n y o).2
  ·rw[h];simp only[cx,w6,As];exact u.2.2
end
section
variable{z:Int} {n:Nat} {t:aB} {l:bE}
section
variable[Tok]
theorem bl.run{C:Fn->Prop}(h:∀n,C (bB bD (n+9))):bl C:=bl.kQ 9 h
structure mf (u:Fn) (E:cr) (t:aB) (p:bE):Prop where
 t11:cq t
 ah:fy u 154 E [.agg t] p
section
variable{E:cr} {K:Nat->Prop} {L:Nat} (H:kI E K L)
include H
theorem kI.fC:bl λu=>aK u 37 [ao (-1)] (.agg (E.num (-1))):=qx.imp λn h=>by rw[H.num];exact h.int (-1) (by decide)
theorem kI.aku:∃c,∀n,c<=n->∀a b P Q,mf (bB bD n) E a P->mf (bB bD n) E b Q->nB K Q->nv E K P (hB Q)->fy (bB bD (n+1)) 99 E [.agg a,.agg b] (ei (P++hB Q)):=by obtain⟨c,h⟩:=(H.fC.and (H.neg.and H.add));refine⟨c,λn i a b P Q e g j k=>?_⟩;obtain⟨m,o,p⟩:=h n i;have q:b8 (E.num (-1))=true:=E.eU _;obtain⟨v,r,u⟩:=anq e.t11 g.t11 m q e.ah g.ah (λv d=>o v Q d j) (λv w d x=>p v w P (hB Q) d x k);exact⟨v,r,cI (aM 99 DG n) u⟩
theorem kI.Qm:bl λu=>∀c,fV c->mf u E (cW (ef c)) (ei [⟨0,c⟩]):=H.const.up λn h c d=>by have a:=iA (jk c.num c.den) (iY c.num c.den);have e:E.num c=b5 c.num c.den:=H.num c;have b:=h c d;rw[e] at b;obtain⟨v,g,i⟩:=avJ a b;exact⟨⟨a.aa,a.e5⟩,v,g,cI (aM 154 lV n) i⟩
end
theorem agD:bl λu=>∀i,i<9->mf u dk (ec i) [⟨i+1,1⟩]:=bl.kQ 40 λn=>by intro i hi;have a:cA dk (.aQ 8 [b5 1 1++[tW (i+1)]]) [⟨i+1,1⟩]:= .inr rfl;have h:=cB (T6 n) (mem_range hi);exact⟨rM i,_,a,eN h⟩
theorem adN(a:z.natAbs<=4):fV (z:Rat):=wY ⟨z,rfl,by omega⟩
theorem adw(d:z.natAbs<=4):jp (ei [⟨0,(z:Rat)⟩]):=by
 have b:=rf [⟨0,(z:Rat)⟩];have c:∀m∈ei [⟨0,(z:Rat)⟩],m.k=0:=pD (K:=λk=>k=0) _ (by simp) (by simp);refine⟨b,λm a=>by rw[c m a];omega,?_,.inl λm a=>?_⟩
 ·have:=pP [⟨0,(z:Rat)⟩] [];simp at this;show(hU [] _).length<=6;omega
 ·have e:=m7 b.g0 a;rw[tv,c m a] at e;simp only[cx,w6,As] at e;rw[<-e];exact⟨⟨z,rfl,by omega⟩,λ_=>⟨z,rfl,by omega⟩⟩
theorem adf{i:Nat}(hi:i<9):jp [⟨i+1,1⟩]:=
 ⟨⟨s7 _ _,λm a=>by simp at a;rw[a];show(1:Rat)≠0;decide⟩,λm a=>by simp at a;rw[a];simp only;omega,by simp,.inl λm a=>by simp at a;subst a;exact⟨⟨1,rfl,by decide⟩,λh=>by simp at h⟩⟩
theorem Xe(z:Rat)(i:Nat):ei (eK fW (ei [⟨0,z⟩]) [⟨i+1,1⟩])=ei [⟨i+1,z⟩]:=by
 by_cases h:z=0
 ·subst h;have e:ei [⟨0,0⟩]=[]:=by simp[ei,hU,mZ]
  rw[e];refine LW λk=>?_;simp only[eK,List.flatMap_nil,cx];split<;>simp[As]
 ·rw[Yv ⟨s7 _ _,λm a=>by simp at a;rw[a];exact h⟩];refine LW λk=>?_;simp[eK,DN,Rat.mul_one]
structure ac1 (u:Fn):Prop where
 HD:∀x y:aB,aK u 98 [.agg (bU bP fv [x,y]),fv,ao 2] (.a9 true)
 g2:∀x y:aB,aK u 98 [.agg (bU bP eM [x,y]),fv,ao 2] (.a9 false)
 dh:∀x y:aB,aK u 98 [.agg (bU bP eM [x,y]),eM,ao 2] (.a9 true)
 ns:∀x:aB,aK u 98 [.agg (bU bP jy [x]),fv,ao 2] (.a9 false)
 hM:∀x:aB,aK u 98 [.agg (bU bP jy [x]),eM,ao 2] (.a9 false)
 qP:∀x:aB,aK u 98 [.agg (bU bP jy [x]),jy,ao 1] (.a9 true)
 h8:∀x y:aB,aK u 98 [.agg (bU bP eu [x,y]),eu,ao 2] (.a9 true)
 fI:∀x:aB,aK u 98 [.agg (bU bP fe [x]),eu,ao 2] (.a9 false)
 Ga:∀x:aB,aK u 98 [.agg (bU bP fe [x]),fe,ao 1] (.a9 true)
 el:∀x y:aB,aK u 98 [.agg (bU bP iB [x,y]),eu,ao 2] (.a9 false)
 lU:∀x y:aB,aK u 98 [.agg (bU bP iB [x,y]),iB,ao 2] (.a9 true)
theorem G7:bl ac1:=bl.run λn=>⟨λx y=>hE (akr n x y),
 λx y=>hE (aoB n x y),
 λx y=>hE (ani n x y),
 λx=>hE (au2 n x),
 λx=>hE (aC5 n x),
 λx=>hE (ahX n x),
 λx y=>hE (aw9 n x y),
 λx=>hE (aiu n x),
 λx=>hE (aqN n x),
 λx y=>hE (aqc n x y),
 λx y=>hE (asz n x y)⟩
def BF(z:Int)(i:Nat):aB:=bU bP eM [cW (ef z),ec i]
theorem aC0:bl λu=>∀(z:Int) i,z.natAbs<=4->i<9->mf u dk (BF z i) (ei [⟨i+1,z⟩]):=by refine((k8.Qm.and agD).and (Kg.and G7)).up λn h z i d hi=>?_;obtain⟨⟨j,k⟩,o,e⟩:=h;have c:=j z (adN d);have a:=k i hi;have b:=ks (p:=bP) (n:=eM) (l:=[cW (ef z),ec i]) rfl;obtain⟨v,g,q⟩:=acf b c.t11 a.t11 (e.g2 _ _) (e.dh _ _) c.ah a.ah (λv w r x=>o v w _ _ r x (zn (adw d) (adf hi)));rw[Xe] at g;exact⟨⟨b.aa,b.e5⟩,v,g,cI (aM 154 lV n) q⟩
inductive mL:Nat->aB->bE->Prop
 |num (z:Int) (hz:z.natAbs<=4):mL 0 (cW (ef z)) [⟨0,z⟩]
 |add (n:Nat) (z:Int) (i:Nat) (t:aB) (l:bE) (hz:z.natAbs<=4) (hi:i<9) (h:mL n t l):mL (n+1) (bU bP fv [BF z i,t]) (⟨i+1,z⟩::l)
theorem mL.amE(h:mL n t l):pw 4 l/\l.length=n+1/\(∀m∈l,m.k<10)/\(fa l 0).length<=1/\∀k,k≠0->(fa l k).length<=n:=by
 induction h with
 |num z j=>
  refine⟨λm g=>by simp at g;rw[g];exact⟨z,rfl,j⟩,rfl,λm g=>by simp at g;rw[g];simp,?_,λk o=>?_⟩
  ·have:=List.length_filter_le (λm:cw=>decide (m.k=0)) [⟨0,(z:Rat)⟩];exact this
  ·simp[fa];omega
 |add n z i t l j hi h q=>
  obtain⟨a,b,c,d,e⟩:=q;refine⟨λm g=>?_,by simp[b],λm g=>?_,?_,λk o=>?_⟩
  ·rcases pG.1 g with rfl|g
   ·exact⟨z,rfl,j⟩
   ·exact a m g
  ·rcases pG.1 g with rfl|g
   ·simp only;omega
   ·exact c m g
  ·have:fa (⟨i+1,(z:Rat)⟩::l) 0=fa l 0:=by unfold fa;rw[List.filter_cons_of_neg (by simp)]
   rw[this];exact d
  ·by_cases p:i+1=k
   ·have:fa (⟨i+1,(z:Rat)⟩::l) k=⟨i+1,(z:Rat)⟩::fa l k:=by unfold fa;rw[List.filter_cons_of_pos (by simpa using p)]
    rw[this];have:=e k o;simp;omega
   ·have:fa (⟨i+1,(z:Rat)⟩::l) k=fa l k:=by unfold fa;rw[List.filter_cons_of_neg (by simpa using p)]
    rw[this];have:=e k o;omega
theorem mL.OO(h:mL n t l)(p:n<=2):pw 8 (ei l)/\(∀m∈ei l,m.k=0->gQ 4 m.U)/\(ei l).length<=n+1/\(∀m∈ei l,m.k<10):=by
 obtain⟨a,b,c,d,e⟩:=h.amE;have j:=rf l;have o:∀m∈ei l,m.k<10:=pD (K:=λk=>k<10) _ (by simp) c;have co:∀m∈ei l,m.U=cx l m.k:=λm g=>by rw[<-m7 j.g0 g,tv]
 refine⟨λm g=>?_,λm g i=>?_,?_,o⟩
 ·rw[co m g];refine(a.cx m.k).mono ?_;by_cases i:m.k=0
  ·rw[i];omega
  ·have:=e m.k i;omega
 ·rw[co m g,i];exact(a.cx 0).mono (by omega)
 ·have:=pP l [];simp only[Md,Fa] at this;show(hU [] l).length<=_;omega
theorem HY:∀n,n<=2->bl λu=>∀t l,mL n t l->mf u dk t (ei l)
 |0,_=>k8.Qm.imp λn h t l c=>by
  cases c with
  |num z d=>exact h z (adN d)
 |k+1,M=>by
  refine((aC0.and (HY k (by omega))).and (k8.add.and G7)).up λn h t l c=>?_;obtain⟨⟨a,B⟩,C,hi⟩:=h;cases c with
  |add _ z i j b d D o=>
   have m:=a z i d D;have r:=B j b o;have g:=ks (p:=bP) (n:=fv) (l:=[BF z i,j]) rfl;obtain⟨f1,f2,f3,f4⟩:=o.OO (by omega);have q:=rf [⟨i+1,(z:Rat)⟩];have x:∀m∈ei [⟨i+1,(z:Rat)⟩],m.k=i+1:=pD (K:=λk=>k=i+1) _ (by simp) (by simp);have F:pw 80 (ei [⟨i+1,(z:Rat)⟩]):=λm a=>by have e:=m7 q.g0 a;rw[tv,x m a] at e;simp only[cx,w6,As] at e;rw[<-e];exact⟨z,rfl,by omega⟩
   have N:(ei [⟨i+1,(z:Rat)⟩]).length<=1:=by have:=pP [⟨i+1,(z:Rat)⟩] [];simp only[Md,JO,Fa] at this;exact this
   have A:nv dk fT (ei [⟨i+1,(z:Rat)⟩]) (ei b):=Vg q (rf b) F (λm a=>(f1 m a).mono (by omega)) (by omega) (λm a=>by rw[x m a];exact .inl (by omega)) (λm a=> .inl (f4 m a));have e:ei (ei [⟨i+1,(z:Rat)⟩]++ei b)=ei (⟨i+1,(z:Rat)⟩::b):=LW λk=>by rw[qp,tv,tv];simp only[cx,As]
   obtain⟨v,y,G⟩:=RU g m.t11 r.t11 (hi.HD _ _) m.ah r.ah (λv w I J=>C v w _ _ I J A);rw[e] at y;exact⟨⟨g.aa,g.e5⟩,v,y,cI (aM 154 lV n) G⟩
def lW(p q:bE):bE:=ei (p++hB q)
theorem at0{m:Nat}{a b:aB}{k:bE}(C:mL n a l)(D:mL m b k)(F:n<=2)(c:m<=2):nB fT (ei k)/\nv dk fT (ei l) (hB (ei k))/\jp (lW (ei l) (ei k)):=by
 obtain⟨q,G,N,a4⟩:=C.OO F;obtain⟨r,I,O,u⟩:=D.OO c;have i:=rf l;have w:=rf k;have j:=aoR w;have y:pw 8 (hB (ei k)):=λm c=>by obtain⟨x,d,rfl⟩:=yd.1 c;exact(r x d).neg
 have A:∀m∈hB (ei k),m.k<10:=λm c=>by obtain⟨x,d,rfl⟩:=yd.1 c;exact u x d
 have P:(hB (ei k)).length=(ei k).length:=by simp[hB]
 refine⟨atN w (λm c=>(r m c).mono (by omega)) (by omega) (λm c=> .inl (u m c)),Vg i j (λm c=>(q m c).mono (by omega)) (λm c=>(y m c).mono (by omega)) (by omega) (λm c=> .inl (a4 m c)) (λm c=> .inl (A m c)),?_⟩;have B:=rf (ei l++hB (ei k));have asT:∀{p:bE},lI p->∀k,(fa p k).length<=1:=λ{p} h k=>by rcases um h k with e|⟨x,_,_,e⟩<;>rw[e]<;>simp
 have zero:∀{p:bE},(∀m∈p,m.k=0->gQ 4 m.U)->gQ 4 (cx p 0)->True:=λ_ _=>trivial;have c0:∀{p:bE},lI p->(∀m∈p,m.k=0->gQ 4 m.U)->gQ 4 (cx p 0):=λ{p} h o=>by
  by_cases g:∃m∈p,m.k=0
  ·obtain⟨m,c,e⟩:=g;rw[<-e,m7 h c];exact o m c e
  ·rw[Dm λm c e=>g ⟨m,c,e⟩];exact gQ.zero _
 refine⟨B,pD (K:=λk=>k<10) _ (by simp) λm c=>(Ic.1 c).elim (a4 m) (A m),?_,.inl λm c=>?_⟩
 ·have:=pP (ei l++hB (ei k)) [];simp only[Md,Fa,OD] at this;show(hU [] _).length<=6;omega
 ·have e:m.U=cx (ei l) m.k+cx (hB (ei k)) m.k:=by rw[<-qp,<-tv];exact(m7 B.g0 c).symm
  rw[e];refine⟨?_,λo=>?_⟩
  ·have J:=(q.cx m.k).mono (B':=8) (by have:=AR 8 (asT i.g0 m.k);omega);have M:=(y.cx m.k).mono (B':=8) (by have:=AR 8 (asT j.g0 m.k);omega);exact J.add M
  ·rw[o];refine(c0 i.g0 G).add (c0 j.g0 λm c g=>?_);obtain⟨x,d,rfl⟩:=yd.1 c;exact(I x d g).neg
end
end
section
variable{o t:aB} {n c m:Nat}
section
variable[Tok]
def JK(o:aB):Prop:=∃k a c1 b d e g a4 h i j,-1000<k/\k<1000/\nr o k a c1 b d e g a4 h i j .aE
theorem Dk(p q:Int):JK (b5 p q):=⟨1,_,_,_,_,0,0,0,0,0,0,by omega,by omega,⟨rfl,rfl⟩⟩
theorem ac8:JK dx:=⟨0,0,0,0,0,0,0,0,0,0,0,by omega,by omega,⟨by unfold dx;rw[bF],rfl⟩⟩
theorem ah7(h:o∈to):(∃b c1 d e,o=nt b c1 d e)\/(∃a c,o=uV a c)\/∃x∈aEB,o=b5 x.1 x.2:=by
 unfold to at h;rcases Ic.1 h with h|h
 ·simp only[kY,pG,CY,wN] at h;rcases h with h|h|h|h|h|h|h|h
  ·exact .inl ⟨_,_,_,_,h⟩
  ·exact .inl ⟨_,_,_,_,h⟩
  ·exact .inl ⟨_,_,_,_,h⟩
  ·exact .inl ⟨_,_,_,_,h⟩
  ·exact .inl ⟨_,_,_,_,h⟩
  ·exact .inr (.inl ⟨_,_,h⟩)
  ·exact .inr (.inl ⟨_,_,h⟩)
  ·exact .inr (.inl ⟨_,_,h⟩)
 ·obtain⟨x,g,rfl⟩:=yd.1 h;exact .inr (.inr ⟨x,g,rfl⟩)
theorem Er(o:aB)(h:o∈to):wL o:=by
 rcases ah7 h with⟨b,c1,d,e,rfl⟩|⟨a,c,rfl⟩|⟨x,_,rfl⟩
 ·exact⟨2,_,_,_,_,_,_,_,_,_,_,by omega,by omega,⟨rfl,rfl⟩⟩
 ·exact⟨3,_,_,_,_,_,_,_,_,_,_,by omega,by omega,⟨rfl,rfl⟩⟩
 ·exact⟨1,_,_,_,_,_,_,_,_,_,_,by omega,by omega,⟨rfl,rfl⟩⟩
theorem aD4(o:aB)(h:o∈to):JK o:=by obtain⟨k,a,c1,b,d,e,g,a4,i,j,l,q,r,p⟩:=Er o h;exact⟨k,a,c1,b,d,e,g,a4,i,j,l,by omega,by omega,p⟩
abbrev h0 (n c:Nat) (o:aB):Prop:=lJ (· ∈to) n c o
abbrev jX (n c:Nat) (o:aB):Prop:=lJ JK n c o
theorem h0.NM(h:h0 n c o):jX n c o:=by
 induction h with
 |leaf h=>exact .leaf (aD4 _ h)
 |cons _ _ a b=>exact .cons a b
theorem h0.mono(h:h0 n c o):h0 (n+1) c o:=by
 induction h with
 |leaf h=>exact .leaf h
 |cons _ _ a b=>exact .cons a b
theorem jX.mono(h:jX n c o):jX (n+1) c o:=by
 induction h with
 |leaf h=>exact .leaf h
 |cons _ _ a b=>exact .cons a b
theorem jX.le(h:jX n c o)(a:n<=m):jX m c o:=by
 induction a with
 |refl=>exact h
 |step _ b=>exact b.mono
theorem h0.amJ(h:h0 n c o):c<2^(n+1):=by
 induction h with
 | @leaf n o h=>exact nJ (Nat.succ_ne_zero n)
 | @cons n c b a d _ _ e g=>rw[nV 2 (n+1)];omega
theorem jX.v(h:jX n c o):∃k a c1 b g i j a4 l p q L,-1000<k/\k<1000/\nr o k a c1 b g i j a4 l p q L/\((L= .aE)\/∃m d e x y,n=m+1/\L= .aQ 7 [x,y]/\jX m d x/\jX m e y):=by
 cases h with
 |leaf h=>obtain⟨k,a,c1,b,g,i,j,a4,l,p,q,r,u,w⟩:=h;exact⟨k,a,c1,b,g,i,j,a4,l,p,q,.aE,r,u,w,.inl rfl⟩
 |cons z hd=>exact⟨4,_,_,_,_,_,_,_,_,_,_,_,by omega,by omega,ye,.inr ⟨_,_,_,_,_,rfl,rfl,z,hd⟩⟩
theorem jX.ak(h:jX n c o):o.length=7/\b8 o=true:=by obtain⟨k,b,c1,d,e,g,i,a4,j,l,p,L,_,_,a,_⟩:=h.v;exact⟨a.aa,a.pure⟩
theorem ac7:∀m,bl λu=>∀n c j l x y,n<=m->jX n c x->jX j l y->∃e,aK u 65 [.agg x,.agg y] (.a9 e)/\(x=y->e=true):=by
 have step:∀(P:Nat->aB->Prop) (O:∀n c o,jX n c o->True) (m:Nat),(bl λu=>∀n c j l x y,n<m->jX n c x->jX j l y->∃e,aK u 65 [.agg x,.agg y] (.a9 e)/\(x=y->e=true))->bl λu=>∀n c j l x y,n<=m->jX n c x->jX j l y->∃e,aK u 65 [.agg x,.agg y] (.a9 e)/\(x=y->e=true):=by
  intro P O m D;refine D.up λN h n c j l x y G Q R=>?_;obtain⟨k,a1,c1,a2,c2,a3,c3,a4,c4,a5,c5,L,r,w,z,S⟩:=Q.v;obtain⟨k',cp,d1,cs,d2,c0,d3,dd,d4,dq,d5,L',A,B,C,H⟩:=R.v;have T:∃e,(x=y->e=true)/\∃s d,n3 (bB bD N) [.agg x,.agg y] 0 .nil= .ok (.a9 e) 0 s d:=by
   rcases S with rfl|⟨W,dt,dz,ee,em,eq,rfl,eR,X⟩
   ·rcases H with rfl|⟨Z,ar,bd,bs,bx,cc,rfl,I,J⟩
    ·exact FP z C ⟨r,w⟩ ⟨A,B⟩ (.inl ⟨rfl,rfl⟩) (.inl ⟨rfl,rfl⟩) (by simp) (by simp) λi p q a g=>by simp at a
    ·exact FP z C ⟨r,w⟩ ⟨A,B⟩ (.inl ⟨rfl,rfl⟩) (.inr rfl) (by simp) (by simp) λi p q a g=>by simp at a
   ·rcases H with rfl|⟨Z,ar,bd,bs,bx,cc,rfl,I,J⟩
    ·exact FP z C ⟨r,w⟩ ⟨A,B⟩ (.inr rfl) (.inl ⟨rfl,rfl⟩) (by simp) (by simp) λi p q a g=>by simp at g
    ·refine FP z C ⟨r,w⟩ ⟨A,B⟩ (.inr rfl) (.inr rfl) (by simp) (by simp) λi p q a g=>?_;have cl:(∃d,jX (n-1) d p):=by
      have K:n-1=W:=by omega
      match i,a with
      |0,a=>simp at a;subst a;exact⟨_,by rw[K];exact eR⟩
      |1,a=>simp at a;subst a;exact⟨_,by rw[K];exact X⟩
      |_+2,a=>simp at a
     have cn:(∃m d,jX m d q):=by
      match i,g with
      |0,g=>simp at g;subst g;exact⟨_,_,I⟩
      |1,g=>simp at g;subst g;exact⟨_,_,J⟩
      |_+2,g=>simp at g
     obtain⟨en,E⟩:=cl;obtain⟨es,ev,F⟩:=cn;exact⟨E.ak.1,E.ak.2,F.ak.1,F.ak.2,h _ _ _ _ p q (by omega) E F⟩
  obtain⟨e,h1,h2⟩:=T;exact⟨e,cI (aM 65 n3 N) h2,h1⟩
 intro m;induction m with
 |zero=>exact step (λ_ _=>True) (λ_ _ _ _=>trivial) 0 (bl.jr.imp λn _ j c M l x y G=>by omega)
 |succ m D=>exact step (λ_ _=>True) (λ_ _ _ _=>trivial) (m+1) (D.imp λn h j c M l x y G=>h j c M l x y (by omega))
inductive GE:Nat->aB->Prop
 |var (n a1 c1 a2 c2:Nat):GE n (yb (.s a1 c1) (.s a2 c2))
 |iW (n m c:Nat) (o:aB) (hm:m<=4) (h:jX m c o):GE n (cW o)
 |kS (n a1 c1 a2 c2:Nat) (l:aY) (hl:l.length<900) (h:∀t∈l,GE n t):GE (n+1) (bU (.s a1 c1) (.s a2 c2) l)
theorem GE.mono(h:GE n t):GE (n+1) t:=by
 induction h with
 |var n a c1 b d=>exact .var _ _ _ _ _
 |iW n m c o e h=>exact .iW _ m c o e h
 |kS n a c1 b d l g h i=>exact .kS _ _ _ _ _ l g i
theorem GE.le(h:GE n t)(a:n<=m):GE m t:=by
 induction a with
 |refl=>exact h
 |step _ b=>exact b.mono
theorem GE.v(h:GE n t):∃k d c1 e g o a I c,-1000<k/\k<1000/\fk t k (.s d c1) (.s e g) o a/\dw 11 a I/\I.length<900/\jX 4 c o/\(I=[]\/∃m,n=m+1/\∀t∈I,GE m t):=by
 have b:∃c,jX 4 c dx:=⟨1,.leaf ac8⟩;obtain⟨i,b⟩:=b;cases h with
 |var n d c1 e g=>exact⟨1,_,_,_,_,_,_,[],i,by omega,by omega,yH rfl,.inl ⟨rfl,rfl⟩,by simp,b,.inl rfl⟩
 |iW n m c o j h=>exact⟨2,_,_,_,_,_,_,[],c,by omega,by omega,iA h.ak.1 h.ak.2,.inl ⟨rfl,rfl⟩,by simp,h.le j,.inl rfl⟩
 |kS n d c1 e g l p h=>exact⟨3,_,_,_,_,_,_,l,i,by omega,by omega,ks rfl,.inr rfl,p,b,.inr ⟨n,rfl,h⟩⟩
theorem GE.t11(h:GE n t):cq t:=by obtain⟨k,d,c1,e,g,o,a,I,c,_,_,b,_⟩:=h.v;exact⟨b.aa,b.e5⟩
def OX(u:Fn)(x y:aB):Prop:=∃e,aK u 24 [.agg x,.agg y] (.a9 e)/\(x=y->e=true)
theorem Wa:∀m,bl λu=>∀n g x y,n<=m->GE n x->GE g y->OX u x y:=by
 have step:∀m,(bl λu=>∀n g x y,n<m->GE n x->GE g y->OX u x y)->bl λu=>∀n g x y,n<=m->GE n x->GE g y->OX u x y:=by
  intro m G;have H:bl λu=>∀n g a j I d,n<m->dw 11 a I->dw 11 j d->I.length<900->d.length<900->(∀t∈I,GE n t)->(∀t∈d,GE g t)->∃e,aK u 68 [a,j] (.a9 e)/\(I=d->e=true):=G.up λN h n g a j I d C l w R S dB cT=>by
   obtain⟨e,A,B⟩:=Xv l w (by omega) (by omega) λi p q J K=>by have O:=dB p (On J);have P:=cT q (On K);exact⟨O.t11,P.t11,h n g p q C O P⟩
   exact⟨e,cI (aM 68 r9 N) B,A⟩
  have D:bl λu=>∀a j I d,dw 11 a I->dw 11 j d->I.length<900->d.length<900->(I=[]\/d=[])->∃e,aK u 68 [a,j] (.a9 e)/\(I=d->e=true):=bl.jr.up λN _ a j I d l w R S T=>by
   obtain⟨e,A,B⟩:=Xv (u:=bB bD N) l w (by omega) (by omega) λi p q J K=>by
    rcases T with rfl|rfl
    ·simp at J
    ·simp at K
   exact⟨e,cI (aM 68 r9 N) B,A⟩
  refine((H.and D).and (ac7 4)).up λN h n g x y C W X=>?_;obtain⟨⟨H,D⟩,Z⟩:=h;obtain⟨k,a1,c1,a2,c2,o,a,I,c,k1,k2,hv,l,L,ho,ar⟩:=W.v;obtain⟨k',cs,d1,c0,d2,o',j,d,c',a3,a4,a5,w,M,bd,bs⟩:=X.v;have bx:∃e,aK (bB bD N) 68 [a,j] (.a9 e)/\(I=d->e=true):=by
   rcases ar with h1|⟨p,c3,dB⟩
   ·exact D a j I d l w L M (.inl h1)
   ·rcases bs with h2|⟨q,eq,cT⟩
    ·exact D a j I d l w L M (.inr h2)
    ·exact H p q a j I d (by omega) l w L M dB cT
  obtain⟨e,A,B⟩:=bx;have cc:a=j->I=d:=λz=>by
   rcases l with⟨E,cl⟩|E<;>rcases w with⟨F,cn⟩|F
   ·rw[cl,cn]
   ·rw[E,F] at z;cases z
   ·rw[E,F] at z;cases z
   ·rw[E,F] at z;simpa using z
  obtain⟨r,r1,cp⟩:=ao7 hv a5 ⟨k1,k2⟩ ⟨a3,a4⟩ l w (Z _ _ _ _ o o' (sm _) ho bd) ⟨e,A,λz=>B (cc z)⟩;exact⟨r,cI (aM 24 wa N) cp,r1⟩
 intro m;induction m with
 |zero=>exact step 0 (bl.jr.imp λn _ g Q x y C=>by omega)
 |succ m G=>exact step (m+1) (G.imp λn h g Q x y C=>h g Q x y (by omega))
end
end
section
variable{n c:Nat} {o t:aB} {w:Nat×Nat×Nat}
section
variable[Tok]
theorem h0.le{m:Nat}(h:h0 n c o)(a:n<=m):h0 m c o:=by
 induction a with
 |refl=>exact h
 |step _ b=>exact b.mono
theorem h0.eo(a:n<=3)(h:h0 n c o):c<=15:=by have b:=h.amJ;have d:2^(n+1)<=2^4:=Nat.pow_le_pow_right (by omega) (by omega);omega
theorem h0.ak{n c:Nat}{o:aB}(h:h0 n c o):o.length=7/\b8 o=true:=h.NM.ak
theorem Kv:∀m,m<=9->bl λu=>∀n c o,n<m->h0 n c o->∀l:Int,(c:Int)<=l->l<100000->aK u 324 [.agg o,ao l] (ao (l-c))
 |0,_=>bl.jr.imp λn _ k c o i=>by omega
 |m+1,j=>by
  refine((Kv m (by omega)).and ((Kv m (by omega)).up (C:=λu=>∀c o,h0 m c o->∀l:Int,(c:Int)<=l->l<100000->aK u 324 [.agg o,ao l] (ao (l-c))) λN h c o a l b d=>cI (aM 324 D5 N) (apZ Er h (by omega) a b d))).imp λN h n c o p a l b d=>?_;rcases DL n m with g|q
  ·exact h.1 n c o g a l b d
  ·have e:n=m:=by omega
   subst e;exact h.2 c o a l b d
theorem anx:bl λu=>∀n c o,n<=3->h0 n c o->aK u 271 [.agg o] (ao c):=(Kv 4 (by omega)).up λN h n c o b a=>
 cI (aM 271 Ec N) (ayF Er a (by have:=a.eo b;omega) (h n c o (by omega) a 3001 (by have:=a.eo b;omega) (by omega)))
inductive m5:aB->Nat×Nat×Nat->Prop
 |var (i:Nat) (hi:i<3):m5 (dW i) (1,0,0)
 |iW (n c:Nat) (o:aB) (hn:n<=3) (h:h0 n c o):m5 (cW o) (0,0,c)
theorem m5.t11(h:m5 t w):cq t:=by
 cases h with
 |var i hi=>exact⟨rfl,rfl⟩
 |iW n c o a h=>exact⟨(iA h.ak.1 h.ak.2).aa,(iA h.ak.1 h.ak.2).e5⟩
theorem m5.a9(h:m5 t w):w.1<=1/\w.2.1=0/\w.2.2<=15/\w.1+w.2.2<=15:=by
 cases h with
 |var i hi=>simp
 |iW n c o a h=>have:=h.eo a;simp;omega
structure ayk (u:Fn) (t:aB) (w:Nat×Nat×Nat):Prop where
 ah:∀x y z:Int,0<=x/\x<400000->0<=y/\y<400000->0<=z/\z<400000->aK u 233 [.agg t,.agg (ew x y z)] (.agg (ew (x+w.1) (y+w.2.1) (z+w.2.2)))
theorem AV:bl λu=>∀t w,m5 t w->ayk u t w:=anx.up λN h t w d=>by
 refine⟨λx y z e g j=>?_⟩;cases d with
 |var i hi=>have:=cI (aM 233 qK N) (aya (u:=bB bD N) (yH (p:=kl) (n:=uF i) rfl) (x:=x) (y:=y) (z:=z) (by omega));show aK (bB bD (N+1)) 233 [.agg (yb kl (uF i)),.agg (ew x y z)] _;simpa using this
 |iW n c o b a=>have:=cI (aM 233 qK N) (auy (iA a.ak.1 a.ak.2) (by have:=a.eo b;omega) (h n c o b a) (x:=x) (y:=y) (z:=z) (by omega));simpa using this
structure kx (l:aY) (aR:List (Nat×Nat×Nat)):Prop where
 len:aR.length=l.length
 eV:l.length<=3
 eD:1<=l.length
 al:∀(i:Nat) (t:aB) (al:Nat×Nat×Nat),l[i]? =some t->aR[i]? =some al->m5 t al
theorem kx.di{l:aY}{aR:List (Nat×Nat×Nat)}(h:kx l aR)(a:t∈l):∃w,m5 t w:=by
 obtain⟨i,hi⟩:=List.getElem?_of_mem a;have b:i<aR.length:=by rw[h.len];exact(e6.1 hi).1
 exact⟨_,h.al i t _ hi (dC b)⟩
theorem Uz:∀(aR:List (Nat×Nat×Nat)),(∀w∈aR,w.1<=1/\w.2.1=0/\w.2.2<=15)->(dY aR).1<=aR.length/\(dY aR).2.1=0/\(dY aR).2.2<=15*aR.length
 |[],_=>by simp[dY]
 |w::r,h=>by obtain⟨a,b,c⟩:=Uz r λx g=>h x (OJ _ g);obtain⟨d,e,f⟩:=h w HO;have i:dY (w::r)=(w.1+(dY r).1,w.2.1+(dY r).2.1,w.2.2+(dY r).2.2):=rfl;rw[i];simp only[JO];omega
theorem kx.a9{l:aY}{aR:List (Nat×Nat×Nat)}(h:kx l aR):(dY aR).1<=3/\(dY aR).2.1=0/\(dY aR).2.2<=45:=by
 have:=Uz aR λw a=>by
  obtain⟨i,hi⟩:=List.getElem?_of_mem a;have d:i<l.length:=by rw[<-h.len];exact(e6.1 hi).1
  have:=(h.al i _ w (dC d) hi).a9;omega
 have e:=h.len;have g:=h.eV;omega
theorem i4(h:Nat×Nat×Nat×Nat×Nat)(l:aY):fk (cO h l) 3 (.s h.1 h.2.1) (.s h.2.2.1 h.2.2.2.1) dx (.aQ 11 l):=ks rfl
def k9(aR:List (Nat×Nat×Nat)):Int:=if(dY aR).1=0 then-1 else 1
structure HK (u:Fn) (a:aB) (r:Int):Prop where
 aa:∀i,i<3->∀b atf,u 183 [.agg a,.agg (dW i)] b atf= .ok (ao r) b atf []
 g:∀i,i<3->∀b atf,u 183 [.agg (dW i),.agg a] b atf= .ok (ao (-r)) b atf []
theorem SS(aR:List (Nat×Nat×Nat))(a:(dY aR).2.1=0):oz ((dY aR).1:Nat) ((1+(dY aR).2.1:Nat):Int) ((dY aR).2.2:Nat) 1 0 0=k9 aR/\oz 1 0 0 ((dY aR).1:Nat) ((1+(dY aR).2.1:Nat):Int) ((dY aR).2.2:Nat)= -k9 aR:=by
 unfold oz k9 e4;generalize (dY aR).1=v;rw[a];rcases sh v 1 with h|h|h
 ·have:v=0:=by omega
  subst this;simp
 ·subst h;simp
 ·have b:¬((v:Int)<1):=by omega
  have d:(1:Int)<v:=by omega
  have e:v≠0:=by omega
  simp[b,d,e]
theorem Iv:bl λu=>∀h∈iu++i1,∀l aR,kx l aR->HK u (cO h l) (k9 aR):=by
 have H:bl λu=>∀c:Int,-100000<c->aK u 331 [ao c] (.a9 false):=bl.jr.up λN _ c B=>cI (aM 331 Dd N) (aDX B);have I:bl λu=>∀a c:Int,-100000<a-> -100000<c->aK u 281 [ao a,ao c] (ao (e4 a c)):=H.up λN h a c J B=>cI (aM 281 wO N) (ail J B h);have K:bl λu=>∀x y z g j k:Int,(-100000<x/\ -100000<g)->(-100000<y/\ -100000<j)->(-100000<z/\ -100000<k)->aK u 234 [eV x y z,eV g j k] (ao (oz x y z g j k)):=I.up λN h x y z g j k L M O=>cI (aM 234 xC N) (axf L M O h);have P:bl λu=>∀h l aR,kx l aR->aK u 233 [.agg (cO h l),.agg (ew 0 0 0)] (.agg (ew ((dY aR).1:Nat) ((1+(dY aR).2.1:Nat):Int) ((dY aR).2.2:Nat))):=AV.up λN h hd l aR d=>by
  have:=cI (aM 233 qK N) (aeW (a:= .aE) (i4 hd l) d.len (by have:=d.eV;omega) (λi t w p q=>by have C:=d.al i t w p q;have D:=C.a9;exact⟨C.t11,by omega,by omega,by omega,(h t w C).ah⟩) (x:=0) (y:=0) (z:=0) (by omega) (by omega) (by omega))
  have e:((0:Int)+1+((dY aR).2.1:Nat))=((1+(dY aR).2.1:Nat):Int):=by omega
  rw[e,Int.zero_add,Int.zero_add] at this;exact this
 have Q:bl λu=>∀i,i<3->aK u 233 [.agg (dW i),.agg (ew 0 0 0)] (.agg (ew 1 0 0)):=AV.imp λN h i hi=>by have a:=(h _ _ (.var i hi)).ah 0 0 0 (by omega) (by omega) (by omega);simpa using a
 have R:bl λu=>∀h l aR,kx l aR->(∀i,i<3->(∀b atf,u 183 [.agg (cO h l),.agg (dW i)] b atf= .ok (ao (k9 aR)) b atf [])/\∀b atf,u 183 [.agg (dW i),.agg (cO h l)] b atf= .ok (ao (-k9 aR)) b atf []):=((P.and Q).and K).up λN h hd l aR d i hi=>by
  obtain⟨⟨p,q⟩,E⟩:=h;have D:=d.a9;obtain⟨S,T⟩:=SS aR D.2.1;have F:k9 aR≠0/\ -10<k9 aR/\k9 aR<10:=by unfold k9;split<;>omega
  have r:cq (cO hd l):=⟨(i4 hd l).aa,(i4 hd l).e5⟩;have A:cq (dW i):=⟨rfl,rfl⟩;have r1:=E ((dY aR).1:Nat) ((1+(dY aR).2.1:Nat):Int) ((dY aR).2.2:Nat) 1 0 0 (by omega) (by omega) (by omega);have G:=E 1 0 0 ((dY aR).1:Nat) ((1+(dY aR).2.1:Nat):Int) ((dY aR).2.2:Nat) (by omega) (by omega) (by omega);rw[S] at r1;rw[T] at G;refine⟨λb atf=>?_,λb atf=>?_⟩
  ·rw[aM 183 (me xx)];exact yU (Ja r.2 A.2) (acD r A (p hd l aR d) (q i hi) r1 F.1 F.2.1) b atf
  ·rw[aM 183 (me xx)];exact yU (Ja A.2 r.2) (acD A r (q i hi) (p hd l aR d) G (by omega) (by omega)) b atf
 exact R.imp λn h hd X l aR d=>⟨λi hi=>(h hd l aR d i hi).1,λi hi=>(h hd l aR d i hi).2⟩
end
end
section
variable{E:cr} {K:Nat->Prop} {mY:Nat->Bool} {p:bE} {i r:Nat} {h:Nat×Nat×Nat×Nat×Nat} {l:aY}
def x4:bE->Bool
 |[]=>true
 |m::r=> !decide (m.U=0)&&((r.all λx=>Nat.blt m.k x.k)&&x4 r)
theorem B6:∀{p:bE},x4 p=true->g7 p
 |[],_=>⟨List.Pairwise.nil,by simp⟩
 |m::r,h=>by
  simp only[x4,Hi,EY,decide_eq_false_iff_not] at h;have b:=B6 h.2.2;refine⟨ku.2 ⟨λx a=>?_,b.g0⟩,λx a=>?_⟩
  ·have:=cB h.2.1 a;exact pn this
  ·rcases pG.1 a with rfl|a
   ·exact h.1
   ·exact b.jD x a
def adL(mY:Nat->Bool)(p:bE):Bool:=p.all λm=>mY m.k&&rQ m.U
def arn(sB:Nat->Bool)(p q:bE):Bool:=p.all λx=>q.all λy=>bif Nat.beq x.k y.k then kj x.U y.U&&(kj y.U x.U&&(rQ (x.U+y.U)&&sB x.k)) else true
def v8(mY sB:Nat->Bool)(p q:bE):Bool:=x4 p&&(x4 q&&(Nat.ble (p.length+q.length) 39&&(adL mY p&&(adL mY q&&arn sB p q))))
def IT(mY:Nat->Bool)(p:bE):Bool:=x4 p&&(Nat.ble p.length 39&&p.all λm=>mY m.k&&(l9 m.U (-1)&&rQ (m.U*(-1))))
section
variable[Tok]
theorem Gq{sB:Nat->Bool}(t:∀k,mY k=true->K k)(B:∀k,sB k=true->E.s k){q:bE}(h:v8 mY sB p q=true):nv E K p q:=by
 simp only[v8,Hi] at h;obtain⟨C,D,F,G,H,I⟩:=h;have n:=B6 C;have u:=B6 D;have mp:∀m∈p,K m.k/\fV m.U:=λm c=>by have:=cB G c;simp only[Hi] at this;exact⟨t _ this.1,sc this.2⟩
 have o:∀m∈q,K m.k/\fV m.U:=λm c=>by have:=cB H c;simp only[Hi] at this;exact⟨t _ this.1,sc this.2⟩
 have w:∀x∈p,∀y∈q,x.k=y.k->kj x.U y.U=true/\kj y.U x.U=true/\fV (x.U+y.U)/\E.s x.k:=λx g y j e=>by have:=cB (cB I g) j;rw[e,wT,lR] at this;simp only[Hi] at this;exact⟨this.1,this.2.1,sc this.2.2.1,e▸B _ this.2.2.2⟩
 refine⟨n,pn F,λm c=>(mp m c).1,λm c=>(o m c).1,λm c=>(o m c).2,aco n.g0 u.g0 λx g y j e=>?_,λk=>?_⟩
 ·obtain⟨a,b,_,d⟩:=w x g y j e;exact⟨a,b,d⟩
 ·rw[<-AT,E3];rcases um n.g0 k with e|⟨x,g,z,e⟩<;>rcases um u.g0 k with f|⟨y,j,A,f⟩<;>rw[e,f]
  ·exact U5
  ·simp only[Pt,cx,y1 A,As];exact(o y j).2
  ·simp only[fr,cx,y1 z,As];exact(mp x g).2
  ·simp only[LH,Pt,cx,y1 z,y1 A,As];exact(w x g y j (by omega)).2.2.1
theorem HP(c:∀k,mY k=true->K k)(h:IT mY p=true):nB K p:=by
 simp only[IT,Hi] at h;obtain⟨d,e,g⟩:=h;have b:∀m∈p,K m.k/\l9 m.U (-1)=true/\fV (m.U*(-1)):=λm a=>by have:=cB g a;simp only[Hi] at this;exact⟨c _ this.1,this.2.1,sc this.2.2⟩
 exact⟨B6 d,pn e,λm a=>(b m a).1,λm a=>(b m a).2.1,λm a=>(b m a).2.2⟩
structure Nv (u:Fn) (E:cr) (t:aB) (k:Int) (p:bE):Prop where
 ah:∃v,cA E v p/\aK u 35 [.agg t] (.a0 [v,ao k,ao 0])
def vh(a b:aB):aB:=bU bP eu [a,b]
def xZ(a b:aB):aB:=bU bP fe [bU bP eu [a,b]]
def oX(a b:aB):aB:=bU bP fe [bU bP iB [a,b]]
theorem kI.adg{L:Nat}(H:kI E K L)(S:aB->bE->Prop)(w:bl λu=>∀t P,S t P->mf u E t P):bl λu=>∀a b P Q,S a P->S b Q->nB K Q->nv E K P (hB Q)->
 Nv u E (vh a b) 2 (lW P Q)/\Nv u E (xZ b a) 1 (lW P Q)/\Nv u E (oX a b) 3 (lW P Q):=by
 obtain⟨y,hd⟩:=H.aku;have z:bl λu=>∀a b P Q,S a P->S b Q->nB K Q->nv E K P (hB Q)->cq a/\cq b/\fy u 99 E [.agg a,.agg b] (lW P Q):=bl.kv y w λn A h a b P Q e g j k=>by exact⟨(h a P e).t11,(h b Q g).t11,hd n A a b P Q (h a P e) (h b Q g) j k⟩
 refine(z.and G7).up λn h a b P Q e g j k=>?_;obtain⟨h,I⟩:=h;obtain⟨o,q,x⟩:=h a b P Q e g j k;have B:=ks (p:=bP) (n:=fe) (l:=[bU bP eu [b,a]]) rfl;have C:=ks (p:=bP) (n:=fe) (l:=[bU bP iB [a,b]]) rfl;have D:=ks (p:=bP) (n:=eu) (l:=[a,b]) rfl;have F:=ks (p:=bP) (n:=eu) (l:=[b,a]) rfl;have vq:=ks (p:=bP) (n:=iB) (l:=[a,b]) rfl;refine⟨⟨?_⟩,⟨?_⟩,⟨?_⟩⟩
 ·obtain⟨v,c,d⟩:=axz D o q (I.h8 a b) x;exact⟨v,c,cI (aM 35 qU n) d⟩
 ·obtain⟨v,c,d⟩:=avg B F q o (I.fI _) (I.Ga _) (I.h8 b a) x;exact⟨v,c,cI (aM 35 qU n) d⟩
 ·obtain⟨v,c,d⟩:=avh C vq o q (I.fI _) (I.Ga _) (I.el a b) (I.lU a b) x;exact⟨v,c,cI (aM 35 qU n) d⟩
def pk(a:aB)(r k:Nat):an:=if k=r then .aQ 11 [a] else if k=2 then .aQ 11 [dW 0] else if k=4 then .aQ 11 [dW 1] else if k=6 then .aQ 11 [dW 2] else .aE
def iF(a:aB)(r k:Nat):aY:=if k=r then[a] else if k=2 then[dW 0] else if k=4 then[dW 1] else if k=6 then[dW 2] else[]
theorem tN(a:aB)(r k:Nat):nT (pk a r k) (iF a r k):=by
 unfold pk iF;split
 ·exact .inr ⟨rfl,by simp⟩
 ·split
  ·exact .inr ⟨rfl,by simp⟩
  ·split
   ·exact .inr ⟨rfl,by simp⟩
   ·split
    ·exact .inr ⟨rfl,by simp⟩
    ·exact .inl ⟨rfl,rfl⟩
def qS(b:Fn->Prop)(a:aB)(r:Nat):cr:=acT b (λk=>k≠r) (pk a r) (iF a r) (tN a r)
def mE(r k:Nat):Prop:=k=0\/k=2\/k=4\/k=6\/k=r
noncomputable def tC(a:aB)(r:Nat)(x:aB):Nat:=open Classical in if x=a then r else 2*oN x+2
theorem amW(h:Nat×Nat×Nat×Nat×Nat)(l:aY)(i:Nat):dW i≠cO h l:=by intro e;have a:=(yH (p:=kl) (n:=uF i) rfl).eO;have b:=(i4 h l).eO;have c:yb kl (uF i)=cO h l:=e;rw[c,b] at a;have:=Mh (jZ a) (by omega) (by omega);omega
theorem tc(h:i<3):dW i=ec i:=by unfold ec;rw[if_pos h]
theorem Ou(hi:i<3):tC (cO h l) r (dW i)=2*i+2:=by unfold tC;rw[if_neg (amW h l i),tc hi,xr]
theorem asI{a:aB}:tC a r a=r:=by unfold tC;rw[if_pos rfl]
noncomputable def pT(a:aB)(r:Nat)(x y:aB):Int:=e4 (tC a r x) (tC a r y)
theorem DZ(a:aB)(r:Nat)(x y:aB): -100<pT a r x y/\pT a r x y<100:=by have:=xo (tC a r x) (tC a r y);unfold pT;omega
theorem rg{k:Nat}(b:r=1\/r=8)(a:mE r k):(k=0/\iF (cO h l) r k=[])\/∃t,iF (cO h l) r k=[t]/\tC (cO h l) r t=k/\k≠0/\((t=cO h l/\k=r)\/∃i,i<3/\t=dW i/\k=2*i+2):=by
 unfold mE at a;rcases a with rfl|rfl|rfl|rfl|rfl
 ·left;refine⟨rfl,?_⟩;unfold iF;rw[cz];rfl
 ·right;refine⟨dW 0,?_,Ou (by omega),by omega,.inr ⟨0,by omega,rfl,rfl⟩⟩;unfold iF;rw[cz];rfl
 ·right;refine⟨dW 1,?_,Ou (by omega),by omega,.inr ⟨1,by omega,rfl,rfl⟩⟩;unfold iF;rw[cz];rfl
 ·right;refine⟨dW 2,?_,Ou (by omega),by omega,.inr ⟨2,by omega,rfl,rfl⟩⟩;unfold iF;rw[cz];rfl
 ·right;refine⟨cO h l,?_,asI,by omega,.inl ⟨rfl,rfl⟩⟩;unfold iF;rw[if_pos rfl]
theorem Iq{j:Nat}(a:r=1\/r=8)(hi:mE r i)(b:mE r j):(jd (pT (cO h l) r) (iF (cO h l) r i) (iF (cO h l) r j)<0↔i<j)/\(jd (pT (cO h l) r) (iF (cO h l) r i) (iF (cO h l) r j)=0↔i=j):=by
 rcases rg (h:=h) (l:=l) a hi with⟨c,e⟩|⟨t,e,d,c,g⟩<;>rcases rg (h:=h) (l:=l) a b with⟨f0,f⟩|⟨s,f,es,f0,k⟩<;>(try clear g)<;>(try clear k)
 ·rw[e,f];simp[jd,ja];omega
 ·rw[e,f];simp[jd];omega
 ·rw[e,f];simp[jd];omega
 ·rw[e,f];simp only[jd,JO,Md,kf,st,ja];unfold pT;rw[d,es];unfold e4;split
  ·simp;omega
  ·split
   ·simp;omega
   ·simp;omega
def dQ(aR:List (Nat×Nat×Nat)):Nat:=if(dY aR).1=0 then 1 else 8
theorem nF(aR:List (Nat×Nat×Nat)):dQ aR=1\/dQ aR=8:=by unfold dQ;split<;>omega
theorem X5(aR:List (Nat×Nat×Nat))(hi:i<3):e4 (dQ aR) (2*i+2:Nat)=k9 aR/\e4 (2*i+2:Nat) (dQ aR)= -k9 aR:=by
 unfold dQ k9 e4;split
 ·constructor
  ·rw[fS]
  ·rw[cz,fS];rfl
 ·constructor
  ·rw[cz,fS]
  ·rw[fS]
theorem WQ:∃L,nk<=L/\∀n,L<=n->∀h∈iu++i1,∀l aR,kx l aR->HK (bB bD n) (cO h l) (k9 aR)/\∀g,n9 (bB bD n) (qS g (cO h l) (dQ aR)) (mE (dQ aR)):=by
 have R:∀(u:Fn) (h:Nat×Nat×Nat×Nat×Nat) (l:aY) (aR:List (Nat×Nat×Nat)) (x y:cw),mE (dQ aR) x.k->mE (dQ aR) y.k->(x.k≠y.k\/y.k≠dQ aR)->vm u->HK u (cO h l) (k9 aR)->∀(i:Nat) (p q:aB),(iF (cO h l) (dQ aR) x.k)[i]? =some p->(iF (cO h l) (dQ aR) y.k)[i]? =some q->
  cq p/\cq q/\(∀b atf,u 183 [.agg p,.agg q] b atf= .ok (ao (pT (cO h l) (dQ aR) p q)) b atf []):=by
  intro u h l aR x y w z D S N i p q j o;have O:cq (cO h l):=⟨(i4 h l).aa,(i4 h l).e5⟩;rcases rg (h:=h) (l:=l) (nF aR) w with⟨T,e⟩|⟨t,e,X,T,Z⟩
  ·rw[e] at j;simp at j
  ·rcases rg (h:=h) (l:=l) (nF aR) z with⟨f0,f⟩|⟨s,f,es,f0,ar⟩
   ·rw[f] at o;simp at o
   ·rw[e] at j;rw[f] at o;have a1:i=0:=by have:=(e6.1 j).1;simp at this;exact this
    subst a1;simp at j o;subst j;subst o;unfold pT;rw[X,es];rcases Z with⟨rfl,F⟩|⟨a,I,rfl,F⟩<;>rcases ar with⟨rfl,A⟩|⟨d,hd,rfl,A⟩
    ·exact absurd (F.trans A.symm) (D.elim id λh=>absurd A h)
    ·rw[F,A,(X5 aR hd).1];exact⟨O,⟨rfl,rfl⟩,N.aa d hd⟩
    ·rw[F,A,(X5 aR I).2];exact⟨⟨rfl,rfl⟩,O,N.g a I⟩
    ·have a2:e4 ((x.k:Nat):Int) ((y.k:Nat):Int)=e4 a d:=by rw[F,A];unfold e4;split<;>(try split)<;>(try split)<;>(try split)<;>omega
     rw[a2,tc I,tc hd];exact⟨rM _,rM _,S.mP a d (by omega) (by omega)⟩
 have G:∀(g:Fn->Prop) (h:Nat×Nat×Nat×Nat×Nat) (l:aY) (aR:List (Nat×Nat×Nat)) (k:Nat),dw 11 ((qS g (cO h l) (dQ aR)).di k) (iF (cO h l) (dQ aR) k):=λg h l aR k=>by
  rcases tN (cO h l) (dQ aR) k with⟨e,h⟩|⟨e,h⟩
  ·exact .inl ⟨e,h⟩
  ·exact .inr e
 have J:∀(a:aB) (r k:Nat),(iF a r k).length<=1:=λa r k=>by unfold iF;split<;>(try split)<;>(try split)<;>(try split)<;>simp
 have a3:bl λu=>∀h∈iu++i1,∀l aR,kx l aR->∀g (x y:cw),mE (dQ aR) x.k->mE (dQ aR) y.k->(x.k≠y.k\/y.k≠dQ aR)->(iF (cO h l) (dQ aR) x.k).length=(iF (cO h l) (dQ aR) y.k).length->
  aK u 285 [(qS g (cO h l) (dQ aR)).di x.k,(qS g (cO h l) (dQ aR)).di y.k,dI 183] (ao (ja (pT (cO h l) (dQ aR)) (iF (cO h l) (dQ aR) x.k) (iF (cO h l) (dQ aR) y.k))):=(zB.and Iv).up λn H h B l aR C g x y w z D M=>
  cI (aM 285 uZ n) (Up (G g h l aR x.k) (G g h l aR y.k) M (by have:=J (cO h l) (dQ aR) x.k;omega) λi p q j o=>by obtain⟨a,b,c⟩:=R _ h l aR x y w z D H.1 (H.2 h B l aR C) i p q j o;exact⟨a,b,DZ _ _ _ _,c⟩)
 have q:bl λu=>∀h∈iu++i1,∀l aR,kx l aR->∀g,n9 u (qS g (cO h l) (dQ aR)) (mE (dQ aR)):=a3.up λn H h B l aR C g x y w z D=>by
  have nn:∀{x y:cw},(x.k≠y.k\/x.k≠dQ aR)->(x.k≠y.k\/y.k≠dQ aR):=λ{x y} h=>by omega
  ·have hb:=Bl (c:=pT (cO h l) (dQ aR)) (DZ _ _) (iF (cO h l) (dQ aR) x.k) (iF (cO h l) (dQ aR) y.k);have P:=Iq (h:=h) (l:=l) (nF aR) w z;refine⟨_,by unfold jd;split<;>(try split)<;>omega,P.1,P.2,λub atf=>?_⟩;rw[aM 237 (me vO)];exact yU (Ja (cr.gw _ _) (cr.gw _ _)) (TS (G g h l aR x.k) (G g h l aR y.k) (by have:=J (cO h l) (dQ aR) x.k;omega) (by have:=J (cO h l) (dQ aR) y.k;omega) (DZ _ _) λM=>H h B l aR C g x y w z (nn D) M) ub atf
 obtain⟨L,Q⟩:=Iv.and q;exact⟨nk+L,by omega,λn hn h B l aR C=>⟨(Q n (by omega)).1 h B l aR C,λg=>(Q n (by omega)).2 h B l aR C g⟩⟩
noncomputable def m3:Nat:=WQ.choose
theorem aaD:nk<=m3/\∀n,m3<=n->∀h∈iu++i1,∀l aR,kx l aR->HK (bB bD n) (cO h l) (k9 aR)/\∀a,n9 (bB bD n) (qS a (cO h l) (dQ aR)) (mE (dQ aR)):=WQ.choose_spec
noncomputable def p0(h:Nat×Nat×Nat×Nat×Nat)(l:aY)(aR:List (Nat×Nat×Nat)):cr:=qS (nd m3) (cO h l) (dQ aR)
theorem YJ(x:h∈iu++i1){aR:List (Nat×Nat×Nat)}(y:kx l aR):kI (p0 h l aR) (mE (dQ aR)) m3 where
 num:=λc=>rfl
 Y:=rfl
 len:=λk q=>⟨(iF (cO h l) (dQ aR) k).length,by
  rcases rg (h:=h) (l:=l) (nF aR) q with⟨_,e⟩|⟨t,e,_⟩<;>rw[e]<;>simp,λu=>by
  rcases tN (cO h l) (dQ aR) k with⟨e,g⟩|⟨e,g⟩
  ·show bq false (pk (cO h l) (dQ aR) k) u=_;rw[e,g];exact hy u
  ·show bq false (pk (cO h l) (dQ aR) k) u=_;rw[e];exact eA _ _ u⟩
 mP:=λn w=>(aaD.2 n w h x l aR y).2 _
 Au:=λn w=>(kK (y4 aaD.1 w)).1
 has:=⟨λc=>rfl,by show pk (cO h l) (dQ aR) 0= .aE;unfold pk;rw[if_neg (by have:=nF aR;omega)];rfl⟩
 inj:=λj k z q e=>by
  have e:pk (cO h l) (dQ aR) j=pk (cO h l) (dQ aR) k:=e;have A:iF (cO h l) (dQ aR) j=iF (cO h l) (dQ aR) k:=by
   rcases tN (cO h l) (dQ aR) j with⟨a,b⟩|⟨a,b⟩<;>rcases tN (cO h l) (dQ aR) k with⟨c,d⟩|⟨c,d⟩
   ·rw[b,d]
   ·rw[a,c] at e;cases e
   ·rw[a,c] at e;cases e
   ·rw[a,c] at e;simpa using e
  have o:=Iq (h:=h) (l:=l) (nF aR) z q;rw[A] at o;exact o.2.1 ((Iq (h:=h) (l:=l) (nF aR) q q).2.2 rfl)
 er:= .inl rfl
end
end
end Go.Hf

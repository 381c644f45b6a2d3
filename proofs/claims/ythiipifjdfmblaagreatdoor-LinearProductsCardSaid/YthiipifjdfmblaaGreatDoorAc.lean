import Derived.Test.YthiipifjdfmblaaGreatDoorAb
import Derived.RangeFuncRecord
import Derived.Lib.BufferWrite
import Derived.Lib.AppendZeros
set_option linter.all false
namespace Go.Hf
open Go.RowKit
section
variable{ob0 ob:cD} {p q:aG}
theorem sC(f:cD):∀(u v:iP),c7 f (u++v)=c7 (c7 f u) v
 |[],_=>rfl
 |(k,x)::r,v=>by simp only[pL,c7];exact sC _ r v
theorem awR{α:Type}(f:Nat->α)(k:Nat)(x:α)(h:f k=x):dl f k x=f:=by
 funext j;by_cases b:j=k
 ·subst b;rw[iM,h]
 ·rw[ir _ _ b]
def ki(ob0 ob:cD):Prop:=∀k,ob k=ob0 k\/∃aM e sz es,ob0 k= .az aM e sz es true/\ob k= .az aM e sz es false
theorem ki.refl(ob:cD):ki ob ob:=λ_=> .inl rfl
theorem ki.cd(h:ki ob0 ob)(k:Nat):(ob k).cd=(ob0 k).cd:=by
 rcases h k with h|⟨aM,e,sz,es,b,c⟩
 ·rw[h]
 ·rw[b,c];rfl
section
variable{P:Program} {n B bs:Nat} {O:Nat->Prop} {gl:eI} {ph:ck×cD×World×List Deferred} {g:ck} {s:df} {a:Act} {w w':World} {o:Oper} {K:Act->World->Prop} {Q:Exit->Act->World->Prop}
theorem ct.agi(h:ct gl ph n B O g s a w){k aM e sz:Nat}{es:kO}{aEQ:Bool}(t:s.bo k= .az aM e sz es aEQ):
 ct gl ph n B O ⟨dl g.U (g.b3 k) (es.length*sz),g.b3,g.cap⟩ ⟨s.aC,dl s.bo k (.az aM e sz es false)⟩ a w/\gn B O g.U w (dl g.U (g.b3 k) (es.length*sz)) w/\gk g.U w (dl g.U (g.b3 k) (es.length*sz)) w/\
  fY g s.bo ⟨dl g.U (g.b3 k) (es.length*sz),g.b3,g.cap⟩ (dl s.bo k (.az aM e sz es false)):=by
 have d:(s.bo k).fx:=by rw[t];trivial
 have r:=h.ig k;rw[t] at r;obtain⟨aEE,r1,H,I,J,fp,L,ln,ni⟩:=r;have x:gk g.U w (dl g.U (g.b3 k) (es.length*sz)) w:=by
  refine⟨cY _,λb _=>?_,λ_ _ _ _=>rfl⟩;by_cases y:b=g.b3 k
  ·subst y;rw[iM];exact ni
  ·rw[ir _ _ y];exact cY _
 have A:fY g s.bo ⟨dl g.U (g.b3 k) (es.length*sz),g.b3,g.cap⟩ (dl s.bo k (.az aM e sz es false)):=fY.az g t (cY _);refine⟨h.zp (g':=⟨dl g.U (g.b3 k) (es.length*sz),g.b3,g.cap⟩) (dl s.bo k (.az aM e sz es false)) (· =k) x A (λc l=>ir _ _ l) (λc l C=>?_) (λc l C=>?_),⟨rfl,rfl,rfl,cY _,λ_ _ _=>rfl,λb y r=>?_⟩,x,A⟩
 ·have z:g.b3 c≠g.b3 k:=λe=>l (h.inj c k C d e);exact⟨rfl,rfl,ir _ _ z,rfl⟩
 ·subst l;refine⟨?_,(h.jI c d).1,(h.jI c d).2,λM D E=>?_⟩
  ·rw[iM];refine⟨aEE,r1,H,I,J,fp,λi j cs p hi N=>?_,(λR=>by cases R),by simp[dl]⟩;obtain⟨u,S,T,W⟩:=L i j cs p hi N;exact⟨u,S,T,W.mono x⟩
  ·rw[ir _ _ D] at E;exactλe=>D (h.inj M c E d e)
 ·have z:b≠g.b3 k:=by
   intro e;subst e;rcases(h.jI k d).1 with G|G
   ·omega
   ·exact r G
  exact ir _ _ z
theorem ki.Ey(h:ki ob0 ob)(p:aG):ki ob0 (c7 ob (jN ob0 p)):=by
 cases p with
 |az k s off len=>
  simp only[jN];split
  ·rename_i i e sz es d;intro b;simp only[c7];by_cases c:b=k
   ·subst c;rw[iM];exact .inr ⟨_,_,_,_,d,rfl⟩
   ·rw[ir _ _ c];exact h b
  ·exact h
 |_=>exact h
theorem ct.jN(h:ct gl ph n B O g s a w){ob0:cD}(J:ki ob0 s.bo){p q:aG}{v:Value}(l:gf g w s.bo p v)(c:gV ob0 p=some q):
 ∃g',ct gl ph n B O g' ⟨s.aC,c7 s.bo (Hf.jN ob0 p)⟩ a w/\gn B O g.U w g'.U w/\gk g.U w g'.U w/\eZ g'.U w q v/\fY g s.bo g' (c7 s.bo (Hf.jN ob0 p)):=by
 have D:∀{p:aG},p.key=[]->gf g w s.bo p v->eZ g.U w p v:=λX l=>l.elim id (λr=>absurd X r.s9);cases p with
 |bu u=>simp only[gV,dD] at c;subst c;exact⟨g,h,gn.refl _ _ _ _,gk.refl _ _,D rfl l,fY.refl _ _⟩
 |aQ sz es=>simp only[gV,dD] at c;subst c;exact⟨g,h,gn.refl _ _ _ _,gk.refl _ _,D rfl l,fY.refl _ _⟩
 |ep cs off=>simp only[gV,dD] at c;subst c;exact⟨g,h,gn.refl _ _ _ _,gk.refl _ _,D rfl l,fY.refl _ _⟩
 |az k aM off len=>
  simp only[gV] at c;split at c
  ·rename_i s' e sz es L t;split at c
   ·rename_i Z;obtain⟨rfl,cp⟩:=Z;cases c;obtain⟨M,A⟩:∃M,s.bo k= .az aM e sz es M:=by
     rcases J k with d|⟨a1,e',a2,aEK,d,C⟩
     ·exact⟨L,by rw[d];exact t⟩
     ·rw[t] at d;cases d;exact⟨false,C⟩
    obtain⟨a3,a4,N,a5⟩:=h.agi A;have R:c7 s.bo (Hf.jN ob0 (.az k aM off len))=dl s.bo k (.az aM e sz es false):=by
     simp only[Hf.jN,t];cases L with
     |true=>rfl
     |false=>
      simp only[c7];rcases J k with d|⟨a1,e',a2,aEK,d,C⟩
      ·exact(awR s.bo k _ (by rw[d];exact t)).symm
      ·rw[t] at d;cases d
    refine⟨_,by rw[R];exact a3,a4,N,?_,by rw[R];exact a5⟩;have hr:lP g s.bo (.az k aM off len) v:=l.elim (λr=>by cases r) id;obtain⟨_,b,o',bx,rfl,d,C,h3⟩:=hr;obtain⟨f1,f2,f3,f4⟩:=h3 _ _ _ _ A;subst f2;have S:=h.ig k;rw[A] at S;obtain⟨aEE,r1,c0,c1,c2,fp,E,ln,ni⟩:=S;have cc:(s.bo k).fx:=by rw[A];trivial
    have T:((es.drop off).take len).length=len:=by simp;omega
    have x:∀(i:Nat) (cs:dA),((es.drop off).take len)[i]? =some cs->es[off+i]? =some cs/\i<len:=by
     intro i cs hi;rw[nh] at hi;split at hi
     ·rename_i cl;rw[sp] at hi;exact⟨hi,cl⟩
     ·cases hi
    have W:eZ (dl g.U (g.b3 k) (es.length*sz)) w (.aQ sz ((es.drop off).take len)) (.slice (some ⟨g.b3 k,o',none⟩) ((es.drop off).take len).length bx):=by
     refine .aQ (λi j=>aEE.getD ((off+i)*sz+j) undef) (by omega) C (h.jI k cc).2 (λc3=>?_) (λi cs hi=>fp _ _ (x i cs hi).1) (λi j cs p hi y=>?_) (λi j cs p hi y=>?_) (λi j cs p hi y=>?_)
     ·have G:=f3 (.inl (by omega));rw[iM,T,G,<-hW];exact jJ _ (by omega)
     ·obtain⟨u,z,H,I⟩:=E (off+i) j cs p (x i cs hi).1 y;have G:=f3 (.inl (by have:=(x i cs hi).2;omega));rw[cell_of_heap r1,G];have cn:off*sz+(i*sz+j)=(off+i)*sz+j:=by rw[hW];omega
      rw[cn,z];simp[nK,z]
     ·obtain⟨u,z,H,I⟩:=E (off+i) j cs p (x i cs hi).1 y;exact H
     ·obtain⟨u,z,H,I⟩:=E (off+i) j cs p (x i cs hi).1 y;have:aEE.getD ((off+i)*sz+j) undef=u:=by simp[nK,z]
      rw[this];exact I.mono N
    rw[T] at W;exact W
   ·simp at c
  ·simp at c
 |undef=>simp[gV] at c
 |agg=>simp[gV] at c
 |a0=>simp[gV] at c
 |bn=>simp[gV] at c
 |dH=>simp[gV] at c
 |hG=>simp[gV] at c
 |gJ=>simp[gV] at c
theorem ahc(b:p.hK=true)(h:gV ob0 p=some q):q.hK=true:=by
 cases p with
 |bu u=>simp only[gV,dD] at h;subst h;exact b
 |aQ sz es=>simp only[gV,dD] at h;subst h;rfl
 |ep cs off=>simp only[gV,dD] at h;subst h;rfl
 |az k aM off len=>
  simp only[gV] at h;split at h
  ·split at h
   ·cases h;rfl
   ·simp at h
  ·simp at h
 |_=>simp[gV] at h
theorem ct.RQ{ob0:cD}:∀(cs d:dA) (vs:List Value) (g:ck) (s:df),ct gl ph n B O g s a w->ki ob0 s.bo->cs.length=vs.length->
 (∀(j:Nat) (q:aG) (u:Value),cs[j]? =some q->vs[j]? =some u->q.hK=true/\gf g w s.bo q u)->oE ob0 cs=some d->
 ∃g',ct gl ph n B O g' ⟨s.aC,c7 s.bo (cs.flatMap (Hf.jN ob0))⟩ a w/\gn B O g.U w g'.U w/\gk g.U w g'.U w/\ki ob0 (c7 s.bo (cs.flatMap (Hf.jN ob0)))/\
  d.length=vs.length/\(∀(j:Nat) (q:aG),d[j]? =some q->q.hK=true)/\∀(j:Nat) (q:aG) (u:Value),d[j]? =some q->vs[j]? =some u->eZ g'.U w q u
 |[],d,vs,g,s,h,k,e,_,b=>by simp only[oE,dD] at b;subst b;exact⟨g,h,gn.refl _ _ _ _,gk.refl _ _,k,by simpa using e,by simp,by simp⟩
 |p::ps,d,vs,g,s,h,k,e,l,b=>by
  simp only[oE] at b;split at b
  ·rename_i q A t C;cases b
   match vs,e with
   |v::D,e=>
    have x:=l 0 p v rfl rfl;obtain⟨dB,gx,E,y,G,H⟩:=h.jN k x.2 t;have I:=k.Ey p;obtain⟨cT,gT,J,z,L,M,N,R⟩:=ct.RQ ps A D dB ⟨s.aC,c7 s.bo (Hf.jN ob0 p)⟩ gx I (by simpa using e) (λj q u S i=>by have:=l (j+1) q u (by simpa using S) (by simpa using i);exact⟨this.1,this.2.step y H⟩) C
    refine⟨cT,?_,E.trans J,y.trans z,?_,by simpa using M,λj r c=>?_,λj r u c i=>?_⟩
    ·simp only[kh,sC];exact gT
    ·simp only[kh,sC];exact L
    ·cases j with
     |zero=>simp at c;subst c;exact ahc x.1 t
     |succ j=>exact N j r (by simpa using c)
    ·cases j with
     |zero=>simp at c i;subst c;subst i;exact G.mono z
     |succ j=>exact R j r u (by simpa using c) (by simpa using i)
  ·simp at b
theorem ct.jE(h:ct gl ph n B O g s a w)(c:ki ob0 s.bo){v:Value}(j:dT g w s.bo p v)(b:is ob0 p=some q):
 ∃g',ct gl ph n B O g' ⟨s.aC,c7 s.bo (Hf.jE ob0 p)⟩ a w/\gn B O g.U w g'.U w/\gk g.U w g'.U w/\ki ob0 (c7 s.bo (Hf.jE ob0 p))/\eZ g'.U w q v:=by
 cases p with
 |agg cs=>simp only[is,iL] at b;obtain⟨l,r,rfl⟩:=b;obtain⟨vs,rfl,t,x⟩:=j.x5;obtain⟨g',d,e,E,S,L,C,i⟩:=ct.RQ cs l vs g s h c t x r;exact⟨g',d,e,E,S,.agg L C i⟩
 |bu u=>obtain⟨g',d,e,E,i,_⟩:=h.jN c (p:= .bu u) (by obtain⟨rfl,y⟩:=j.fB;exact .inl (.bu y)) b;exact⟨g',d,e,E,c.Ey (.bu u),i⟩
 |aQ sz es=>obtain⟨g',d,e,E,i,_⟩:=h.jN c (p:= .aQ sz es) (.inl j.u3) b;exact⟨g',d,e,E,c.Ey (.aQ sz es),i⟩
 |ep cs off=>obtain⟨g',d,e,E,i,_⟩:=h.jN c (p:= .ep cs off) (.inl j.y5) b;exact⟨g',d,e,E,c.Ey (.ep cs off),i⟩
 |az k aM off len=>obtain⟨g',d,e,E,i,_⟩:=h.jN c (p:= .az k aM off len) (.inr (j.ju (by simp[aG.key,aG.cf]))) b;exact⟨g',d,e,E,c.Ey (.az k aM off len),i⟩
 |undef=>simp[is,gV] at b
 |a0=>simp[is,gV] at b
 |bn=>simp[is,gV] at b
 |dH=>simp[is,gV] at b
 |hG=>simp[is,gV] at b
 |gJ=>simp[is,gV] at b
theorem auc{ev:Operand->aG}{e:List Bool}{x:Operand}{xs:List Operand}{k:dA}{us:iP}(h:iU ev ob e (x::xs)=some (k,us)):
 ∃q c d,lj ob (e.getD 0 true) (ev x)=some q/\iU ev ob e.tail xs=some (c,d)/\k=q::c/\us=lC ob (e.getD 0 true) (ev x)++d:=by
 cases e with
 |nil=>
  simp only[iU] at h;split at h
  ·rename_i q c d i j;cases h;exact⟨q,c,d,i,j,rfl,rfl⟩
  ·cases h
 |cons b bs=>
  simp only[iU] at h;split at h
  ·rename_i q c d i j;cases h;exact⟨q,c,d,i,j,rfl,rfl⟩
  ·cases h
theorem YL(b:List Bool)(j:Nat):b.tail.getD j true=b.getD (j+1) true:=by cases b<;>simp
theorem ct.Ea{ob0:cD}:∀(xs:List Operand) (b:List Bool) (i:dA) (us:iP) (g:ck) (s:df),ct gl ph n B O g s a w->ki ob0 s.bo->xs.all cJ=true->iU (c9 s.aC) ob0 b xs=some (i,us)->
 ∃g',ct gl ph n B O g' ⟨s.aC,c7 s.bo us⟩ a w/\gn B O g.U w g'.U w/\gk g.U w g'.U w/\ki ob0 (c7 s.bo us)/\
  i.length=xs.length/\∀(j:Nat) (q:aG) (x:Operand),i[j]? =some q->xs[j]? =some x->eZ g'.U w q (a.eval x)\/(b.getD j true=false/\q=c9 s.aC x)
 |[],b,i,us,g,s,h,k,_,l=>by simp only[iU,dD,io] at l;obtain⟨rfl,rfl⟩:=l;exact⟨g,h,gn.refl _ _ _ _,gk.refl _ _,k,rfl,by simp⟩
 |x::xs,b,i,us,g,s,h,k,t,l=>by
  obtain⟨q,I,J,u,L,rfl,rfl⟩:=auc l;simp only[DL,cg] at t;cases A:b.getD 0 true with
  |true=>
   simp only[A,lj,fP] at u;simp only[lC,fP];obtain⟨dB,gx,M,N,ka,R⟩:=h.jE k (h.fF t.1) u;obtain⟨cT,gT,C,z,D,E,G⟩:=ct.Ea xs b.tail I J dB ⟨s.aC,c7 s.bo (Hf.jE ob0 (c9 s.aC x))⟩ gx ka t.2 L;refine⟨cT,?_,M.trans C,N.trans z,?_,by simp[E],λj r y c d=>?_⟩
   ·simp only[sC];exact gT
   ·simp only[sC];exact D
   ·cases j with
    |zero=>simp at c d;subst c;subst d;exact .inl (R.mono z)
    |succ j=>
     rcases G j r y (by simpa using c) (by simpa using d) with e|⟨e,H⟩
     ·exact .inl e
     ·exact .inr ⟨by rw[<-YL];exact e,H⟩
  |false=>
   simp only[A,lj,iC,g8,dD] at u;subst u;simp only[lC,iC,g8,kP];obtain⟨cT,gT,C,z,D,E,G⟩:=ct.Ea xs b.tail I J g s h k t.2 L;refine⟨cT,gT,C,z,D,by simp[E],λj r y c d=>?_⟩;cases j with
   |zero=>simp at c d;subst c;subst d;exact .inr ⟨A,rfl⟩
   |succ j=>
    rcases G j r y (by simpa using c) (by simpa using d) with e|⟨e,H⟩
    ·exact .inl e
    ·exact .inr ⟨by rw[<-YL];exact e,H⟩
def sn(ev:Operand->aG)(ob:cD):List Operand->Option dA
 |[]=>some []
 |x::xs=>match is ob (ev x),sn ev ob xs with
  |some q,some b=>some (q::b)
  |_,_=>none
theorem aaL{ev:Operand->aG}{ob:cD}:∀{xs:List Operand} {b:dA},sn ev ob xs=some b->iU ev ob [] xs=some (b,xs.flatMap λx=>Hf.jE ob (ev x))
 |[],b,h=>by simp only[sn,dD] at h;subst h;rfl
 |x::xs,b,h=>by
  simp only[sn] at h;split at h
  ·rename_i q e c d;cases h;simp only[iU,lj,lC,fP,c,aaL d,kh]
  ·cases h
theorem ct.ayO(xs:List Operand)(b:dA)(g:ck)(s:df)(h:ct gl ph n B O g s a w)(c:ki ob0 s.bo)(d:xs.all cJ=true)(e:sn (c9 s.aC) ob0 xs=some b):
 ∃g',ct gl ph n B O g' ⟨s.aC,c7 s.bo (xs.flatMap λx=>Hf.jE ob0 (c9 s.aC x))⟩ a w/\gn B O g.U w g'.U w/\gk g.U w g'.U w/\ki ob0 (c7 s.bo (xs.flatMap λx=>Hf.jE ob0 (c9 s.aC x)))/\
  b.length=xs.length/\∀(j:Nat) (q:aG) (x:Operand),b[j]? =some q->xs[j]? =some x->eZ g'.U w q (a.eval x):=by
 obtain⟨g',i,k,E,S,L,l⟩:=ct.Ea xs [] b _ g s h c d (aaL e);exact⟨g',i,k,E,S,L,λj q x r t=>(l j q x r t).elim id (λu=>by simp at u)⟩
end
end
section
variable{sz e len:Nat} {es:kO} {c:Nat->Nat} {v:Value} {p:aG} {zero:List Value}
section
variable{P:Program} {n B bs:Nat} {O:Nat->Prop} {gl:eI} {ph:ck×cD×World×List Deferred} {g:ck} {s:df} {a:Act} {w w':World} {o:Oper} {K:Act->World->Prop} {Q:Exit->Act->World->Prop}
theorem mF.put{R:aG->Value->Prop}{aEE:Array Value}{vs:List Value}{new:dA}{i:Nat}(h:mF R sz es aEE)(y:vs.length=new.length)(r:new.length=sz)(z:i<es.length)
 (E:es.length*sz<=aEE.size)(A:∀(j:Nat) (q:aG),new[j]? =some q->∃u,vs[j]? =some u/\q.hK=true/\R q u):mF R sz (es.set i new) (oU aEE (i*sz) vs):=by
 have C:=jJ sz (show i+1<=es.length from z);rw[hW,m2] at C;refine⟨λk cs b=>?_,λk j cs p b d=>?_⟩
 ·rw[EY] at b;split at b
  ·cases b;exact r
  ·exact h.1 k cs b
 ·rw[N6 vs (i*sz) aEE _ (by omega),y,r];rw[EY] at b;split at b
  ·rename_i l;subst l;cases b;have t:j<sz:=by have:=(e6.1 d).1;omega
   rw[cz,fS,Nat.add_sub_cancel_left];exact A j p d
  ·rename_i l;have t:j<sz:=by have:=(e6.1 d).1;have:=h.1 k cs b;omega
   have D:=Vm (i:=i) (i':=k) (sz:=sz) (j:=j) (off:=0) (m:=sz) t (by omega) (λx=>l x.symm);simp only[sm] at D;by_cases c1:k*sz+j<i*sz
   ·rw[cv c1];exact h.2 k j cs p b d
   ·rw[cU c1,cz];exact h.2 k j cs p b d
theorem adp{ev:Operand->aG}{ob:cD}{sz:Nat}:∀{ps:List (Nat×Operand)} {es aEK:kO},lD ev ob sz es ps=some aEK->aEK.length=es.length
 |[],es,aEK,h=>by simp only[lD,dD] at h;rw[h]
 |(i,x)::r,es,aEK,h=>by
  simp only[lD] at h;split at h
  ·split at h
   ·rw[adp h];simp
   ·simp at h
  ·simp at h
theorem eZ.x5{cs:dA}(h:eZ c w (.agg cs) v):∃vs:List Value,v= .agg vs.toArray/\cs.length=vs.length/\∀(j:Nat) (p:aG) (u:Value),cs[j]? =some p->vs[j]? =some u->eZ c w p u:=by
 cases h with
 |agg b i d=>exact⟨_,rfl,b,d⟩
theorem eZ.key(h:eZ c w p v):p.key=[]:=by cases h<;>rfl
theorem XJ{c:Nat->Nat}{ev:Operand->aG}{ob:cD}{sz:Nat}:∀(ps:List (Nat×Operand)) (es aEK:kO) (aEE:Array Value),lD ev ob sz es ps=some aEK->
 (∀p∈ps,∀q,is ob (ev p.2)=some q->eZ c w q (a.eval p.2))->mF (eZ c w) sz es aEE->aEE.size=es.length*sz->
 ∃z,Instr.fill (λi=>some (i*sz,sz)) aEE (ps.map λp=>(p.1,a.eval p.2))=some z/\mF (eZ c w) sz aEK z/\z.size=aEE.size
 |[],es,aEK,aEE,h,_,A,C=>by simp only[lD,dD] at h;subst h;exact⟨aEE,rfl,A,rfl⟩
 |(i,x)::r,es,aEK,aEE,h,D,A,C=>by
  simp only[lD] at h;split at h
  ·rename_i new d;split at h
   ·rename_i I;obtain⟨E,G⟩:=I;simp only[zd] at d;obtain⟨q,J,d⟩:=d;have k:=D (i,x) (by simp) q J;have L:dT ⟨c,λ_=>0,λ_=>0⟩ w (λ_=>Obj.ax 0) q (a.eval x):= .inr (.inl (.inl k));obtain⟨H,M⟩:=L.cells d;have N:∀(j:Nat) (r:aG),new[j]? =some r->∃u,(a.eval x).cells.toList[j]? =some u/\r.hK=true/\eZ c w r u:=by
     intro j r t;obtain⟨u,R,S,l⟩:=M j r t;refine⟨u,R,S,?_⟩;rcases l with l|l
     ·exact l
     ·exfalso;cases q with
      |agg cs=>simp only[aG.cells,dD] at d;subst d;obtain⟨vs,a2,a3,T⟩:=k.x5;have a4:j<cs.length:=(e6.1 t).1;have:=T j r vs[j] t (dC (by omega));have W:=l.s9;generalize vs[j]=vj at this;cases this<;>simp[aG.key,aG.cf] at W
      |bu _=>simp only[aG.cells,dD] at d;subst d;have:=dr t;simp at this;subst this;exact l.elim
      |aQ _ _=>simp only[aG.cells,dD] at d;subst d;have:=dr t;simp at this;subst this;exact l.elim
      |ep _ _=>simp only[aG.cells,dD] at d;subst d;have:=dr t;simp at this;subst this;exact l.elim
      |undef=>exact absurd k (λb=>by generalize a.eval (i,x).2=y at b;cases b)
      |a0 _=>exact absurd k (λb=>by generalize a.eval (i,x).2=y at b;cases b)
      |hG _ _=>exact absurd k (λb=>by generalize a.eval (i,x).2=y at b;cases b)
      |gJ _ _=>exact absurd k (λb=>by generalize a.eval (i,x).2=y at b;cases b)
      |bn _ _ _=>exact absurd k (λb=>by generalize a.eval (i,x).2=y at b;cases b)
      |az _ _ _ _=>exact absurd k (λb=>by generalize a.eval (i,x).2=y at b;cases b)
      |dH _ _ _ _=>exact absurd k (λb=>by generalize a.eval (i,x).2=y at b;cases b)
    have X:=A.put H E G (by omega) N;have Z:=jJ sz (show i+1<=es.length from G);rw[hW,m2] at Z;obtain⟨z,ha,hb,a1⟩:=XJ r _ aEK (oU aEE (i*sz) (a.eval x).cells.toList) h (λp hp=>D p (by simp[hp])) X (by rw[J4];simpa using C);refine⟨z,?_,hb,by rw[a1,J4]⟩;simp only[gm];rw[W2 (λi=>some (i*sz,sz)) aEE i (i*sz) sz (a.eval x) _ rfl (by simpa[E] using H) (by omega)];exact ha
   ·simp at h
  ·simp at h
theorem Ro{ev:Operand->aG}{ob:cD}{sz:Nat}:∀(ps:List (Nat×Operand)) (es aEK:kO),lD ev ob sz es ps=some aEK->∃b,sn ev ob (ps.map (·.2))=some b
 |[],_,_,_=>⟨[],rfl⟩
 |(i,x)::r,es,aEK,h=>by
  simp only[lD] at h;split at h
  ·rename_i new d;split at h
   ·simp only[zd] at d;obtain⟨q,j,_⟩:=d;obtain⟨b,k⟩:=Ro r _ aEK h;exact⟨q::b,by simp only[gm,sn,j,k]⟩
   ·simp at h
  ·simp at h
theorem adZ{ev:Operand->aG}{ob:cD}:∀(xs:List Operand) (d:dA),sn ev ob xs=some d->∀(j:Nat) (x:Operand),xs[j]? =some x->∃q,is ob (ev x)=some q/\d[j]? =some q
 |[],_,_,j,x,b=>by simp at b
 |y::ys,d,h,j,x,b=>by
  simp only[sn] at h;split at h
  ·rename_i q i k l;cases h;cases j with
   |zero=>simp at b;subst b;exact⟨q,k,rfl⟩
   |succ j=>exact adZ ys i l j x (by simpa using b)
  ·simp at h
theorem azJ(zero:List Value)(m k:Nat)(b:k<m)(d:0<zero.length):(((Array.range m).map (zero.toArray[· %zero.toArray.size]!)))[k]? =zero[k%zero.length]? :=by have h:k%zero.length<zero.length:=Ca _ d;simp[b,getElem!_def,dC h]
theorem azt{t:Nat}{parts:Array (Nat×Operand)}(h:ct gl ph n B O g s a w)(N:o.op= .buildSlice t len parts)(R:P.underlying t=some (.slice e))(r:ue P e sz zero)
 (c1:0<sz)(c2:len*sz<=16777216)(S:parts.toList.all (λp=>cJ p.2)=true)(u:lD (c9 s.aC) s.bo sz (List.replicate len (zero.map aG.bu)) parts.toList=some es):
 ∃dB aEE,ct gl ph n B O dB ⟨s.aC,c7 s.bo (parts.toList.flatMap λp=>Hf.jE s.bo (c9 s.aC p.2))⟩ a w/\gn B O g.U w dB.U w/\ki s.bo (c7 s.bo (parts.toList.flatMap λp=>Hf.jE s.bo (c9 s.aC p.2)))/\
  aEE.size=len*sz/\mF (eZ dB.U w) sz es aEE/\es.length=len/\(execOp a.eval o).run P w= .ok (.value (.slice (some ⟨w.heap.size,0,none⟩) es.length len)) (w.alloc (.cells aEE e)):=by
 obtain⟨i,z,hi,T,W,C,D,X⟩:=r;have E:es.length=len:=by rw[adp u];simp
 obtain⟨Z,G⟩:=Ro _ _ _ u;obtain⟨dB,gx,a1,c3,ka,m3,a2⟩:=ct.ayO (parts.toList.map (·.2)) Z g s h (ki.refl _) (by simpa[List.all_map] using S) G;have a3:(parts.toList.map (·.2)).flatMap (λx=>Hf.jE s.bo (c9 s.aC x))=parts.toList.flatMap λp=>Hf.jE s.bo (c9 s.aC p.2):=by rw[tx]
 rw[a3] at gx ka;let b:Array Value:=(Array.range (len*sz)).map (zero.toArray[· %zero.toArray.size]!);have H:b.size=len*sz:=by simp[b]
 have a4:mF (eZ dB.U w) sz (List.replicate len (zero.map aG.bu)) b:=by
  refine⟨λk cs l=>?_,λk j cs q l d=>?_⟩
  ·have:=dr l;simp at this;rw[this.2];simpa using D
  ·have I:=dr l;simp at I;obtain⟨_,rfl⟩:=I;have a5:k<len:=by have:=(e6.1 l).1;simpa using this
   simp only[fo,iL] at d;obtain⟨v,y,rfl⟩:=d;have bx:j<sz:=by have:=(e6.1 y).1;omega
   have J:iO v=true:=jl.1 X v (dr y);have cc:k*sz+j<len*sz:=by have:=jJ sz (show k+1<=len from a5);rw[hW,m2] at this;omega
   refine⟨v,?_,J,.bu J⟩;simp only[b];rw[azJ zero _ _ cc (by omega),D,(anm bx).2];exact y
 obtain⟨aEE,L,hb,hc⟩:=XJ (w:=w) (a:=a) (c:=dB.U) parts.toList _ es b u (λp hp q cl=>by obtain⟨j,d⟩:=xE.1 hp;obtain⟨q',M,h2⟩:=adZ _ _ G j p.2 (by simp[d]);rw[cl] at M;cases M;exact a2 j q p.2 h2 (by simp[d])) a4 (by simp[H])
 refine⟨dB,aEE,gx,a1,ka,hc.trans H,hb,E,?_⟩;have cn:z.cells=zero.toArray:=by rw[<-W]
 have hm:(parts.map λ(x:Nat×Operand)=>(x.1,a.eval x.2)).toList=parts.toList.map λp=>(p.1,a.eval p.2):=by simp
 have cp:¬(len*i.size>16777216):=by rw[C];omega
 simp only[execOp,N,Instr.buildSlice,fq,i7 R,gd,run_sizeOf hi];have c0:(2:Nat)^24=16777216:=by decide
 rw[c0,cU cp,hm,C,E];by_cases A:len*sz=0
 ·have r:b=(Array.range (len*sz)).map ((#[]:Array Value)[· % (#[]:Array Value).size]!):=by apply wN;simp[b,A]
  rw[cv A];simp only[fq,gU,gd];rw[<-r,L];simp only[newRow,fq,run_newObj,gU,gd]
 ·rw[cU A];simp only[fq,gU,gd,CE hi T,cn];have:Instr.fill (λi=>some (i*sz,sz)) (Array.map (λx=>zero.toArray[x%zero.toArray.size]!) (Array.range (len*sz))) (parts.toList.map λp=>(p.1,a.eval p.2))=some aEE:=L;rw[this];simp only[newRow,fq,run_newObj,gU,gd]
theorem aA3{ps:List (Nat×Operand)}{aEQ:Bool}{us:iP}(h:ct gl ph n B O g s a w)(j:∀t,o.dst=some t->t<n)(k:gA P o (.m4 e sz zero len ps aEQ))
 (d:b6 (c9 s.aC) s.bo (bs+o.dst.getD 0) (.m4 e sz zero len ps aEQ)=some (p,us))(l:gL gl ph n B O g w ⟨put s.aC o.dst p,c7 s.bo us⟩ K):o.wp P a w K Q:=by
 obtain⟨t,parts,q,_,r,u,x,i,y,z⟩:=k;subst x;simp only[b6,iL,io] at d;obtain⟨es,A,rfl,rfl⟩:=d;obtain⟨dB,aEE,gx,C,ka,D,E,G,H⟩:=azt h q r u i y z A;have I:((c7 s.bo (parts.toList.flatMap λp=>Hf.jE s.bo (c9 s.aC p.2))) (bs+o.dst.getD 0)).cd=(s.bo (bs+o.dst.getD 0)).cd:=ka.cd _;refine u2 (w':=w.alloc (.cells aEE e)) gx j (bs+o.dst.getD 0) len e sz es aEQ aEE H rfl rfl rfl rfl D (by omega) (by simp only[maxLen];have:len<=len*sz:=Nat.le_mul_of_pos_right _ i;omega) E ?_;intro g' J w' b L;refine l g' J w' ?_ (C.trans L);rw[I] at b;rw[sC];simp only[c7];rw[G] at b;exact b
end
end
section
variable{x y:Array Value} {p res:aG} {us:iP} {fid:FuncId} {f:Operand} {args:List Operand} {ob aEN:cD} {v:Value} {g':ck} {ps:dA}
section
variable{P:Program} {n B bs:Nat} {O:Nat->Prop} {gl:eI} {ph:ck×cD×World×List Deferred} {g:ck} {s:df} {a:Act} {w w':World} {o:Oper} {K:Act->World->Prop} {Q:Exit->Act->World->Prop}
theorem TH:∀{es:kO} {l:List UInt8},ui es=some l->∃b:List Int,es=b.map (λm=>[aG.bu (.int .u8 m)])/\l=b.map (λm=>UInt8.ofNat m.toNat)
 |[],l,h=>by simp only[ui,dD] at h;subst h;exact⟨[],rfl,rfl⟩
 |cs::r,l,h=>by
  unfold ui at h;split at h
  ·rename_i c;cases c
  ·rename_i m e c;cases c;simp only[iL] at h;obtain⟨i,d,rfl⟩:=h;obtain⟨b,rfl,rfl⟩:=TH d;exact⟨m::b,rfl,rfl⟩
  ·simp at h
theorem foldl_push_bytes:∀(c:List Int) (b:ByteArray),c.foldl (λr m=>r.push (UInt8.ofNat m.toNat)) b=⟨(b.data.toList++c.map (λm=>UInt8.ofNat m.toNat)).toArray⟩
 |[],b=>by simp
 |m::c,b=>by rw[List.foldl_cons,foldl_push_bytes c];simp[ByteArray.push]
theorem ahR{x:Operand}(h:ct gl ph n B O g s a w)(E:∀t,o.dst=some t->t<n)(G:gA P o (.oQ x))
 (k:b6 (c9 s.aC) s.bo (bs+o.dst.getD 0) (.oQ x)=some (p,us))(H:gL gl ph n B O g w ⟨put s.aC o.dst p,c7 s.bo us⟩ K):o.wp P a w K Q:=by
 obtain⟨t1,t2,e,q,r,z,A,I⟩:=G;simp only[b6,iL,io,zd] at k;obtain⟨l,⟨es,J,L⟩,rfl,rfl⟩:=k;obtain⟨b,rfl,rfl⟩:=TH L;refine gj h E (v:= .string ⟨(b.map (λm=>UInt8.ofNat m.toNat)).toArray⟩) ?_ (.bu rfl) H;rcases h.fL I J with⟨c,d⟩|⟨i,M,aEM,c,d,N,a1,fD,R⟩
 ·have S:b=[]:=by simpa using d
  subst S;simp only[execOp,q,c,fq,run_convert_bytes_string w t1 t2 e none 0 0 r z A,Conv.bytesToString,gU,gd];rfl
 ·have T:aEM=b.map (Value.int .u8):=by
   apply Ij;intro j;by_cases C:j<b.length
   ·obtain⟨u,D,a2,W⟩:=R j 0 [.bu (.int .u8 b[j])] (.bu (.int .u8 b[j])) (by simp[C]) rfl;have:=W.fB.1;subst this;simp only[Fq,sm] at D;rw[D];simp[C]
   ·rw[vg (by rw[d];simp;omega),vg (by simp;omega)]
  subst T;have X:=run_loadCells_list (P:=P) w i (b.map (Value.int .u8)) N;have Z:(b.map λm=>[aG.bu (.int .u8 m)]).length=(b.map (Value.int .u8)).length:=by simp
  rw[Z] at c;have hb:=run_bytesToString (P:=P) w i (b.map (Value.int .u8)).length M b X;simp only[execOp,q,c,fq,run_convert_bytes_string w t1 t2 e (some i) _ _ r z A,hb,gU,gd];rw[foldl_push_bytes];simp[ByteArray.empty,ByteArray.emptyWithCapacity];rfl
theorem Tr{aEF:List Value}{b:Array TypeId}(c:o.op= .call {callee:= .value f,args:=args.toArray,argTypes:=b})(d:a.eval f= .func (.func fid) #[] aEF.toArray)(e:Enters P fid):
 (execOp a.eval o).run P w= .ok (.enter fid (args.map a.eval++aEF).toArray) w:=by
 obtain⟨fn,h,i,j⟩:=e;simp only[execOp,c,resolve,d,Deferred.ofValue,fq,gU,gd,invoke,callFunc,program,Sem.run,h,i,j,iC,g8];simp
theorem dT.Ra{g:ck}{w:World}(h:eZ g.U w p v):dT g w ob p v:= .inr (.inl (.inl h))
theorem ct.heap(h:ct gl ph n B O g s a w):oC g w s.bo:=⟨h.ig,h.inj,λk b=>(h.jI k b).2⟩
theorem ct.aam(h:ct gl ph n B O g s a w)(c:ml g w s.bo g' w' aEN):ct gl ph n B O g' ⟨s.aC,aEN⟩ a w'/\gn B O g.U w g'.U w':=by
 have u:=h.kK;have q:∀b,b<B->¬O b->¬nZ g s.bo b:=by
  rintro b j d ⟨k,l,rfl⟩;rcases(h.jI k l).1 with e|e
  ·omega
  ·exact d e
 refine⟨⟨h.size,h.defers,ie h.kK c.ext.size,λi=>(h.aC i).step c.ext c.step,c.heap.ig,c.heap.inj,λk l=>⟨?_,c.heap.lt k l⟩,⟨h.uM.1.trans c.step,h.uM.2.trans c.ext⟩,gl.mono c.ext h.xv⟩,
  ⟨c.jh.os,c.jh.tape,c.jh.output,c.jh.size,λb j d=>c.jh.block b (by omega) (q b j d),λb j d=>c.jh.U b (by omega) (q b j d)⟩⟩
 rcases c.src k l with e|⟨r,t,e⟩
 ·exact .inl (by omega)
 ·rw[<-e];exact(h.jI r t).1
theorem ml.frame{g:ck}(e:oC g w ob)(c:ml g w qY g' w' qY):ml g w ob ⟨g'.U,g.b3,g.cap⟩ w' ob:=by
 have i:∀b,¬nZ g qY b:=λb h=>by obtain⟨k,d,_⟩:=h;exact d
 have j:fY g ob ⟨g'.U,g.b3,g.cap⟩ ob:=fY.refl g ob;refine⟨⟨c.jh.os,c.jh.tape,c.jh.output,c.jh.size,λb h _=>c.jh.block b h (i b),λb h _=>c.jh.U b h (i b)⟩,c.ext,⟨λk=>?_,e.inj,λk d=>nJ (e.lt k d) c.ext.size⟩,j,λk d=> .inr ⟨k,d,rfl⟩⟩;exact kR.fg (g':=⟨g'.U,g.b3,g.cap⟩) c.ext j (λd=>⟨rfl,rfl,c.jh.U _ (e.lt k d) (i _),c.jh.block _ (e.lt k d) (i _)⟩) (e.ig k)
theorem dT.adW{g cT:ck}{w:World}(h:dT g w qY p v)(e:p.cR=[])(i:cT.U=g.U):dT cT w ob p v:=by
 have t:∀{q:aG} {u:Value},q.key=[]->gf g w qY q u->gf cT w ob q u:=by
  intro q u c b;rcases b with b|b
  ·exact .inl (by rw[i];exact b)
  ·exact absurd c b.s9
 rcases h with h|h|⟨cs,vs,rfl,rfl,l,k⟩|⟨cs,vs,rfl,rfl,l,k⟩|h
 ·exact .inl h
 ·refine .inr (.inl ?_);rcases h with h|h
  ·exact .inl (by rw[i];exact h)
  ·exfalso;cases p with
   |agg=>exact h.elim
   |a0=>exact h.elim
   |_=>exact h.s9 e
 ·simp only[aG.cR,aG.eg,s7] at e;exact .inr (.inr (.inl ⟨cs,vs,rfl,rfl,l,λj q u c b=>⟨(k j q u c b).1,t (e q (dr c)) (k j q u c b).2⟩⟩))
 ·simp only[aG.cR,aG.eg,s7] at e;refine .inr (.inr (.inr (.inl ⟨cs,vs,rfl,rfl,l,λj q u c b=>?_⟩)));have r:=e q (dr c);rcases k j q u c b with d|⟨aEG,z,rfl,s2,s3,s4⟩
  ·left;rcases d with d|d
   ·exact .inl (by rw[i];exact d)
   ·exfalso;cases q with
    |agg=>exact d.elim
    |_=>exact d.s9 r
  ·right;simp only[aG.eg,s7] at r;exact⟨aEG,z,rfl,s2,s3,λj q u c b=>⟨(s4 j q u c b).1,t (r q (dr c)) (s4 j q u c b).2⟩⟩
 ·exact .inr (.inr (.inr (.inr (by rw[i];exact h))))
theorem au9{v:Value}(h:iO (.func (.func fid) x y)=true):x= #[]/\y= #[]:=by
 match x,y,h with
 |⟨[]⟩,⟨[]⟩,_=>exact⟨rfl,rfl⟩
theorem oC.none{g:ck}{w:World}:oC g w qY:=⟨λ_=>trivial,λ_ _ h=>h.elim,λ_ h=>h.elim⟩
theorem ayh(h:ct gl ph n B O g s a w)(j:∀t,o.dst=some t->t<n)
 (k:gA P o (.call f args))(l:c9 s.aC f= .bu (.func (.func fid) x y))(q:iU (c9 s.aC) s.bo [] args=some (ps,us))
 (r:uP gl P fid ps res)(u:gL gl ph n B O g w ⟨put s.aC o.dst res,c7 s.bo us⟩ K):o.wp P a w K Q:=by
 obtain⟨X,z,A,C⟩:=k;have c:=h.fF A;rw[l] at c;obtain⟨D,E⟩:=c.fB;obtain⟨rfl,rfl⟩:=au9 (v:=a.eval f) E;obtain⟨⟨G,H⟩,I⟩:=r;obtain⟨dB,gx,J,Z,ka,m3,L⟩:=ct.Ea args [] ps us g s h (ki.refl _) C q;have M:=Tr (P:=P) (w:=w) (aEF:=[]) z D G;refine Vs M ((H dB w (args.map a.eval++[]) gx.xv oC.none ⟨by simp[m3],λi p v N d=>?_⟩).mono ?_)
 ·simp only[nj,fo,iL] at d;obtain⟨x,R,rfl⟩:=d;rcases L i p x N R with b|⟨b,_⟩
  ·exact dT.Ra b
  ·simp at b
 ·rintro e a1 ⟨v,g',rfl,S,T⟩;refine⟨v,rfl,?_⟩;obtain⟨gT,W⟩:=gx.aam (ml.frame gx.heap S);exact u _ _ _ (gT.put o.dst j (T.adW I rfl)) (J.trans W)
theorem aqp{z:List Bool}{aEF:dA}(h:ct gl ph n B O g s a w)(G:∀t,o.dst=some t->t<n)
 (H:gA P o (.hV f args z))(b:oH (c9 s.aC f)=some (fid,aEF))(I:iU (c9 s.aC) s.bo z args=some (ps,us))
 (J:lx gl P fid (ps++aEF) (c7 s.bo us) res aEN)(L:gL gl ph n B O g w ⟨put s.aC o.dst res,aEN⟩ K):o.wp P a w K Q:=by
 obtain⟨c0,M,N,D⟩:=H;obtain⟨R,S⟩:=J;obtain⟨dB,gx,T,c1,ka,m3,W⟩:=ct.Ea args z ps us g s h (ki.refl _) D I;have d:=gx.fF N;have X:∃k:List Value,a.eval f= .func (.func fid) #[] k.toArray/\aEF.length=k.length/\∀(j:Nat) (q:aG) (u:Value),aEF[j]? =some q->k[j]? =some u->dT dB w (c7 s.bo us) q u:=by
  change dT dB w _ (c9 s.aC f) _ at d;cases A:c9 s.aC f with
  |gJ f' c2=>
   rw[A] at d b;simp only[oH,dD,io] at b;obtain⟨rfl,rfl⟩:=b;obtain⟨_,vs,Z,a1,a2⟩:=d.ZM;refine⟨vs,Z,a1,λj q u a3 a4=>?_⟩;rcases a2 j q u a3 a4 with⟨rfl,rfl⟩|l
   ·exact dT.bu rfl
   ·refine .inr (.inl (.inr ?_));cases q with
    |gJ=>exact l.elim
    |_=>exact l
  |bu v=>
   rw[A] at d b;obtain⟨a5,c3⟩:=d.fB;unfold oH at b;split at b
   ·rename_i f0 C;cases C;cases b;exact⟨[],a5,rfl,by simp⟩
   ·rename_i C;cases C
   ·cases b
  |_=>rw[A] at b;simp[oH] at b
 obtain⟨k,bx,cc,cl⟩:=X;have cn:=Tr (P:=P) (w:=w) M bx R;refine Vs cn ((S dB w (args.map a.eval++k) gx.xv gx.heap ⟨by simp[m3,cc],λi p v r c=>?_⟩).mono ?_)
 ·by_cases hi:i<ps.length
  ·rw[q5 hi] at r;rw[q5 (by simp;omega)] at c;simp only[fo,iL] at c;obtain⟨x,E,rfl⟩:=c;rcases W i p x r E with l|⟨_,rfl⟩
   ·exact dT.Ra l
   ·exact gx.fF (jl.1 D x (dr E))
  ·rw[sH (by omega)] at r;rw[sH (by simp;omega)] at c;simp only[dS,<-m3] at c;exact cl _ p v r c
 ·rintro e c4 ⟨v,g',rfl,hA,cp⟩;refine⟨v,rfl,?_⟩;obtain⟨gT,cs⟩:=gx.aam hA;exact L _ _ _ (gT.put o.dst G cp) (T.trans cs)
end
end
section
variable{P:Program} {n B bs:Nat} {O:Nat->Prop} {gl:eI} {ph:ck×cD×World×List Deferred} {g:ck} {s:df} {a:Act} {w w':World} {o:Oper} {K:Act->World->Prop} {Q:Exit->Act->World->Prop}
theorem axm{f:Nat}{aEF:List Operand}{p:aG}{us:iP}(h:ct gl ph n B O g s a w)(r:∀t,o.dst=some t->t<n)(I:gA P o (.qa f aEF))
 (b:b6 (c9 s.aC) s.bo (bs+o.dst.getD 0) (.qa f aEF)=some (p,us))(y:gL gl ph n B O g w ⟨put s.aC o.dst p,c7 s.bo us⟩ K):o.wp P a w K Q:=by
 obtain⟨J,L⟩:=I;have z:(execOp a.eval o).run P w= .ok (.value (.func (.func f) #[] (aEF.map a.eval).toArray)) w:=by simp[execOp,J,Instr.makeFunc]
 simp only[b6] at b;split at b
 ·rename_i M;cases b;have:aEF=[]:=n7.1 M;subst this;exact gj h r z (.bu rfl) y
 ·split at b
  ·rename_i A;cases b;refine gj h r z (.inr (.inl (.inr ?_))) y;simp only[Je,cg,jl,vc] at A;obtain⟨N,C,R,S⟩:=A;refine⟨?_,aEF.map a.eval,rfl,by simp,λj q u D E=>?_⟩
   ·intro G;rw[s7] at G;have:=G C R;cases C<;>simp_all [aG.cf]
   ·simp only[fo,iL] at D E;obtain⟨x,e,rfl⟩:=D;obtain⟨T,H,rfl⟩:=E;rw[e] at H;cases H;have d:=h.fF (jl.1 L x (dr e));have c:=N (c9 s.aC x) (gp.2 ⟨x,dr e,rfl⟩);cases i:c9 s.aC x with
    |bn k aM off=>rw[i] at d;exact .inr (d.ju (by simp[aG.key,aG.cf]))
    |bu v=>
     rw[i] at d c;unfold Fm at c;split at c
     ·rename_i l;cases l
     ·rename_i l;cases l;exact .inl ⟨rfl,d.fB.1⟩
     ·cases c
    |_=>rw[i] at c;simp[Fm] at c
  ·cases b
end
theorem ml.below{g:ck}{w w':World}{ob:cD}(d:oC g w ob)(c:Below w.heap.size w w'):ml g w ob g w' ob:=by
 have j:gk g.U w g.U w':=⟨c.size,λ_ _=>cY _,λb i h _=>by simp only[World.cell?,c.block b h]⟩;exact⟨⟨c.os,c.tape,c.output,c.size,λb h _=>c.block b h,λ_ _ _=>rfl⟩,j,
  ⟨λk=>kR.fg j (fY.refl g ob) (λe=>⟨rfl,rfl,rfl,c.block _ (d.lt k (by cases l:ob k<;>simp_all [Obj.fx]))⟩) (d.ig k),d.inj,λk e=>nJ (d.lt k e) c.size⟩,
  fY.refl g ob,λk e=> .inr ⟨k,e,rfl⟩⟩
section
variable{P:Program} {n B bs:Nat} {O:Nat->Prop} {gl:eI} {ph:ck×cD×World×List Deferred} {g:ck} {s:df} {a:Act} {w w':World} {o:Oper} {K:Act->World->Prop} {Q:Exit->Act->World->Prop}
section
variable{eO:ck} {ob0:cD} {w00:World} {c0:Nat->Nat} {w0:World}
end
end
section
variable{x:Operand} {p:aG} {us:iP} {e sz m:Nat} {zero:List Value}
section
variable{P:Program} {n B bs:Nat} {O:Nat->Prop} {gl:eI} {ph:ck×cD×World×List Deferred} {g:ck} {s:df} {a:Act} {w w':World} {o:Oper} {K:Act->World->Prop} {Q:Exit->Act->World->Prop}
theorem aDP(h:ct gl ph n B O g s a w)(d:∀t,o.dst=some t->t<n)(i:gA P o (.pF x))
 (b:b6 (c9 s.aC) s.bo (bs+o.dst.getD 0) (.pF x)=some (p,us))(j:gL gl ph n B O g w ⟨put s.aC o.dst p,c7 s.bo us⟩ K):o.wp P a w K Q:=by
 obtain⟨t,e,k,l,q⟩:=i;have c:=h.fF q;simp only[b6] at b;split at b
 ·rename_i r;rw[r] at c;cases b;have u:=c.fB.1;refine gj (v:= .int .i64 0) h d ?_ (.bu rfl) j;simp only[execOp,k,resolve,invoke,builtin,fq,gU,gd,uE,gm,mC,u];simp[Builtin.cap_,i7 l];rfl
 ·simp at b
theorem NV(z:Array Value)(c j:Nat)(b:j<c*z.size):(Builtin.zeroCells z c).toList[j]? =z.toList[j%z.size]? :=by
 have i:0<z.size:=by
  rcases ku z.size with h|h
  ·rw[h] at b;omega
  ·exact h
 have d:j%z.size<z.size:=Ca _ i;simp only[Builtin.zeroCells,xb,Array.getElem?_map,Array.getElem?_range,b,fP,jZ];rw[getElem!_pos z _ d,OC d]
theorem ayV{bytes:Nat}{sl:Operand}{aEQ:Bool}(h:ct gl ph n B O g s a w)(H:∀t,o.dst=some t->t<n)(I:gA P o (.oy e sz bytes zero sl x aEQ))
 (b:b6 (c9 s.aC) s.bo (bs+o.dst.getD 0) (.oy e sz bytes zero sl x aEQ)=some (p,us))(u:gL gl ph n B O g w ⟨put s.aC o.dst p,c7 s.bo us⟩ K):o.wp P a w K Q:=by
 obtain⟨t,J,i,L,M,cp,N,R,hi,S,⟨k,z,l,T,y,c0,A,W⟩,c1,X,Z⟩:=I;have C:=h.fF X;have D:=h.fF Z;simp only[b6] at b;split at b
 ·rename_i m a1 hv;rw[a1] at C;rw[hv] at D;split at b
  ·rename_i hc;obtain⟨a2,h1,h2⟩:=hc;cases b;have a3:=C.fB.1;have a4:=D.fB.1;have:k=i:=by rw[hi] at l;cases l;rfl
   subst this;obtain⟨c,rfl⟩:=Int.eq_ofNat_of_zero_le (Int.le_of_lt a2);have a5:0<c:=by omega
   have d:z.cells.size=sz:=by rw[<-A,<-y];simp
   have hb:c*k.bytes<=1099511627776:=by rw[S];rw[<-FE] at h1;omega
   have bx:=Lib.run_append_nil_zeros (P:=P) w t J o.type e k z .i64 L N R l T c a5 (by omega) (by omega) (by omega);rw[Int.toNat_natCast] at u;have cc:(execOp a.eval o).run P w= .ok (.value (.slice (some ⟨w.heap.size,0,none⟩) (List.replicate c (zero.map aG.bu)).length (grownCap w c 0 e))) (w.drew.alloc (.cells (Builtin.zeroCells z.cells c++Builtin.zeroCells z.cells (grownCap w c 0 e-c)) e)):=by simp only[execOp,M,resolve,invoke,builtin,fq,gU,gd,uE,gm,mC,a3,a4,bx,List.length_replicate]
   refine u2 h H (bs+o.dst.getD 0) (grownCap w c 0 e) e sz (List.replicate c (zero.map aG.bu)) aEQ (Builtin.zeroCells z.cells c++Builtin.zeroCells z.cells (grownCap w c 0 e-c)) cc rfl rfl rfl rfl ?_ ?_ ?_ ?_ (by simpa[c7] using u)
   ·rw[sh,og,og,d,<-hW];congr 1;have:=grownCap_ge w c 0 e;omega
   ·simpa using grownCap_ge w c 0 e
   ·exact Ph w c 0 e (by simp only[maxLen];omega)
   ·refine⟨λi cs hi=>?_,λi j cs q hi E=>?_⟩
    ·rw[Pq] at hi;split at hi
     ·cases hi;simpa using A
     ·cases hi
    ·rw[Pq] at hi;split at hi
     ·rename_i cl;cases hi;simp only[fo,iL] at E;obtain⟨v,r,rfl⟩:=E;have cn:j<sz:=by have:=(e6.1 r).1;omega
      have G:iO v=true:=jl.1 W v (dr r);have:=jJ sz (show i+1<=c from cl);rw[hW,m2] at this;refine⟨v,?_,G,.bu G⟩;rw[Array.getElem?_append_left (by rw[og,d];omega),<-xb,NV _ _ _ (by rw[d];omega),y,d];rw[IY,Nat.add_mul_mod_self_right,GG cn,r]
     ·cases hi
  ·simp at b
 ·simp at b
theorem arP{i:Operand}(h:ct gl ph n B O g s a w)(q:∀t,o.dst=some t->t<n)(r:gA P o (.pB m sz x i))
 (b:b6 (c9 s.aC) s.bo (bs+o.dst.getD 0) (.pB m sz x i)=some (p,us))(u:gL gl ph n B O g w ⟨put s.aC o.dst p,c7 s.bo us⟩ K):o.wp P a w K Q:=by
 obtain⟨t,e,R,y,z,A,C,D,hi⟩:=r;have c:=h.fF D;have d:=h.fF hi;simp only[b6] at b;split at b
 ·rename_i k aM off S j E G;rw[E] at c;rw[G] at d;split at b
  ·rename_i l;cases b;obtain⟨H,I,J,L⟩:=c.ju (by simp[aG.key,aG.cf]);have M:=d.fB.1;refine gj (p:= .bn k aM (off+j.toNat*sz)) (v:= .pointer (some (I.add (j.toNat*sz)))) h q ?_ (.inr (.inl (.inr ⟨H,_,rfl,λcs N=>?_⟩))) u
   ·simp[execOp,y,Instr.indexAt,M,asIntOf,i7 z,J,Instr.sureAddr,l.1,l.2,run_sizeOf A,C]
   ·rw[L cs N,add_lit]
  ·simp at b
 ·simp at b
theorem aly(h:ct gl ph n B O g s a w)(hd:∀t,o.dst=some t->t<n)(hr:gA P o (.oF m x))
 (y:b6 (c9 s.aC) s.bo (bs+o.dst.getD 0) (.oF m x)=some (p,us))(hk:gL gl ph n B O g w ⟨put s.aC o.dst p,c7 s.bo us⟩ K):o.wp P a w K Q:=by
 obtain⟨t,e,eq,ho,a4,a5,bx,hx⟩:=hr;have X:=h.fF hx;simp only[b6] at y;split at y
 ·rename_i k aM cc;rw[cc] at X;split at y
  ·rename_i ev cs H;split at y
   ·rename_i c;obtain⟨rfl,cl,fn,Z⟩:=c;cases y;obtain⟨ge,go,cn,cp⟩:=X.ju (by simp[aG.key,aG.cf]);have c0:=cp cs H;have I:=h.ig k;rw[H] at I;obtain⟨aEE,T,r1,gt,c1,c2⟩:=I;have a1:(s.bo k).fx:=by rw[H];trivial
    have a2:=h.jI k a1;have a3:gk g.U w (dl g.U (g.b3 k) m) w:=by
     refine⟨cY _,λb _=>?_,λ_ _ _ _=>rfl⟩;by_cases N:b=g.b3 k
     ·rw[N,iM,c1];omega
     ·rw[ir _ _ N];exact cY _
    have c3:fY g s.bo ⟨dl g.U (g.b3 k) m,g.b3,g.cap⟩ (dl s.bo k (.ax aM)):=by
     intro z;by_cases A:z=k
     ·subst A;rw[iM,H];exact⟨cY _,(λ_ c=>by cases c),(λ_ _ _ _ c=>by cases c),(λ_ c=>by cases c)⟩
     ·rw[ir _ _ A];exact⟨cY _,λcs c=>⟨⟨cs,c⟩,rfl⟩,λ_ _ es aEQ c=>⟨⟨es,aEQ,c,cY _⟩,rfl,rfl⟩,λes c=>⟨⟨es,c⟩,rfl⟩⟩
    have c4:ct gl ph n B O ⟨dl g.U (g.b3 k) m,g.b3,g.cap⟩ ⟨s.aC,dl s.bo k (.ax aM)⟩ a w:=by
     refine h.zp (dl s.bo k (.ax aM)) (· =k) a3 c3 (λz c5=>ir _ _ c5) (λz A J=>?_) (λz A J=>?_)
     ·have dq:g.b3 z≠g.b3 k:=λe=>A (h.inj z k J a1 e);exact⟨rfl,rfl,ir _ _ dq,rfl⟩
     ·subst A;rw[iM] at J;exact J.elim
    have ee:gn B O g.U w (dl g.U (g.b3 k) m) w:=by
     refine⟨rfl,rfl,rfl,cY _,λ_ _ _=>rfl,λb N I=>ir _ _ (λe=>?_)⟩;subst e;rcases a2.1 with h1|h1
     ·omega
     ·exact I h1
    have R:∀(j:Nat) (q:aG),cs[j]? =some q->∃u,aEE[j]? =some u/\q.hK=true/\eZ g.U w q u:=by
     intro j q d;obtain⟨u,C,L,S⟩:=c2 j q d;refine⟨u,C,L,?_⟩;rcases S with W|W
     ·exact W
     ·exfalso;have:q.key=[]:=by rw[s7] at Z;exact Z q (dr d)
      exact W.s9 this
    have M:∀(j:Nat) (q:dA),(cs.map λq=>[q])[j]? =some q->∃r,cs[j]? =some r/\q=[r]:=by intro j q d;simp only[fo,iL] at d;obtain⟨r,em,rfl⟩:=d;exact⟨r,em,rfl⟩
    have en:eZ (dl g.U (g.b3 k) m) w (.aQ 1 (cs.map λq=>[q])) (.slice (some ⟨g.b3 k,0,none⟩) (cs.map λq=>[q]).length (cs.map λq=>[q]).length):=by
     refine .aQ (λi _=>aEE.getD i undef) (cY _) (by simp;unfold maxLen;omega) a2.2 (λ_=>by rw[iM];simp;omega) (λi q d=>?_) (λi j q r d l=>?_) (λi j q r d l=>?_) (λi j q r d l=>?_)
     ·obtain⟨r,_,rfl⟩:=M i q d;rfl
     ·obtain⟨D,E,rfl⟩:=M i q d;obtain⟨u,C,_,_⟩:=R i D E;have G:j=0:=by have:=(e6.1 l).1;simp at this;omega
      subst G;rw[cell_of_heap r1];simp[nK,C]
     ·obtain⟨D,E,rfl⟩:=M i q d;obtain⟨u,C,L,_⟩:=R i D E;have G:j=0:=by have:=(e6.1 l).1;simp at this;omega
      subst G;simp at l;subst l;exact L
     ·obtain⟨D,E,rfl⟩:=M i q d;obtain⟨u,C,L,S⟩:=R i D E;have G:j=0:=by have:=(e6.1 l).1;simp at this;omega
      subst G;simp at l;subst l;simp only[nK,C,Option.getD_some];exact S.mono a3
    refine wK (v:= .slice (some ⟨g.b3 k,0,none⟩) (cs.map λq=>[q]).length (cs.map λq=>[q]).length) (w':=w) ?_ (hk _ _ w (c4.put o.dst hd (.inr (.inl (.inl en)))) ee);simp[execOp,ho,Instr.sliceAt,Instr.sliceBounds,i7 a4,cn,c0,Instr.sureAddr,run_sizeOf a5,bx,cl,add_lit]
   ·simp at y
  ·simp at y
 ·simp at y
theorem asl(h:ct gl ph n B O g s a w)(I:∀t,o.dst=some t->t<n)(hr:gA P o (.oO e sz zero x))
 (d:b6 (c9 s.aC) s.bo (bs+o.dst.getD 0) (.oO e sz zero x)=some (p,us))(C:gL gl ph n B O g w ⟨put s.aC o.dst p,c7 s.bo us⟩ K):o.wp P a w K Q:=by
 obtain⟨t,ho,J,hz,hw,hx⟩:=hr;obtain⟨hA,z,c5,dq,L,h1,M,a4⟩:=hz;have E:=h.fF hx;have N:∀{g:ck} {w:World} {ob:cD},dT g w ob (.a0 []) (.tuple #[]):=λ{_ _ _}=> .inr (.inr (.inr (.inl ⟨[],[],rfl,rfl,rfl,by simp⟩)));have R:∀S:World,(Builtin.clear_ #[t] o.type #[a.eval x]).run P w= .ok (.tuple #[]) S->(execOp a.eval o).run P w= .ok (.value (.tuple #[])) S:=by intro S hl;simp only[execOp,ho,resolve,invoke,builtin,fq,gU,gd,uE,gm,mC,hl]
 simp only[b6] at d;split at d
 ·rename_i T;rw[T] at E;cases d;have G:=E.fB.1;refine gj h I (R w ?_) N C;rw[G];simp[Builtin.clear_,i7 J]
 ·rename_i k aM off len T;rw[T] at E;split at d
  ·rename_i s' e' h2 es D;split at d
   ·rename_i hc;obtain⟨ee,W,X,em⟩:=hc;subst ee;have W:=W.symm;subst W;have X:=X.symm;subst X;cases d;obtain⟨_,b,o',h3,G,h4,h5,en⟩:=E.ju (by simp[aG.key,aG.cf]);obtain⟨i8,rfl,eq,_⟩:=en e sz es true D;have a5:=h.ig k;rw[D] at a5;obtain⟨aEE,r1,jn,ev,fn,fp,bx,ln,ni⟩:=a5;have H:g.U (g.b3 k)=0:=ln rfl;have ge:(s.bo k).fx:=by rw[D];trivial
    rcases ku len with go|gt
    ·subst go;have ha:es.take off++List.replicate 0 (zero.map aG.bu)++es.drop (off+0)=es:=by simp
     rw[ha] at C;have hb:c7 s.bo [(k,.az aM e sz es true)]=s.bo:=by
      funext k';simp only[c7];by_cases cc:k'=k
      ·subst cc;rw[iM,D]
      ·rw[ir _ _ cc]
     rw[hb] at C;refine gj h I (R w ?_) N C;rw[G];simp[Builtin.clear_,i7 J]
    ·have he:o'=off*sz:=eq (.inl gt);subst he;have j0:off*sz+len*sz<=g.cap k*sz:=by have:=jJ sz (ie em ev);rw[hW] at this;exact this
     have A:z.cells.size=sz:=by rw[<-M,<-L];simp
     have hf:∀u∈(Builtin.zeroCells z.cells len).toList,u.oneCell'=true:=by
      intro u hh;obtain⟨j,r⟩:=xE.1 hh;have Z:j<len*z.cells.size:=by have:=(e6.1 r).1;simpa[og] using this
      rw[NV _ _ _ Z,L] at r;exact PG (jl.1 a4 u (dr r))
     have cl:=run_storeCells_at P (g.b3 k) (off*sz) e (Builtin.zeroCells z.cells len).toList 0 aEE w r1 (by simp[og,A];omega) hf;let y:Array Value:=(aEE.toList.take (off*sz)++(Builtin.zeroCells z.cells len).toList++aEE.toList.drop (off*sz+len*sz)).toArray;let aEK:=es.take off++List.replicate len (zero.map aG.bu)++es.drop (off+len);have j1:aEK.length=es.length:=by simp[aEK];omega
     have cn:∀i,aEK[i]? =if i<off then es[i]? else if i<off+len then some (zero.map aG.bu) else es[i]? :=by
      intro i;have:=xc es (List.replicate len (zero.map aG.bu)) off i (by simp;omega);rw[List.length_replicate] at this;show aEK[i]? =_;rw[this];split
      ·rfl
      ·split
       ·rw[Pq,fS]
       ·rfl
     have hi:∀j,y[j]? =if j<off*sz then aEE[j]? else if j<off*sz+len*sz then zero[(j-off*sz) %sz]? else aEE[j]? :=by
      intro j;have cp:=xc aEE.toList (Builtin.zeroCells z.cells len).toList (off*sz) j (by simp[og,A];omega);simp only[P1,og,A] at cp;simp only[y,Bx,cp,xb];split
      ·rfl
      ·split
       ·rw[<-xb,NV _ _ _ (by rw[A];omega),L,A]
       ·rfl
     have hm:=fY.az g (aEK:=aEK) (aER:=true) D (by omega);have cs:=gk.wz g w (g.b3 k) y H;have c0:=h.wz k (.az aM e sz aEK true) y ge H hm (by
      refine⟨y,wo w (g.b3 k) aEE y e (0,0) r1,?_,by omega,fn,λi' aEG c=>?_,λi' j aEG q c r=>?_,λ_=>H,by rw[H];omega⟩
      ·simp[y,og,A];omega
      ·rw[cn] at c;split at c
       ·exact fp i' aEG c
       ·split at c
        ·cases c;simpa using M
        ·exact fp i' aEG c
      ·rw[cn] at c;rw[hi];have Z:j<aEG.length:=(e6.1 r).1;by_cases c1:i'<off
       ·rw[cv c1] at c;have j2:=fp i' aEG c;have:=jJ sz (show i'+1<=off from c1);rw[hW,m2] at this;rw[fS];obtain⟨u,a1,a2,a3⟩:=bx i' j aEG q c r;exact⟨u,a1,a2,a3.mono cs⟩
       ·rw[cU c1] at c;have j3:=jJ sz (Pt c1);rw[cz];by_cases c2:i'<off+len
        ·rw[cv c2] at c;cases c;have hn:j<sz:=by simpa[M] using Z
         have:=jJ sz (show i'+1<=off+len from c2);rw[hW,m2,hW] at this;rw[fS];have hv:(i'*sz+j-off*sz) %sz=j:=by
          have:i'*sz+j-off*sz=j+sz*(i'-off):=by rw[Nat.mul_sub,pU sz i',pU sz off];omega
          rw[this,Nat.add_mul_mod_self_left,GG hn]
         rw[hv];simp only[fo,iL] at r;obtain⟨v,c3,rfl⟩:=r;have c4:iO v=true:=jl.1 a4 v (dr c3);exact⟨v,c3,c4,.bu c4⟩
        ·rw[cU c2] at c;have:=jJ sz (Pt c2);rw[hW] at this;rw[cz];obtain⟨u,a1,a2,a3⟩:=bx i' j aEG q c r;exact⟨u,a1,a2,a3.mono cs⟩)
     refine wK (R _ ?_) (C g _ _ (c0.1.put o.dst I N) c0.2);rw[G];simp only[sm,P1,og,A] at cl;obtain⟨l,rfl⟩:=cN len;simp[Builtin.clear_,i7 J,CE c5 dq,cl,y]
   ·simp at d
  ·simp at d
 ·simp at d
end
end
section
variable{aEI:Bool} {po:ey} {aEO:Array Oper}
section
variable{P:Program} {n B bs:Nat} {O:Nat->Prop} {gl:eI} {ph:ck×cD×World×List Deferred} {g:ck} {s:df} {a:Act} {w w':World} {o:Oper} {K:Act->World->Prop} {Q:Exit->Act->World->Prop}
theorem arI{r:nw}{p:aG}{us:iP}(h:ct gl ph n B O g s a w)(d:∀t,o.dst=some t->t<n)(j:gA P o r)
 (b:b6 (c9 s.aC) s.bo (bs+o.dst.getD 0) r=some (p,us))(q:gL gl ph n B O g w ⟨put s.aC o.dst p,c7 s.bo us⟩ K):o.wp P a w K Q:=by
 cases r with
 |qg x=>simp only[b6,dD,io] at b;obtain⟨rfl,rfl⟩:=b;exact aj5 h d j q
 |pick c x y=>
  have A:us=[]:=by simp only[b6] at b;split at b<;>simp_all
  subst A;exact aAP h d j b q
 |alloc t zero=>exact aj0 h d j b q
 |box t x=>exact akd h d j b q
 |build zero ps=>exact aBa h d j b q
 |m4 e sz zero len ps aEQ=>exact aA3 h d j b q
 |load C m x=>exact auR h d j b q
 |store m x v=>exact aiD h d j b q
 |qj x=>exact aAK h d j b q
 |qo u x y=>exact aBC h d j b q
 |p1 z x y=>exact ayW h d j b q
 |qn z x y=>exact apo h d j b q
 |pK z x=>exact azF h d j b q
 |nC u x=>exact agH h d j b q
 |p4 k x=>exact aD0 h d j b q
 |oQ x=>exact ahR h d j b q
 |oJ e sz bytes zero l c=>exact aqQ h d j b q
 |p9 x lo hi=>exact agd h d j b q
 |o9 sz x lo hi=>exact axN h d j b q
 |p6 off x=>exact as9 h d j b q
 |p5 C off m x=>exact aqk h d j b q
 |ji sz x i=>exact arz h d j b q
 |pJ x i=>exact ajg h d j b q
 |ext x i=>exact an1 h d j b q
 |len D x=>exact apj h d j b q
 |append e sz bytes sl x aEQ=>exact aw2 h d j b q
 |kV E x y=>exact arb h d j b q
 |call f args=>simp[b6] at b
 |hV f args G=>simp[b6] at b
 |e0 u x y=>exact anH h d j b q
 |bits u x y=>exact agN h d j b q
 |qa f aEF=>exact axm h d j b q
 |mM e bytes sl x aEQ=>exact ai8 h d j b q
 |oy e sz bytes zero sl x aEQ=>exact ayV h d j b q
 |pF x=>exact aDP h d j b q
 |oO e sz zero x=>exact asl h d j b q
 |pB m sz x i=>exact arP h d j b q
 |oF m x=>exact aly h d j b q
 |gY=>simp[b6] at b
inductive ry (gl:eI) (P:Program) (bs:Nat) (aEI:Bool) (o:ey) (s:df):df->Prop where
 |skip (h:l6 s.aC o.guard=some false):ry gl P bs aEI o s ⟨put s.aC o.dst (.a0 []),s.bo⟩
 |b6 {v:aG} {us:iP} (h:l6 s.aC o.guard=some true) (hp:b6 (c9 s.aC) s.bo (bs+o.ai.off+o.dst.getD 0) o.ai=some (v,us)):ry gl P bs aEI o s ⟨put s.aC o.dst v,c7 s.bo us⟩
 |call {f:Operand} {args:List Operand} {fid:FuncId} {x y:Array Value} {ps:dA} {us:iP} {res:aG} (h:l6 s.aC o.guard=some true) (hr:o.ai= .call f args)
  (hf:c9 s.aC f= .bu (.func (.func fid) x y)) (hprep:iU (c9 s.aC) s.bo [] args=some (ps,us)) (hRC:uP gl P fid ps res):
  ry gl P bs aEI o s ⟨put s.aC o.dst res,c7 s.bo us⟩
 |hV {f:Operand} {args:List Operand} {frz:List Bool} {fid:FuncId} {aEF ps:dA} {us:iP} {res:aG} {aEN:cD} (h:l6 s.aC o.guard=some true) (hr:o.ai= .hV f args frz)
  (hf:oH (c9 s.aC f)=some (fid,aEF)) (hprep:iU (c9 s.aC) s.bo frz args=some (ps,us)) (hHC:lx gl P fid (ps++aEF) (c7 s.bo us) res aEN):
  ry gl P bs aEI o s ⟨put s.aC o.dst res,aEN⟩
theorem ry.La{j:df->Prop}(h:nW gl P bs aEI po s j):∃k,ry gl P bs aEI po s k/\j k:=by
 unfold nW at h;split at h
 ·rename_i b;obtain⟨_,h⟩:=h;split at h
  ·rename_i f args c;split at h
   ·rename_i l x y d;split at h
    ·rename_i ps us e;obtain⟨p,q,_,i⟩:=h;exact⟨_,.call b c d e q,i⟩
    ·exact h.elim
   ·exact h.elim
  ·rename_i f args u c;split at h
   ·rename_i l aEF d;split at h
    ·rename_i ps us e;obtain⟨p,aEN,r,_,i⟩:=h;exact⟨_,.hV b c d e r,i⟩
    ·exact h.elim
   ·exact h.elim
  ·split at h
   ·rename_i v us t;exact⟨_,.b6 b t,h.2⟩
   ·exact h.elim
 ·rename_i b;exact⟨_,.skip b,h⟩
 ·exact h.elim
def uQ(P:Program)(n:Nat)(aEO:Array Oper)(o:Oper)(po:ey):Prop:=
 po.dst=o.dst/\(∀t,o.dst=some t->t<n)/\gA P o po.ai/\
 match o.guard,po.guard with
 |none,none=>True
 |some (j,b),some (t,c)=>b=c/\(aEO[j]?).bind (·.dst)=some t/\t<n
 |_,_=>False
theorem Hq{b:Bool}(h:ct gl ph n B O g s a w)(q:uQ P n aEO o po)(c:l6 s.aC po.guard=some b):Region.wanted o (yielded aEO a.tmps)=b:=by
 obtain⟨_,_,_,e⟩:=q;unfold Region.wanted;split at e
 ·rename_i i k;rw[i];rw[k] at c;simpa[l6] using c
 ·rename_i j p t C i k;obtain⟨rfl,r,u⟩:=e;rw[i];rw[k] at c;have d:=h.aC t;have y:a.tmps[t]? =some (a.tmps.getD t undef):=by
   have:t<a.tmps.size:=by rw[h.size];exact u
   simp[nK,this]
  simp only[l6] at c;simp only[yielded,r,tL,y];split at c
  ·rename_i x l;rw[l] at d;rw[d.fB.1];simp only[dD] at c;rw[<-c];cases x<;>cases p<;>rfl
  ·rename_i l;rw[l] at d;obtain⟨vs,z,A,_⟩:=d.aaH (by simp);have:vs=[]:=by simpa using A.symm
   subst this;rw[z];simp only[dD] at c;rw[<-c];cases p<;>rfl
  ·simp at c
 ·exact e.elim
theorem Ss{t:df}{i:Nat}(h:ct gl ph n B O g s a w)(hi:aEO[i]? =some o)(d:uQ P n aEO o po)(x:ry gl P bs aEI po s t)(b:gL gl ph n B O g w t K):wpOp P aEO Q i K a w:=by
 simp only[wpOp,hi];obtain⟨j,k,e,A⟩:=id d;cases x with
 |skip c=>rw[Hq h d c];simp only[iC,g8];rw[j] at b;exact b g _ w (h.put o.dst k (p:= .a0 []) (v:=undef) (.inr (.inr (.inr (.inl ⟨[],[],rfl,rfl,rfl,by simp⟩))))) (gn.refl _ _ _ _)
 |b6 c u=>rw[Hq h d c];simp only[fP];rw[j] at u b;exact .inl (arI h k e u b)
 |call c l q r y=>rw[Hq h d c];simp only[fP];rw[j] at b;rw[l] at e;exact .inl (ayh h k e q r y b)
 |hV c l q r z=>rw[Hq h d c];simp only[fP];rw[j] at b;rw[l] at e;exact .inl (aqp h k e q r z b)
theorem Vk{aEO:Array Oper}{aEI:Bool}{c0:Nat->Nat}{w0:World}{l:df->Prop}:∀(aEP:List ey) (i:Nat) (g:ck) (s:df) (a:Act) (w:World),
 (∀(j:Nat) (po:ey),aEP[j]? =some po->∃o,aEO[i+j]? =some o/\uQ P n aEO o po)->mI gl P bs aEI aEP s l->ct gl ph n B O g s a w->gn B O c0 w0 g.U w->
 (∀g' b c w',l b->ct gl ph n B O g' b c w'->gn B O c0 w0 g'.U w'->Q .normal c w')->wpOps P aEO Q (List.range' i aEP.length) a w
 |[],i,g,s,a,w,_,d,h,e,k=>by simp only[kT,List.range'_zero,wpOps];exact k g s a w d h e
 |po::aEP,i,g,s,a,w,p,d,h,e,k=>by simp only[h9,List.range'_succ];rw[wpOps_cons];obtain⟨o,q,r⟩:=p 0 po rfl;obtain⟨b,t,u⟩:=ry.La d;refine Ss h (by simpa using q) r t (λg' c w' x y=>?_);exact Vk aEP (i+1) g' b c w' (λj z A=>by have:=p (j+1) z (by simpa using A);rwa [show i+1+j=i+(j+1) by omega]) u x (e.trans y) k
end
end
section
variable{p:aG} {b:Bool}
section
variable{ob aEN:cD}
theorem ab4(h:∀k∈p.key,aEN k=ob k):gV aEN p=gV ob p:=by
 cases p with
 |az k s off len=>simp only[gV];rw[h k (by simp[aG.key,aG.cf])]
 |_=>rfl
theorem TL:∀{cs:dA},(∀k∈cs.flatMap aG.key,aEN k=ob k)->oE aEN cs=oE ob cs
 |[],_=>rfl
 |p::ps,h=>by simp only[oE];rw[ab4 (λk a=>h k (by simp[a])),TL (λk a=>h k (by simp only[kh,fr];exact .inr a))]
theorem OG(h:∀k∈p.cR,aEN k=ob k):is aEN p=is ob p:=by
 cases p with
 |agg cs=>simp only[is];rw[TL h]
 |az k s off len=>exact ab4 (p:= .az k s off len) h
 |_=>rfl
theorem WD(h:∀k∈p.key,aEN k=ob k):jN aEN p=jN ob p:=by
 cases p with
 |az k s off len=>simp only[jN];rw[h k (by simp[aG.key,aG.cf])]
 |_=>rfl
theorem Oh{α c:Type}{f a:α->List c}:∀{l:List α},(∀x∈l,a x=f x)->l.flatMap a=l.flatMap f
 |[],_=>rfl
 |x::xs,h=>by simp only[kh];rw[h x (by simp),Oh (λy d=>h y (by simp[d]))]
theorem Tk(h:∀k∈p.cR,aEN k=ob k):jE aEN p=jE ob p:=by
 cases p with
 |agg cs=>simp only[jE];exact Oh (λq a=>WD (λk c=>h k (by simp only[aG.cR,aG.eg,nG];exact⟨q,a,c⟩)))
 |az k s off len=>exact WD (p:= .az k s off len) h
 |_=>rfl
theorem WR{sz:Nat}(h:∀k∈p.cR,aEN k=ob k):iZ aEN sz p=iZ ob sz p:=by
 unfold iZ;split
 ·rfl
 ·rfl
 ·rename_i k s off len;rw[h k (by simp[aG.cR,aG.eg,aG.key,aG.cf])]
 ·rfl
variable{ev ev':Operand->aG}
theorem IW{aEH:Nat}{ox:Option Operand}(h:∀x∈nc ox,ev' x=ev x):ls ev' aEH ox=ls ev aEH ox:=by
 cases ox with
 |none=>rfl
 |some x=>simp only[ls];rw[h x (by simp[nc])]
theorem RB:∀{ps:List (Nat×Nat×Operand)} {cs:dA},(∀x∈ps.map (·.2.2),ev' x=ev x)->pg ev' cs ps=pg ev cs ps
 |[],_,_=>rfl
 |(off,m,x)::r,cs,h=>by
  simp only[pg];rw[h x (by simp)];split
  ·split
   ·exact RB (λy a=>h y (by simp only[gm,gy];exact .inr a))
   ·rfl
  ·rfl
theorem TU{sz:Nat}:∀{ps:List (Nat×Operand)} {es:kO},(∀x∈ps.map (·.2),ev' x=ev x)->(∀x∈ps.map (·.2),∀k∈(ev x).cR,aEN k=ob k)->lD ev' aEN sz es ps=lD ev ob sz es ps
 |[],_,_,_=>rfl
 |(i,x)::r,es,h,c=>by
  simp only[lD];rw[h x (by simp),OG (c x (by simp))];split
  ·split
   ·exact TU (λy a=>h y (by simp only[gm,gy];exact .inr a)) (λy a=>c y (by simp only[gm,gy];exact .inr a))
   ·rfl
  ·rfl
def ds.ra{α:Type}:ds α->Bool
 | .alloc _ _=>true
 | .box _ _=>true
 | .m4 _ _ _ _ _ _=>true
 | .oJ _ _ _ _ _ _=>true
 | .append _ _ _ _ _ _=>true
 | .mM _ _ _ _ _=>true
 | .oy _ _ _ _ _ _ _=>true
 |_=>false
theorem aAk{d:Nat}{r:nw}(h:∀x∈r.ez,ev' x=ev x)(a:r.looks=true->∀x∈r.mh,∀k∈(ev x).cR,aEN k=ob k)(j:r.ra=true->aEN d=ob d):b6 ev' aEN d r=b6 ev ob d r:=by
 cases r with
 |qg x=>simp only[b6];rw[h x (by simp[ds.ez])]
 |pick c x y=>simp only[b6];rw[h c (by simp[ds.ez]),h x (by simp[ds.ez]),h y (by simp[ds.ez])]
 |alloc t zero=>simp only[b6];rw[j rfl]
 |box t x=>simp only[b6];rw[h x (by simp[ds.ez]),j rfl]
 |build zero ps=>simp only[b6];rw[RB h]
 |m4 e sz zero len ps aEQ=>
  have a:=a rfl;simp only[b6];rw[TU h a,j rfl];have:ps.flatMap (λp=>jE aEN (ev' p.2))=ps.flatMap (λp=>jE ob (ev p.2)):=
   Oh (λp z=>by rw[h p.2 (by simp only[ds.ez,gp];exact⟨p,z,rfl⟩),Tk (a p.2 (by simp only[ds.mh,ds.ez,gp];exact⟨p,z,rfl⟩))])
  rw[this]
 |load C m x=>
  have g:=a rfl x (by first|(simp[ds.mh,ds.ez];done)|exact eS|exact gv _ eS);simp only[b6];rw[h x (by simp[ds.ez])];generalize ev x=p at g;split
  ·rename_i k s off;rw[g k (by simp[aG.cR,aG.eg,aG.key,aG.cf])]
  ·rename_i k s i off;rw[g k (by simp[aG.cR,aG.eg,aG.key,aG.cf])]
  ·rfl
  ·rfl
 |store m x v=>
  have g:=a rfl x (by simp[ds.mh]);simp only[b6];rw[h x (by simp[ds.ez]),h v (by simp[ds.ez])];generalize ev x=p at g;split
  ·rename_i k s off;rw[g k (by simp[aG.cR,aG.eg,aG.key,aG.cf])]
  ·rename_i k s i off;rw[g k (by simp[aG.cR,aG.eg,aG.key,aG.cf])];by_cases A:(ev v).cR=[]
   ·rw[OG (ob:=ob) (aEN:=aEN) (p:=ev v) (λk a=>by rw[A] at a;cases a)]
   ·cases E:ob k with
    |az G e sz es aEQ=>
     cases aEQ with
     |false=>rfl
     |true=>cases(is aEN (ev v)).bind aG.cells<;>cases(is ob (ev v)).bind aG.cells<;>cases D:es[i]? <;>simp[A,D]
    |_=>rfl
  ·rfl
 |qj x=>simp only[b6];rw[h x (by simp[ds.ez])]
 |qo u x y=>simp only[b6];rw[h x (by simp[ds.ez]),h y (by simp[ds.ez])]
 |p1 B x y=>simp only[b6];rw[h x (by simp[ds.ez]),h y (by simp[ds.ez])]
 |qn B x y=>simp only[b6];rw[h x (by simp[ds.ez]),h y (by simp[ds.ez])]
 |pK B x=>simp only[b6];rw[h x (by simp[ds.ez])]
 |nC u x=>simp only[b6];rw[h x (by simp[ds.ez])]
 |p4 k x=>simp only[b6];rw[h x (by simp[ds.ez])]
 |oQ x=>simp only[b6];rw[h x (by simp[ds.ez]),WR (a rfl x (by first|(simp[ds.mh,ds.ez];done)|exact eS|exact gv _ eS))]
 |oJ e sz bytes zero l c=>simp only[b6];rw[h l (by simp[ds.ez]),h c (by simp[ds.ez]),j rfl]
 |p9 x lo hi=>simp only[b6];rw[h x (by simp[ds.ez]),IW (aEH:=0) (ox:=lo) (λy n=>h y (by simp[ds.ez,n]))];have w:∀aEH,ls ev' aEH hi=ls ev aEH hi:=λaEH=>IW (λy n=>h y (by simp[ds.ez,n]));simp only[w]
 |o9 sz x lo hi=>
  have g:=a rfl x (by first|(simp[ds.mh,ds.ez];done)|exact eS|exact gv _ eS);simp only[b6];rw[h x (by simp[ds.ez]),IW (aEH:=0) (ox:=lo) (λy n=>h y (by simp[ds.ez,n]))];have w:∀aEH,ls ev' aEH hi=ls ev aEH hi:=λaEH=>IW (λy n=>h y (by simp[ds.ez,n]));simp only[w];generalize ev x=p at g;split
  ·rfl
  ·rename_i k s off len;rw[g k (by simp[aG.cR,aG.eg,aG.key,aG.cf])]
  ·rfl
  ·rfl
 |p6 off x=>simp only[b6];rw[h x (by simp[ds.ez])]
 |p5 C off m x=>simp only[b6];rw[h x (by simp[ds.ez])]
 |ji sz x i=>
  have g:=a rfl x (by first|(simp[ds.mh,ds.ez];done)|exact eS|exact gv _ eS);simp only[b6];rw[h x (by simp[ds.ez]),h i (by simp[ds.ez])];generalize ev x=p at g;split
  ·rfl
  ·rename_i k s off len H m I;rw[g k (by simp[aG.cR,aG.eg,aG.key,aG.cf])]
  ·rfl
 |pJ x i=>simp only[b6];rw[h x (by simp[ds.ez]),h i (by simp[ds.ez])]
 |ext x i=>simp only[b6];rw[h x (by simp[ds.ez])]
 |len J x=>simp only[b6];rw[h x (by simp[ds.ez])]
 |append e sz bytes sl x aEQ=>
  have a:=a rfl;have o:=a sl (by first|(simp[ds.mh,ds.ez];done)|exact eS|exact gv _ eS);simp only[b6];rw[h sl (by simp[ds.ez]),h x (by simp[ds.ez]),WR (a x (by first|(simp[ds.mh,ds.ez];done)|exact eS|exact gv _ eS)),j rfl];generalize ev sl=p at o;generalize iZ ob sz (ev x)=q;split
  ·rfl
  ·rename_i k aM len ys;rw[o k (by simp[aG.cR,aG.eg,aG.key,aG.cf])]
  ·rfl
  ·rfl
 |kV K x y=>simp only[b6];rw[h x (by simp[ds.ez]),h y (by simp[ds.ez])]
 |mM e bytes sl x aEQ=>
  have a:=a rfl;have o:=a sl (by first|(simp[ds.mh,ds.ez];done)|exact eS|exact gv _ eS);simp only[b6];rw[h sl (by simp[ds.ez]),h x (by simp[ds.ez]),j rfl];generalize ev sl=p at o;generalize ev x=q;split
  ·rfl
  ·rename_i k aM len ys;rw[o k (by simp[aG.cR,aG.eg,aG.key,aG.cf])]
  ·rfl
 |oy e sz bytes zero sl x aEQ=>simp only[b6];rw[h sl (by simp[ds.ez]),h x (by simp[ds.ez]),j rfl]
 |pF x=>simp only[b6];rw[h x (by simp[ds.ez])]
 |oO e sz zero x=>
  have g:=a rfl x (by first|(simp[ds.mh,ds.ez];done)|exact eS|exact gv _ eS);simp only[b6];rw[h x (by simp[ds.ez])];generalize ev x=p at g;split
  ·rfl
  ·rename_i k s off len;rw[g k (by simp[aG.cR,aG.eg,aG.key,aG.cf])]
  ·rfl
 |pB m sz x i=>simp only[b6];rw[h x (by simp[ds.ez]),h i (by simp[ds.ez])]
 |oF m x=>
  have g:=a rfl x (by first|(simp[ds.mh,ds.ez];done)|exact eS|exact gv _ eS);simp only[b6];rw[h x (by simp[ds.ez])];generalize ev x=p at g;split
  ·rename_i k s;rw[g k (by simp[aG.cR,aG.eg,aG.key,aG.cf])]
  ·rfl
 |e0 u x y=>simp only[b6];rw[h x (by simp[ds.ez]),h y (by simp[ds.ez])]
 |bits u x y=>simp only[b6];rw[h x (by simp[ds.ez]),h y (by simp[ds.ez])]
 |qa f aEF=>have:aEF.map ev'=aEF.map ev:=Io h;simp only[b6];rw[this]
 |call f args=>rfl
 |hV f args L=>rfl
 |gY=>rfl
theorem WL(h:∀k∈p.cR,aEN k=ob k):lj aEN b p=lj ob b p:=by
 cases b
 ·rfl
 ·simp only[lj,fP];exact OG h
theorem aaQ(h:∀k∈p.cR,aEN k=ob k):lC aEN b p=lC ob b p:=by
 cases b
 ·rfl
 ·simp only[lC,fP];exact Tk h
theorem IC:∀{d:List Bool} {xs:List Operand} (_:∀x∈xs,ev' x=ev x) (_:∀x∈xs,∀k∈(ev x).cR,aEN k=ob k),iU ev' aEN d xs=iU ev ob d xs
 |_,[],_,_=>by simp only[iU]
 |[],x::xs,h,a=>by simp only[iU];rw[h x (by simp),WL (a x (by simp)),aaQ (a x (by simp)),IC (λy c=>h y (by simp[c])) (λy c=>a y (by simp[c]))]
 |b::bs,x::xs,h,a=>by simp only[iU];rw[h x (by simp),WL (a x (by simp)),aaQ (a x (by simp)),IC (λy c=>h y (by simp[c])) (λy c=>a y (by simp[c]))]
end
end
section
variable{ob:cD}
def q8(g:ck)(ob:cD)(cT:ck)(a:cD)(k:Nat):Prop:=a k=ob k/\cT.b3 k=g.b3 k/\cT.cap k=g.cap k
theorem gM.kX{g cT:ck}{d:cD}{p:aG}{v:Value}(h:∀k∈p.cf,q8 g ob cT d k)(r:gM g ob p v):gM cT d p v:=by
 cases p with
 |bn k s off=>obtain⟨a,b,c⟩:=h k eS;simp only[gM,a,b] at r ⊢;exact r
 |dH k s i off=>obtain⟨a,b,c⟩:=h k eS;simp only[gM,a,b] at r ⊢;exact r
 |az k s off len=>obtain⟨a,b,c⟩:=h k eS;simp only[gM,a,b,c] at r ⊢;exact r
 |hG k s=>obtain⟨a,b,c⟩:=h k eS;simp only[gM,a,b] at r ⊢;exact r
 |_=>exact r.elim
theorem lP.kX{g cT:ck}{ob b:cD}{p:aG}{v:Value}(h:∀k∈p.key,q8 g ob cT b k)(r:lP g ob p v):lP cT b p v:=by
 cases p with
 |gJ f aEF=>obtain⟨a,vs,rfl,d,e⟩:=r;refine⟨a,vs,rfl,d,λj q u c l=>(e j q u c l).imp id (gM.kX λk a=>h k ?_)⟩;exact nG.2 ⟨q,dr c,a⟩
 |bn k s off=>exact gM.kX (p:= .bn k s off) h r
 |dH k s i off=>exact gM.kX (p:= .dH k s i off) h r
 |az k s off len=>exact gM.kX (p:= .az k s off len) h r
 |hG k s=>exact gM.kX (p:= .hG k s) h r
 |_=>exact r.elim
theorem gf.kX{g cT:ck}{w:World}{ob a:cD}{p:aG}{v:Value}(b:cT.U=g.U)(h:∀k∈p.key,q8 g ob cT a k)(r:gf g w ob p v):gf cT w a p v:=
 r.imp (λr=>by rw[b];exact r) (lP.kX h)
theorem dT.kX{g cT:ck}{w:World}{ob i:cD}{p:aG}{v:Value}(c:cT.U=g.U)(h:∀k∈p.cR,q8 g ob cT i k)(r:dT g w ob p v):dT cT w i p v:=by
 rcases r with r|r|⟨cs,vs,rfl,l,n,e⟩|⟨cs,vs,rfl,l,n,e⟩|r
 ·exact .inl r
 ·refine .inr (.inl ?_);rcases r with r|r
  ·exact .inl (by rw[c];exact r)
  ·refine .inr ?_;cases p with
   |agg=>exact r.elim
   |a0=>exact r.elim
   |gJ f aEF=>exact lP.kX (p:= .gJ f aEF) h r
   |_=>exact lP.kX h r
 ·exact .inr (.inr (.inl ⟨cs,vs,rfl,l,n,λj q u a b=>⟨(e j q u a b).1,(e j q u a b).2.kX c λk d=>h k (nG.2 ⟨q,dr a,d⟩)⟩⟩))
 ·refine .inr (.inr (.inr (.inl ⟨cs,vs,rfl,l,n,λj q u a b=>?_⟩)));have o:∀k∈q.eg,q8 g ob cT i k:=λk d=>h k (nG.2 ⟨q,dr a,d⟩);rcases e j q u a b with r|⟨aEG,t,rfl,s2,s3,s4⟩
  ·left;rcases r with r|r
   ·exact .inl (by rw[c];exact r)
   ·refine .inr ?_;cases q with
    |agg=>exact r.elim
    |gJ f aEF=>exact lP.kX (p:= .gJ f aEF) o r
    |_=>exact lP.kX o r
  ·exact .inr ⟨aEG,t,rfl,s2,s3,λj q u a b=>⟨(s4 j q u a b).1,(s4 j q u a b).2.kX c λk d=>o k (nG.2 ⟨q,dr a,d⟩)⟩⟩
 ·exact .inr (.inr (.inr (.inr (by rw[c];exact r))))
theorem kR.kX{g cT:ck}{w:World}{ob z:cD}{k:Nat}{o:Obj}(b:cT.U=g.U)(B:cT.b3 k=g.b3 k/\cT.cap k=g.cap k)(h:∀j∈o.qb,q8 g ob cT z j)(r:kR g w ob k o):kR cT w z k o:=by
 obtain⟨a,n⟩:=B;cases o with
 |ax s=>trivial
 |box s cs=>obtain⟨aEE,T,r1,c,d,l⟩:=r;refine⟨aEE,T,by rw[a];exact r1,c,by rw[a,b];exact d,λj q A=>?_⟩;obtain⟨u,t,x,y⟩:=l j q A;exact⟨u,t,x,y.kX b λi hi=>h i (nG.2 ⟨q,dr A,hi⟩)⟩
 |az s e sz es aEQ=>obtain⟨aEE,r1,c,d,l,fp,C,ln,ni⟩:=r;refine⟨aEE,by rw[a];exact r1,by rw[n];exact c,by rw[n];exact d,by rw[n];exact l,fp,λi j cs p hi D=>?_,by rw[a,b];exact ln,by rw[a,b];exact ni⟩;obtain⟨u,t,x,y⟩:=C i j cs p hi D;exact⟨u,t,x,by rw[b];exact y⟩
 |map s es=>obtain⟨aEE,E,r1,c,d,l⟩:=r;exact⟨aEE,E,by rw[a];exact r1,c,by rw[a,b];exact d,l⟩
def kF(K:Nat->Bool)(a b:cD):Nat->Obj:=λk=>if K k=true then a k else b k
theorem aza{gl:eI}{P:Program}{f:Nat}{args:dA}{B:aG}{q o:cD}(K:Nat->Bool)(h:lx gl P f args q B o)
 (A:∀k,K k=true->ob k=q k)(I:∀k,K k=false->¬(q k).fx)(O:∀k,K k=false->¬(o k).fx)
 (Q:∀p∈args,∀k∈p.cR,K k=true)(R:∀k,∀j∈(q k).qb,K j=true)(S:∀k,∀j∈(o k).qb,K j=true)(T:∀k∈B.cR,K k=true):
 lx gl P f args ob B (kF K o ob):=by
 obtain⟨W,X⟩:=h;refine⟨W,λg w vs Z r J=>?_⟩;have L:∀k,(q k).fx->K k=true:=λk c=>by
  cases a:K k with
  |true=>rfl
  |false=>exact absurd c (I k a)
 have a3:∀k,(o k).fx->K k=true:=λk c=>by
  cases a:K k with
  |true=>rfl
  |false=>exact absurd c (O k a)
 have M:∀k,K k=true->q8 g ob g q k:=λk a=>⟨(A k a).symm,rfl,rfl⟩;have z:∀k,(q k).fx->(ob k).fx:=λk c=>by rw[A k (L k c)];exact c
 have C:∀b,nZ g q b->nZ g ob b:=λb ⟨k,c,x⟩=>⟨k,z k c,x⟩;have a1:oC g w q:=by
  refine⟨λk=>?_,λk l c n=>r.inj k l (z k c) (z l n),λk c=>r.lt k (z k c)⟩;cases a:K k with
  |true=>have:=r.ig k;rw[A k a] at this;exact this.kX rfl ⟨rfl,rfl⟩ λj y=>M j (R k j y)
  |false=>
   have:=I k a;cases ho:q k with
   |ax s=>trivial
   |_=>rw[ho] at this;exact absurd trivial this
 refine(X g w vs Z a1 ⟨J.1,λi p v N hv=>(J.2 i p v N hv).kX rfl λk a=>M k (Q p (dr N) k a)⟩).mono ?_;rintro e w' ⟨v,g',rfl,d,a2⟩;refine⟨v,⟨g'.U,λk=>if K k=true then g'.b3 k else g.b3 k,λk=>if K k=true then g'.cap k else g.cap k⟩,rfl,?_,?_⟩
 ·have D:∀k,K k=false->(ob k).fx->¬nZ g q (g.b3 k):=λk a c ⟨j,y,x⟩=>by have:=r.inj j k (z j y) c x;subst this;rw[L j y] at a;cases a
  have E:∀k,K k=true->q8 g' o ⟨g'.U,λk=>if K k=true then g'.b3 k else g.b3 k,λk=>if K k=true then g'.cap k else g.cap k⟩ (kF K o ob) k:=λk a=>by simp[q8,kF,a]
  have step:fY g ob ⟨g'.U,λk=>if K k=true then g'.b3 k else g.b3 k,λk=>if K k=true then g'.cap k else g.cap k⟩ (kF K o ob):=by
   intro k;cases a:K k with
   |true=>have:=d.step k;simp only[kF,a,fP,A k a];exact this
   |false=>have:=fY.refl g ob k;simp only[kF,a,iC,g8];simpa using this
  refine⟨⟨d.jh.os,d.jh.tape,d.jh.output,d.jh.size,λb x G=>d.jh.block b x λH=>G (C b H),λb x G=>d.jh.U b x λH=>G (C b H)⟩,d.ext,⟨λk=>?_,λk l c n t=>?_,λk c=>?_⟩,step,λk c=>?_⟩
  ·cases a:K k with
   |true=>
    have e:kF K o ob k=o k:=by simp[kF,a]
    rw[e];exact(d.heap.ig k).kX (g:=g') rfl ⟨(E k a).2.1,(E k a).2.2⟩ λj y=>E j (S k j y)
   |false=>
    have e:kF K o ob k=ob k:=by simp[kF,a]
    rw[e];refine(r.ig k).fg d.ext step λc=>⟨by simp[a],by simp[a],d.jh.U _ (r.lt k c) (D k a c),d.jh.block _ (r.lt k c) (D k a c)⟩
  ·have FT:∀k l,K k=true->K l=false->(o k).fx->(ob l).fx->g'.b3 k=g.b3 l->False:=by
    intro k l a u c n t;rcases d.src k c with h|h
    ·have:=r.lt l n;omega
    ·rw[t] at h;exact D l u n h
   cases a:K k with
   |true=>
    cases u:K l with
    |true=>simp only[kF,a,u,fP] at c n t;exact d.heap.inj k l c n t
    |false=>simp only[kF,a,u,fP,iC,g8] at c n t;exact(FT k l a u c n t).elim
   |false=>
    cases u:K l with
    |true=>simp only[kF,a,u,fP,iC,g8] at c n t;exact(FT l k u a n c t.symm).elim
    |false=>simp only[kF,a,u,iC,g8] at c n t;exact r.inj k l c n t
  ·cases a:K k with
   |true=>simp only[kF,a,fP] at c ⊢;exact d.heap.lt k c
   |false=>simp only[kF,a,iC,g8] at c ⊢;exact nJ (r.lt k c) d.ext.size
  ·cases a:K k with
   |true=>
    simp only[kF,a,fP] at c ⊢;rcases d.src k c with h|h
    ·exact .inl h
    ·exact .inr (C _ h)
   |false=>simp only[kF,a,iC,g8] at c ⊢;exact .inr ⟨k,c,rfl⟩
 ·refine a2.kX (g:=g') rfl λk a=>?_;simp[q8,kF,T k a]
end
end Go.Hf

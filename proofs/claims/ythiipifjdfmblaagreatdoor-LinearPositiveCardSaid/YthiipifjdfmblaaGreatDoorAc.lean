import Derived.Test.YthiipifjdfmblaaGreatDoorAb
import Derived.RangeFuncRecord
import Derived.Lib.BufferWrite
import Derived.Lib.AppendZeros
set_option linter.all false
namespace Go.Hf
open Go.RowKit
section
variable{ob0 ob:cD} {p q:aG}
theorem sC(f:cD):∀(u v:iP),c7 f (u++v)=c7 (c7 f u) v
 |[],_=>rfl
 |(k,x)::r,v=>by simp only[LH,c7];exact sC _ r v
theorem awR{α:Type}(f:Nat->α)(k:Nat)(x:α)(h:f k=x):dl f k x=f:=by
 funext j;by_cases b:j=k
 ·subst b;rw[iM,h]
 ·rw[ir _ _ b]
def ki(ob0 ob:cD):Prop:=∀k,ob k=ob0 k\/∃aM e sz es,ob0 k= .az aM e sz es true/\ob k= .az aM e sz es false
theorem ki.refl(ob:cD):ki ob ob:=λ_=> .inl rfl
theorem ki.cd(h:ki ob0 ob)(k:Nat):(ob k).cd=(ob0 k).cd:=by
 rcases h k with h|⟨aM,e,sz,es,b,c⟩
 ·rw[h]
 ·rw[b,c];rfl
section
variable{P:Program} {n B bs:Nat} {O:Nat->Prop} {gl:eI} {ph:ck×cD×World×List Deferred} {g:ck} {s:df} {a:Act} {w w':World} {o:Oper} {K:Act->World->Prop} {Q:Exit->Act->World->Prop}
theorem ct.agi(h:ct gl ph n B O g s a w){k aM e sz:Nat}{es:kO}{as0:Bool}(t:s.bo k= .az aM e sz es as0):
 ct gl ph n B O ⟨dl g.U (g.b3 k) (es.length*sz),g.b3,g.cap⟩ ⟨s.aC,dl s.bo k (.az aM e sz es false)⟩ a w/\gn B O g.U w (dl g.U (g.b3 k) (es.length*sz)) w/\gk g.U w (dl g.U (g.b3 k) (es.length*sz)) w/\
  fY g s.bo ⟨dl g.U (g.b3 k) (es.length*sz),g.b3,g.cap⟩ (dl s.bo k (.az aM e sz es false)):=by
 have d:(s.bo k).fx:=by rw[t];trivial
 have r:=h.ig k;rw[t] at r;obtain⟨ar6,r1,G,H,I,J,py,X,L⟩:=r;have x:gk g.U w (dl g.U (g.b3 k) (es.length*sz)) w:=by
  refine⟨sm _,λb _=>?_,λ_ _ _ _=>rfl⟩;by_cases y:b=g.b3 k
  ·subst y;rw[iM];exact L
  ·rw[ir _ _ y];exact sm _
 have A:fY g s.bo ⟨dl g.U (g.b3 k) (es.length*sz),g.b3,g.cap⟩ (dl s.bo k (.az aM e sz es false)):=fY.az g t (sm _);refine⟨h.zp (g':=⟨dl g.U (g.b3 k) (es.length*sz),g.b3,g.cap⟩) (dl s.bo k (.az aM e sz es false)) (· =k) x A (λc l=>ir _ _ l) (λc l C=>?_) (λc l C=>?_),⟨rfl,rfl,rfl,sm _,λ_ _ _=>rfl,λb y r=>?_⟩,x,A⟩
 ·have z:g.b3 c≠g.b3 k:=λe=>l (h.inj c k C d e);exact⟨rfl,rfl,ir _ _ z,rfl⟩
 ·subst l;refine⟨?_,(h.jI c d).1,(h.jI c d).2,λM D E=>?_⟩
  ·rw[iM];refine⟨ar6,r1,G,H,I,J,λi j cs p hi N=>?_,(λR=>by cases R),by simp[dl]⟩;obtain⟨u,S,T,W⟩:=py i j cs p hi N;exact⟨u,S,T,W.mono x⟩
  ·rw[ir _ _ D] at E;exactλe=>D (h.inj M c E d e)
 ·have z:b≠g.b3 k:=by
   intro e;subst e;rcases(h.jI k d).1 with F|F
   ·omega
   ·exact r F
  exact ir _ _ z
theorem ki.Ey(h:ki ob0 ob)(p:aG):ki ob0 (c7 ob (jN ob0 p)):=by
 cases p with
 |az k s off len=>
  simp only[jN];split
  ·rename_i i e sz es d;intro b;simp only[c7];by_cases c:b=k
   ·subst c;rw[iM];exact .inr ⟨_,_,_,_,d,rfl⟩
   ·rw[ir _ _ c];exact h b
  ·exact h
 |_=>exact h
theorem ct.jN(h:ct gl ph n B O g s a w){ob0:cD}(H:ki ob0 s.bo){p q:aG}{v:Value}(l:gf g w s.bo p v)(c:gV ob0 p=some q):
 ∃g',ct gl ph n B O g' ⟨s.aC,c7 s.bo (Hf.jN ob0 p)⟩ a w/\gn B O g.U w g'.U w/\gk g.U w g'.U w/\eZ g'.U w q v/\fY g s.bo g' (c7 s.bo (Hf.jN ob0 p)):=by
 have D:∀{p:aG},p.key=[]->gf g w s.bo p v->eZ g.U w p v:=λT l=>l.elim id (λr=>absurd T r.s9);cases p with
 |bu u=>simp only[gV,O5] at c;subst c;exact⟨g,h,gn.refl _ _ _ _,gk.refl _ _,D rfl l,fY.refl _ _⟩
 |aQ sz es=>simp only[gV,O5] at c;subst c;exact⟨g,h,gn.refl _ _ _ _,gk.refl _ _,D rfl l,fY.refl _ _⟩
 |ep cs off=>simp only[gV,O5] at c;subst c;exact⟨g,h,gn.refl _ _ _ _,gk.refl _ _,D rfl l,fY.refl _ _⟩
 |az k aM off len=>
  simp only[gV] at c;split at c
  ·rename_i s' e sz es I t;split at c
   ·rename_i W;obtain⟨rfl,cl⟩:=W;cases c;obtain⟨J,A⟩:∃J,s.bo k= .az aM e sz es J:=by
     rcases H k with d|⟨X,Z,ar,asH,d,C⟩
     ·exact⟨I,by rw[d];exact t⟩
     ·rw[t] at d;cases d;exact⟨false,C⟩
    obtain⟨a1,a2,L,a3⟩:=h.agi A;have M:c7 s.bo (Hf.jN ob0 (.az k aM off len))=dl s.bo k (.az aM e sz es false):=by
     simp only[Hf.jN,t];cases I with
     |true=>rfl
     |false=>
      simp only[c7];rcases H k with d|⟨X,Z,ar,asH,d,C⟩
      ·exact(awR s.bo k _ (by rw[d];exact t)).symm
      ·rw[t] at d;cases d
    refine⟨_,by rw[M];exact a1,a2,L,?_,by rw[M];exact a3⟩;have hr:lP g s.bo (.az k aM off len) v:=l.elim (λr=>by cases r) id;obtain⟨_,b,o',a4,rfl,d,C,h3⟩:=hr;obtain⟨f1,f2,f3,f4⟩:=h3 _ _ _ _ A;subst f2;have N:=h.ig k;rw[A] at N;obtain⟨ar6,r1,cn,cp,c0,a5,py,c1,c2⟩:=N;have bd:(s.bo k).fx:=by rw[A];trivial
    have R:((es.drop off).take len).length=len:=by simp;omega
    have x:∀(i:Nat) (cs:dA),((es.drop off).take len)[i]? =some cs->es[off+i]? =some cs/\i<len:=by
     intro i cs hi;rw[eS] at hi;split at hi
     ·rename_i bx;rw[lh] at hi;exact⟨hi,bx⟩
     ·cases hi
    have S:eZ (dl g.U (g.b3 k) (es.length*sz)) w (.aQ sz ((es.drop off).take len)) (.slice (some ⟨g.b3 k,o',none⟩) ((es.drop off).take len).length a4):=by
     refine .aQ (λi j=>ar6.getD ((off+i)*sz+j) undef) (by omega) C (h.jI k bd).2 (λc3=>?_) (λi cs hi=>a5 _ _ (x i cs hi).1) (λi j cs p hi y=>?_) (λi j cs p hi y=>?_) (λi j cs p hi y=>?_)
     ·have E:=f3 (.inl (by omega));rw[iM,R,E,<-xB];exact dr _ (by omega)
     ·obtain⟨u,z,F,G⟩:=py (off+i) j cs p (x i cs hi).1 y;have E:=f3 (.inl (by have:=(x i cs hi).2;omega));rw[cell_of_heap r1,E];have cc:off*sz+(i*sz+j)=(off+i)*sz+j:=by rw[xB];omega
      rw[cc,z];simp[nK,z]
     ·obtain⟨u,z,F,G⟩:=py (off+i) j cs p (x i cs hi).1 y;exact F
     ·obtain⟨u,z,F,G⟩:=py (off+i) j cs p (x i cs hi).1 y;have:ar6.getD ((off+i)*sz+j) undef=u:=by simp[nK,z]
      rw[this];exact G.mono L
    rw[R] at S;exact S
   ·simp at c
  ·simp at c
 |undef=>simp[gV] at c
 |agg=>simp[gV] at c
 |a0=>simp[gV] at c
 |bn=>simp[gV] at c
 |dH=>simp[gV] at c
 |hG=>simp[gV] at c
 |gJ=>simp[gV] at c
theorem ahc(b:p.hK=true)(h:gV ob0 p=some q):q.hK=true:=by
 cases p with
 |bu u=>simp only[gV,O5] at h;subst h;exact b
 |aQ sz es=>simp only[gV,O5] at h;subst h;rfl
 |ep cs off=>simp only[gV,O5] at h;subst h;rfl
 |az k aM off len=>
  simp only[gV] at h;split at h
  ·split at h
   ·cases h;rfl
   ·simp at h
  ·simp at h
 |_=>simp[gV] at h
theorem ct.RQ{ob0:cD}:∀(cs d:dA) (vs:List Value) (g:ck) (s:df),ct gl ph n B O g s a w->ki ob0 s.bo->cs.length=vs.length->
 (∀(j:Nat) (q:aG) (u:Value),cs[j]? =some q->vs[j]? =some u->q.hK=true/\gf g w s.bo q u)->oE ob0 cs=some d->
 ∃g',ct gl ph n B O g' ⟨s.aC,c7 s.bo (cs.flatMap (Hf.jN ob0))⟩ a w/\gn B O g.U w g'.U w/\gk g.U w g'.U w/\ki ob0 (c7 s.bo (cs.flatMap (Hf.jN ob0)))/\
  d.length=vs.length/\(∀(j:Nat) (q:aG),d[j]? =some q->q.hK=true)/\∀(j:Nat) (q:aG) (u:Value),d[j]? =some q->vs[j]? =some u->eZ g'.U w q u
 |[],d,vs,g,s,h,k,e,_,b=>by simp only[oE,O5] at b;subst b;exact⟨g,h,gn.refl _ _ _ _,gk.refl _ _,k,by simpa using e,by simp,by simp⟩
 |p::A,d,vs,g,s,h,k,e,l,b=>by
  simp only[oE] at b;split at b
  ·rename_i q C t D;cases b
   match vs,e with
   |v::E,e=>
    have x:=l 0 p v rfl rfl;obtain⟨dB,gx,F,y,G,H⟩:=h.jN k x.2 t;have I:=k.Ey p;obtain⟨cT,gT,J,z,L,M,N,R⟩:=ct.RQ A C E dB ⟨s.aC,c7 s.bo (Hf.jN ob0 p)⟩ gx I (by simpa using e) (λj q u S i=>by have:=l (j+1) q u (by simpa using S) (by simpa using i);exact⟨this.1,this.2.step y H⟩) D
    refine⟨cT,?_,F.trans J,y.trans z,?_,by simpa using M,λj r c=>?_,λj r u c i=>?_⟩
    ·simp only[Ph,sC];exact gT
    ·simp only[Ph,sC];exact L
    ·cases j with
     |zero=>simp at c;subst c;exact ahc x.1 t
     |succ j=>exact N j r (by simpa using c)
    ·cases j with
     |zero=>simp at c i;subst c;subst i;exact G.mono z
     |succ j=>exact R j r u (by simpa using c) (by simpa using i)
  ·simp at b
theorem ct.jE(h:ct gl ph n B O g s a w)(c:ki ob0 s.bo){v:Value}(i:dT g w s.bo p v)(b:qG ob0 p=some q):
 ∃g',ct gl ph n B O g' ⟨s.aC,c7 s.bo (Hf.jE ob0 p)⟩ a w/\gn B O g.U w g'.U w/\gk g.U w g'.U w/\ki ob0 (c7 s.bo (Hf.jE ob0 p))/\eZ g'.U w q v:=by
 cases p with
 |agg cs=>simp only[qG,Pq] at b;obtain⟨j,l,rfl⟩:=b;obtain⟨vs,rfl,r,t⟩:=i.x5;obtain⟨g',F,d,E,S,L,C,e⟩:=ct.RQ cs j vs g s h c r t l;exact⟨g',F,d,E,S,.agg L C e⟩
 |bu u=>obtain⟨g',F,d,E,e,_⟩:=h.jN c (p:= .bu u) (by obtain⟨rfl,x⟩:=i.fB;exact .inl (.bu x)) b;exact⟨g',F,d,E,c.Ey (.bu u),e⟩
 |aQ sz es=>obtain⟨g',F,d,E,e,_⟩:=h.jN c (p:= .aQ sz es) (.inl i.u3) b;exact⟨g',F,d,E,c.Ey (.aQ sz es),e⟩
 |ep cs off=>obtain⟨g',F,d,E,e,_⟩:=h.jN c (p:= .ep cs off) (.inl i.y5) b;exact⟨g',F,d,E,c.Ey (.ep cs off),e⟩
 |az k aM off len=>obtain⟨g',F,d,E,e,_⟩:=h.jN c (p:= .az k aM off len) (.inr (i.ju (by simp[aG.key,aG.cf]))) b;exact⟨g',F,d,E,c.Ey (.az k aM off len),e⟩
 |undef=>simp[qG,gV] at b
 |a0=>simp[qG,gV] at b
 |bn=>simp[qG,gV] at b
 |dH=>simp[qG,gV] at b
 |hG=>simp[qG,gV] at b
 |gJ=>simp[qG,gV] at b
theorem auc{ev:Operand->aG}{e:List Bool}{x:Operand}{xs:List Operand}{k:dA}{us:iP}(h:iU ev ob e (x::xs)=some (k,us)):
 ∃q c d,lj ob (e.getD 0 true) (ev x)=some q/\iU ev ob e.tail xs=some (c,d)/\k=q::c/\us=lC ob (e.getD 0 true) (ev x)++d:=by
 cases e with
 |nil=>
  simp only[iU] at h;split at h
  ·rename_i q c d i j;cases h;exact⟨q,c,d,i,j,rfl,rfl⟩
  ·cases h
 |cons b bs=>
  simp only[iU] at h;split at h
  ·rename_i q c d i j;cases h;exact⟨q,c,d,i,j,rfl,rfl⟩
  ·cases h
theorem YL(b:List Bool)(j:Nat):b.tail.getD j true=b.getD (j+1) true:=by cases b<;>simp
theorem ct.Ea{ob0:cD}:∀(xs:List Operand) (b:List Bool) (i:dA) (us:iP) (g:ck) (s:df),ct gl ph n B O g s a w->ki ob0 s.bo->xs.all cJ=true->iU (c9 s.aC) ob0 b xs=some (i,us)->
 ∃g',ct gl ph n B O g' ⟨s.aC,c7 s.bo us⟩ a w/\gn B O g.U w g'.U w/\gk g.U w g'.U w/\ki ob0 (c7 s.bo us)/\
  i.length=xs.length/\∀(j:Nat) (q:aG) (x:Operand),i[j]? =some q->xs[j]? =some x->eZ g'.U w q (a.eval x)\/(b.getD j true=false/\q=c9 s.aC x)
 |[],b,i,us,g,s,h,k,_,l=>by simp only[iU,O5,pV] at l;obtain⟨rfl,rfl⟩:=l;exact⟨g,h,gn.refl _ _ _ _,gk.refl _ _,k,rfl,by simp⟩
 |x::xs,b,i,us,g,s,h,k,t,l=>by
  obtain⟨q,H,I,u,J,rfl,rfl⟩:=auc l;simp only[mU,Hi] at t;cases A:b.getD 0 true with
  |true=>
   simp only[A,lj,w6] at u;simp only[lC,w6];obtain⟨dB,gx,L,M,ka,N⟩:=h.jE k (h.fF t.1) u;obtain⟨cT,gT,C,z,D,E,F⟩:=ct.Ea xs b.tail H I dB ⟨s.aC,c7 s.bo (Hf.jE ob0 (c9 s.aC x))⟩ gx ka t.2 J;refine⟨cT,?_,L.trans C,M.trans z,?_,by simp[E],λj r y c d=>?_⟩
   ·simp only[sC];exact gT
   ·simp only[sC];exact D
   ·cases j with
    |zero=>simp at c d;subst c;subst d;exact .inl (N.mono z)
    |succ j=>
     rcases F j r y (by simpa using c) (by simpa using d) with e|⟨e,G⟩
     ·exact .inl e
     ·exact .inr ⟨by rw[<-YL];exact e,G⟩
  |false=>
   simp only[A,lj,Nn,st,O5] at u;subst u;simp only[lC,Nn,st,Pt];obtain⟨cT,gT,C,z,D,E,F⟩:=ct.Ea xs b.tail H I g s h k t.2 J;refine⟨cT,gT,C,z,D,by simp[E],λj r y c d=>?_⟩;cases j with
   |zero=>simp at c d;subst c;subst d;exact .inr ⟨A,rfl⟩
   |succ j=>
    rcases F j r y (by simpa using c) (by simpa using d) with e|⟨e,G⟩
    ·exact .inl e
    ·exact .inr ⟨by rw[<-YL];exact e,G⟩
def BB(ev:Operand->aG)(ob:cD):List Operand->Option dA
 |[]=>some []
 |x::xs=>match qG ob (ev x),BB ev ob xs with
  |some q,some b=>some (q::b)
  |_,_=>none
theorem aaL{ev:Operand->aG}{ob:cD}:∀{xs:List Operand} {b:dA},BB ev ob xs=some b->iU ev ob [] xs=some (b,xs.flatMap λx=>Hf.jE ob (ev x))
 |[],b,h=>by simp only[BB,O5] at h;subst h;rfl
 |x::xs,b,h=>by
  simp only[BB] at h;split at h
  ·rename_i q e c d;cases h;simp only[iU,lj,lC,w6,c,aaL d,Ph]
  ·cases h
theorem ct.ayO(xs:List Operand)(b:dA)(g:ck)(s:df)(h:ct gl ph n B O g s a w)(c:ki ob0 s.bo)(d:xs.all cJ=true)(e:BB (c9 s.aC) ob0 xs=some b):
 ∃g',ct gl ph n B O g' ⟨s.aC,c7 s.bo (xs.flatMap λx=>Hf.jE ob0 (c9 s.aC x))⟩ a w/\gn B O g.U w g'.U w/\gk g.U w g'.U w/\ki ob0 (c7 s.bo (xs.flatMap λx=>Hf.jE ob0 (c9 s.aC x)))/\
  b.length=xs.length/\∀(j:Nat) (q:aG) (x:Operand),b[j]? =some q->xs[j]? =some x->eZ g'.U w q (a.eval x):=by
 obtain⟨g',F,i,E,S,L,k⟩:=ct.Ea xs [] b _ g s h c d (aaL e);exact⟨g',F,i,E,S,L,λj q x l r=>(k j q x l r).elim id (λt=>by simp at t)⟩
end
end
section
variable{sz e len:Nat} {es:kO} {c:Nat->Nat} {v:Value} {p:aG} {zero:List Value}
section
variable{P:Program} {n B bs:Nat} {O:Nat->Prop} {gl:eI} {ph:ck×cD×World×List Deferred} {g:ck} {s:df} {a:Act} {w w':World} {o:Oper} {K:Act->World->Prop} {Q:Exit->Act->World->Prop}
theorem mF.put{R:aG->Value->Prop}{ar6:Array Value}{vs:List Value}{new:dA}{i:Nat}(h:mF R sz es ar6)(y:vs.length=new.length)(r:new.length=sz)(z:i<es.length)
 (E:es.length*sz<=ar6.size)(A:∀(j:Nat) (q:aG),new[j]? =some q->∃u,vs[j]? =some u/\q.hK=true/\R q u):mF R sz (es.set i new) (oU ar6 (i*sz) vs):=by
 have C:=dr sz (show i+1<=es.length from z);rw[xB,yy] at C;refine⟨λk cs b=>?_,λk j cs p b d=>?_⟩
 ·rw[oG] at b;split at b
  ·cases b;exact r
  ·exact h.1 k cs b
 ·rw[N6 vs (i*sz) ar6 _ (by omega),y,r];rw[oG] at b;split at b
  ·rename_i l;subst l;cases b;have t:j<sz:=by have:=(e6.1 d).1;omega
   rw[cz,fS,Nat.add_sub_cancel_left];exact A j p d
  ·rename_i l;have t:j<sz:=by have:=(e6.1 d).1;have:=h.1 k cs b;omega
   have D:=Vm (i:=i) (i':=k) (sz:=sz) (j:=j) (off:=0) (m:=sz) t (by omega) (λx=>l x.symm);simp only[gU] at D;by_cases c1:k*sz+j<i*sz
   ·rw[y1 c1];exact h.2 k j cs p b d
   ·rw[Ca c1,cz];exact h.2 k j cs p b d
theorem adp{ev:Operand->aG}{ob:cD}{sz:Nat}:∀{b:List (Nat×Operand)} {es asH:kO},lD ev ob sz es b=some asH->asH.length=es.length
 |[],es,asH,h=>by simp only[lD,O5] at h;rw[h]
 |(i,x)::r,es,asH,h=>by
  simp only[lD] at h;split at h
  ·split at h
   ·rw[adp h];simp
   ·simp at h
  ·simp at h
theorem eZ.x5{cs:dA}(h:eZ c w (.agg cs) v):∃vs:List Value,v= .agg vs.toArray/\cs.length=vs.length/\∀(j:Nat) (p:aG) (u:Value),cs[j]? =some p->vs[j]? =some u->eZ c w p u:=by
 cases h with
 |agg b i d=>exact⟨_,rfl,b,d⟩
theorem eZ.key(h:eZ c w p v):p.key=[]:=by cases h<;>rfl
theorem XJ{c:Nat->Nat}{ev:Operand->aG}{ob:cD}{sz:Nat}:∀(A:List (Nat×Operand)) (es asH:kO) (ar6:Array Value),lD ev ob sz es A=some asH->
 (∀p∈A,∀q,qG ob (ev p.2)=some q->eZ c w q (a.eval p.2))->mF (eZ c w) sz es ar6->ar6.size=es.length*sz->
 ∃z,Instr.fill (λi=>some (i*sz,sz)) ar6 (A.map λp=>(p.1,a.eval p.2))=some z/\mF (eZ c w) sz asH z/\z.size=ar6.size
 |[],es,asH,ar6,h,_,C,D=>by simp only[lD,O5] at h;subst h;exact⟨ar6,rfl,C,rfl⟩
 |(i,x)::r,es,asH,ar6,h,E,C,D=>by
  simp only[lD] at h;split at h
  ·rename_i new d;split at h
   ·rename_i I;obtain⟨F,G⟩:=I;simp only[vC] at d;obtain⟨q,J,d⟩:=d;have k:=E (i,x) (by simp) q J;have L:dT ⟨c,λ_=>0,λ_=>0⟩ w (λ_=>Obj.ax 0) q (a.eval x):= .inr (.inl (.inl k));obtain⟨H,M⟩:=L.cells d;have N:∀(j:Nat) (r:aG),new[j]? =some r->∃u,(a.eval x).cells.toList[j]? =some u/\r.hK=true/\eZ c w r u:=by
     intro j r t;obtain⟨u,R,S,l⟩:=M j r t;refine⟨u,R,S,?_⟩;rcases l with l|l
     ·exact l
     ·exfalso;cases q with
      |agg cs=>simp only[aG.cells,O5] at d;subst d;obtain⟨vs,a1,a2,T⟩:=k.x5;have a3:j<cs.length:=(e6.1 t).1;have:=T j r vs[j] t (dC (by omega));have W:=l.s9;generalize vs[j]=vj at this;cases this<;>simp[aG.key,aG.cf] at W
      |bu _=>simp only[aG.cells,O5] at d;subst d;have:=On t;simp at this;subst this;exact l.elim
      |aQ _ _=>simp only[aG.cells,O5] at d;subst d;have:=On t;simp at this;subst this;exact l.elim
      |ep _ _=>simp only[aG.cells,O5] at d;subst d;have:=On t;simp at this;subst this;exact l.elim
      |undef=>exact absurd k (λb=>by generalize a.eval (i,x).2=y at b;cases b)
      |a0 _=>exact absurd k (λb=>by generalize a.eval (i,x).2=y at b;cases b)
      |hG _ _=>exact absurd k (λb=>by generalize a.eval (i,x).2=y at b;cases b)
      |gJ _ _=>exact absurd k (λb=>by generalize a.eval (i,x).2=y at b;cases b)
      |bn _ _ _=>exact absurd k (λb=>by generalize a.eval (i,x).2=y at b;cases b)
      |az _ _ _ _=>exact absurd k (λb=>by generalize a.eval (i,x).2=y at b;cases b)
      |dH _ _ _ _=>exact absurd k (λb=>by generalize a.eval (i,x).2=y at b;cases b)
    have X:=C.put H F G (by omega) N;have Z:=dr sz (show i+1<=es.length from G);rw[xB,yy] at Z;obtain⟨z,ha,hb,ar⟩:=XJ r _ asH (oU ar6 (i*sz) (a.eval x).cells.toList) h (λp hp=>E p (by simp[hp])) X (by rw[J4];simpa using D);refine⟨z,?_,hb,by rw[ar,J4]⟩;simp only[mG];rw[W2 (λi=>some (i*sz,sz)) ar6 i (i*sz) sz (a.eval x) _ rfl (by simpa[F] using H) (by omega)];exact ha
   ·simp at h
  ·simp at h
theorem Ro{ev:Operand->aG}{ob:cD}{sz:Nat}:∀(d:List (Nat×Operand)) (es asH:kO),lD ev ob sz es d=some asH->∃b,BB ev ob (d.map (·.2))=some b
 |[],_,_,_=>⟨[],rfl⟩
 |(i,x)::r,es,asH,h=>by
  simp only[lD] at h;split at h
  ·rename_i new j;split at h
   ·simp only[vC] at j;obtain⟨q,k,_⟩:=j;obtain⟨b,l⟩:=Ro r _ asH h;exact⟨q::b,by simp only[mG,BB,k,l]⟩
   ·simp at h
  ·simp at h
theorem adZ{ev:Operand->aG}{ob:cD}:∀(xs:List Operand) (d:dA),BB ev ob xs=some d->∀(j:Nat) (x:Operand),xs[j]? =some x->∃q,qG ob (ev x)=some q/\d[j]? =some q
 |[],_,_,j,x,b=>by simp at b
 |y::ys,d,h,j,x,b=>by
  simp only[BB] at h;split at h
  ·rename_i q i k l;cases h;cases j with
   |zero=>simp at b;subst b;exact⟨q,k,rfl⟩
   |succ j=>exact adZ ys i l j x (by simpa using b)
  ·simp at h
theorem azJ(zero:List Value)(m k:Nat)(b:k<m)(d:0<zero.length):(((Array.range m).map (zero.toArray[· %zero.toArray.size]!)))[k]? =zero[k%zero.length]? :=by have h:k%zero.length<zero.length:=Fq _ d;simp[b,getElem!_def,dC h]
theorem azt{t:Nat}{parts:Array (Nat×Operand)}(h:ct gl ph n B O g s a w)(M:o.op= .buildSlice t len parts)(N:P.underlying t=some (.slice e))(r:ue P e sz zero)
 (cn:0<sz)(cp:len*sz<=16777216)(R:parts.toList.all (λp=>cJ p.2)=true)(u:lD (c9 s.aC) s.bo sz (List.replicate len (zero.map aG.bu)) parts.toList=some es):
 ∃dB ar6,ct gl ph n B O dB ⟨s.aC,c7 s.bo (parts.toList.flatMap λp=>Hf.jE s.bo (c9 s.aC p.2))⟩ a w/\gn B O g.U w dB.U w/\ki s.bo (c7 s.bo (parts.toList.flatMap λp=>Hf.jE s.bo (c9 s.aC p.2)))/\
  ar6.size=len*sz/\mF (eZ dB.U w) sz es ar6/\es.length=len/\(execOp a.eval o).run P w= .ok (.value (.slice (some ⟨w.heap.size,0,none⟩) es.length len)) (w.alloc (.cells ar6 e)):=by
 obtain⟨i,z,hi,S,T,C,D,W⟩:=r;have E:es.length=len:=by rw[adp u];simp
 obtain⟨X,F⟩:=Ro _ _ _ u;obtain⟨dB,gx,Z,c0,ka,m3,ar⟩:=ct.ayO (parts.toList.map (·.2)) X g s h (ki.refl _) (by simpa[List.all_map] using R) F;have a1:(parts.toList.map (·.2)).flatMap (λx=>Hf.jE s.bo (c9 s.aC x))=parts.toList.flatMap λp=>Hf.jE s.bo (c9 s.aC p.2):=by rw[cg]
 rw[a1] at gx ka;let b:Array Value:=(Array.range (len*sz)).map (zero.toArray[· %zero.toArray.size]!);have G:b.size=len*sz:=by simp[b]
 have a2:mF (eZ dB.U w) sz (List.replicate len (zero.map aG.bu)) b:=by
  refine⟨λk cs l=>?_,λk j cs q l d=>?_⟩
  ·have:=On l;simp at this;rw[this.2];simpa using D
  ·have H:=On l;simp at H;obtain⟨_,rfl⟩:=H;have a3:k<len:=by have:=(e6.1 l).1;simpa using this
   simp only[O8,Pq] at d;obtain⟨v,y,rfl⟩:=d;have a4:j<sz:=by have:=(e6.1 y).1;omega
   have I:iO v=true:=M2.1 W v (On y);have a5:k*sz+j<len*sz:=by have:=dr sz (show k+1<=len from a3);rw[xB,yy] at this;omega
   refine⟨v,?_,I,.bu I⟩;simp only[b];rw[azJ zero _ _ a5 (by omega),D,(anm a4).2];exact y
 obtain⟨ar6,J,hb,hc⟩:=XJ (w:=w) (a:=a) (c:=dB.U) parts.toList _ es b u (λp hp q bd=>by obtain⟨j,d⟩:=vg.1 hp;obtain⟨q',L,h2⟩:=adZ _ _ F j p.2 (by simp[d]);rw[bd] at L;cases L;exact ar j q p.2 h2 (by simp[d])) a2 (by simp[G])
 refine⟨dB,ar6,gx,Z,ka,hc.trans G,hb,E,?_⟩;have bx:z.cells=zero.toArray:=by rw[<-T]
 have hm:(parts.map λ(x:Nat×Operand)=>(x.1,a.eval x.2)).toList=parts.toList.map λp=>(p.1,a.eval p.2):=by simp
 have cc:¬(len*i.size>16777216):=by rw[C];omega
 simp only[execOp,M,Instr.buildSlice,q6,ux N,MT,run_sizeOf hi];have cl:(2:Nat)^24=16777216:=by decide
 rw[cl,Ca cc,hm,C,E];by_cases A:len*sz=0
 ·have r:b=(Array.range (len*sz)).map ((#[]:Array Value)[· % (#[]:Array Value).size]!):=by apply ik;simp[b,A]
  rw[y1 A];simp only[q6,wd,MT];rw[<-r,J];simp only[newRow,q6,run_newObj,wd,MT]
 ·rw[Ca A];simp only[q6,wd,MT,CE hi S,bx];have:Instr.fill (λi=>some (i*sz,sz)) (Array.map (λx=>zero.toArray[x%zero.toArray.size]!) (Array.range (len*sz))) (parts.toList.map λp=>(p.1,a.eval p.2))=some ar6:=J;rw[this];simp only[newRow,q6,run_newObj,wd,MT]
theorem aA3{d:List (Nat×Operand)}{as0:Bool}{us:iP}(h:ct gl ph n B O g s a w)(hd:∀t,o.dst=some t->t<n)(k:gA P o (.m4 e sz zero len d as0))
 (i:b6 (c9 s.aC) s.bo (bs+o.dst.getD 0) (.m4 e sz zero len d as0)=some (p,us))(l:gL gl ph n B O g w ⟨put s.aC o.dst p,c7 s.bo us⟩ K):o.wp P a w K Q:=by
 obtain⟨t,parts,q,_,r,u,x,j,y,z⟩:=k;subst x;simp only[b6,Pq,pV] at i;obtain⟨es,A,rfl,rfl⟩:=i;obtain⟨dB,ar6,gx,C,ka,D,E,F,G⟩:=azt h q r u j y z A;have H:((c7 s.bo (parts.toList.flatMap λp=>Hf.jE s.bo (c9 s.aC p.2))) (bs+o.dst.getD 0)).cd=(s.bo (bs+o.dst.getD 0)).cd:=ka.cd _;refine u2 (w':=w.alloc (.cells ar6 e)) gx hd (bs+o.dst.getD 0) len e sz es as0 ar6 G rfl rfl rfl rfl D (by omega) (by simp only[maxLen];have:len<=len*sz:=Nat.le_mul_of_pos_right _ j;omega) E ?_;intro g' I w' b J;refine l g' I w' ?_ (C.trans J);rw[H] at b;rw[sC];simp only[c7];rw[F] at b;exact b
end
end
section
variable{x y:Array Value} {p res:aG} {us:iP} {fid:FuncId} {f:Operand} {args:List Operand} {ob asR:cD} {v:Value} {g':ck} {ps:dA}
section
variable{P:Program} {n B bs:Nat} {O:Nat->Prop} {gl:eI} {ph:ck×cD×World×List Deferred} {g:ck} {s:df} {a:Act} {w w':World} {o:Oper} {K:Act->World->Prop} {Q:Exit->Act->World->Prop}
theorem TH:∀{es:kO} {l:List UInt8},ui es=some l->∃b:List Int,es=b.map (λm=>[aG.bu (.int .u8 m)])/\l=b.map (λm=>UInt8.ofNat m.toNat)
 |[],l,h=>by simp only[ui,O5] at h;subst h;exact⟨[],rfl,rfl⟩
 |cs::r,l,h=>by
  unfold ui at h;split at h
  ·rename_i c;cases c
  ·rename_i m e c;cases c;simp only[Pq] at h;obtain⟨i,d,rfl⟩:=h;obtain⟨b,rfl,rfl⟩:=TH d;exact⟨m::b,rfl,rfl⟩
  ·simp at h
theorem foldl_push_bytes:∀(c:List Int) (b:ByteArray),c.foldl (λr m=>r.push (UInt8.ofNat m.toNat)) b=⟨(b.data.toList++c.map (λm=>UInt8.ofNat m.toNat)).toArray⟩
 |[],b=>by simp
 |m::c,b=>by rw[List.foldl_cons,foldl_push_bytes c];simp[ByteArray.push]
theorem ahR{x:Operand}(h:ct gl ph n B O g s a w)(hd:∀t,o.dst=some t->t<n)(E:gA P o (.oQ x))
 (k:b6 (c9 s.aC) s.bo (bs+o.dst.getD 0) (.oQ x)=some (p,us))(F:gL gl ph n B O g w ⟨put s.aC o.dst p,c7 s.bo us⟩ K):o.wp P a w K Q:=by
 obtain⟨t1,t2,e,q,r,z,A,G⟩:=E;simp only[b6,Pq,pV,vC] at k;obtain⟨l,⟨es,H,I⟩,rfl,rfl⟩:=k;obtain⟨b,rfl,rfl⟩:=TH I;refine gj h hd (v:= .string ⟨(b.map (λm=>UInt8.ofNat m.toNat)).toArray⟩) ?_ (.bu rfl) F;rcases h.fL G H with⟨c,d⟩|⟨i,J,asQ,c,d,L,Z,ar,M⟩
 ·have N:b=[]:=by simpa using d
  subst N;simp only[execOp,q,c,q6,run_convert_bytes_string w t1 t2 e none 0 0 r z A,Conv.bytesToString,wd,MT];rfl
 ·have R:asQ=b.map (Value.int .u8):=by
   apply xh;intro j;by_cases C:j<b.length
   ·obtain⟨u,D,a1,S⟩:=M j 0 [.bu (.int .u8 b[j])] (.bu (.int .u8 b[j])) (by simp[C]) rfl;have:=S.fB.1;subst this;simp only[Et,gU] at D;rw[D];simp[C]
   ·rw[qQ (by rw[d];simp;omega),qQ (by simp;omega)]
  subst R;have T:=run_loadCells_list (P:=P) w i (b.map (Value.int .u8)) L;have W:(b.map λm=>[aG.bu (.int .u8 m)]).length=(b.map (Value.int .u8)).length:=by simp
  rw[W] at c;have X:=run_bytesToString (P:=P) w i (b.map (Value.int .u8)).length J b T;simp only[execOp,q,c,q6,run_convert_bytes_string w t1 t2 e (some i) _ _ r z A,X,wd,MT];rw[foldl_push_bytes];simp[ByteArray.empty,ByteArray.emptyWithCapacity];rfl
theorem Tr{ar9:List Value}{b:Array TypeId}(c:o.op= .call {callee:= .value f,args:=args.toArray,argTypes:=b})(d:a.eval f= .func (.func fid) #[] ar9.toArray)(e:Enters P fid):
 (execOp a.eval o).run P w= .ok (.enter fid (args.map a.eval++ar9).toArray) w:=by
 obtain⟨fn,h,i,j⟩:=e;simp only[execOp,c,resolve,d,Deferred.ofValue,q6,wd,MT,invoke,callFunc,program,Sem.run,h,i,j,Nn,st];simp
theorem dT.Ra{g:ck}{w:World}(h:eZ g.U w p v):dT g w ob p v:= .inr (.inl (.inl h))
theorem ct.heap(h:ct gl ph n B O g s a w):oC g w s.bo:=⟨h.ig,h.inj,λk b=>(h.jI k b).2⟩
theorem ct.aam(h:ct gl ph n B O g s a w)(c:ml g w s.bo g' w' asR):ct gl ph n B O g' ⟨s.aC,asR⟩ a w'/\gn B O g.U w g'.U w':=by
 have u:=h.kK;have q:∀b,b<B->¬O b->¬nZ g s.bo b:=by
  rintro b j d ⟨k,l,rfl⟩;rcases(h.jI k l).1 with e|e
  ·omega
  ·exact d e
 refine⟨⟨h.size,h.defers,y4 h.kK c.ext.size,λi=>(h.aC i).step c.ext c.step,c.heap.ig,c.heap.inj,λk l=>⟨?_,c.heap.lt k l⟩,⟨h.uM.1.trans c.step,h.uM.2.trans c.ext⟩,gl.mono c.ext h.xv⟩,
  ⟨c.jh.os,c.jh.tape,c.jh.output,c.jh.size,λb j d=>c.jh.block b (by omega) (q b j d),λb j d=>c.jh.U b (by omega) (q b j d)⟩⟩
 rcases c.src k l with e|⟨r,t,e⟩
 ·exact .inl (by omega)
 ·rw[<-e];exact(h.jI r t).1
theorem ml.frame{g:ck}(e:oC g w ob)(c:ml g w qY g' w' qY):ml g w ob ⟨g'.U,g.b3,g.cap⟩ w' ob:=by
 have i:∀b,¬nZ g qY b:=λb h=>by obtain⟨k,d,_⟩:=h;exact d
 have j:fY g ob ⟨g'.U,g.b3,g.cap⟩ ob:=fY.refl g ob;refine⟨⟨c.jh.os,c.jh.tape,c.jh.output,c.jh.size,λb h _=>c.jh.block b h (i b),λb h _=>c.jh.U b h (i b)⟩,c.ext,⟨λk=>?_,e.inj,λk d=>iC (e.lt k d) c.ext.size⟩,j,λk d=> .inr ⟨k,d,rfl⟩⟩;exact kR.fg (g':=⟨g'.U,g.b3,g.cap⟩) c.ext j (λd=>⟨rfl,rfl,c.jh.U _ (e.lt k d) (i _),c.jh.block _ (e.lt k d) (i _)⟩) (e.ig k)
theorem dT.adW{g cT:ck}{w:World}(h:dT g w qY p v)(e:p.cR=[])(i:cT.U=g.U):dT cT w ob p v:=by
 have t:∀{q:aG} {u:Value},q.key=[]->gf g w qY q u->gf cT w ob q u:=by
  intro q u c b;rcases b with b|b
  ·exact .inl (by rw[i];exact b)
  ·exact absurd c b.s9
 rcases h with h|h|⟨cs,vs,rfl,rfl,l,k⟩|⟨cs,vs,rfl,rfl,l,k⟩|h
 ·exact .inl h
 ·refine .inr (.inl ?_);rcases h with h|h
  ·exact .inl (by rw[i];exact h)
  ·exfalso;cases p with
   |agg=>exact h.elim
   |a0=>exact h.elim
   |_=>exact h.s9 e
 ·simp only[aG.cR,aG.eg,n7] at e;exact .inr (.inr (.inl ⟨cs,vs,rfl,rfl,l,λj q u c b=>⟨(k j q u c b).1,t (e q (On c)) (k j q u c b).2⟩⟩))
 ·simp only[aG.cR,aG.eg,n7] at e;refine .inr (.inr (.inr (.inl ⟨cs,vs,rfl,rfl,l,λj q u c b=>?_⟩)));have r:=e q (On c);rcases k j q u c b with d|⟨asq,z,rfl,s2,s3,s4⟩
  ·left;rcases d with d|d
   ·exact .inl (by rw[i];exact d)
   ·exfalso;cases q with
    |agg=>exact d.elim
    |_=>exact d.s9 r
  ·right;simp only[aG.eg,n7] at r;exact⟨asq,z,rfl,s2,s3,λj q u c b=>⟨(s4 j q u c b).1,t (r q (On c)) (s4 j q u c b).2⟩⟩
 ·exact .inr (.inr (.inr (.inr (by rw[i];exact h))))
theorem au9{v:Value}(h:iO (.func (.func fid) x y)=true):x= #[]/\y= #[]:=by
 match x,y,h with
 |⟨[]⟩,⟨[]⟩,_=>exact⟨rfl,rfl⟩
theorem oC.none{g:ck}{w:World}:oC g w qY:=⟨λ_=>trivial,λ_ _ h=>h.elim,λ_ h=>h.elim⟩
theorem ayh(h:ct gl ph n B O g s a w)(hd:∀t,o.dst=some t->t<n)
 (j:gA P o (.call f args))(k:c9 s.aC f= .bu (.func (.func fid) x y))(l:iU (c9 s.aC) s.bo [] args=some (ps,us))
 (q:uP gl P fid ps res)(r:gL gl ph n B O g w ⟨put s.aC o.dst res,c7 s.bo us⟩ K):o.wp P a w K Q:=by
 obtain⟨T,u,z,A⟩:=j;have c:=h.fF z;rw[k] at c;obtain⟨C,D⟩:=c.fB;obtain⟨rfl,rfl⟩:=au9 (v:=a.eval f) D;obtain⟨⟨E,F⟩,G⟩:=q;obtain⟨dB,gx,H,W,ka,m3,I⟩:=ct.Ea args [] ps us g s h (ki.refl _) A l;have J:=Tr (P:=P) (w:=w) (ar9:=[]) u C E;refine Vs J ((F dB w (args.map a.eval++[]) gx.xv oC.none ⟨by simp[m3],λi p v L d=>?_⟩).mono ?_)
 ·simp only[fr,O8,Pq] at d;obtain⟨x,M,rfl⟩:=d;rcases I i p x L M with b|⟨b,_⟩
  ·exact dT.Ra b
  ·simp at b
 ·rintro e X ⟨v,g',rfl,N,R⟩;refine⟨v,rfl,?_⟩;obtain⟨gT,S⟩:=gx.aam (ml.frame gx.heap N);exact r _ _ _ (gT.put o.dst hd (R.adW G rfl)) (H.trans S)
theorem aqp{z:List Bool}{ar9:dA}(h:ct gl ph n B O g s a w)(hd:∀t,o.dst=some t->t<n)
 (F:gA P o (.hV f args z))(b:oH (c9 s.aC f)=some (fid,ar9))(G:iU (c9 s.aC) s.bo z args=some (ps,us))
 (H:lx gl P fid (ps++ar9) (c7 s.bo us) res asR)(I:gL gl ph n B O g w ⟨put s.aC o.dst res,asR⟩ K):o.wp P a w K Q:=by
 obtain⟨cl,J,L,D⟩:=F;obtain⟨M,N⟩:=H;obtain⟨dB,gx,R,cn,ka,m3,S⟩:=ct.Ea args z ps us g s h (ki.refl _) D G;have d:=gx.fF L;have T:∃k:List Value,a.eval f= .func (.func fid) #[] k.toArray/\ar9.length=k.length/\∀(j:Nat) (q:aG) (u:Value),ar9[j]? =some q->k[j]? =some u->dT dB w (c7 s.bo us) q u:=by
  change dT dB w _ (c9 s.aC f) _ at d;cases A:c9 s.aC f with
  |gJ f' cp=>
   rw[A] at d b;simp only[oH,O5,pV] at b;obtain⟨rfl,rfl⟩:=b;obtain⟨_,vs,W,X,Z⟩:=d.ZM;refine⟨vs,W,X,λj q u ar a1=>?_⟩;rcases Z j q u ar a1 with⟨rfl,rfl⟩|l
   ·exact dT.bu rfl
   ·refine .inr (.inl (.inr ?_));cases q with
    |gJ=>exact l.elim
    |_=>exact l
  |bu v=>
   rw[A] at d b;obtain⟨a2,cs⟩:=d.fB;unfold oH at b;split at b
   ·rename_i f0 C;cases C;cases b;exact⟨[],a2,rfl,by simp⟩
   ·rename_i C;cases C
   ·cases b
  |_=>rw[A] at b;simp[oH] at b
 obtain⟨k,a3,a4,a5⟩:=T;have bd:=Tr (P:=P) (w:=w) J a3 M;refine Vs bd ((N dB w (args.map a.eval++k) gx.xv gx.heap ⟨by simp[m3,a4],λi p v r c=>?_⟩).mono ?_)
 ·by_cases hi:i<ps.length
  ·rw[q5 hi] at r;rw[q5 (by simp;omega)] at c;simp only[O8,Pq] at c;obtain⟨x,E,rfl⟩:=c;rcases S i p x r E with l|⟨_,rfl⟩
   ·exact dT.Ra l
   ·exact gx.fF (M2.1 D x (On E))
  ·rw[sH (by omega)] at r;rw[sH (by simp;omega)] at c;simp only[ER,<-m3] at c;exact a5 _ p v r c
 ·rintro e c0 ⟨v,g',rfl,hA,bx⟩;refine⟨v,rfl,?_⟩;obtain⟨gT,cc⟩:=gx.aam hA;exact I _ _ _ (gT.put o.dst hd bx) (R.trans cc)
end
end
section
variable{P:Program} {n B bs:Nat} {O:Nat->Prop} {gl:eI} {ph:ck×cD×World×List Deferred} {g:ck} {s:df} {a:Act} {w w':World} {o:Oper} {K:Act->World->Prop} {Q:Exit->Act->World->Prop}
theorem axm{f:Nat}{ar9:List Operand}{p:aG}{us:iP}(h:ct gl ph n B O g s a w)(hd:∀t,o.dst=some t->t<n)(G:gA P o (.qa f ar9))
 (b:b6 (c9 s.aC) s.bo (bs+o.dst.getD 0) (.qa f ar9)=some (p,us))(r:gL gl ph n B O g w ⟨put s.aC o.dst p,c7 s.bo us⟩ K):o.wp P a w K Q:=by
 obtain⟨H,I⟩:=G;have y:(execOp a.eval o).run P w= .ok (.value (.func (.func f) #[] (ar9.map a.eval).toArray)) w:=by simp[execOp,H,Instr.makeFunc]
 simp only[b6] at b;split at b
 ·rename_i J;cases b;have:ar9=[]:=JE.1 J;subst this;exact gj h hd y (.bu rfl) r
 ·split at b
  ·rename_i z;cases b;refine gj h hd y (.inr (.inl (.inr ?_))) r;simp only[Je,Hi,M2,pL] at z;obtain⟨L,A,M,N⟩:=z;refine⟨?_,ar9.map a.eval,rfl,by simp,λj q u C D=>?_⟩
   ·intro E;rw[n7] at E;have:=E A M;cases A<;>simp_all [aG.cf]
   ·simp only[O8,Pq] at C D;obtain⟨x,e,rfl⟩:=C;obtain⟨R,F,rfl⟩:=D;rw[e] at F;cases F;have d:=h.fF (M2.1 I x (On e));have c:=L (c9 s.aC x) (yd.2 ⟨x,On e,rfl⟩);cases i:c9 s.aC x with
    |bn k aM off=>rw[i] at d;exact .inr (d.ju (by simp[aG.key,aG.cf]))
    |bu v=>
     rw[i] at d c;unfold Fm at c;split at c
     ·rename_i l;cases l
     ·rename_i l;cases l;exact .inl ⟨rfl,d.fB.1⟩
     ·cases c
    |_=>rw[i] at c;simp[Fm] at c
  ·cases b
end
theorem ml.below{g:ck}{w w':World}{ob:cD}(d:oC g w ob)(c:Below w.heap.size w w'):ml g w ob g w' ob:=by
 have j:gk g.U w g.U w':=⟨c.size,λ_ _=>sm _,λb i h _=>by simp only[World.cell?,c.block b h]⟩;exact⟨⟨c.os,c.tape,c.output,c.size,λb h _=>c.block b h,λ_ _ _=>rfl⟩,j,
  ⟨λk=>kR.fg j (fY.refl g ob) (λe=>⟨rfl,rfl,rfl,c.block _ (d.lt k (by cases l:ob k<;>simp_all [Obj.fx]))⟩) (d.ig k),d.inj,λk e=>iC (d.lt k e) c.size⟩,
  fY.refl g ob,λk e=> .inr ⟨k,e,rfl⟩⟩
section
variable{P:Program} {n B bs:Nat} {O:Nat->Prop} {gl:eI} {ph:ck×cD×World×List Deferred} {g:ck} {s:df} {a:Act} {w w':World} {o:Oper} {K:Act->World->Prop} {Q:Exit->Act->World->Prop}
section
variable{eO:ck} {ob0:cD} {w00:World} {c0:Nat->Nat} {w0:World}
end
end
section
variable{x:Operand} {p:aG} {us:iP} {e sz m:Nat} {zero:List Value}
section
variable{P:Program} {n B bs:Nat} {O:Nat->Prop} {gl:eI} {ph:ck×cD×World×List Deferred} {g:ck} {s:df} {a:Act} {w w':World} {o:Oper} {K:Act->World->Prop} {Q:Exit->Act->World->Prop}
theorem aDP(h:ct gl ph n B O g s a w)(hd:∀t,o.dst=some t->t<n)(d:gA P o (.pF x))
 (b:b6 (c9 s.aC) s.bo (bs+o.dst.getD 0) (.pF x)=some (p,us))(i:gL gl ph n B O g w ⟨put s.aC o.dst p,c7 s.bo us⟩ K):o.wp P a w K Q:=by
 obtain⟨t,e,j,k,l⟩:=d;have c:=h.fF l;simp only[b6] at b;split at b
 ·rename_i q;rw[q] at c;cases b;have r:=c.fB.1;refine gj (v:= .int .i64 0) h hd ?_ (.bu rfl) i;simp only[execOp,j,resolve,invoke,builtin,q6,wd,MT,r6,mG,fq,r];simp[Builtin.cap_,ux k];rfl
 ·simp at b
theorem NV(z:Array Value)(c j:Nat)(b:j<c*z.size):(Builtin.zeroCells z c).toList[j]? =z.toList[j%z.size]? :=by
 have i:0<z.size:=by
  rcases P1 z.size with h|h
  ·rw[h] at b;omega
  ·exact h
 have d:j%z.size<z.size:=Fq _ i;simp only[Builtin.zeroCells,xE,Array.getElem?_map,Array.getElem?_range,b,w6,NL];rw[getElem!_pos z _ d,OC d]
theorem ayV{bytes:Nat}{sl:Operand}{as0:Bool}(h:ct gl ph n B O g s a w)(hd:∀t,o.dst=some t->t<n)(G:gA P o (.oy e sz bytes zero sl x as0))
 (b:b6 (c9 s.aC) s.bo (bs+o.dst.getD 0) (.oy e sz bytes zero sl x as0)=some (p,us))(u:gL gl ph n B O g w ⟨put s.aC o.dst p,c7 s.bo us⟩ K):o.wp P a w K Q:=by
 obtain⟨t,H,i,I,J,cc,L,M,hi,N,⟨k,z,l,R,y,cl,A,S⟩,cn,T,W⟩:=G;have C:=h.fF T;have D:=h.fF W;simp only[b6] at b;split at b
 ·rename_i m X Z;rw[X] at C;rw[Z] at D;split at b
  ·rename_i hc;obtain⟨ar,h1,h2⟩:=hc;cases b;have a1:=C.fB.1;have a2:=D.fB.1;have:k=i:=by rw[hi] at l;cases l;rfl
   subst this;obtain⟨c,rfl⟩:=Int.eq_ofNat_of_zero_le (Int.le_of_lt ar);have a3:0<c:=by omega
   have d:z.cells.size=sz:=by rw[<-A,<-y];simp
   have hb:c*k.bytes<=1099511627776:=by rw[N];rw[<-oj] at h1;omega
   have a4:=Lib.run_append_nil_zeros (P:=P) w t H o.type e k z .i64 I L M l R c a3 (by omega) (by omega) (by omega);rw[Int.toNat_natCast] at u;have a5:(execOp a.eval o).run P w= .ok (.value (.slice (some ⟨w.heap.size,0,none⟩) (List.replicate c (zero.map aG.bu)).length (grownCap w c 0 e))) (w.drew.alloc (.cells (Builtin.zeroCells z.cells c++Builtin.zeroCells z.cells (grownCap w c 0 e-c)) e)):=by simp only[execOp,J,resolve,invoke,builtin,q6,wd,MT,r6,mG,fq,a1,a2,a4,List.length_replicate]
   refine u2 h hd (bs+o.dst.getD 0) (grownCap w c 0 e) e sz (List.replicate c (zero.map aG.bu)) as0 (Builtin.zeroCells z.cells c++Builtin.zeroCells z.cells (grownCap w c 0 e-c)) a5 rfl rfl rfl rfl ?_ ?_ ?_ ?_ (by simpa[c7] using u)
   ·rw[kD,og,og,d,<-xB];congr 1;have:=grownCap_ge w c 0 e;omega
   ·simpa using grownCap_ge w c 0 e
   ·exact G1 w c 0 e (by simp only[maxLen];omega)
   ·refine⟨λi cs hi=>?_,λi j cs q hi E=>?_⟩
    ·rw[DD] at hi;split at hi
     ·cases hi;simpa using A
     ·cases hi
    ·rw[DD] at hi;split at hi
     ·rename_i bd;cases hi;simp only[O8,Pq] at E;obtain⟨v,r,rfl⟩:=E;have bx:j<sz:=by have:=(e6.1 r).1;omega
      have F:iO v=true:=M2.1 S v (On r);have:=dr sz (show i+1<=c from bd);rw[xB,yy] at this;refine⟨v,?_,F,.bu F⟩;rw[Array.getElem?_append_left (by rw[og,d];omega),<-xE,NV _ _ _ (by rw[d];omega),y,d];rw[Nat.add_comm,Nat.add_mul_mod_self_right,vw bx,r]
     ·cases hi
  ·simp at b
 ·simp at b
theorem arP{i:Operand}(h:ct gl ph n B O g s a w)(hd:∀t,o.dst=some t->t<n)(q:gA P o (.pB m sz x i))
 (b:b6 (c9 s.aC) s.bo (bs+o.dst.getD 0) (.pB m sz x i)=some (p,us))(r:gL gl ph n B O g w ⟨put s.aC o.dst p,c7 s.bo us⟩ K):o.wp P a w K Q:=by
 obtain⟨t,e,M,u,y,z,A,C,hi⟩:=q;have c:=h.fF C;have d:=h.fF hi;simp only[b6] at b;split at b
 ·rename_i k aM off N j D E;rw[D] at c;rw[E] at d;split at b
  ·rename_i l;cases b;obtain⟨F,G,H,I⟩:=c.ju (by simp[aG.key,aG.cf]);have J:=d.fB.1;refine gj (p:= .bn k aM (off+j.toNat*sz)) (v:= .pointer (some (G.add (j.toNat*sz)))) h hd ?_ (.inr (.inl (.inr ⟨F,_,rfl,λcs L=>?_⟩))) r
   ·simp[execOp,u,Instr.indexAt,J,asIntOf,ux y,H,Instr.sureAddr,l.1,l.2,run_sizeOf z,A]
   ·rw[I cs L,add_lit]
  ·simp at b
 ·simp at b
theorem aly(h:ct gl ph n B O g s a w)(hd:∀t,o.dst=some t->t<n)(hr:gA P o (.oF m x))
 (y:b6 (c9 s.aC) s.bo (bs+o.dst.getD 0) (.oF m x)=some (p,us))(hk:gL gl ph n B O g w ⟨put s.aC o.dst p,c7 s.bo us⟩ K):o.wp P a w K Q:=by
 obtain⟨t,e,dd,ho,ht,a2,a3,hx⟩:=hr;have W:=h.fF hx;simp only[b6] at y;split at y
 ·rename_i k aM a4;rw[a4] at W;split at y
  ·rename_i dq cs G;split at y
   ·rename_i c;obtain⟨rfl,a5,dt,X⟩:=c;cases y;obtain⟨dz,ee,bd,bx⟩:=W.ju (by simp[aG.key,aG.cf]);have cc:=bx cs G;have H:=h.ig k;rw[G] at H;obtain⟨ar6,T,r1,em,cl,cn⟩:=H;have Z:(s.bo k).fx:=by rw[G];trivial
    have ar:=h.jI k Z;have a1:gk g.U w (dl g.U (g.b3 k) m) w:=by
     refine⟨sm _,λb _=>?_,λ_ _ _ _=>rfl⟩;by_cases M:b=g.b3 k
     ·rw[M,iM,cl];omega
     ·rw[ir _ _ M];exact sm _
    have cp:fY g s.bo ⟨dl g.U (g.b3 k) m,g.b3,g.cap⟩ (dl s.bo k (.ax aM)):=by
     intro z;by_cases A:z=k
     ·subst A;rw[iM,G];exact⟨sm _,(λ_ c=>by cases c),(λ_ _ _ _ c=>by cases c),(λ_ c=>by cases c)⟩
     ·rw[ir _ _ A];exact⟨sm _,λcs c=>⟨⟨cs,c⟩,rfl⟩,λ_ _ es as0 c=>⟨⟨es,as0,c,sm _⟩,rfl,rfl⟩,λes c=>⟨⟨es,c⟩,rfl⟩⟩
    have c0:ct gl ph n B O ⟨dl g.U (g.b3 k) m,g.b3,g.cap⟩ ⟨s.aC,dl s.bo k (.ax aM)⟩ a w:=by
     refine h.zp (dl s.bo k (.ax aM)) (· =k) a1 cp (λz c1=>ir _ _ c1) (λz A I=>?_) (λz A I=>?_)
     ·have c2:g.b3 z≠g.b3 k:=λe=>A (h.inj z k I Z e);exact⟨rfl,rfl,ir _ _ c2,rfl⟩
     ·subst A;rw[iM] at I;exact I.elim
    have c3:gn B O g.U w (dl g.U (g.b3 k) m) w:=by
     refine⟨rfl,rfl,rfl,sm _,λ_ _ _=>rfl,λb M H=>ir _ _ (λe=>?_)⟩;subst e;rcases ar.1 with h1|h1
     ·omega
     ·exact H h1
    have N:∀(j:Nat) (q:aG),cs[j]? =some q->∃u,ar6[j]? =some u/\q.hK=true/\eZ g.U w q u:=by
     intro j q d;obtain⟨u,C,J,R⟩:=cn j q d;refine⟨u,C,J,?_⟩;rcases R with S|S
     ·exact S
     ·exfalso;have:q.key=[]:=by rw[n7] at X;exact X q (On d)
      exact S.s9 this
    have L:∀(j:Nat) (q:dA),(cs.map λq=>[q])[j]? =some q->∃r,cs[j]? =some r/\q=[r]:=by intro j q d;simp only[O8,Pq] at d;obtain⟨r,c4,rfl⟩:=d;exact⟨r,c4,rfl⟩
    have c5:eZ (dl g.U (g.b3 k) m) w (.aQ 1 (cs.map λq=>[q])) (.slice (some ⟨g.b3 k,0,none⟩) (cs.map λq=>[q]).length (cs.map λq=>[q]).length):=by
     refine .aQ (λi _=>ar6.getD i undef) (sm _) (by simp;unfold maxLen;omega) ar.2 (λ_=>by rw[iM];simp;omega) (λi q d=>?_) (λi j q r d l=>?_) (λi j q r d l=>?_) (λi j q r d l=>?_)
     ·obtain⟨r,_,rfl⟩:=L i q d;rfl
     ·obtain⟨D,E,rfl⟩:=L i q d;obtain⟨u,C,_,_⟩:=N i D E;have F:j=0:=by have:=(e6.1 l).1;simp at this;omega
      subst F;rw[cell_of_heap r1];simp[nK,C]
     ·obtain⟨D,E,rfl⟩:=L i q d;obtain⟨u,C,J,_⟩:=N i D E;have F:j=0:=by have:=(e6.1 l).1;simp at this;omega
      subst F;simp at l;subst l;exact J
     ·obtain⟨D,E,rfl⟩:=L i q d;obtain⟨u,C,J,R⟩:=N i D E;have F:j=0:=by have:=(e6.1 l).1;simp at this;omega
      subst F;simp at l;subst l;simp only[nK,C,Option.getD_some];exact R.mono a1
    refine wK (v:= .slice (some ⟨g.b3 k,0,none⟩) (cs.map λq=>[q]).length (cs.map λq=>[q]).length) (w':=w) ?_ (hk _ _ w (c0.put o.dst hd (.inr (.inl (.inl c5)))) c3);simp[execOp,ho,Instr.sliceAt,Instr.sliceBounds,ux ht,bd,cc,Instr.sureAddr,run_sizeOf a2,a3,a5,add_lit]
   ·simp at y
  ·simp at y
 ·simp at y
theorem asl(h:ct gl ph n B O g s a w)(hd:∀t,o.dst=some t->t<n)(hr:gA P o (.oO e sz zero x))
 (d:b6 (c9 s.aC) s.bo (bs+o.dst.getD 0) (.oO e sz zero x)=some (p,us))(C:gL gl ph n B O g w ⟨put s.aC o.dst p,c7 s.bo us⟩ K):o.wp P a w K Q:=by
 obtain⟨t,ho,I,hz,hh,hx⟩:=hr;obtain⟨hi,z,c0,c3,J,hm,L,a3⟩:=hz;have E:=h.fF hx;have M:∀{g:ck} {w:World} {ob:cD},dT g w ob (.a0 []) (.tuple #[]):=λ{_ _ _}=> .inr (.inr (.inr (.inl ⟨[],[],rfl,rfl,rfl,by simp⟩)));have N:∀R:World,(Builtin.clear_ #[t] o.type #[a.eval x]).run P w= .ok (.tuple #[]) R->(execOp a.eval o).run P w= .ok (.value (.tuple #[])) R:=by intro R hl;simp only[execOp,ho,resolve,invoke,builtin,q6,wd,MT,r6,mG,fq,hl]
 simp only[b6] at d;split at d
 ·rename_i S;rw[S] at E;cases d;have F:=E.fB.1;refine gj h hd (N w ?_) M C;rw[F];simp[Builtin.clear_,ux I]
 ·rename_i k aM off len S;rw[S] at E;split at d
  ·rename_i s' e' hn es D;split at d
   ·rename_i hc;obtain⟨c4,T,W,c5⟩:=hc;subst c4;have T:=T.symm;subst T;have W:=W.symm;subst W;cases d;obtain⟨_,b,o',hv,F,hw,hA,dd⟩:=E.ju (by simp[aG.key,aG.cf]);obtain⟨hD,rfl,dq,_⟩:=dd e sz es true D;have a4:=h.ig k;rw[D] at a4;obtain⟨ar6,r1,h1,dt,dz,X,py,ee,h2⟩:=a4;have G:g.U (g.b3 k)=0:=ee rfl;have em:(s.bo k).fx:=by rw[D];trivial
    rcases P1 len with en|eq
    ·subst en;have ev:es.take off++List.replicate 0 (zero.map aG.bu)++es.drop (off+0)=es:=by simp
     rw[ev] at C;have fn:c7 s.bo [(k,.az aM e sz es true)]=s.bo:=by
      funext k';simp only[c7];by_cases a5:k'=k
      ·subst a5;rw[iM,D]
      ·rw[ir _ _ a5]
     rw[fn] at C;refine gj h hd (N w ?_) M C;rw[F];simp[Builtin.clear_,ux I]
    ·have ge:o'=off*sz:=dq (.inl eq);subst ge;have h3:off*sz+len*sz<=g.cap k*sz:=by have:=dr sz (y4 c5 dt);rw[xB] at this;exact this
     have A:z.cells.size=sz:=by rw[<-L,<-J];simp
     have go:∀u∈(Builtin.zeroCells z.cells len).toList,u.oneCell'=true:=by
      intro u gt;obtain⟨j,r⟩:=vg.1 gt;have Z:j<len*z.cells.size:=by have:=(e6.1 r).1;simpa[og] using this
      rw[NV _ _ _ Z,J] at r;exact PG (M2.1 a3 u (On r))
     have bd:=run_storeCells_at P (g.b3 k) (off*sz) e (Builtin.zeroCells z.cells len).toList 0 ar6 w r1 (by simp[og,A];omega) go;let y:Array Value:=(ar6.toList.take (off*sz)++(Builtin.zeroCells z.cells len).toList++ar6.toList.drop (off*sz+len*sz)).toArray;let asH:=es.take off++List.replicate len (zero.map aG.bu)++es.drop (off+len);have h4:asH.length=es.length:=by simp[asH];omega
     have bx:∀i,asH[i]? =if i<off then es[i]? else if i<off+len then some (zero.map aG.bu) else es[i]? :=by
      intro i;have:=xc es (List.replicate len (zero.map aG.bu)) off i (by simp;omega);rw[List.length_replicate] at this;show asH[i]? =_;rw[this];split
      ·rfl
      ·split
       ·rw[DD,fS]
       ·rfl
     have ha:∀j,y[j]? =if j<off*sz then ar6[j]? else if j<off*sz+len*sz then zero[(j-off*sz) %sz]? else ar6[j]? :=by
      intro j;have cc:=xc ar6.toList (Builtin.zeroCells z.cells len).toList (off*sz) j (by simp[og,A];omega);simp only[GW,og,A] at cc;simp only[y,Bk,cc,xE];split
      ·rfl
      ·split
       ·rw[<-xE,NV _ _ _ (by rw[A];omega),J,A]
       ·rfl
     have hb:=fY.az g (asH:=asH) (as2:=true) D (by omega);have cl:=gk.wz g w (g.b3 k) y G;have cn:=h.wz k (.az aM e sz asH true) y em G hb (by
      refine⟨y,D4 w (g.b3 k) ar6 y e (0,0) r1,?_,by omega,dz,λi' asq c=>?_,λi' j asq q c r=>?_,λ_=>G,by rw[G];omega⟩
      ·simp[y,og,A];omega
      ·rw[bx] at c;split at c
       ·exact X i' asq c
       ·split at c
        ·cases c;simpa using L
        ·exact X i' asq c
      ·rw[bx] at c;rw[ha];have Z:j<asq.length:=(e6.1 r).1;by_cases c1:i'<off
       ·rw[y1 c1] at c;have h5:=X i' asq c;have:=dr sz (show i'+1<=off from c1);rw[xB,yy] at this;rw[fS];obtain⟨u,ar,a1,a2⟩:=py i' j asq q c r;exact⟨u,ar,a1,a2.mono cl⟩
       ·rw[Ca c1] at c;have is:=dr sz (xk c1);rw[cz];by_cases H:i'<off+len
        ·rw[y1 H] at c;cases c;have he:j<sz:=by simpa[L] using Z
         have:=dr sz (show i'+1<=off+len from H);rw[xB,yy,xB] at this;rw[fS];have hf:(i'*sz+j-off*sz) %sz=j:=by
          have:i'*sz+j-off*sz=j+sz*(i'-off):=by rw[Nat.mul_sub,gp sz i',gp sz off];omega
          rw[this,Nat.add_mul_mod_self_left,vw he]
         rw[hf];simp only[O8,Pq] at r;obtain⟨v,cp,rfl⟩:=r;have cs:iO v=true:=M2.1 a3 v (On cp);exact⟨v,cp,cs,.bu cs⟩
        ·rw[Ca H] at c;have:=dr sz (xk H);rw[xB] at this;rw[cz];obtain⟨u,ar,a1,a2⟩:=py i' j asq q c r;exact⟨u,ar,a1,a2.mono cl⟩)
     refine wK (N _ ?_) (C g _ _ (cn.1.put o.dst hd M) cn.2);rw[F];simp only[gU,GW,og,A] at bd;obtain⟨l,rfl⟩:=cN len;simp[Builtin.clear_,ux I,CE c0 c3,bd,y]
   ·simp at d
  ·simp at d
 ·simp at d
end
end
section
variable{asB:Bool} {po:ey} {asX:Array Oper}
section
variable{P:Program} {n B bs:Nat} {O:Nat->Prop} {gl:eI} {ph:ck×cD×World×List Deferred} {g:ck} {s:df} {a:Act} {w w':World} {o:Oper} {K:Act->World->Prop} {Q:Exit->Act->World->Prop}
theorem arI{r:nw}{p:aG}{us:iP}(h:ct gl ph n B O g s a w)(hd:∀t,o.dst=some t->t<n)(d:gA P o r)
 (b:b6 (c9 s.aC) s.bo (bs+o.dst.getD 0) r=some (p,us))(j:gL gl ph n B O g w ⟨put s.aC o.dst p,c7 s.bo us⟩ K):o.wp P a w K Q:=by
 cases r with
 |qg x=>simp only[b6,O5,pV] at b;obtain⟨rfl,rfl⟩:=b;exact aj5 h hd d j
 |pick c x y=>
  have u:us=[]:=by simp only[b6] at b;split at b<;>simp_all
  subst u;exact aAP h hd d b j
 |alloc t zero=>exact aj0 h hd d b j
 |box t x=>exact akd h hd d b j
 |build zero z=>exact aBa h hd d b j
 |m4 e sz zero len z as0=>exact aA3 h hd d b j
 |load A m x=>exact auR h hd d b j
 |store m x v=>exact aiD h hd d b j
 |qj x=>exact aAK h hd d b j
 |qo q x y=>exact aBC h hd d b j
 |p1 neg x y=>exact ayW h hd d b j
 |qn neg x y=>exact apo h hd d b j
 |pK neg x=>exact azF h hd d b j
 |nC q x=>exact agH h hd d b j
 |p4 k x=>exact aD0 h hd d b j
 |oQ x=>exact ahR h hd d b j
 |oJ e sz bytes zero l c=>exact aqQ h hd d b j
 |p9 x lo hi=>exact agd h hd d b j
 |o9 sz x lo hi=>exact axN h hd d b j
 |p6 off x=>exact as9 h hd d b j
 |p5 A off m x=>exact aqk h hd d b j
 |ji sz x i=>exact arz h hd d b j
 |pJ x i=>exact ajg h hd d b j
 |ext x i=>exact an1 h hd d b j
 |len C x=>exact apj h hd d b j
 |append e sz bytes sl x as0=>exact aw2 h hd d b j
 |kV D x y=>exact arb h hd d b j
 |call f args=>simp[b6] at b
 |hV f args E=>simp[b6] at b
 |e0 q x y=>exact anH h hd d b j
 |bits q x y=>exact agN h hd d b j
 |qa f ar9=>exact axm h hd d b j
 |mM e bytes sl x as0=>exact ai8 h hd d b j
 |oy e sz bytes zero sl x as0=>exact ayV h hd d b j
 |pF x=>exact aDP h hd d b j
 |oO e sz zero x=>exact asl h hd d b j
 |pB m sz x i=>exact arP h hd d b j
 |oF m x=>exact aly h hd d b j
 |gY=>simp[b6] at b
inductive ry (gl:eI) (P:Program) (bs:Nat) (asB:Bool) (o:ey) (s:df):df->Prop where
 |skip (h:l6 s.aC o.guard=some false):ry gl P bs asB o s ⟨put s.aC o.dst (.a0 []),s.bo⟩
 |b6 {v:aG} {us:iP} (h:l6 s.aC o.guard=some true) (hp:b6 (c9 s.aC) s.bo (bs+o.ai.off+o.dst.getD 0) o.ai=some (v,us)):ry gl P bs asB o s ⟨put s.aC o.dst v,c7 s.bo us⟩
 |call {f:Operand} {args:List Operand} {fid:FuncId} {x y:Array Value} {ps:dA} {us:iP} {res:aG} (h:l6 s.aC o.guard=some true) (hr:o.ai= .call f args)
  (hf:c9 s.aC f= .bu (.func (.func fid) x y)) (hprep:iU (c9 s.aC) s.bo [] args=some (ps,us)) (hRC:uP gl P fid ps res):
  ry gl P bs asB o s ⟨put s.aC o.dst res,c7 s.bo us⟩
 |hV {f:Operand} {args:List Operand} {frz:List Bool} {fid:FuncId} {ar9 ps:dA} {us:iP} {res:aG} {asR:cD} (h:l6 s.aC o.guard=some true) (hr:o.ai= .hV f args frz)
  (hf:oH (c9 s.aC f)=some (fid,ar9)) (hprep:iU (c9 s.aC) s.bo frz args=some (ps,us)) (hHC:lx gl P fid (ps++ar9) (c7 s.bo us) res asR):
  ry gl P bs asB o s ⟨put s.aC o.dst res,asR⟩
theorem ry.La{j:df->Prop}(h:nW gl P bs asB po s j):∃k,ry gl P bs asB po s k/\j k:=by
 unfold nW at h;split at h
 ·rename_i b;obtain⟨_,h⟩:=h;split at h
  ·rename_i f args c;split at h
   ·rename_i l x y d;split at h
    ·rename_i p us e;obtain⟨q,r,_,i⟩:=h;exact⟨_,.call b c d e r,i⟩
    ·exact h.elim
   ·exact h.elim
  ·rename_i f args z c;split at h
   ·rename_i l ar9 d;split at h
    ·rename_i p us e;obtain⟨q,asR,t,_,i⟩:=h;exact⟨_,.hV b c d e t,i⟩
    ·exact h.elim
   ·exact h.elim
  ·split at h
   ·rename_i v us u;exact⟨_,.b6 b u,h.2⟩
   ·exact h.elim
 ·rename_i b;exact⟨_,.skip b,h⟩
 ·exact h.elim
def uQ(P:Program)(n:Nat)(asX:Array Oper)(o:Oper)(po:ey):Prop:=
 po.dst=o.dst/\(∀t,o.dst=some t->t<n)/\gA P o po.ai/\
 match o.guard,po.guard with
 |none,none=>True
 |some (j,b),some (t,c)=>b=c/\(asX[j]?).bind (·.dst)=some t/\t<n
 |_,_=>False
theorem Hq{b:Bool}(h:ct gl ph n B O g s a w)(q:uQ P n asX o po)(c:l6 s.aC po.guard=some b):Region.wanted o (yielded asX a.tmps)=b:=by
 obtain⟨_,_,_,e⟩:=q;unfold Region.wanted;split at e
 ·rename_i i k;rw[i];rw[k] at c;simpa[l6] using c
 ·rename_i j p t C i k;obtain⟨rfl,r,u⟩:=e;rw[i];rw[k] at c;have d:=h.aC t;have y:a.tmps[t]? =some (a.tmps.getD t undef):=by
   have:t<a.tmps.size:=by rw[h.size];exact u
   simp[nK,this]
  simp only[l6] at c;simp only[yielded,r,h9,y];split at c
  ·rename_i x l;rw[l] at d;rw[d.fB.1];simp only[O5] at c;rw[<-c];cases x<;>cases p<;>rfl
  ·rename_i l;rw[l] at d;obtain⟨vs,z,A,_⟩:=d.aaH (by simp);have:vs=[]:=by simpa using A.symm
   subst this;rw[z];simp only[O5] at c;rw[<-c];cases p<;>rfl
  ·simp at c
 ·exact e.elim
theorem Ss{r:df}{i:Nat}(h:ct gl ph n B O g s a w)(hi:asX[i]? =some o)(d:uQ P n asX o po)(u:ry gl P bs asB po s r)(b:gL gl ph n B O g w r K):wpOp P asX Q i K a w:=by
 simp only[wpOp,hi];obtain⟨j,hd,e,z⟩:=id d;cases u with
 |skip c=>rw[Hq h d c];simp only[Nn,st];rw[j] at b;exact b g _ w (h.put o.dst hd (p:= .a0 []) (v:=undef) (.inr (.inr (.inr (.inl ⟨[],[],rfl,rfl,rfl,by simp⟩))))) (gn.refl _ _ _ _)
 |b6 c t=>rw[Hq h d c];simp only[w6];rw[j] at t b;exact .inl (arI h hd e t b)
 |call c k l q x=>rw[Hq h d c];simp only[w6];rw[j] at b;rw[k] at e;exact .inl (ayh h hd e l q x b)
 |hV c k l q y=>rw[Hq h d c];simp only[w6];rw[j] at b;rw[k] at e;exact .inl (aqp h hd e l q y b)
theorem Vk{asX:Array Oper}{asB:Bool}{c0:Nat->Nat}{w0:World}{l:df->Prop}:∀(asY:List ey) (i:Nat) (g:ck) (s:df) (a:Act) (w:World),
 (∀(j:Nat) (po:ey),asY[j]? =some po->∃o,asX[i+j]? =some o/\uQ P n asX o po)->mI gl P bs asB asY s l->ct gl ph n B O g s a w->gn B O c0 w0 g.U w->
 (∀g' b c w',l b->ct gl ph n B O g' b c w'->gn B O c0 w0 g'.U w'->Q .normal c w')->wpOps P asX Q (List.range' i asY.length) a w
 |[],i,g,s,a,w,_,d,h,e,k=>by simp only[Md,List.range'_zero,wpOps];exact k g s a w d h e
 |po::asY,i,g,s,a,w,p,d,h,e,k=>by simp only[JO,List.range'_succ];rw[wpOps_cons];obtain⟨o,q,r⟩:=p 0 po rfl;obtain⟨b,t,u⟩:=ry.La d;refine Ss h (by simpa using q) r t (λg' c w' x y=>?_);exact Vk asY (i+1) g' b c w' (λj z A=>by have:=p (j+1) z (by simpa using A);rwa [show i+1+j=i+(j+1) by omega]) u x (e.trans y) k
end
end
section
variable{p:aG} {b:Bool}
section
variable{ob asR:cD}
theorem ab4(h:∀k∈p.key,asR k=ob k):gV asR p=gV ob p:=by
 cases p with
 |az k s off len=>simp only[gV];rw[h k (by simp[aG.key,aG.cf])]
 |_=>rfl
theorem TL:∀{cs:dA},(∀k∈cs.flatMap aG.key,asR k=ob k)->oE asR cs=oE ob cs
 |[],_=>rfl
 |p::c,h=>by simp only[oE];rw[ab4 (λk a=>h k (by simp[a])),TL (λk a=>h k (by simp only[Ph,Ic];exact .inr a))]
theorem OG(h:∀k∈p.cR,asR k=ob k):qG asR p=qG ob p:=by
 cases p with
 |agg cs=>simp only[qG];rw[TL h]
 |az k s off len=>exact ab4 (p:= .az k s off len) h
 |_=>rfl
theorem WD(h:∀k∈p.key,asR k=ob k):jN asR p=jN ob p:=by
 cases p with
 |az k s off len=>simp only[jN];rw[h k (by simp[aG.key,aG.cf])]
 |_=>rfl
theorem Oh{α c:Type}{f a:α->List c}:∀{l:List α},(∀x∈l,a x=f x)->l.flatMap a=l.flatMap f
 |[],_=>rfl
 |x::xs,h=>by simp only[Ph];rw[h x (by simp),Oh (λy d=>h y (by simp[d]))]
theorem Tk(h:∀k∈p.cR,asR k=ob k):jE asR p=jE ob p:=by
 cases p with
 |agg cs=>simp only[jE];exact Oh (λq a=>WD (λk c=>h k (by simp only[aG.cR,aG.eg,Ij];exact⟨q,a,c⟩)))
 |az k s off len=>exact WD (p:= .az k s off len) h
 |_=>rfl
theorem WR{sz:Nat}(h:∀k∈p.cR,asR k=ob k):iZ asR sz p=iZ ob sz p:=by
 unfold iZ;split
 ·rfl
 ·rfl
 ·rename_i k s off len;rw[h k (by simp[aG.cR,aG.eg,aG.key,aG.cf])]
 ·rfl
variable{ev ev':Operand->aG}
theorem IW{asy:Nat}{ox:Option Operand}(h:∀x∈nc ox,ev' x=ev x):tP ev' asy ox=tP ev asy ox:=by
 cases ox with
 |none=>rfl
 |some x=>simp only[tP];rw[h x (by simp[nc])]
theorem RB:∀{a:List (Nat×Nat×Operand)} {cs:dA},(∀x∈a.map (·.2.2),ev' x=ev x)->pg ev' cs a=pg ev cs a
 |[],_,_=>rfl
 |(off,m,x)::r,cs,h=>by
  simp only[pg];rw[h x (by simp)];split
  ·split
   ·exact RB (λy c=>h y (by simp only[mG,pG];exact .inr c))
   ·rfl
  ·rfl
theorem TU{sz:Nat}:∀{a:List (Nat×Operand)} {es:kO},(∀x∈a.map (·.2),ev' x=ev x)->(∀x∈a.map (·.2),∀k∈(ev x).cR,asR k=ob k)->lD ev' asR sz es a=lD ev ob sz es a
 |[],_,_,_=>rfl
 |(i,x)::r,es,h,d=>by
  simp only[lD];rw[h x (by simp),OG (d x (by simp))];split
  ·split
   ·exact TU (λy c=>h y (by simp only[mG,pG];exact .inr c)) (λy c=>d y (by simp only[mG,pG];exact .inr c))
   ·rfl
  ·rfl
def ds.ra{α:Type}:ds α->Bool
 | .alloc _ _=>true
 | .box _ _=>true
 | .m4 _ _ _ _ _ _=>true
 | .oJ _ _ _ _ _ _=>true
 | .append _ _ _ _ _ _=>true
 | .mM _ _ _ _ _=>true
 | .oy _ _ _ _ _ _ _=>true
 |_=>false
theorem aAk{d:Nat}{r:nw}(h:∀x∈r.ez,ev' x=ev x)(a:r.looks=true->∀x∈r.mh,∀k∈(ev x).cR,asR k=ob k)(hd:r.ra=true->asR d=ob d):b6 ev' asR d r=b6 ev ob d r:=by
 cases r with
 |qg x=>simp only[b6];rw[h x (by simp[ds.ez])]
 |pick c x y=>simp only[b6];rw[h c (by simp[ds.ez]),h x (by simp[ds.ez]),h y (by simp[ds.ez])]
 |alloc t zero=>simp only[b6];rw[hd rfl]
 |box t x=>simp only[b6];rw[h x (by simp[ds.ez]),hd rfl]
 |build zero o=>simp only[b6];rw[RB h]
 |m4 e sz zero len o as0=>
  have a:=a rfl;simp only[b6];rw[TU h a,hd rfl];have:o.flatMap (λp=>jE asR (ev' p.2))=o.flatMap (λp=>jE ob (ev p.2)):=
   Oh (λp z=>by rw[h p.2 (by simp only[ds.ez,yd];exact⟨p,z,rfl⟩),Tk (a p.2 (by simp only[ds.mh,ds.ez,yd];exact⟨p,z,rfl⟩))])
  rw[this]
 |load B m x=>
  have g:=a rfl x (by first|(simp[ds.mh,ds.ez];done)|exact HO|exact OJ _ HO);simp only[b6];rw[h x (by simp[ds.ez])];generalize ev x=p at g;split
  ·rename_i k s off;rw[g k (by simp[aG.cR,aG.eg,aG.key,aG.cf])]
  ·rename_i k s i off;rw[g k (by simp[aG.cR,aG.eg,aG.key,aG.cf])]
  ·rfl
  ·rfl
 |store m x v=>
  have g:=a rfl x (by simp[ds.mh]);simp only[b6];rw[h x (by simp[ds.ez]),h v (by simp[ds.ez])];generalize ev x=p at g;split
  ·rename_i k s off;rw[g k (by simp[aG.cR,aG.eg,aG.key,aG.cf])]
  ·rename_i k s i off;rw[g k (by simp[aG.cR,aG.eg,aG.key,aG.cf])];by_cases A:(ev v).cR=[]
   ·rw[OG (ob:=ob) (asR:=asR) (p:=ev v) (λk a=>by rw[A] at a;cases a)]
   ·cases D:ob k with
    |az E e sz es as0=>
     cases as0 with
     |false=>rfl
     |true=>cases(qG asR (ev v)).bind aG.cells<;>cases(qG ob (ev v)).bind aG.cells<;>cases C:es[i]? <;>simp[A,C]
    |_=>rfl
  ·rfl
 |qj x=>simp only[b6];rw[h x (by simp[ds.ez])]
 |qo u x y=>simp only[b6];rw[h x (by simp[ds.ez]),h y (by simp[ds.ez])]
 |p1 neg x y=>simp only[b6];rw[h x (by simp[ds.ez]),h y (by simp[ds.ez])]
 |qn neg x y=>simp only[b6];rw[h x (by simp[ds.ez]),h y (by simp[ds.ez])]
 |pK neg x=>simp only[b6];rw[h x (by simp[ds.ez])]
 |nC u x=>simp only[b6];rw[h x (by simp[ds.ez])]
 |p4 k x=>simp only[b6];rw[h x (by simp[ds.ez])]
 |oQ x=>simp only[b6];rw[h x (by simp[ds.ez]),WR (a rfl x (by first|(simp[ds.mh,ds.ez];done)|exact HO|exact OJ _ HO))]
 |oJ e sz bytes zero l c=>simp only[b6];rw[h l (by simp[ds.ez]),h c (by simp[ds.ez]),hd rfl]
 |p9 x lo hi=>simp only[b6];rw[h x (by simp[ds.ez]),IW (asy:=0) (ox:=lo) (λy j=>h y (by simp[ds.ez,j]))];have w:∀asy,tP ev' asy hi=tP ev asy hi:=λasy=>IW (λy j=>h y (by simp[ds.ez,j]));simp only[w]
 |o9 sz x lo hi=>
  have g:=a rfl x (by first|(simp[ds.mh,ds.ez];done)|exact HO|exact OJ _ HO);simp only[b6];rw[h x (by simp[ds.ez]),IW (asy:=0) (ox:=lo) (λy j=>h y (by simp[ds.ez,j]))];have w:∀asy,tP ev' asy hi=tP ev asy hi:=λasy=>IW (λy j=>h y (by simp[ds.ez,j]));simp only[w];generalize ev x=p at g;split
  ·rfl
  ·rename_i k s off len;rw[g k (by simp[aG.cR,aG.eg,aG.key,aG.cf])]
  ·rfl
  ·rfl
 |p6 off x=>simp only[b6];rw[h x (by simp[ds.ez])]
 |p5 B off m x=>simp only[b6];rw[h x (by simp[ds.ez])]
 |ji sz x i=>
  have g:=a rfl x (by first|(simp[ds.mh,ds.ez];done)|exact HO|exact OJ _ HO);simp only[b6];rw[h x (by simp[ds.ez]),h i (by simp[ds.ez])];generalize ev x=p at g;split
  ·rfl
  ·rename_i k s off len F m G;rw[g k (by simp[aG.cR,aG.eg,aG.key,aG.cf])]
  ·rfl
 |pJ x i=>simp only[b6];rw[h x (by simp[ds.ez]),h i (by simp[ds.ez])]
 |ext x i=>simp only[b6];rw[h x (by simp[ds.ez])]
 |len H x=>simp only[b6];rw[h x (by simp[ds.ez])]
 |append e sz bytes sl x as0=>
  have a:=a rfl;have n:=a sl (by first|(simp[ds.mh,ds.ez];done)|exact HO|exact OJ _ HO);simp only[b6];rw[h sl (by simp[ds.ez]),h x (by simp[ds.ez]),WR (a x (by first|(simp[ds.mh,ds.ez];done)|exact HO|exact OJ _ HO)),hd rfl];generalize ev sl=p at n;generalize iZ ob sz (ev x)=q;split
  ·rfl
  ·rename_i k aM len ys;rw[n k (by simp[aG.cR,aG.eg,aG.key,aG.cf])]
  ·rfl
  ·rfl
 |kV I x y=>simp only[b6];rw[h x (by simp[ds.ez]),h y (by simp[ds.ez])]
 |mM e bytes sl x as0=>
  have a:=a rfl;have n:=a sl (by first|(simp[ds.mh,ds.ez];done)|exact HO|exact OJ _ HO);simp only[b6];rw[h sl (by simp[ds.ez]),h x (by simp[ds.ez]),hd rfl];generalize ev sl=p at n;generalize ev x=q;split
  ·rfl
  ·rename_i k aM len ys;rw[n k (by simp[aG.cR,aG.eg,aG.key,aG.cf])]
  ·rfl
 |oy e sz bytes zero sl x as0=>simp only[b6];rw[h sl (by simp[ds.ez]),h x (by simp[ds.ez]),hd rfl]
 |pF x=>simp only[b6];rw[h x (by simp[ds.ez])]
 |oO e sz zero x=>
  have g:=a rfl x (by first|(simp[ds.mh,ds.ez];done)|exact HO|exact OJ _ HO);simp only[b6];rw[h x (by simp[ds.ez])];generalize ev x=p at g;split
  ·rfl
  ·rename_i k s off len;rw[g k (by simp[aG.cR,aG.eg,aG.key,aG.cf])]
  ·rfl
 |pB m sz x i=>simp only[b6];rw[h x (by simp[ds.ez]),h i (by simp[ds.ez])]
 |oF m x=>
  have g:=a rfl x (by first|(simp[ds.mh,ds.ez];done)|exact HO|exact OJ _ HO);simp only[b6];rw[h x (by simp[ds.ez])];generalize ev x=p at g;split
  ·rename_i k s;rw[g k (by simp[aG.cR,aG.eg,aG.key,aG.cf])]
  ·rfl
 |e0 u x y=>simp only[b6];rw[h x (by simp[ds.ez]),h y (by simp[ds.ez])]
 |bits u x y=>simp only[b6];rw[h x (by simp[ds.ez]),h y (by simp[ds.ez])]
 |qa f ar9=>have:ar9.map ev'=ar9.map ev:=rH h;simp only[b6];rw[this]
 |call f args=>rfl
 |hV f args J=>rfl
 |gY=>rfl
theorem WL(h:∀k∈p.cR,asR k=ob k):lj asR b p=lj ob b p:=by
 cases b
 ·rfl
 ·simp only[lj,w6];exact OG h
theorem aaQ(h:∀k∈p.cR,asR k=ob k):lC asR b p=lC ob b p:=by
 cases b
 ·rfl
 ·simp only[lC,w6];exact Tk h
theorem IC:∀{d:List Bool} {xs:List Operand} (_:∀x∈xs,ev' x=ev x) (_:∀x∈xs,∀k∈(ev x).cR,asR k=ob k),iU ev' asR d xs=iU ev ob d xs
 |_,[],_,_=>by simp only[iU]
 |[],x::xs,h,a=>by simp only[iU];rw[h x (by simp),WL (a x (by simp)),aaQ (a x (by simp)),IC (λy c=>h y (by simp[c])) (λy c=>a y (by simp[c]))]
 |b::bs,x::xs,h,a=>by simp only[iU];rw[h x (by simp),WL (a x (by simp)),aaQ (a x (by simp)),IC (λy c=>h y (by simp[c])) (λy c=>a y (by simp[c]))]
end
end
section
variable{ob:cD}
def q8(g:ck)(ob:cD)(cT:ck)(a:cD)(k:Nat):Prop:=a k=ob k/\cT.b3 k=g.b3 k/\cT.cap k=g.cap k
theorem gM.kX{g cT:ck}{d:cD}{p:aG}{v:Value}(h:∀k∈p.cf,q8 g ob cT d k)(r:gM g ob p v):gM cT d p v:=by
 cases p with
 |bn k s off=>obtain⟨a,b,c⟩:=h k HO;simp only[gM,a,b] at r ⊢;exact r
 |dH k s i off=>obtain⟨a,b,c⟩:=h k HO;simp only[gM,a,b] at r ⊢;exact r
 |az k s off len=>obtain⟨a,b,c⟩:=h k HO;simp only[gM,a,b,c] at r ⊢;exact r
 |hG k s=>obtain⟨a,b,c⟩:=h k HO;simp only[gM,a,b] at r ⊢;exact r
 |_=>exact r.elim
theorem lP.kX{g cT:ck}{ob b:cD}{p:aG}{v:Value}(h:∀k∈p.key,q8 g ob cT b k)(r:lP g ob p v):lP cT b p v:=by
 cases p with
 |gJ f ar9=>obtain⟨a,vs,rfl,d,e⟩:=r;refine⟨a,vs,rfl,d,λj q u c l=>(e j q u c l).imp id (gM.kX λk a=>h k ?_)⟩;exact Ij.2 ⟨q,On c,a⟩
 |bn k s off=>exact gM.kX (p:= .bn k s off) h r
 |dH k s i off=>exact gM.kX (p:= .dH k s i off) h r
 |az k s off len=>exact gM.kX (p:= .az k s off len) h r
 |hG k s=>exact gM.kX (p:= .hG k s) h r
 |_=>exact r.elim
theorem gf.kX{g cT:ck}{w:World}{ob a:cD}{p:aG}{v:Value}(b:cT.U=g.U)(h:∀k∈p.key,q8 g ob cT a k)(r:gf g w ob p v):gf cT w a p v:=
 r.imp (λr=>by rw[b];exact r) (lP.kX h)
theorem dT.kX{g cT:ck}{w:World}{ob i:cD}{p:aG}{v:Value}(c:cT.U=g.U)(h:∀k∈p.cR,q8 g ob cT i k)(r:dT g w ob p v):dT cT w i p v:=by
 rcases r with r|r|⟨cs,vs,rfl,l,n,e⟩|⟨cs,vs,rfl,l,n,e⟩|r
 ·exact .inl r
 ·refine .inr (.inl ?_);rcases r with r|r
  ·exact .inl (by rw[c];exact r)
  ·refine .inr ?_;cases p with
   |agg=>exact r.elim
   |a0=>exact r.elim
   |gJ f ar9=>exact lP.kX (p:= .gJ f ar9) h r
   |_=>exact lP.kX h r
 ·exact .inr (.inr (.inl ⟨cs,vs,rfl,l,n,λj q u a b=>⟨(e j q u a b).1,(e j q u a b).2.kX c λk d=>h k (Ij.2 ⟨q,On a,d⟩)⟩⟩))
 ·refine .inr (.inr (.inr (.inl ⟨cs,vs,rfl,l,n,λj q u a b=>?_⟩)));have o:∀k∈q.eg,q8 g ob cT i k:=λk d=>h k (Ij.2 ⟨q,On a,d⟩);rcases e j q u a b with r|⟨asq,t,rfl,s2,s3,s4⟩
  ·left;rcases r with r|r
   ·exact .inl (by rw[c];exact r)
   ·refine .inr ?_;cases q with
    |agg=>exact r.elim
    |gJ f ar9=>exact lP.kX (p:= .gJ f ar9) o r
    |_=>exact lP.kX o r
  ·exact .inr ⟨asq,t,rfl,s2,s3,λj q u a b=>⟨(s4 j q u a b).1,(s4 j q u a b).2.kX c λk d=>o k (Ij.2 ⟨q,On a,d⟩)⟩⟩
 ·exact .inr (.inr (.inr (.inr (by rw[c];exact r))))
theorem kR.kX{g cT:ck}{w:World}{ob z:cD}{k:Nat}{o:Obj}(b:cT.U=g.U)(B:cT.b3 k=g.b3 k/\cT.cap k=g.cap k)(h:∀j∈o.qb,q8 g ob cT z j)(r:kR g w ob k o):kR cT w z k o:=by
 obtain⟨a,n⟩:=B;cases o with
 |ax s=>trivial
 |box s cs=>obtain⟨ar6,T,r1,c,d,l⟩:=r;refine⟨ar6,T,by rw[a];exact r1,c,by rw[a,b];exact d,λj q A=>?_⟩;obtain⟨u,t,x,y⟩:=l j q A;exact⟨u,t,x,y.kX b λi hi=>h i (Ij.2 ⟨q,On A,hi⟩)⟩
 |az s e sz es as0=>obtain⟨ar6,r1,c,d,l,C,py,D,E⟩:=r;refine⟨ar6,by rw[a];exact r1,by rw[n];exact c,by rw[n];exact d,by rw[n];exact l,C,λi j cs p hi F=>?_,by rw[a,b];exact D,by rw[a,b];exact E⟩;obtain⟨u,t,x,y⟩:=py i j cs p hi F;exact⟨u,t,x,by rw[b];exact y⟩
 |map s es=>obtain⟨ar6,G,r1,c,d,l⟩:=r;exact⟨ar6,G,by rw[a];exact r1,c,by rw[a,b];exact d,l⟩
def kF(K:Nat->Bool)(a b:cD):Nat->Obj:=λk=>if K k=true then a k else b k
theorem aza{gl:eI}{P:Program}{f:Nat}{args:dA}{B:aG}{q o:cD}(K:Nat->Bool)(h:lx gl P f args q B o)
 (A:∀k,K k=true->ob k=q k)(H:∀k,K k=false->¬(q k).fx)(N:∀k,K k=false->¬(o k).fx)
 (O:∀p∈args,∀k∈p.cR,K k=true)(Q:∀k,∀j∈(q k).qb,K j=true)(R:∀k,∀j∈(o k).qb,K j=true)(S:∀k∈B.cR,K k=true):
 lx gl P f args ob B (kF K o ob):=by
 obtain⟨T,W⟩:=h;refine⟨T,λg w vs X r I=>?_⟩;have J:∀k,(q k).fx->K k=true:=λk c=>by
  cases a:K k with
  |true=>rfl
  |false=>exact absurd c (H k a)
 have a1:∀k,(o k).fx->K k=true:=λk c=>by
  cases a:K k with
  |true=>rfl
  |false=>exact absurd c (N k a)
 have L:∀k,K k=true->q8 g ob g q k:=λk a=>⟨(A k a).symm,rfl,rfl⟩;have z:∀k,(q k).fx->(ob k).fx:=λk c=>by rw[A k (J k c)];exact c
 have C:∀b,nZ g q b->nZ g ob b:=λb ⟨k,c,x⟩=>⟨k,z k c,x⟩;have Z:oC g w q:=by
  refine⟨λk=>?_,λk l c n=>r.inj k l (z k c) (z l n),λk c=>r.lt k (z k c)⟩;cases a:K k with
  |true=>have:=r.ig k;rw[A k a] at this;exact this.kX rfl ⟨rfl,rfl⟩ λj y=>L j (Q k j y)
  |false=>
   have:=H k a;cases ho:q k with
   |ax s=>trivial
   |_=>rw[ho] at this;exact absurd trivial this
 refine(W g w vs X Z ⟨I.1,λi p v M hv=>(I.2 i p v M hv).kX rfl λk a=>L k (O p (On M) k a)⟩).mono ?_;rintro e w' ⟨v,g',rfl,d,ar⟩;refine⟨v,⟨g'.U,λk=>if K k=true then g'.b3 k else g.b3 k,λk=>if K k=true then g'.cap k else g.cap k⟩,rfl,?_,?_⟩
 ·have D:∀k,K k=false->(ob k).fx->¬nZ g q (g.b3 k):=λk a c ⟨j,y,x⟩=>by have:=r.inj j k (z j y) c x;subst this;rw[J j y] at a;cases a
  have E:∀k,K k=true->q8 g' o ⟨g'.U,λk=>if K k=true then g'.b3 k else g.b3 k,λk=>if K k=true then g'.cap k else g.cap k⟩ (kF K o ob) k:=λk a=>by simp[q8,kF,a]
  have step:fY g ob ⟨g'.U,λk=>if K k=true then g'.b3 k else g.b3 k,λk=>if K k=true then g'.cap k else g.cap k⟩ (kF K o ob):=by
   intro k;cases a:K k with
   |true=>have:=d.step k;simp only[kF,a,w6,A k a];exact this
   |false=>have:=fY.refl g ob k;simp only[kF,a,Nn,st];simpa using this
  refine⟨⟨d.jh.os,d.jh.tape,d.jh.output,d.jh.size,λb x F=>d.jh.block b x λG=>F (C b G),λb x F=>d.jh.U b x λG=>F (C b G)⟩,d.ext,⟨λk=>?_,λk l c n t=>?_,λk c=>?_⟩,step,λk c=>?_⟩
  ·cases a:K k with
   |true=>
    have e:kF K o ob k=o k:=by simp[kF,a]
    rw[e];exact(d.heap.ig k).kX (g:=g') rfl ⟨(E k a).2.1,(E k a).2.2⟩ λj y=>E j (R k j y)
   |false=>
    have e:kF K o ob k=ob k:=by simp[kF,a]
    rw[e];refine(r.ig k).fg d.ext step λc=>⟨by simp[a],by simp[a],d.jh.U _ (r.lt k c) (D k a c),d.jh.block _ (r.lt k c) (D k a c)⟩
  ·have FT:∀k l,K k=true->K l=false->(o k).fx->(ob l).fx->g'.b3 k=g.b3 l->False:=by
    intro k l a u c n t;rcases d.src k c with h|h
    ·have:=r.lt l n;omega
    ·rw[t] at h;exact D l u n h
   cases a:K k with
   |true=>
    cases u:K l with
    |true=>simp only[kF,a,u,w6] at c n t;exact d.heap.inj k l c n t
    |false=>simp only[kF,a,u,w6,Nn,st] at c n t;exact(FT k l a u c n t).elim
   |false=>
    cases u:K l with
    |true=>simp only[kF,a,u,w6,Nn,st] at c n t;exact(FT l k u a n c t.symm).elim
    |false=>simp only[kF,a,u,Nn,st] at c n t;exact r.inj k l c n t
  ·cases a:K k with
   |true=>simp only[kF,a,w6] at c ⊢;exact d.heap.lt k c
   |false=>simp only[kF,a,Nn,st] at c ⊢;exact iC (r.lt k c) d.ext.size
  ·cases a:K k with
   |true=>
    simp only[kF,a,w6] at c ⊢;rcases d.src k c with h|h
    ·exact .inl h
    ·exact .inr (C _ h)
   |false=>simp only[kF,a,Nn,st] at c ⊢;exact .inr ⟨k,c,rfl⟩
 ·refine ar.kX (g:=g') rfl λk a=>?_;simp[q8,kF,S k a]
end
end Go.Hf

import Derived.Test.YteehpeajjbkjnaaGreatDoorAb
import Derived.RangeFuncRecord
import Derived.Lib.BufferWrite
import Derived.Lib.AppendZeros
set_option linter.all false
namespace Go.Hf
open Go.RowKit
section
variable{c ob:cT}{p q:aT}
theorem wq(f:cT):∀(u v:nH),fE f (u++v)=fE (fE f u) v
 |[],_=>rfl
 |(k,x)::r,v=>by simp only[wx,fE];exact wq _ r v
theorem axi{α:Type}(f:Nat->α)(k:Nat)(x:α)(h:f k=x):dk f k x=f:=by funext j;by_cases b:j=k;subst b;rw[jc,h];rw[h9 _ _ b]
def kG(c ob:cT):Prop:=∀k,ob k=c k\/∃bZ e sz es,c k= .aV bZ e sz es true/\ob k= .aV bZ e sz es false
theorem kG.refl(ob:cT):kG ob ob:=λ_=> .inl rfl
theorem kG.cH(h:kG c ob)(k:Nat):(ob k).cH=(c k).cH:=by rcases h k with h|⟨bZ,e,sz,es,b,d⟩;rw[h];rw[b,d];rfl
section
variable{P:Program}{n B bs:Nat}{O:Nat->Prop}{gl:eh}{ph:cx×cT×World×List Deferred}{g:cx}{s:cK}{a:Act}{w w':World}{o:Oper}{K:Act->World->Prop}{Q:Exit->Act->World->Prop}
theorem cL.avS(h:cL gl ph n B O g s a w){k bZ e sz:Nat}{es:l7}{bL:Bool}(x:s.bC k= .aV bZ e sz es bL):
 cL gl ph n B O ⟨dk g.af (g.cr k) (es.length*sz),g.cr,g.cap⟩ ⟨s.aI,dk s.bC k (.aV bZ e sz es false)⟩ a w/\eM B O g.af w (dk g.af (g.cr k) (es.length*sz)) w/\gA g.af w (dk g.af (g.cr k) (es.length*sz)) w/\
  gb g s.bC ⟨dk g.af (g.cr k) (es.length*sz),g.cr,g.cap⟩ (dk s.bC k (.aV bZ e sz es false)):=by
 have l:(s.bC k).gg:=by rw[x];trivial
 have t:=h.h1 k;rw[x]at t;obtain⟨bK,H,I,eE,eV,hM,i4,mm,mn⟩:=t;have y:gA g.af w (dk g.af (g.cr k) (es.length*sz)) w:=by refine⟨dn _,λb _=>?_,λ_ _ _ _=>rfl⟩;by_cases z:b=g.cr k;subst z;rw[jc];exact mn;rw[h9 _ _ z];exact dn _
 have C:gb g s.bC ⟨dk g.af (g.cr k) (es.length*sz),g.cr,g.cap⟩ (dk s.bC k (.aV bZ e sz es false)):=gb.aV g x (dn _);refine⟨h.v3 (g':=⟨dk g.af (g.cr k) (es.length*sz),g.cr,g.cap⟩) (dk s.bC k (.aV bZ e sz es false)) (· =k) y C (λd r=>h9 _ _ r) (λd r D=>?_) (λd r D=>?_),⟨rfl,rfl,rfl,dn _,λ_ _ _=>rfl,λb z t=>?_⟩,y,C⟩;have A:g.cr d≠g.cr k:=λe=>r (h.inj d k D l e);exact⟨rfl,rfl,h9 _ _ A,rfl⟩;subst r;refine⟨?_,(h.hP d l).1,(h.hP d l).2,λJ E F=>?_⟩;rw[jc];refine⟨bK,H,I,eE,eV,hM,λi j cs p hi L=>?_,(λM=>by cases M),by simp[dk]⟩;obtain⟨u,N,R,S⟩:=i4 i j cs p hi L;exact⟨u,N,R,S.mono y⟩;rw[h9 _ _ E]at F;exactλe=>E (h.inj J d F l e);have A:b≠g.cr k:=by intro e;subst e;rcases(h.hP k l).1 with G|G;omega;exact t G
 exact h9 _ _ A
theorem kG.HF(h:kG c ob)(p:aT):kG c (fE ob (k7 c p)):=by
 cases p with
 |aV k s off len=>simp only[k7];split;rename_i j e sz es i;intro b;simp only[fE];by_cases d:b=k;subst d;rw[jc];exact .inr ⟨_,_,_,_,i,rfl⟩;rw[h9 _ _ d];exact h b;exact h
 |_=>exact h
theorem cL.k7(h:cL gl ph n B O g s a w){c:cT}(I:kG c s.bC){p q:aT}{v:Value}(t:g2 g w s.bC p v)(d:h8 c p=some q):
 ∃g',cL gl ph n B O g' ⟨s.aI,fE s.bC (Hf.k7 c p)⟩ a w/\eM B O g.af w g'.af w/\gA g.af w g'.af w/\fM g'.af w q v/\gb g s.bC g' (fE s.bC (Hf.k7 c p)):=by
 have E:∀{p:aT},p.key=[]->g2 g w s.bC p v->fM g.af w p v:=λV t=>t.elim id (λr=>absurd V r.x3);cases p with
 |bo u=>simp only[h8,dN]at d;subst d;exact⟨g,h,eM.refl _ _ _ _,gA.refl _ _,E rfl t,gb.refl _ _⟩
 |aN sz es=>simp only[h8,dN]at d;subst d;exact⟨g,h,eM.refl _ _ _ _,gA.refl _ _,E rfl t,gb.refl _ _⟩
 |gk cs off=>simp only[h8,dN]at d;subst d;exact⟨g,h,eM.refl _ _ _ _,gA.refl _ _,E rfl t,gb.refl _ _⟩
 |aV k bZ off len=>
  simp only[h8]at d;split at d;rename_i s' e sz es J x;split at d;rename_i W;obtain⟨rfl,bd⟩:=W;cases d;obtain⟨L,C⟩:∃L,s.bC k= .aV bZ e sz es L:=by rcases I k with l|⟨X,e',Y,ea,l,D⟩;exact⟨J,by rw[l];exact x⟩;rw[x]at l;cases l;exact⟨false,D⟩
  obtain⟨Z,al,M,ar⟩:=h.avS C;have N:fE s.bC (Hf.k7 c (.aV k bZ off len))=dk s.bC k (.aV bZ e sz es false):=by
   simp only[Hf.k7,x];cases J with
   |true=>rfl
   |false=>simp only[fE];rcases I k with l|⟨X,e',Y,ea,l,D⟩;exact(axi s.bC k _ (by rw[l];exact x)).symm;rw[x]at l;cases l
  refine⟨_,by rw[N];exact Z,al,M,?_,by rw[N];exact ar⟩;have hr:m5 g s.bC (.aV k bZ off len) v:=t.elim (λr=>by cases r) id;obtain⟨_,b,o',a1,rfl,l,D,h3⟩:=hr;obtain⟨f1,f2,f3,f4⟩:=h3 _ _ _ _ C;subst f2;have R:=h.h1 k;rw[C]at R;obtain⟨bK,a2,bx,eE,eV,hM,i4,mm,mn⟩:=R;have a3:(s.bC k).gg:=by rw[C];trivial
  have S:((es.drop off).take len).length=len:=by simp;omega
  have y:∀(i:Nat) (cs:eb),((es.drop off).take len)[i]? =some cs->es[off+i]? =some cs/\i<len:=by intro i cs hi;rw[nz]at hi;split at hi;rename_i a4;rw[u9]at hi;exact⟨hi,a4⟩;cases hi
  have T:fM (dk g.af (g.cr k) (es.length*sz)) w (.aN sz ((es.drop off).take len)) (.slice (some ⟨g.cr k,o',none⟩) ((es.drop off).take len).length a1):=by
   refine .aN (λi j=>bK.getD ((off+i)*sz+j) undef) (by omega) D (h.hP k a3).2 (λb1=>?_) (λi cs hi=>hM _ _ (y i cs hi).1) (λi j cs p hi z=>?_) (λi j cs p hi z=>?_) (λi j cs p hi z=>?_);have F:=f3 (.inl (by omega));rw[jc,S,F,<-iT];exact jP _ (by omega);obtain⟨u,A,G,H⟩:=i4 (off+i) j cs p (y i cs hi).1 z;have F:=f3 (.inl (by have:=(y i cs hi).2;omega));rw[cell_of_heap a2,F];have a5:off*sz+(i*sz+j)=(off+i)*sz+j:=by rw[iT];omega
   rw[a5,A];simp[l1,A];obtain⟨u,A,G,H⟩:=i4 (off+i) j cs p (y i cs hi).1 z;exact G;obtain⟨u,A,G,H⟩:=i4 (off+i) j cs p (y i cs hi).1 z;have:bK.getD ((off+i)*sz+j) undef=u:=by simp[l1,A]
   rw[this];exact H.mono M
  rw[S]at T;exact T;simp at d;simp at d
 |undef=>simp[h8]at d
 |agg=>simp[h8]at d
 |bD=>simp[h8]at d
 |aQ=>simp[h8]at d
 |eP=>simp[h8]at d
 |fX=>simp[h8]at d
 |ey=>simp[h8]at d
theorem auo(b:p.iN=true)(h:h8 c p=some q):q.iN=true:=by
 cases p with
 |bo u=>simp only[h8,dN]at h;subst h;exact b
 |aN sz es=>simp only[h8,dN]at h;subst h;rfl
 |gk cs off=>simp only[h8,dN]at h;subst h;rfl
 |aV k bZ off len=>simp only[h8]at h;split at h;split at h;cases h;rfl;simp at h;simp at h
 |_=>simp[h8]at h
theorem cL.ad8{c:cT}:∀(cs e:eb) (vs:List Value) (g:cx) (s:cK),cL gl ph n B O g s a w->kG c s.bC->cs.length=vs.length->
 (∀(j:Nat) (q:aT) (u:Value),cs[j]? =some q->vs[j]? =some u->q.iN=true/\g2 g w s.bC q u)->qi c cs=some e->
 ∃g',cL gl ph n B O g' ⟨s.aI,fE s.bC (cs.flatMap (Hf.k7 c))⟩ a w/\eM B O g.af w g'.af w/\gA g.af w g'.af w/\kG c (fE s.bC (cs.flatMap (Hf.k7 c)))/\
  e.length=vs.length/\(∀(j:Nat) (q:aT),e[j]? =some q->q.iN=true)/\∀(j:Nat) (q:aT) (u:Value),e[j]? =some q->vs[j]? =some u->fM g'.af w q u
 |[],e,vs,g,s,h,l,i,_,b=>by simp only[qi,dN]at b;subst b;exact⟨g,h,eM.refl _ _ _ _,gA.refl _ _,l,by simpa using i,by simp,by simp⟩
 |p::ps,e,vs,g,s,h,l,i,t,b=>by
  simp only[qi]at b;split at b;rename_i q C x D;cases b
  match vs,i with
  |v::E,i=>
   have y:=t 0 p v rfl rfl;obtain⟨c8,g9,F,z,G,H⟩:=h.k7 l y.2 x;have I:=l.HF p;obtain⟨cX,gZ,J,A,L,M,N,R⟩:=cL.ad8 ps C E c8 ⟨s.aI,fE s.bC (Hf.k7 c p)⟩ g9 I (by simpa using i) (λj q u S k=>by have:=t (j+1) q u (by simpa using S) (by simpa using k);exact⟨this.1,this.2.step z H⟩) D
   refine⟨cX,?_,F.trans J,z.trans A,?_,by simpa using M,λj r d=>?_,λj r u d k=>?_⟩;simp only[lb,wq];exact gZ;simp only[lb,wq];exact L;cases j with
   |zero=>simp at d;subst d;exact auo y.1 x
   |succ j=>exact N j r (by simpa using d)
   cases j with
   |zero=>simp at d k;subst d;subst k;exact G.mono A
   |succ j=>exact R j r u (by simpa using d) (by simpa using k)
  simp at b
theorem cL.jN(h:cL gl ph n B O g s a w)(d:kG c s.bC){v:Value}(j:dZ g w s.bC p v)(b:jb c p=some q):
 ∃g',cL gl ph n B O g' ⟨s.aI,fE s.bC (Hf.jN c p)⟩ a w/\eM B O g.af w g'.af w/\gA g.af w g'.af w/\kG c (fE s.bC (Hf.jN c p))/\fM g'.af w q v:=by
 cases p with
 |agg cs=>simp only[jb,jG]at b;obtain⟨l,r,rfl⟩:=b;obtain⟨vs,rfl,t,x⟩:=j.wR;obtain⟨g',F,e,i,y,z,C,V⟩:=cL.ad8 cs l vs g s h d t x r;exact⟨g',F,e,i,y,.agg z C V⟩
 |bo u=>obtain⟨g',F,e,i,V,_⟩:=h.k7 d (p:= .bo u) (by obtain⟨rfl,A⟩:=j.fY;exact .inl (.bo A)) b;exact⟨g',F,e,i,d.HF (.bo u),V⟩
 |aN sz es=>obtain⟨g',F,e,i,V,_⟩:=h.k7 d (p:= .aN sz es) (.inl j.x7) b;exact⟨g',F,e,i,d.HF (.aN sz es),V⟩
 |gk cs off=>obtain⟨g',F,e,i,V,_⟩:=h.k7 d (p:= .gk cs off) (.inl j.Cw) b;exact⟨g',F,e,i,d.HF (.gk cs off),V⟩
 |aV k bZ off len=>obtain⟨g',F,e,i,V,_⟩:=h.k7 d (p:= .aV k bZ off len) (.inr (j.kz (by simp[aT.key,aT.cJ]))) b;exact⟨g',F,e,i,d.HF (.aV k bZ off len),V⟩
 |undef=>simp[jb,h8]at b
 |bD=>simp[jb,h8]at b
 |aQ=>simp[jb,h8]at b
 |eP=>simp[jb,h8]at b
 |fX=>simp[jb,h8]at b
 |ey=>simp[jb,h8]at b
theorem auj{ev:Operand->aT}{i:List Bool}{x:Operand}{xs:List Operand}{l:eb}{us:nH}(h:jE ev ob i (x::xs)=some (l,us)):
 ∃q d e,md ob (i.getD 0 true) (ev x)=some q/\jE ev ob i.tail xs=some (d,e)/\l=q::d/\us=mq ob (i.getD 0 true) (ev x)++e:=by
 cases i with
 |nil=>simp only[jE]at h;split at h;rename_i q d e j k;cases h;exact⟨q,d,e,j,k,rfl,rfl⟩;cases h
 |cons b bs=>simp only[jE]at h;split at h;rename_i q d e j k;cases h;exact⟨q,d,e,j,k,rfl,rfl⟩;cases h
theorem aaH(b:List Bool)(j:Nat):b.tail.getD j true=b.getD (j+1) true:=by cases b<;>simp
theorem cL.HG{c:cT}:∀(xs:List Operand) (b:List Bool) (k:eb) (us:nH) (g:cx) (s:cK),cL gl ph n B O g s a w->kG c s.bC->xs.all c6=true->jE (eX s.aI) c b xs=some (k,us)->
 ∃g',cL gl ph n B O g' ⟨s.aI,fE s.bC us⟩ a w/\eM B O g.af w g'.af w/\gA g.af w g'.af w/\kG c (fE s.bC us)/\
  k.length=xs.length/\∀(j:Nat) (q:aT) (x:Operand),k[j]? =some q->xs[j]? =some x->fM g'.af w q (a.eval x)\/(b.getD j true=false/\q=eX s.aI x)
 |[],b,k,us,g,s,h,l,_,t=>by simp only[jE,dN,h4]at t;obtain⟨rfl,rfl⟩:=t;exact⟨g,h,eM.refl _ _ _ _,gA.refl _ _,l,rfl,by simp⟩
 |x::xs,b,k,us,g,s,h,l,u,t=>by
  obtain⟨q,I,J,z,L,rfl,rfl⟩:=auj t;simp only[u4,cC]at u;cases C:b.getD 0 true with
  |true=>
   simp only[C,md,gF]at z;simp only[mq,gF];obtain⟨c8,g9,M,N,R,S⟩:=h.jN l (h.ga u.1) z;obtain⟨cX,gZ,D,A,E,F,G⟩:=cL.HG xs b.tail I J c8 ⟨s.aI,fE s.bC (Hf.jN c (eX s.aI x))⟩ g9 R u.2 L;refine⟨cX,?_,M.trans D,N.trans A,?_,by simp[F],λj r y d e=>?_⟩;simp only[wq];exact gZ;simp only[wq];exact E;cases j with
   |zero=>simp at d e;subst d;subst e;exact .inl (S.mono A)
   |succ j=>rcases G j r y (by simpa using d) (by simpa using e) with i|⟨i,H⟩;exact .inl i;exact .inr ⟨by rw[<-aaH];exact i,H⟩
  |false=>
   simp only[C,md,io,hV,dN]at z;subst z;simp only[mq,io,hV,yO];obtain⟨cX,gZ,D,A,E,F,G⟩:=cL.HG xs b.tail I J g s h l u.2 L;refine⟨cX,gZ,D,A,E,by simp[F],λj r y d e=>?_⟩;cases j with
   |zero=>simp at d e;subst d;subst e;exact .inr ⟨C,rfl⟩
   |succ j=>rcases G j r y (by simpa using d) (by simpa using e) with i|⟨i,H⟩;exact .inl i;exact .inr ⟨by rw[<-aaH];exact i,H⟩
def v7(ev:Operand->aT)(ob:cT):List Operand->Option eb
 |[]=>some []
 |x::xs=>match jb ob (ev x),v7 ev ob xs with
  |some q,some b=>some (q::b)
  |_,_=>none
theorem ac2{ev:Operand->aT}{ob:cT}:∀{xs:List Operand}{b:eb},v7 ev ob xs=some b->jE ev ob [] xs=some (b,xs.flatMap λx=>Hf.jN ob (ev x))
 |[],b,h=>by simp only[v7,dN]at h;subst h;rfl
 |x::xs,b,h=>by simp only[v7]at h;split at h;rename_i q i d e;cases h;simp only[jE,md,mq,gF,d,ac2 e,lb];cases h
theorem cL.avT(xs:List Operand)(b:eb)(g:cx)(s:cK)(h:cL gl ph n B O g s a w)(d:kG c s.bC)(e:xs.all c6=true)(i:v7 (eX s.aI) c xs=some b):
 ∃g',cL gl ph n B O g' ⟨s.aI,fE s.bC (xs.flatMap λx=>Hf.jN c (eX s.aI x))⟩ a w/\eM B O g.af w g'.af w/\gA g.af w g'.af w/\kG c (fE s.bC (xs.flatMap λx=>Hf.jN c (eX s.aI x)))/\
  b.length=xs.length/\∀(j:Nat) (q:aT) (x:Operand),b[j]? =some q->xs[j]? =some x->fM g'.af w q (a.eval x):=by
 obtain⟨g',F,k,l,r,t,V⟩:=cL.HG xs [] b _ g s h d e (ac2 i);exact⟨g',F,k,l,r,t,λj q x u y=>(V j q x u y).elim id (λz=>by simp at z)⟩
end
end
section
variable{sz e len:Nat}{es:l7}{c:Nat->Nat}{v:Value}{zero:List Value}
section
variable{P:Program}{n B bs:Nat}{O:Nat->Prop}{gl:eh}{ph:cx×cT×World×List Deferred}{g:cx}{s:cK}{a:Act}{w w':World}{o:Oper}{K:Act->World->Prop}{Q:Exit->Act->World->Prop}
theorem nF.put{R:aT->Value->Prop}{bK:Array Value}{vs:List Value}{new:eb}{i:Nat}(h:nF R sz es bK)(y:vs.length=new.length)(r:new.length=sz)(z:i<es.length)
 (E:es.length*sz<=bK.size)(A:∀(j:Nat) (q:aT),new[j]? =some q->∃u,vs[j]? =some u/\q.iN=true/\R q u):nF R sz (es.set i new) (rg bK (i*sz) vs):=by
 have C:=jP sz (show i+1<=es.length from z);rw[iT,ov]at C;refine⟨λk cs b=>?_,λk j cs p b d=>?_⟩;rw[DV]at b;split at b;cases b;exact r;exact h.1 k cs b;rw[Td vs (i*sz) bK _ (by omega),y,r];rw[DV]at b;split at b;rename_i l;subst l;cases b;have t:j<sz:=by have:=(g8.1 d).1;omega
 rw[dU (by omega),dr (by omega),Nat.add_sub_cancel_left];exact A j p d;rename_i l;have t:j<sz:=by have:=(g8.1 d).1;have:=h.1 k cs b;omega
 have D:=Yr (i:=i) (i':=k) (sz:=sz) (j:=j) (off:=0) (m:=sz) t (by omega) (λx=>l x.symm);simp only[rq]at D;by_cases c1:k*sz+j<i*sz;rw[dr c1];exact h.2 k j cs p b d;rw[dU c1,dU (by omega)];exact h.2 k j cs p b d
theorem Z3{ev:Operand->aT}{ob:cT}{sz:Nat}:∀{ps:List (Nat×Operand)}{es ea:l7},mM ev ob sz es ps=some ea->ea.length=es.length
 |[],es,ea,h=>by simp only[mM,dN]at h;rw[h]
 |(i,x)::r,es,ea,h=>by simp only[mM]at h;split at h;split at h;rw[Z3 h];simp;simp at h;simp at h
theorem fM.wR{cs:eb}(h:fM c w (.agg cs) v):∃vs:List Value,v= .agg vs.toArray/\cs.length=vs.length/\∀(j:Nat) (p:aT) (u:Value),cs[j]? =some p->vs[j]? =some u->fM c w p u:=by
 cases h with
 |agg b i d=>exact⟨_,rfl,b,d⟩
theorem fM.key{p:aT}(h:fM c w p v):p.key=[]:=by cases h<;>rfl
theorem Z4{c:Nat->Nat}{ev:Operand->aT}{ob:cT}{sz:Nat}:∀(ps:List (Nat×Operand)) (es ea:l7) (bK:Array Value),mM ev ob sz es ps=some ea->
 (∀p∈ps,∀q,jb ob (ev p.2)=some q->fM c w q (a.eval p.2))->nF (fM c w) sz es bK->bK.size=es.length*sz->
 ∃z,Instr.fill (λi=>some (i*sz,sz)) bK (ps.map λp=>(p.1,a.eval p.2))=some z/\nF (fM c w) sz ea z/\z.size=bK.size
 |[],es,ea,bK,h,_,A,C=>by simp only[mM,dN]at h;subst h;exact⟨bK,rfl,A,rfl⟩
 |(i,x)::r,es,ea,bK,h,D,A,C=>by
  simp only[mM]at h;split at h;rename_i new d;split at h;rename_i H;obtain⟨E,F⟩:=H;simp only[AR]at d;obtain⟨q,I,d⟩:=d;have k:=D (i,x) (by simp) q I;have J:dZ ⟨c,λ_=>0,λ_=>0⟩ w (λ_=>Obj.aF 0) q (a.eval x):= .inr (.inl (.inl k));obtain⟨G,L⟩:=J.cells d;have M:∀(j:Nat) (r:aT),new[j]? =some r->∃u,(a.eval x).cells.toList[j]? =some u/\r.iN=true/\fM c w r u:=by
   intro j r t;obtain⟨u,N,R,l⟩:=L j r t;refine⟨u,N,R,?_⟩;rcases l with l|l;exact l;exfalso;cases q with
   |agg cs=>simp only[aT.cells,dN]at d;subst d;obtain⟨vs,al,ar,S⟩:=k.wR;have a1:j<cs.length:=(g8.1 t).1;have:=S j r vs[j] t (fo (by omega));have T:=l.x3;generalize vs[j]=a2 at this;cases this<;>simp[aT.key,aT.cJ]at T
   |bo _=>simp only[aT.cells,dN]at d;subst d;have:=eH t;simp at this;subst this;exact l.elim
   |aN _ _=>simp only[aT.cells,dN]at d;subst d;have:=eH t;simp at this;subst this;exact l.elim
   |gk _ _=>simp only[aT.cells,dN]at d;subst d;have:=eH t;simp at this;subst this;exact l.elim
   |undef=>exact absurd k (λb=>by generalize a.eval (i,x).2=y at b;cases b)
   |bD _=>exact absurd k (λb=>by generalize a.eval (i,x).2=y at b;cases b)
   |fX _ _=>exact absurd k (λb=>by generalize a.eval (i,x).2=y at b;cases b)
   |ey _ _=>exact absurd k (λb=>by generalize a.eval (i,x).2=y at b;cases b)
   |aQ _ _ _=>exact absurd k (λb=>by generalize a.eval (i,x).2=y at b;cases b)
   |aV _ _ _ _=>exact absurd k (λb=>by generalize a.eval (i,x).2=y at b;cases b)
   |eP _ _ _ _=>exact absurd k (λb=>by generalize a.eval (i,x).2=y at b;cases b)
  have V:=A.put G E F (by omega) M;have W:=jP sz (show i+1<=es.length from F);rw[iT,ov]at W;obtain⟨z,X,Y,Z⟩:=Z4 r _ ea (rg bK (i*sz) (a.eval x).cells.toList) h (λp hp=>D p (by simp[hp])) V (by rw[MC];simpa using C);refine⟨z,?_,Y,by rw[Z,MC]⟩;simp only[hN];rw[Z8 (λi=>some (i*sz,sz)) bK i (i*sz) sz (a.eval x) _ rfl (by simpa[E] using G) (by omega)];exact X;simp at h;simp at h
theorem adh{ev:Operand->aT}{ob:cT}{sz:Nat}:∀(ps:List (Nat×Operand)) (es ea:l7),mM ev ob sz es ps=some ea->∃b,v7 ev ob (ps.map (·.2))=some b
 |[],_,_,_=>⟨[],rfl⟩
 |(i,x)::r,es,ea,h=>by simp only[mM]at h;split at h;rename_i new d;split at h;simp only[AR]at d;obtain⟨q,j,_⟩:=d;obtain⟨b,k⟩:=adh r _ ea h;exact⟨q::b,by simp only[hN,v7,j,k]⟩;simp at h;simp at h
theorem adg{ev:Operand->aT}{ob:cT}:∀(xs:List Operand) (d:eb),v7 ev ob xs=some d->∀(j:Nat) (x:Operand),xs[j]? =some x->∃q,jb ob (ev x)=some q/\d[j]? =some q
 |[],_,_,j,x,b=>by simp at b
 |y::ys,d,h,j,x,b=>by
  simp only[v7]at h;split at h;rename_i q i k l;cases h;cases j with
  |zero=>simp at b;subst b;exact⟨q,k,rfl⟩
  |succ j=>exact adg ys i l j x (by simpa using b)
  simp at h
theorem axR(zero:List Value)(m k:Nat)(b:k<m)(d:0<zero.length):(((Array.range m).map (zero.toArray[· %zero.toArray.size]!)))[k]? =zero[k%zero.length]? :=by have h:k%zero.length<zero.length:=u5 _ d;simp[b,getElem!_def,fo h]
theorem Yu{t:Nat}{parts:Array (Nat×Operand)}(h:cL gl ph n B O g s a w)(ho:o.op= .buildSlice t len parts)(N:P.underlying t=some (.slice e))(r:y3 P e sz zero)
 (bd:0<sz)(bx:len*sz<=16777216)(R:parts.toList.all (λp=>c6 p.2)=true)(u:mM (eX s.aI) s.bC sz (List.replicate len (zero.map aT.bo)) parts.toList=some es):
 ∃c8 bK,cL gl ph n B O c8 ⟨s.aI,fE s.bC (parts.toList.flatMap λp=>Hf.jN s.bC (eX s.aI p.2))⟩ a w/\eM B O g.af w c8.af w/\kG s.bC (fE s.bC (parts.toList.flatMap λp=>Hf.jN s.bC (eX s.aI p.2)))/\
  bK.size=len*sz/\nF (fM c8.af w) sz es bK/\es.length=len/\(execOp a.eval o).run P w= .ok (.value (.slice (some ⟨w.heap.size,0,none⟩) es.length len)) (w.alloc (.cells bK e)):=by
 obtain⟨i,z,hi,S,T,C,D,V⟩:=r;have E:es.length=len:=by rw[Z3 u];simp
 obtain⟨W,F⟩:=adh _ _ _ u;obtain⟨c8,g9,X,b1,G,b2,Y⟩:=cL.avT (parts.toList.map (·.2)) W g s h (kG.refl _) (by simpa[List.all_map] using R) F;have Z:(parts.toList.map (·.2)).flatMap (λx=>Hf.jN s.bC (eX s.aI x))=parts.toList.flatMap λp=>Hf.jN s.bC (eX s.aI p.2):=by rw[sx]
 rw[Z]at g9 G;let b:Array Value:=(Array.range (len*sz)).map (zero.toArray[· %zero.toArray.size]!);have H:b.size=len*sz:=by simp[b]
 have al:nF (fM c8.af w) sz (List.replicate len (zero.map aT.bo)) b:=by
  refine⟨λk cs l=>?_,λk j cs q l d=>?_⟩;have:=eH l;simp at this;rw[this.2];simpa using D;have I:=eH l;simp at I;obtain⟨_,rfl⟩:=I;have ar:k<len:=by have:=(g8.1 l).1;simpa using this
  simp only[lx,jG]at d;obtain⟨v,y,rfl⟩:=d;have a1:j<sz:=by have:=(g8.1 y).1;omega
  have J:iS v=true:=kg.1 V v (eH y);have a2:k*sz+j<len*sz:=by have:=jP sz (show k+1<=len from ar);rw[iT,ov]at this;omega
  refine⟨v,?_,J,.bo J⟩;simp only[b];rw[axR zero _ _ a2 (by omega),D,(anw a1).2];exact y
 obtain⟨bK,L,hb,hc⟩:=Z4 (w:=w) (a:=a) (c:=c8.af) parts.toList _ es b u (λp hp q hq=>by obtain⟨j,d⟩:=yM.1 hp;obtain⟨q',M,h2⟩:=adg _ _ F j p.2 (by simp[d]);rw[hq]at M;cases M;exact Y j q p.2 h2 (by simp[d])) al (by simp[H])
 refine⟨c8,bK,g9,X,G,hc.trans H,hb,E,?_⟩;have a3:z.cells=zero.toArray:=by rw[<-T]
 have hm:(parts.map λ(x:Nat×Operand)=>(x.1,a.eval x.2)).toList=parts.toList.map λp=>(p.1,a.eval p.2):=by simp
 have a4:¬(len*i.size>16777216):=by rw[C];omega
 simp only[execOp,ho,Instr.buildSlice,fy,i7 N,fU,run_sizeOf hi];have a5:(2:Nat)^24=16777216:=by decide
 rw[a5,dU a4,hm,C,E];by_cases A:len*sz=0;have r:b=(Array.range (len*sz)).map ((#[]:Array Value)[· % (#[]:Array Value).size]!):=by apply yL;simp[b,A]
 rw[dr A];simp only[fy,g7,fU];rw[<-r,L];simp only[newRow,fy,run_newObj,g7,fU];rw[dU A];simp only[fy,g7,fU,HC hi S,a3];have:Instr.fill (λi=>some (i*sz,sz)) (Array.map (λx=>zero.toArray[x%zero.toArray.size]!) (Array.range (len*sz))) (parts.toList.map λp=>(p.1,a.eval p.2))=some bK:=L;rw[this];simp only[newRow,fy,run_newObj,g7,fU]
theorem av3{ps:List (Nat×Operand)}{bL:Bool}:iL gl ph n B O g s a w P o K Q bs (.oN e sz zero len ps bL):=by intro p us h hd j d k;obtain⟨t,parts,ho,_,l,q,r,i,u,x⟩:=j;subst r;simp only[c9,jG,h4]at d;obtain⟨es,y,rfl,rfl⟩:=d;obtain⟨c8,bK,g9,z,A,C,D,E,F⟩:=Yu h ho l q i u x y;have G:((fE s.bC (parts.toList.flatMap λp=>Hf.jN s.bC (eX s.aI p.2))) (bs+o.dst.getD 0)).cH=(s.bC (bs+o.dst.getD 0)).cH:=A.cH _;refine AA (w':=w.alloc (.cells bK e)) g9 hd (bs+o.dst.getD 0) len e sz es bL bK F rfl rfl rfl rfl C (by omega) (by simp only[maxLen];have:len<=len*sz:=Nat.le_mul_of_pos_right _ i;omega) D ?_;intro g' H w' b I;refine k g' H w' ?_ (z.trans I);rw[G]at b;rw[wq];simp only[fE];rw[E]at b;exact b
end
end
section
variable{x y:Array Value}{c:FuncId}{f:Operand}{args:List Operand}{ob cN:cT}{p d:aT}{v:Value}{g':cx}{ps:eb}{us:nH}
section
variable{P:Program}{n B bs:Nat}{O:Nat->Prop}{gl:eh}{ph:cx×cT×World×List Deferred}{g:cx}{s:cK}{a:Act}{w w':World}{o:Oper}{K:Act->World->Prop}{Q:Exit->Act->World->Prop}
theorem Yz:∀{es:l7}{l:List UInt8},xv es=some l->∃b:List Int,es=b.map (λm=>[aT.bo (.int .u8 m)])/\l=b.map (λm=>UInt8.ofNat m.toNat)
 |[],l,h=>by simp only[xv,dN]at h;subst h;exact⟨[],rfl,rfl⟩
 |cs::r,l,h=>by unfold xv at h;split at h;rename_i e;cases e;rename_i m j e;cases e;simp only[jG]at h;obtain⟨l',i,rfl⟩:=h;obtain⟨b,rfl,rfl⟩:=Yz i;exact⟨m::b,rfl,rfl⟩;simp at h
theorem foldl_push_bytes:∀(e:List Int) (b:ByteArray),e.foldl (λr m=>r.push (UInt8.ofNat m.toNat)) b=⟨(b.data.toList++e.map (λm=>UInt8.ofNat m.toNat)).toArray⟩
 |[],b=>by simp
 |m::e,b=>by rw[List.foldl_cons,foldl_push_bytes e];simp[ByteArray.push]
theorem avY{x:Operand}:iL gl ph n B O g s a w P o K Q bs (.qI x):=by
 intro p us h hd E r F;obtain⟨t1,t2,e,ho,t,z,A,G⟩:=E;simp only[c9,jG,h4,AR]at r;obtain⟨l,⟨es,H,I⟩,rfl,rfl⟩:=r;obtain⟨b,rfl,rfl⟩:=Yz I;refine g6 h hd (v:= .string ⟨(b.map (λm=>UInt8.ofNat m.toNat)).toArray⟩) ?_ (.bo rfl) F;rcases h.gO G H with⟨i,k⟩|⟨q,J,hz,i,k,L,X,Y,M⟩;have N:b=[]:=by simpa using k
 subst N;simp only[execOp,ho,i,fy,run_convert_bytes_string w t1 t2 e none 0 0 t z A,Conv.bytesToString,g7,fU];rfl;have R:hz=b.map (Value.int .u8):=by apply vc;intro j;by_cases C:j<b.length;obtain⟨u,D,Z,S⟩:=M j 0 [.bo (.int .u8 b[j])] (.bo (.int .u8 b[j])) (by simp[C]) rfl;have:=S.fY.1;subst this;simp only[Nat.mul_one,rq]at D;rw[D];simp[C];rw[rt (by rw[k];simp;omega),rt (by simp;omega)]
 subst R;have T:=run_loadCells_list (P:=P) w q (b.map (Value.int .u8)) L;have V:(b.map λm=>[aT.bo (.int .u8 m)]).length=(b.map (Value.int .u8)).length:=by simp
 rw[V]at i;have W:=run_bytesToString (P:=P) w q (b.map (Value.int .u8)).length J b T;simp only[execOp,ho,i,fy,run_convert_bytes_string w t1 t2 e (some q) _ _ t z A,W,g7,fU];rw[foldl_push_bytes];simp[ByteArray.empty,ByteArray.emptyWithCapacity];rfl
theorem adS{cR:List Value}{b:Array TypeId}(ho:o.op= .call {callee:= .value f,args:=args.toArray,argTypes:=b})(e:a.eval f= .func (.func c) #[] cR.toArray)(h:Enters P c):
 (execOp a.eval o).run P w= .ok (.enter c (args.map a.eval++cR).toArray) w:=by
 obtain⟨fn,i,j,k⟩:=h;simp only[execOp,ho,resolve,e,Deferred.ofValue,fy,g7,fU,invoke,callFunc,program,Sem.run,i,j,k,io,hV];simp
theorem dZ.Sy{g:cx}{w:World}(h:fM g.af w p v):dZ g w ob p v:= .inr (.inl (.inl h))
theorem cL.heap(h:cL gl ph n B O g s a w):n2 g w s.bC:=⟨h.h1,h.inj,λk b=>(h.hP k b).2⟩
theorem cL.xw(h:cL gl ph n B O g s a w)(e:i9 g w s.bC g' w' cN):cL gl ph n B O g' ⟨s.aI,cN⟩ a w'/\eM B O g.af w g'.af w':=by
 have z:=h.jJ;have t:∀b,b<B->¬O b->¬gM g s.bC b:=by rintro b q j ⟨k,r,rfl⟩;rcases(h.hP k r).1 with l|l;omega;exact j l
 refine⟨⟨h.size,h.defers,jv h.jJ e.ext.size,λi=>(h.aI i).step e.ext e.step,e.heap.h1,e.heap.inj,λk r=>⟨?_,e.heap.lt k r⟩,⟨h.mO.1.trans e.step,h.mO.2.trans e.ext⟩,gl.mono e.ext h.oR⟩,
  ⟨e.iB.os,e.iB.tape,e.iB.output,e.iB.size,λb q j=>e.iB.block b (by omega) (t b q j),λb q j=>e.iB.af b (by omega) (t b q j)⟩⟩
 rcases e.src k r with l|⟨k0,u,l⟩;exact .inl (by omega);rw[<-l];exact(h.hP k0 u).1
theorem i9.frame{g:cx}(i:n2 g w ob)(e:i9 g w tk g' w' tk):i9 g w ob ⟨g'.af,g.cr,g.cap⟩ w' ob:=by
 have l:∀b,¬gM g tk b:=λb j=>by obtain⟨k,h,_⟩:=j;exact h
 have q:gb g ob ⟨g'.af,g.cr,g.cap⟩ ob:=gb.refl g ob;refine⟨⟨e.iB.os,e.iB.tape,e.iB.output,e.iB.size,λb j _=>e.iB.block b j (l b),λb j _=>e.iB.af b j (l b)⟩,e.ext,⟨λk=>?_,i.inj,λk h=>pi (i.lt k h) e.ext.size⟩,q,λk h=> .inr ⟨k,h,rfl⟩⟩;exact l5.ed (g':=⟨g'.af,g.cr,g.cap⟩) e.ext q (λh=>⟨rfl,rfl,e.iB.af _ (i.lt k h) (l _),e.iB.block _ (i.lt k h) (l _)⟩) (i.h1 k)
theorem dZ.acA{g cX:cx}{w:World}(h:dZ g w tk p v)(k:p.dl=[])(l:cX.af=g.af):dZ cX w ob p v:=by
 have A:∀{q:aT}{u:Value},q.key=[]->g2 g w tk q u->g2 cX w ob q u:=by intro q u e b;rcases b with b|b;exact .inl (by rw[l];exact b);exact absurd e b.x3
 rcases h with h|h|⟨cs,vs,rfl,rfl,t,r⟩|⟨cs,vs,rfl,rfl,t,r⟩|h;exact .inl h;refine .inr (.inl ?_);rcases h with h|h;exact .inl (by rw[l];exact h);exfalso;cases p with
 |agg=>exact h.elim
 |bD=>exact h.elim
 |_=>exact h.x3 k
 simp only[aT.dl,aT.fe,wu]at k;exact .inr (.inr (.inl ⟨cs,vs,rfl,rfl,t,λj q u e b=>⟨(r j q u e b).1,A (k q (eH e)) (r j q u e b).2⟩⟩));simp only[aT.dl,aT.fe,wu]at k;refine .inr (.inr (.inr (.inl ⟨cs,vs,rfl,rfl,t,λj q u e b=>?_⟩)));have z:=k q (eH e);rcases r j q u e b with i|⟨hu,C,rfl,D,s3,s4⟩;left;rcases i with i|i;exact .inl (by rw[l];exact i);exfalso;cases q with
 |agg=>exact i.elim
 |_=>exact i.x3 z
 right;simp only[aT.fe,wu]at z;exact⟨hu,C,rfl,D,s3,λj q u e b=>⟨(s4 j q u e b).1,A (z q (eH e)) (s4 j q u e b).2⟩⟩;exact .inr (.inr (.inr (.inr (by rw[l];exact h))))
theorem anK{v:Value}(h:iS (.func (.func c) x y)=true):x= #[]/\y= #[]:=by
 match x,y,h with
 |⟨[]⟩,⟨[]⟩,_=>exact⟨rfl,rfl⟩
theorem n2.none{g:cx}{w:World}:n2 g w tk:=⟨λ_=>trivial,λ_ _ h=>h.elim,λ_ h=>h.elim⟩
theorem av5(h:cL gl ph n B O g s a w)(hd:∀t,o.dst=some t->t<n)
 (l:pR P o (.call f args))(q:eX s.aI f= .bo (.func (.func c) x y))(r:jE (eX s.aI) s.bC [] args=some (ps,us))
 (u:wH gl P c ps d)(z:qD gl ph n B O g w ⟨put s.aI o.dst d,fE s.bC us⟩ K):o.wp P a w K Q:=by
 obtain⟨W,ho,A,C⟩:=l;have j:=h.ga A;rw[q]at j;obtain⟨D,E⟩:=j.fY;obtain⟨rfl,rfl⟩:=anK (v:=a.eval f) E;obtain⟨⟨F,G⟩,H⟩:=u;obtain⟨c8,g9,I,X,Y,J,L⟩:=cL.HG args [] ps us g s h (kG.refl _) C r;have M:=adS (P:=P) (w:=w) (cR:=[]) ho D F;refine aeX M ((G c8 w (args.map a.eval++[]) g9.oR n2.none ⟨by simp[J],λi p v N k=>?_⟩).mono ?_);simp only[qy,lx,jG]at k;obtain⟨x,R,rfl⟩:=k;rcases L i p x N R with b|⟨b,_⟩;exact dZ.Sy b;simp at b;rintro e Z ⟨v,g',rfl,S,T⟩;refine⟨v,rfl,?_⟩;obtain⟨gZ,V⟩:=g9.xw (i9.frame g9.heap S);exact z _ _ _ (gZ.put o.dst hd (T.acA H rfl)) (I.trans V)
theorem awh{C:List Bool}{cR:eb}(h:cL gl ph n B O g s a w)(hd:∀t,o.dst=some t->t<n)
 (I:pR P o (.hK f args C))(b:lO (eX s.aI f)=some (c,cR))(J:jE (eX s.aI) s.bC C args=some (ps,us))
 (L:lM gl P c (ps++cR) (fE s.bC us) d cN)(M:qD gl ph n B O g w ⟨put s.aI o.dst d,cN⟩ K):o.wp P a w K Q:=by
 obtain⟨bx,ho,N,F⟩:=I;obtain⟨R,S⟩:=L;obtain⟨c8,g9,T,b1,b2,G,V⟩:=cL.HG args C ps us g s h (kG.refl _) F J;have l:=g9.ga N;have W:∃r:List Value,a.eval f= .func (.func c) #[] r.toArray/\cR.length=r.length/\∀(j:Nat) (q:aT) (u:Value),cR[j]? =some q->r[j]? =some u->dZ c8 w (fE s.bC us) q u:=by
  change dZ c8 w _ (eX s.aI f) _ at l;cases D:eX s.aI f with
  |ey f' cc=>
   rw[D]at l b;simp only[lO,dN,h4]at b;obtain⟨rfl,rfl⟩:=b;obtain⟨_,vs,X,Y,Z⟩:=l.Kj;refine⟨vs,X,Y,λj q u hq al=>?_⟩;rcases Z j q u hq al with⟨rfl,rfl⟩|z;exact dZ.bo rfl;refine .inr (.inl (.inr ?_));cases q with
   |ey=>exact z.elim
   |_=>exact z
  |bo v=>rw[D]at l b;obtain⟨ar,cn⟩:=l.fY;unfold lO at b;split at b;rename_i f0 E;cases E;cases b;exact⟨[],ar,rfl,by simp⟩;rename_i E;cases E;cases b
  |_=>rw[D]at b;simp[lO]at b
 obtain⟨r,a1,a2,a3⟩:=W;have a4:=adS (P:=P) (w:=w) ho a1 R;refine aeX a4 ((S c8 w (args.map a.eval++r) g9.oR g9.heap ⟨by simp[G,a2],λi p v A k=>?_⟩).mono ?_);by_cases hi:i<ps.length;rw[ve hi]at A;rw[ve (by simp;omega)]at k;simp only[lx,jG]at k;obtain⟨x,H,rfl⟩:=k;rcases V i p x A H with z|⟨_,rfl⟩;exact dZ.Sy z;exact g9.ga (kg.1 F x (eH H));rw[wv (by omega)]at A;rw[wv (by simp;omega)]at k;simp only[mw,<-G]at k;exact a3 _ p v A k;rintro e cs ⟨v,g',rfl,hA,a5⟩;refine⟨v,rfl,?_⟩;obtain⟨gZ,bd⟩:=g9.xw hA;exact M _ _ _ (gZ.put o.dst hd a5) (T.trans bd)
end
end
section
variable{l r clock:Nat}{d:TypeDesc}{x k:Value}{z:TypeId}{bK:Array MapEntry}{es:List (Value×Value)}{m:Operand}
section
variable{P:Program}{n B bs:Nat}{O:Nat->Prop}{gl:eh}{ph:cx×cT×World×List Deferred}{g:cx}{s:cK}{a:Act}{w w':World}{o:Oper}{K:Act->World->Prop}{Q:Exit->Act->World->Prop}
theorem awn{f:Nat}{cR:List Operand}:iL gl ph n B O g s a w P o K Q bs (.sf f cR):=by
 intro p us h hd J b A;obtain⟨ho,L⟩:=J;have C:(execOp a.eval o).run P w= .ok (.value (.func (.func f) #[] (cR.map a.eval).toArray)) w:=by simp[execOp,ho,Instr.makeFunc]
 simp only[c9]at b;split at b;rename_i M;cases b;have:cR=[]:=AO.1 M;subst this;exact g6 h hd C (.bo rfl) A;split at b;rename_i D;cases b;refine g6 h hd C (.inr (.inl (.inr ?_))) A;simp only[Ki,cC,kg,nC]at D;obtain⟨N,E,R,S⟩:=D;refine⟨?_,cR.map a.eval,rfl,by simp,λj q u F G=>?_⟩;intro H;rw[wu]at H;have:=H E R;cases E<;>simp_all [aT.cJ];simp only[lx,jG]at F G;obtain⟨x,i,rfl⟩:=F;obtain⟨x',I,rfl⟩:=G;rw[i]at I;cases I;have e:=h.ga (kg.1 L x (eH i));have c:=N (eX s.aI x) (ia.2 ⟨x,eH i,rfl⟩);cases t:eX s.aI x with
 |aQ k bZ off=>rw[t]at e;exact .inr (e.kz (by simp[aT.key,aT.cJ]))
 |bo v=>rw[t]at e c;unfold Ga at c;split at c;rename_i y;cases y;rename_i y;cases y;exact .inl ⟨rfl,e.fY.1⟩;cases c
 |_=>rw[t]at c;simp[Ga]at c
 cases b
theorem awo:iL gl ph n B O g s a w P o K Q bs .qZ:=by
 intro p us h hd e c i;obtain⟨t,ho,_⟩:=e;have j:(execOp a.eval o).run P w= .ok (.value (.map (some w.heap.size))) (w.alloc (.map #[] 0)):=by simp[execOp,ho,Instr.makeMap,run_newObj]
 simp only[c9]at c;cases c;generalize bs+o.dst.getD 0=d at*;have b:(w.alloc (.map #[] 0)).heap=w.heap.push (.map #[] 0):=rfl;have q:(s.bC d).cH<(Obj.map ((s.bC d).cH+1) []).cH:=Nat.lt_succ_self _;have u:=h.new (w':=w.alloc (.map #[] 0)) d 0 (.map ((s.bC d).cH+1) []) q b (by refine⟨#[],0,?_,rfl,?_,rfl,by simp[NC]⟩;simp only[cx.new,jc];exact Rs b;simp[cx.new,dk])
 refine AJ j (i _ _ _ (u.put o.dst hd (p:= .fX d ((s.bC d).cH+1)) (v:= .map (some w.heap.size)) (.inr (.inl (.inr ⟨by simp[dk,Obj.cH],_,rfl,λes _=>by simp[cx.new,dk]⟩)))) (eM.push h b rfl rfl rfl))
theorem YA(a b:ByteArray):(a==b)=(a.data.toList==b.data.toList):=by rw[n0,rr (a:=a.data.toList)];show(a.data==b.data)=true↔_;rw[rr];exact⟨λh=>by rw[h],λh=>Array.toList_inj.1 h⟩
theorem avJ(hd:te l d=true)(c:mf l x=true)(e:k6 x k=true):Instr.sameNow d x k=some (re x k):=by
 cases x with
 |int j a=>
  cases k with
  |int h b=>
   simp only[k6,rr]at e;subst e
   match l,c with
   |0,_=>cases d<;>simp_all [Instr.sameNow,re,te]
   |1,c=>simp[mf]at c
   |2,c=>simp[mf]at c
   |_+3,c=>simp[mf]at c
  |_=>simp[k6]at e
 |string a=>
  cases k with
  |string b=>
   match l,c with
   |0,c=>simp[mf]at c
   |1,_=>cases d<;>simp_all [Instr.sameNow,re,te,YA]
   |2,c=>simp[mf]at c
   |_+3,c=>simp[mf]at c
  |_=>simp[k6]at e
 |bool a=>
  cases k with
  |bool b=>
   match l,c with
   |0,c=>simp[mf]at c
   |1,c=>simp[mf]at c
   |2,_=>cases d<;>simp_all [Instr.sameNow,re,te]
   |_+3,c=>simp[mf]at c
  |_=>simp[k6]at e
 |_=>simp[mf]at c
def oQ:List (Value×Value)->Value->Nat->Option (Nat×Value)
 |[],_,_=>none
 |(k,v)::r,x,i=>if re x k then some (i,v) else oQ r x (i+1)
theorem aae{l:Nat}{d:TypeDesc}{x:Value}(hd:te l d=true)(b:mf l x=true):∀(es:List MapEntry) (i:Nat),(∀e∈es,k6 x e.key=true)->
 Instr.findNow d x es i=some (oQ (es.map λe=>(e.key,e.val)) x i)
 |[],_,_=>rfl
 |e::es,i,h=>by simp only[Instr.findNow,hN,oQ];rw[avJ hd b (h e (by simp))];cases re x e.key;simp only[io,hV];exact aae hd b es (i+1) (λe' c=>h e' (by simp[c]));rfl
theorem aab:∀(es:List (Value×Value)) (x:Value) (i:Nat),(oQ es x i).map (·.2)=sd es x
 |[],_,_=>rfl
 |(k,v)::r,x,i=>by simp only[oQ,sd];split;rfl;exact aab r x (i+1)
theorem aac:∀(es:List (Value×Value)) (x y:Value) (i:Nat),oQ es x i=none->mg es x y=es++[(x,y)]
 |[],_,_,_,_=>rfl
 |(k,v)::r,x,y,i,h=>by simp only[oQ]at h;split at h;cases h;rename_i b;simp only[mg,dU b,wx];rw[aac r x y (i+1) h]
theorem aad:∀(es:List (Value×Value)) (x y v:Value) (i j:Nat),oQ es x i=some (j,v)->i<=j/\j-i<es.length/\mg es x y=es.set (j-i) (x,y)/\∃k,es[j-i]? =some (k,v)/\re x k=true
 |[],_,_,_,_,_,h=>by cases h
 |(k,u)::r,x,y,v,i,j,h=>by
  simp only[oQ]at h;split at h;rename_i b;cases h;refine⟨dn _,by simp,?_,k,by simp,b⟩;simp[mg,b];rename_i b;obtain⟨A,C,c,p,q,t⟩:=aad r x y v (i+1) j h;have e:j-i=(j-(i+1))+1:=by omega
  refine⟨by omega,by simp;omega,?_,p,?_,t⟩;simp only[mg,dU b];rw[e,List.set_cons_succ,<-c];rw[e,AU];exact q
theorem avH(c:k6 x k=true)(e:re x k=true):Instr.sameBits 10000 k x=true:=by
 cases x with
 |int j a=>
  cases k with
  |int h b=>simp_all [k6,re,Instr.sameBits]
  |_=>simp[k6]at c
 |string a=>
  cases k with
  |string b=>simp only[re]at e;simp only[Instr.sameBits];rw[YA];simp only[rr]at e ⊢;exact e.symm
  |_=>simp[k6]at c
 |bool a=>
  cases k with
  |bool b=>simp_all [k6,re,Instr.sameBits]
  |_=>simp[k6]at c
 |_=>simp[k6]at c
theorem S6(b:P.underlying z=some d)(hd:te l d=true)(e:Bool):(Instr.checkKey e 10000 z x).run P w= .ok () w:=by
 rw[show(10000:Nat)=9999+1 from rfl,Instr.checkKey];simp only[fy,i7 b,fU]
 match l,d,hd with
 |0,.int _,_=>rfl
 |1,.string,_=>rfl
 |2,.bool,_=>rfl
theorem Mx(h:w.heap[r]? =some (.map bK clock)):(getObj r).run P w= .ok (.map bK clock) w:=by simp only[getObj,Sem.run,h]
theorem afT(h:bK.toList.map (λe=>(e.key,e.val))=es)(b:es.all (λe=>k6 x e.1)=true):∀e∈bK.toList,k6 x e.key=true:=by intro e c;rw[<-h]at b;simp only[List.all_map,kg]at b;exact b e c
theorem S7(b:P.underlying z=some d)(hd:te l d=true)(c:mf l x=true)
 (h:bK.toList.map (λe=>(e.key,e.val))=es)(i:es.all (λe=>k6 x e.1)=true):(Instr.findKey z x bK.toList).run P w= .ok (oQ es x 0) w:=by
 simp only[Instr.findKey,fy,i7 b,fU,aae hd c bK.toList 0 (afT h i),h,g7]
theorem awm{E:Bool}{zero:Value}{k:Operand}:iL gl ph n B O g s a w P o K Q bs (.pC l E zero m k):=by
 intro p us h hd Y C G;obtain⟨t,z,cY,d,i,ho,Z,J,L,hi,al,M,hm,ar⟩:=Y;have N:=h.ga hm;have R:=h.ga ar;simp only[c9]at C;split at C;rename_i r bZ x a1 a2;rw[a1]at N;rw[a2]at R;obtain⟨a3,c0⟩:=R.fY;obtain⟨_,b,a4,a5⟩:=N.kz (by simp[aT.key,aT.cJ]);split at C;rename_i c1 es S;split at C;rename_i hc;obtain⟨rfl,hx,bd⟩:=hc;have T:=h.h1 r;rw[S]at T;obtain⟨bK,clock,bx,b1,eE,eV⟩:=T;have b2:=a5 es S;subst b2;have D:(Instr.lookup t (a.eval m) (a.eval k) E).run P w= .ok (if E then .tuple #[((oQ es x 0).map (·.2)).getD zero,.bool (oQ es x 0).isSome] else((oQ es x 0).map (·.2)).getD zero) w:=by
  simp only[Instr.lookup,fy,i7 Z,fU,a4,Mx bx,g7,S6 J L,a3,S7 J L hx b1 bd];cases hf:oQ es x 0 with
  |none=>simp[HC hi al]
  |some q=>simp
 have H:∀v,(Instr.lookup t (a.eval m) (a.eval k) E).run P w= .ok v w->(execOp a.eval o).run P w= .ok (.value v) w:=by intro v hv;simp only[execOp,ho,fy,hv,fU,g7]
 have V:=aab es x 0;rw[V]at D;have cc:(oQ es x 0).isSome=(sd es x).isSome:=by rw[<-V];simp
 rw[cc]at D;cases I:sd es x with
 |some y=>
  rw[I]at C D;simp only[dN,h4]at C;obtain⟨rfl,rfl⟩:=C;have W:iS y=true:=by
   have:∀(es:List (Value×Value)),sd es x=some y->∃k,(k,y)∈es:=by
    intro es;induction es with
    |nil=>intro F;cases F
    |cons e r cn=>intro F;obtain⟨X,v'⟩:=e;simp only[sd]at F;split at F;cases F;exact⟨X,by simp⟩;obtain⟨k2,cs⟩:=cn F;exact⟨k2,by simp[cs]⟩
   obtain⟨X,cu⟩:=this es I;exact kg.1 eV.1 _ cu
  cases E with
  |false=>exact g6 h hd (H _ D) (.bo W) G
  |true=>
   refine g6 h hd (H _ D) ?_ G;refine .inr (.inr (.inr (.inl ⟨_,[y,.bool true],rfl,rfl,rfl,λj q u c A=>?_⟩)))
   match j,c,A with
   |0,c,A=>simp at c A;subst c;subst A;exact .inl (.inl (.bo W))
   |1,c,A=>simp at c A;subst c;subst A;exact .inl (.inl (.bo rfl))
 |none=>
  rw[I]at C D;simp only[dN,h4]at C;obtain⟨rfl,rfl⟩:=C;cases E with
  |false=>exact g6 h hd (H _ D) (.bo M) G
  |true=>
   refine g6 h hd (H _ D) ?_ G;refine .inr (.inr (.inr (.inl ⟨_,[zero,.bool false],rfl,rfl,rfl,λj q u c A=>?_⟩)))
   match j,c,A with
   |0,c,A=>simp at c A;subst c;subst A;exact .inl (.inl (.bo M))
   |1,c,A=>simp at c A;subst c;subst A;exact .inl (.inl (.bo rfl))
 cases C;cases C;cases C
theorem S8{x:Go.Obj}(h:w.heap[r]? =some (.map bK clock)):(setObj r x).run P w= .ok () {w with heap:=w.heap.setIfInBounds r x}:=by simp only[setObj,Sem.run,h]
theorem awq{k v:Operand}:iL gl ph n B O g s a w P o K Q bs (.pD l m k v):=by
 intro p us h hd hr D hk;obtain⟨t,z,fl,d,ho,ht,T,V,hm,J,c0⟩:=hr;have em:=h.ga hm;have a2:=h.ga J;have ev:=h.ga c0;simp only[c9]at D;split at D;rename_i r bZ x y c1 c2 c3;rw[c1]at em;rw[c2]at a2;rw[c3]at ev;obtain⟨a3,fn⟩:=a2.fY;obtain⟨a4,fp⟩:=ev.fY;obtain⟨_,b,a5,c4⟩:=em.kz (by simp[aT.key,aT.cJ]);split at D;rename_i fr es W;split at D;rename_i C;obtain⟨rfl,hx,al,bd⟩:=C;cases D;have X:=h.h1 r;rw[W]at X;obtain⟨bK,clock,Y,F,eE,eV⟩:=X;have c5:=c4 es W;subst c5;have L:(s.bC r).gg:=by rw[W];trivial
 obtain⟨G,M,bx,b1⟩:∃G M,(Instr.mapUpdate t (a.eval m) (a.eval k) (a.eval v)).run P w= .ok () {w with heap:=w.heap.setIfInBounds (g.cr r) (.map G M)}/\G.toList.map (λe=>(e.key,e.val))=mg es x y/\NC G M:=by
  cases Z:oQ es x 0 with
  |none=>refine⟨bK.push {key:=x,val:=y,born:=clock},clock+1,?_,?_,?_⟩;simp only[Instr.mapUpdate,fy,i7 ht,fU,a5,Mx Y,S6 T V,a3,a4,S7 T V hx F al,Z,S8 Y];rw[aac es x y 0 Z];simp[F];refine⟨λe A=>?_,?_⟩;simp only[Array.toList_push,fq,List.mem_singleton]at A;rcases A with A|rfl;exact Nat.lt_succ_of_lt (eV.2.1 e A);exact Nat.lt_succ_self _;simp only[Array.toList_push,oz,hN,ny];refine List.nodup_append.2 ⟨eV.2.2,by simp,λb N c C=>?_⟩;obtain⟨e,A,rfl⟩:=ia.1 N;simp only[List.mem_singleton]at C;subst C;exact Nat.ne_of_lt (eV.2.1 e A)
  |some q=>
   obtain⟨i,v'⟩:=q;obtain⟨ar,h2,h3,u,R,dd⟩:=aad es x y v' 0 i Z;simp only[Ie]at h2 h3 R;have fs:bK.size=es.length:=by rw[<-F];simp
   have hi:i<bK.size:=by omega
   have H:bK[i].key=u:=by
    rw[<-F]at R;simp only[lx,jG]at R;obtain⟨e,A,I⟩:=R;have:bK[i]? =some e:=by simpa using A
    rw[In hi]at this;cases this;cases I;rfl
   have ds:Instr.sameBits 10000 u x=true:=avH (by have:=kg.1 al (u,v') (eH R);exact this) dd
   have b2:(bK.modify i λe=>{e with key:=x,val:=y}).toList.map (·.born)=bK.toList.map (·.born):=by apply vc;intro j;simp only[lx,AV,DP];by_cases S:i=j;subst S;cases bK[i]? <;>simp;simp[S]
   refine⟨bK.modify i λe=>{e with key:=x,val:=y},clock,?_,?_,⟨λe A=>?_,by rw[b2];exact eV.2.2⟩⟩;simp only[Instr.mapUpdate,fy,i7 ht,fU,a5,Mx Y,S6 T V,a3,a4,S7 T V hx F al,Z,In hi,jH,Option.getD_some,H,Instr.keyThatStays,ds,gF,g7,S8 Y];rw[h3,<-F];apply vc;intro j;simp only[lx,DV,mw,Array.length_toList,AV,DP];by_cases S:i=j;subst S;simp[hi];simp[S];have:e.born∈bK.toList.map (·.born):=by rw[<-b2];exact List.mem_map_of_mem A
   obtain⟨e',dt,dz⟩:=ia.1 this;rw[<-dz];exact eV.2.1 e' dt
 let E:World:={w with heap:=w.heap.setIfInBounds (g.cr r) (.map G M)};have cc:=(h.hP r L).2;have a1:∀b,b≠g.cr r->E.heap[b]? =w.heap[b]? :=by intro b N;show(w.heap.setIfInBounds (g.cr r) _)[b]? =_;rw[AN,dU (λe=>N e.symm)]
 have ee:gA g.af w g.af E:=by refine⟨by simp[E],λ_ _=>dn _,λb i N hi=>?_⟩;by_cases cn:b=g.cr r;subst cn;omega;simp only[World.cell?,a1 b cn]
 have en:gb g s.bC g (dk s.bC r (.map bZ (mg es x y))):=by intro u;by_cases H:u=r;subst H;rw[jc,W];exact⟨dn _,(λ_ C=>by cases C),(λ_ _ _ _ C=>by cases C),λea C=>⟨⟨es,rfl⟩,rfl⟩⟩;rw[h9 _ _ H];exact gb.refl g s.bC u
 have eq:cL gl ph n B O g ⟨s.aI,dk s.bC r (.map bZ (mg es x y))⟩ a E:=by
  refine h.v3 (dk s.bC r (.map bZ (mg es x y))) (· =r) ee en (λu H=>h9 _ _ H) (λu J cs=>?_) (λu J cs=>?_);exact⟨rfl,rfl,rfl,a1 _ (λe=>J (h.inj u r cs L e))⟩;subst J;refine⟨?_,(h.hP u L).1,by simp[E];exact cc,λk2 cu cY=>?_⟩;rw[jc];refine⟨G,M,?_,b1.1,eE,?_,b1.2⟩;show(w.heap.setIfInBounds (g.cr u) _)[g.cr u]? =_;rw[AN,dr rfl,dr cc];have:∀(es:List (Value×Value)),es.all (λe=>iS e.2)=true->(mg es x y).all (λe=>iS e.2)=true:=by
   intro es;induction es with
   |nil=>intro _;simp[mg,bd]
   |cons e r er=>intro I;obtain⟨k2,ft⟩:=e;simp only[u4,cC]at I;simp only[mg];split;simp[bd,I.2];simp[I.1,er I.2]
  exact this es eV.1;rw[h9 _ _ cu]at cY;exactλe=>cu (h.inj k2 u cY L e)
 have ex:eM B O g.af w g.af E:=by refine⟨rfl,rfl,rfl,by simp[E],λb N X=>a1 b ?_,λ_ _ _=>rfl⟩;intro e;subst e;rcases(h.hP r L).1 with ar|ar;omega;exact X ar
 have e0:(execOp a.eval o).run P w= .ok .skip E:=by rcases ho with ho|ho;simp only[execOp,ho,fy,bx,fU,g7];rfl;simp only[execOp,ho,fy,bx,fU,g7];rfl
 exact M8 e0 (hk g _ _ (eq.put o.dst hd (.inl rfl)) ex);cases D;cases D;cases D
end
end
section
variable{ob:cT}{c:List Deferred}
theorem i9.below{g:cx}{w w':World}(h:n2 g w ob)(e:Below w.heap.size w w'):i9 g w ob g w' ob:=by
 have q:gA g.af w g.af w':=⟨e.size,λ_ _=>dn _,λb i p _=>by simp only[World.cell?,e.block b p]⟩;exact⟨⟨e.os,e.tape,e.output,e.size,λb p _=>e.block b p,λ_ _ _=>rfl⟩,q,
  ⟨λk=>l5.ed q (gb.refl g ob) (λj=>⟨rfl,rfl,rfl,e.block _ (h.lt k (by cases ho:ob k<;>simp_all [Obj.gg]))⟩) (h.h1 k),h.inj,λk j=>pi (h.lt k j) e.size⟩,
  gb.refl g ob,λk j=> .inr ⟨k,j,rfl⟩⟩
section
variable{P:Program}{n B bs:Nat}{O:Nat->Prop}{gl:eh}{ph:cx×cT×World×List Deferred}{g:cx}{s:cK}{a:Act}{w w':World}{o:Oper}{K:Act->World->Prop}{Q:Exit->Act->World->Prop}
theorem cL.anG(h:cL gl ph n B O g s a w)(bK:Array Value)(e m:Nat):∃g',cL gl ph n B O g' s a (w.alloc (.cells bK e))/\eM B O g.af w g'.af (w.alloc (.cells bK e))/\gA g.af w g'.af (w.alloc (.cells bK e))/\g'.af w.heap.size=m:=by
 have i6:=i9.below h.heap ((AT _ w).alloc (dn _) (.cells bK e));have p:∀b,b<w.heap.size->dk g.af w.heap.size m b=g.af b:=λb j=>h9 _ _ (by omega);have q:gA g.af w (dk g.af w.heap.size m) (w.alloc (.cells bK e)):=⟨i6.ext.size,λb j=>by rw[p b j];exact dn _,i6.ext.cell⟩;have r:gb g s.bC ⟨dk g.af w.heap.size m,g.cr,g.cap⟩ s.bC:=gb.refl g s.bC;have t:i9 g w s.bC ⟨dk g.af w.heap.size m,g.cr,g.cap⟩ (w.alloc (.cells bK e)) s.bC:=
  ⟨⟨i6.iB.os,i6.iB.tape,i6.iB.output,i6.iB.size,i6.iB.block,λb j _=>p b j⟩,q,
   ⟨λk=>(h.h1 k).ed q r λi=>⟨rfl,rfl,p _ (h.hP k i).2,Below.heap_alloc _ _ _ (h.hP k i).2⟩,h.inj,λk i=>i6.heap.lt k i⟩,r,λk i=> .inr ⟨k,i,rfl⟩⟩
 obtain⟨F,eM⟩:=h.xw t;exact⟨_,F,eM,q,by simp[dk]⟩
theorem awg{e sz len:Nat}{zero:List Value}{ps:List (Nat×Operand)}:iL gl ph n B O g s a w P o K Q bs (.pY e sz zero len ps):=by
 intro p us h hd z x A;obtain⟨t,parts,ho,_,C,D,E,y,F,G⟩:=z;subst E;simp only[c9,jG,h4]at x;obtain⟨es,H,rfl,rfl⟩:=x;obtain⟨c8,bK,g9,I,Y,Z,k,J,L⟩:=Yu h ho C D y F G H;obtain⟨cX,gZ,M,N,R⟩:=g9.anG bK e (len*sz);have S:∀i u,bK[i]? =some u->(w.alloc (.cells bK e)).cell? ⟨w.heap.size,i,none⟩=some u:=λi u T=>by simp only[World.cell?,World.alloc_heap_new,T];rfl
 have V:fM cX.af (w.alloc (.cells bK e)) (.aN sz es) (.slice (some ⟨w.heap.size,0,none⟩) es.length len):=by refine .aN (λi j=>(bK[i*sz+j]?).getD undef) (by omega) (by simp only[maxLen];have:len<=len*sz:=Nat.le_mul_of_pos_right _ y;omega) (by simp) (λ_=>by rw[R,J];omega) k.1 ?_ ?_ ?_;intro i j cs q hi b;obtain⟨u,r,_,_⟩:=k.2 i j cs q hi b;rw[ou,S _ u r,r];rfl;intro i j cs q hi b;obtain⟨u,_,W,_⟩:=k.2 i j cs q hi b;exact W;intro i j cs q hi b;obtain⟨u,r,_,X⟩:=k.2 i j cs q hi b;show fM _ _ q ((bK[i*sz+j]?).getD undef);rw[r];exact X.mono N
 exact AJ L (A cX _ _ (gZ.put o.dst hd (.inr (.inl (.inl V)))) (I.trans M))
section
variable{dB:cx}{l:cT}{d:World}{c0:Nat->Nat}{w0:World}
theorem cL.Mu{g:cx}{s:cK}{a:Act}{w:World}(h:cL gl (dB,l,d,c) n B O g s a w):cL gl (g,s.bC,w,c) n w.heap.size (gM g s.bC) g s a w:=
 ⟨h.size,h.defers,dn _,h.aI,h.h1,h.inj,λk b=>⟨.inr ⟨k,b,rfl⟩,(h.hP k b).2⟩,⟨gb.refl _ _,gA.refl _ _⟩,h.oR⟩
theorem cL.yg{g:cx}{s:cK}{a:Act}{w:World}(h:cL gl (dB,l,d,c) n B O g s a w){b:Nat}(p:b<B)(i:¬O b):¬gM g s.bC b:=by rintro⟨k,j,rfl⟩;rcases(h.hP k j).1 with e|e;omega;exact i e
theorem cL.MZ{p:List Deferred}{g g':cx}{s q:cK}{a r:Act}{w w':World}(h:cL gl (dB,l,d,c) n B O g s a w)(h':cL gl (g,s.bC,w,p) n w.heap.size (gM g s.bC) g' q r w')(e:eM w.heap.size (gM g s.bC) g.af w g'.af w'):
 cL gl (dB,l,d,p) n B O g' q r w'/\eM B O g.af w g'.af w':=by
 have x:=h.jJ;refine⟨⟨h'.size,h'.defers,jv x h'.jJ,h'.aI,h'.h1,h'.inj,λk t=>⟨?_,(h'.hP k t).2⟩,⟨h.mO.1.trans h'.mO.1,h.mO.2.trans h'.mO.2⟩,h'.oR⟩,
  ⟨e.os,e.tape,e.output,e.size,λb i j=>e.block b (by omega) (h.yg i j),λb i j=>e.af b (by omega) (h.yg i j)⟩⟩
 rcases(h'.hP k t).1 with u|⟨k0,y,u⟩;exact .inl (by omega);rw[<-u];exact(h.hP k0 y).1
end
theorem avx{j:TypeId}(h:NH P j)(q r:ByteArray)(e:Bool):(Instr.checkKey e 10000 j (.agg #[.string q,.string r])).run P w= .ok () w:=by
 obtain⟨f1,f2,t,br,dM,fP,u,k,p⟩:=h;have y:∀b i:Value,(part f1.type #[b,i] f1.offset).run P w= .ok b w:=by intro b i;simp[part,yx k,wQ,fP]
 have z:∀b i:Value,(part f2.type #[b,i] f2.offset).run P w= .ok i w:=by intro b i;simp[part,yx p,wQ,u]
 have A:∀x,(Instr.checkKey e 9999 f1.type (.string x)).run P w= .ok () w:=λx=>by rw[show(9999:Nat)=9998+1 from rfl,Instr.checkKey];simp only[fy,i7 k,fU];rfl
 have C:∀x,(Instr.checkKey e 9999 f2.type (.string x)).run P w= .ok () w:=λx=>by rw[show(9999:Nat)=9998+1 from rfl,Instr.checkKey];simp only[fy,i7 p,fU];rfl
 rw[show(10000:Nat)=9999+1 from rfl,Instr.checkKey];simp only[fy,i7 t,fU];simp[br,dM,y,z,A,C]
theorem axd{q:aT}{v:Value}{b e:ByteArray}(i:dZ g w ob q v)(j:q= .agg [.bo (.string b),.bo (.string e)]):v= .agg #[.string b,.string e]:=by
 subst j;obtain⟨vs,rfl,k,h⟩:=i.wR
 match vs,k with
 |[p,r],_=>have t:=(dZ.fY (.inr (.inl (h 0 _ p rfl rfl).2))).1;have u:=(dZ.fY (.inr (.inl (h 1 _ r rfl rfl).2))).1;rw[t,u]
theorem awr{m k v:Operand}:iL gl ph n B O g s a w P o K Q bs (.p9 m k v):=by
 intro p us h hd V j W;obtain⟨t,X,c1,ho,Y,H,Z,y,c2⟩:=V;have I:=h.ga Z;have al:=h.ga y;simp only[c9]at j;split at j;rename_i r bZ J L ar a1;rw[ar]at I;have a2:=axd al a1;obtain⟨_,b,a3,a4⟩:=I.kz (by simp[aT.key,aT.cJ]);split at j;rename_i c3 z;split at j;rename_i u;subst u;cases j;have A:=h.h1 r;rw[z]at A;obtain⟨bK,M,N,a5,eE,eV⟩:=A;have bd:=a4 [] z;subst bd;have bx:bK.toList=[]:=DQ.1 a5;have E:(s.bC r).gg:=by rw[z];trivial
 let q:World:={w with heap:=w.heap.setIfInBounds (g.cr r) (.map (bK.push {key:= .agg #[.string J,.string L],val:=a.eval v,born:=M}) (M+1))};have R:(Instr.mapUpdate t (a.eval m) (a.eval k) (a.eval v)).run P w= .ok () q:=by
  have b1:(Instr.findKey X (.agg #[.string J,.string L]) bK.toList).run P w= .ok none w:=by obtain⟨f1,f2,b2,_⟩:=H;rw[bx];simp only[Instr.findKey,fy,i7 b2,fU,Instr.findNow,g7]
  simp only[Instr.mapUpdate,fy,i7 Y,fU,a3,Mx N,a2,avx H,b1,S8 N];rfl
 have c4:=(h.hP r E).2;have F:∀b,b≠g.cr r->q.heap[b]? =w.heap[b]? :=by intro b G;show(w.heap.setIfInBounds (g.cr r) _)[b]? =_;rw[AN,dU (λe=>G e.symm)]
 have cc:gA g.af w g.af q:=by refine⟨by simp[q],λ_ _=>dn _,λb i G hi=>?_⟩;by_cases S:b=g.cr r;subst S;omega;simp only[World.cell?,F b S]
 have cn:gb g s.bC g (dk s.bC r (.aF bZ)):=by intro x;by_cases C:x=r;subst C;rw[jc,z];exact⟨dn _,(λ_ u=>by cases u),(λ_ _ _ _ u=>by cases u),(λ_ u=>by cases u)⟩;rw[h9 _ _ C];exact gb.refl g s.bC x
 have cs:cL gl ph n B O g ⟨s.aI,dk s.bC r (.aF bZ)⟩ a q:=by refine h.v3 (dk s.bC r (.aF bZ)) (· =r) cc cn (λx C=>h9 _ _ C) (λx y D=>?_) (λx y D=>?_);exact⟨rfl,rfl,rfl,F _ (λe=>y (h.inj x r D E e))⟩;subst y;rw[jc]at D;exact D.elim
 have cu:eM B O g.af w g.af q:=by refine⟨rfl,rfl,rfl,by simp[q],λb G A=>F b ?_,λ_ _ _=>rfl⟩;intro e;subst e;rcases(h.hP r E).1 with T|T;omega;exact A T
 have cY:(execOp a.eval o).run P w= .ok .skip q:=by rcases ho with ho|ho;simp only[execOp,ho,fy,R,fU,g7];simp only[execOp,ho,fy,R,fU,g7]
 exact M8 cY (W g _ _ (cs.put o.dst hd (.inl rfl)) cu);cases j;cases j;cases j
end
end
section
variable{P:Program}{n B bs:Nat}{O:Nat->Prop}{gl:eh}{ph:cx×cT×World×List Deferred}{g:cx}{s:cK}{a:Act}{w w':World}{o:Oper}{K:Act->World->Prop}{Q:Exit->Act->World->Prop}
theorem avU{m sz:Nat}{x i:Operand}:iL gl ph n B O g s a w P o K Q bs (.rO m sz x i):=by intro p us h hd q b r;obtain⟨t,e,J,ho,u,y,z,A,hi⟩:=q;have c:=h.ga A;have d:=h.ga hi;simp only[c9]at b;split at b;rename_i k bZ off L j C D;rw[C]at c;rw[D]at d;split at b;rename_i l;cases b;obtain⟨e0,E,F,G⟩:=c.kz (by simp[aT.key,aT.cJ]);have H:=d.fY.1;refine g6 (p:= .aQ k bZ (off+j.toNat*sz)) (v:= .pointer (some (E.add (j.toNat*sz)))) h hd ?_ (.inr (.inl (.inr ⟨e0,_,rfl,λcs I=>?_⟩))) r;simp[execOp,ho,Instr.indexAt,H,asIntOf,i7 u,F,Instr.sureAddr,l.1,l.2,run_sizeOf y,z];rw[G cs I,add_lit];simp at b;simp at b
end
section
variable{bu:Bool}{d:dg}{bS:Array Oper}
section
variable{P:Program}{n B bs:Nat}{O:Nat->Prop}{gl:eh}{ph:cx×cT×World×List Deferred}{g:cx}{s:cK}{a:Act}{w w':World}{o:Oper}{K:Act->World->Prop}{Q:Exit->Act->World->Prop}
theorem aww{r:mA}:iL gl ph n B O g s a w P o K Q bs r:=by
 intro p us h hd j b q;cases r with
 |qa x=>simp only[c9,dN,h4]at b;obtain⟨rfl,rfl⟩:=b;exact aws h hd j q
 |pY e sz zero len ps=>exact awg h hd j b q
 |pick c x y=>
  have z:us=[]:=by simp only[c9]at b;split at b<;>simp_all
  subst z;exact awv h hd j b q
 |alloc t zero=>exact avV h hd j b q
 |box t x=>exact av2 h hd j b q
 |build zero ps=>exact av4 h hd j b q
 |oN e sz zero len ps bL=>exact av3 h hd j b q
 |load A m x=>exact awl h hd j b q
 |store m x v=>exact awD h hd j b q
 |p9 m k v=>exact awr h hd j b q
 |sg x=>exact awu h hd j b q
 |rR u x y=>exact avZ h hd j b q
 |rS neg x y=>exact av0 h hd j b q
 |rZ neg x y=>exact awc h hd j b q
 |r5 neg x=>exact awj h hd j b q
 |pd u x=>exact awE h hd j b q
 |rU k x=>exact av6 h hd j b q
 |qI x=>exact avY h hd j b q
 |p8 e sz bytes zero l c=>exact awp h hd j b q
 |sr x lo hi=>exact awC h hd j b q
 |ri sz x lo hi=>exact awB h hd j b q
 |pW off x=>exact awe h hd j b q
 |r0 A off m x=>exact awf h hd j b q
 |qU sz x i=>exact awi h hd j b q
 |sq x i=>exact awA h hd j b q
 |ext x i=>exact awd h hd j b q
 |len kq x=>exact awk h hd j b q
 |append e sz bytes C x bL=>exact avW h hd j b q
 |q0 E x y=>exact awt h hd j b q
 |call f args=>simp[c9]at b
 |hK f args F=>simp[c9]at b
 |gE u x y=>exact awz h hd j b q
 |bits u x y=>exact av1 h hd j b q
 |sf f cR=>exact awn h hd j b q
 |qZ=>exact awo h hd j b q
 |pD D m k v=>exact awq h hd j b q
 |pC D G zero m k=>exact awm h hd j b q
 |n7 e bytes C x bL=>exact avX h hd j b q
 |rO m sz x i=>exact avU h hd j b q
 |ip=>simp[c9]at b
inductive rG (gl:eh) (P:Program) (bs:Nat) (bu:Bool) (o:dg) (s:cK):cK->Prop where
 |skip (h:lu s.aI o.guard=some false):rG gl P bs bu o s ⟨put s.aI o.dst (.bD []),s.bC⟩
 |c9 {v:aT}{us:nH} (h:lu s.aI o.guard=some true) (hp:c9 (eX s.aI) s.bC (bs+o.ak.off+o.dst.getD 0) o.ak=some (v,us)):rG gl P bs bu o s ⟨put s.aI o.dst v,fE s.bC us⟩
 |call {f:Operand}{args:List Operand}{fid:FuncId}{x y:Array Value}{ps:eb}{us:nH}{res:aT} (h:lu s.aI o.guard=some true) (hr:o.ak= .call f args)
  (hf:eX s.aI f= .bo (.func (.func fid) x y)) (hprep:jE (eX s.aI) s.bC [] args=some (ps,us)) (hRC:wH gl P fid ps res):
  rG gl P bs bu o s ⟨put s.aI o.dst res,fE s.bC us⟩
 |hK {f:Operand}{args:List Operand}{frz:List Bool}{fid:FuncId}{cR ps:eb}{us:nH}{res:aT}{cN:cT} (h:lu s.aI o.guard=some true) (hr:o.ak= .hK f args frz)
  (hf:lO (eX s.aI f)=some (fid,cR)) (hprep:jE (eX s.aI) s.bC frz args=some (ps,us)) (hHC:lM gl P fid (ps++cR) (fE s.bC us) res cN):
  rG gl P bs bu o s ⟨put s.aI o.dst res,cN⟩
theorem rG.LW{k:cK->Prop}(h:mW gl P bs bu d s k):∃l,rG gl P bs bu d s l/\k l:=by unfold mW at h;split at h;rename_i b;obtain⟨_,h⟩:=h;split at h;rename_i f args c;split at h;rename_i p x y e;split at h;rename_i ps us i;obtain⟨q,r,_,j⟩:=h;exact⟨_,.call b c e i r,j⟩;exact h.elim;exact h.elim;rename_i f args z c;split at h;rename_i p cR e;split at h;rename_i ps us i;obtain⟨q,cN,t,_,j⟩:=h;exact⟨_,.hK b c e i t,j⟩;exact h.elim;exact h.elim;split at h;rename_i v us u;exact⟨_,.c9 b u,h.2⟩;exact h.elim;rename_i b;exact⟨_,.skip b,h⟩;exact h.elim
def rK(P:Program)(n:Nat)(bS:Array Oper)(o:Oper)(d:dg):Prop:=
 d.dst=o.dst/\(∀t,o.dst=some t->t<n)/\pR P o d.ak/\
 match o.guard,d.guard with
 |none,none=>True
 |some (j,b),some (t,b')=>b=b'/\(bS[j]?).bind (·.dst)=some t/\t<n
 |_,_=>False
theorem DG{b:Bool}(h:cL gl ph n B O g s a w)(r:rK P n bS o d)(c:lu s.aI d.guard=some b):Region.wanted o (yielded bS a.tmps)=b:=by
 obtain⟨_,_,_,i⟩:=r;unfold Region.wanted;split at i;rename_i k l;rw[k];rw[l]at c;simpa[lu] using c;rename_i j q t D k l;obtain⟨rfl,u,y⟩:=i;rw[k];rw[l]at c;have e:=h.aI t;have z:a.tmps[t]? =some (a.tmps.getD t undef):=by
  have:t<a.tmps.size:=by rw[h.size];exact y
  simp[l1,this]
 simp only[lu]at c;simp only[yielded,u,tH,z];split at c;rename_i x p;rw[p]at e;rw[e.fY.1];simp only[dN]at c;rw[<-c];cases x<;>cases q<;>rfl;rename_i p;rw[p]at e;obtain⟨vs,A,C,_⟩:=e.aeD (by simp);have:vs=[]:=by simpa using C.symm
 subst this;rw[A];simp only[dN]at c;rw[<-c];cases q<;>rfl;simp at c;exact i.elim
theorem Ti{t:cK}{i:Nat}(h:cL gl ph n B O g s a w)(hi:bS[i]? =some o)(e:rK P n bS o d)(x:rG gl P bs bu d s t)(b:qD gl ph n B O g w t K):wpOp P bS Q i K a w:=by
 simp only[wpOp,hi];obtain⟨k,hd,j,A⟩:=id e;cases x with
 |skip c=>rw[DG h e c];simp only[io,hV];rw[k]at b;exact b g _ w (h.put o.dst hd (p:= .bD []) (v:=undef) (.inr (.inr (.inr (.inl ⟨[],[],rfl,rfl,rfl,by simp⟩))))) (eM.refl _ _ _ _)
 |c9 c u=>rw[DG h e c];simp only[gF];rw[k]at u b;exact .inl (aww h hd j u b)
 |call c l q r y=>rw[DG h e c];simp only[gF];rw[k]at b;rw[l]at j;exact .inl (av5 h hd j q r y b)
 |hK c l q r z=>rw[DG h e c];simp only[gF];rw[k]at b;rw[l]at j;exact .inl (awh h hd j q r z b)
theorem MD{bS:Array Oper}{bu:Bool}{c0:Nat->Nat}{w0:World}{p:cK->Prop}:∀(du:List dg) (i:Nat) (g:cx) (s:cK) (a:Act) (w:World),
 (∀(j:Nat) (d:dg),du[j]? =some d->∃o,bS[i+j]? =some o/\rK P n bS o d)->kc gl P bs bu du s p->cL gl ph n B O g s a w->eM B O c0 w0 g.af w->
 (∀g' b c w',p b->cL gl ph n B O g' b c w'->eM B O c0 w0 g'.af w'->Q .normal c w')->wpOps P bS Q (List.range' i du.length) a w
 |[],i,g,s,a,w,_,e,h,k,l=>by simp only[List.length_nil,List.range'_zero,wpOps];exact l g s a w e h k
 |d::du,i,g,s,a,w,q,e,h,k,l=>by simp only[qw,List.range'_succ];rw[wpOps_cons];obtain⟨o,ho,r⟩:=q 0 d rfl;obtain⟨b,t,u⟩:=rG.LW e;refine Ti h (by simpa using ho) r t (λg' c w' x y=>?_);exact MD du (i+1) g' b c w' (λj z A=>by have:=q (j+1) z (by simpa using A);rwa [show i+1+j=i+(j+1) by omega]) u x (k.trans y) l
end
end
section
variable{p:aT}{b:Bool}
section
variable{ob cN:cT}
theorem ac7(h:∀k∈p.key,cN k=ob k):h8 cN p=h8 ob p:=by
 cases p with
 |aV k s off len=>simp only[h8];rw[h k (by simp[aT.key,aT.cJ])]
 |_=>rfl
theorem ada:∀{cs:eb},(∀k∈cs.flatMap aT.key,cN k=ob k)->qi cN cs=qi ob cs
 |[],_=>rfl
 |p::ps,h=>by simp only[qi];rw[ac7 (λk c=>h k (by simp[c])),ada (λk c=>h k (by simp only[lb,fq];exact .inr c))]
theorem SN(h:∀k∈p.dl,cN k=ob k):jb cN p=jb ob p:=by
 cases p with
 |agg cs=>simp only[jb];rw[ada h]
 |aV k s off len=>exact ac7 (p:= .aV k s off len) h
 |_=>rfl
theorem ad7(h:∀k∈p.key,cN k=ob k):k7 cN p=k7 ob p:=by
 cases p with
 |aV k s off len=>simp only[k7];rw[h k (by simp[aT.key,aT.cJ])]
 |_=>rfl
theorem KO{α c:Type}{f f':α->List c}:∀{l:List α},(∀x∈l,f' x=f x)->l.flatMap f'=l.flatMap f
 |[],_=>rfl
 |x::xs,h=>by simp only[lb];rw[h x (by simp),KO (λy d=>h y (by simp[d]))]
theorem Tf(h:∀k∈p.dl,cN k=ob k):jN cN p=jN ob p:=by
 cases p with
 |agg cs=>simp only[jN];exact KO (λq c=>ad7 (λk d=>h k (by simp only[aT.dl,aT.fe,pO];exact⟨q,c,d⟩)))
 |aV k s off len=>exact ad7 (p:= .aV k s off len) h
 |_=>rfl
theorem Zt{sz:Nat}(h:∀k∈p.dl,cN k=ob k):mK cN sz p=mK ob sz p:=by unfold mK;split;rfl;rfl;rename_i k s off len;rw[h k (by simp[aT.dl,aT.fe,aT.key,aT.cJ])];rfl
variable{ev a:Operand->aT}
theorem Ke{ju:Nat}{ox:Option Operand}(h:∀x∈o1 ox,a x=ev x):mG a ju ox=mG ev ju ox:=by
 cases ox with
 |none=>rfl
 |some x=>simp only[mG];rw[h x (by simp[o1])]
theorem Z6:∀{ps:List (Nat×Nat×Operand)}{cs:eb},(∀x∈ps.map (·.2.2),a x=ev x)->qQ a cs ps=qQ ev cs ps
 |[],_,_=>rfl
 |(off,m,x)::r,cs,h=>by simp only[qQ];rw[h x (by simp)];split;split;exact Z6 (λy c=>h y (by simp only[hN,e9];exact .inr c));rfl;rfl
theorem Q3{sz:Nat}:∀{ps:List (Nat×Operand)}{es:l7},(∀x∈ps.map (·.2),a x=ev x)->(∀x∈ps.map (·.2),∀k∈(ev x).dl,cN k=ob k)->mM a cN sz es ps=mM ev ob sz es ps
 |[],_,_,_=>rfl
 |(i,x)::r,es,h,d=>by simp only[mM];rw[h x (by simp),SN (d x (by simp))];split;split;exact Q3 (λy c=>h y (by simp only[hN,e9];exact .inr c)) (λy c=>d y (by simp only[hN,e9];exact .inr c));rfl;rfl
def dO.sc{α:Type}:dO α->Bool
 | .alloc _ _=>true
 | .box _ _=>true
 | .oN _ _ _ _ _ _=>true
 | .p8 _ _ _ _ _ _=>true
 | .append _ _ _ _ _ _=>true
 | .qZ=>true
 | .n7 _ _ _ _ _=>true
 |_=>false
theorem aue{d:Nat}{r:mA}(h:∀x∈r.eY,a x=ev x)(g:r.looks=true->∀x∈r.mR,∀k∈(ev x).dl,cN k=ob k)(hd:r.sc=true->cN d=ob d):c9 a cN d r=c9 ev ob d r:=by
 cases r with
 |qa x=>simp only[c9];rw[h x (by simp[dO.eY])]
 |pick c x y=>simp only[c9];rw[h c (by simp[dO.eY]),h x (by simp[dO.eY]),h y (by simp[dO.eY])]
 |alloc t zero=>simp only[c9];rw[hd rfl]
 |box t x=>simp only[c9];rw[h x (by simp[dO.eY]),hd rfl]
 |build zero ps=>simp only[c9];rw[Z6 h]
 |oN e sz zero len ps bL=>
  have g:=g rfl;simp only[c9];rw[Q3 h g,hd rfl];have:ps.flatMap (λp=>jN cN (a p.2))=ps.flatMap (λp=>jN ob (ev p.2)):=
   KO (λp u=>by rw[h p.2 (by simp only[dO.eY,ia];exact⟨p,u,rfl⟩),Tf (g p.2 (by simp only[dO.mR,dO.eY,ia];exact⟨p,u,rfl⟩))])
  rw[this]
 |pY e sz zero len ps=>
  have g:=g rfl;simp only[c9];rw[Q3 h g];have:ps.flatMap (λp=>jN cN (a p.2))=ps.flatMap (λp=>jN ob (ev p.2)):=
   KO (λp u=>by rw[h p.2 (by simp only[dO.eY,ia];exact⟨p,u,rfl⟩),Tf (g p.2 (by simp only[dO.mR,dO.eY,ia];exact⟨p,u,rfl⟩))])
  rw[this]
 |load D m x=>have j:=g rfl x (by first|(simp[dO.mR,dO.eY];done)|exact fQ|exact ii _ fQ);simp only[c9];rw[h x (by simp[dO.eY])];generalize ev x=p at j;split;rename_i k s off;rw[j k (by simp[aT.dl,aT.fe,aT.key,aT.cJ])];rename_i k s i off;rw[j k (by simp[aT.dl,aT.fe,aT.key,aT.cJ])];rfl;rfl
 |store m x v=>
  have j:=g rfl x (by simp[dO.mR]);simp only[c9];rw[h x (by simp[dO.eY]),h v (by simp[dO.eY])];generalize ev x=p at j;split;rename_i k s off;rw[j k (by simp[aT.dl,aT.fe,aT.key,aT.cJ])];rename_i k s i off;rw[j k (by simp[aT.dl,aT.fe,aT.key,aT.cJ])];by_cases C:(ev v).dl=[];rw[SN (ob:=ob) (cN:=cN) (p:=ev v) (λk g=>by rw[C]at g;cases g)];cases H:ob k with
  |aV I e sz es bL=>
   cases bL with
   |false=>rfl
   |true=>cases(jb cN (ev v)).bind aT.cells<;>cases(jb ob (ev v)).bind aT.cells<;>cases E:es[i]? <;>simp[C,E]
  |_=>rfl
  rfl
 |p9 m k v=>have z:=g rfl m (by simp[dO.mR,dO.eY]);simp only[c9];rw[h m (by simp[dO.eY]),h k (by simp[dO.eY])];generalize ev m=p at z;generalize ev k=q;split;rename_i r s J K;rw[z r (by simp[aT.dl,aT.fe,aT.key,aT.cJ])];rfl
 |sg x=>simp only[c9];rw[h x (by simp[dO.eY])]
 |rR A x y=>simp only[c9];rw[h x (by simp[dO.eY]),h y (by simp[dO.eY])]
 |rS neg x y=>simp only[c9];rw[h x (by simp[dO.eY]),h y (by simp[dO.eY])]
 |rZ neg x y=>simp only[c9];rw[h x (by simp[dO.eY]),h y (by simp[dO.eY])]
 |r5 neg x=>simp only[c9];rw[h x (by simp[dO.eY])]
 |pd A x=>simp only[c9];rw[h x (by simp[dO.eY])]
 |rU k x=>simp only[c9];rw[h x (by simp[dO.eY])]
 |qI x=>simp only[c9];rw[h x (by simp[dO.eY]),Zt (g rfl x (by first|(simp[dO.mR,dO.eY];done)|exact fQ|exact ii _ fQ))]
 |p8 e sz bytes zero l c=>simp only[c9];rw[h l (by simp[dO.eY]),h c (by simp[dO.eY]),hd rfl]
 |sr x lo hi=>simp only[c9];rw[h x (by simp[dO.eY]),Ke (ju:=0) (ox:=lo) (λy n=>h y (by simp[dO.eY,n]))];have B:∀ju,mG a ju hi=mG ev ju hi:=λju=>Ke (λy n=>h y (by simp[dO.eY,n]));simp only[B]
 |ri sz x lo hi=>have j:=g rfl x (by first|(simp[dO.mR,dO.eY];done)|exact fQ|exact ii _ fQ);simp only[c9];rw[h x (by simp[dO.eY]),Ke (ju:=0) (ox:=lo) (λy n=>h y (by simp[dO.eY,n]))];have B:∀ju,mG a ju hi=mG ev ju hi:=λju=>Ke (λy n=>h y (by simp[dO.eY,n]));simp only[B];generalize ev x=p at j;split;rfl;rename_i k s off len;rw[j k (by simp[aT.dl,aT.fe,aT.key,aT.cJ])];rfl;rfl
 |pW off x=>simp only[c9];rw[h x (by simp[dO.eY])]
 |r0 D off m x=>simp only[c9];rw[h x (by simp[dO.eY])]
 |qU sz x i=>have j:=g rfl x (by first|(simp[dO.mR,dO.eY];done)|exact fQ|exact ii _ fQ);simp only[c9];rw[h x (by simp[dO.eY]),h i (by simp[dO.eY])];generalize ev x=p at j;split;rfl;rename_i k s off len L m z;rw[j k (by simp[aT.dl,aT.fe,aT.key,aT.cJ])];rfl
 |sq x i=>simp only[c9];rw[h x (by simp[dO.eY]),h i (by simp[dO.eY])]
 |ext x i=>simp only[c9];rw[h x (by simp[dO.eY])]
 |len kq x=>simp only[c9];rw[h x (by simp[dO.eY])]
 |append e sz bytes o x bL=>have g:=g rfl;have w:=g o (by first|(simp[dO.mR,dO.eY];done)|exact fQ|exact ii _ fQ);simp only[c9];rw[h o (by simp[dO.eY]),h x (by simp[dO.eY]),Zt (g x (by first|(simp[dO.mR,dO.eY];done)|exact fQ|exact ii _ fQ)),hd rfl];generalize ev o=p at w;generalize mK ob sz (ev x)=q;split;rfl;rename_i k bZ len ys;rw[w k (by simp[aT.dl,aT.fe,aT.key,aT.cJ])];rfl;rfl
 |q0 M x y=>simp only[c9];rw[h x (by simp[dO.eY]),h y (by simp[dO.eY])]
 |n7 e bytes o x bL=>have g:=g rfl;have w:=g o (by first|(simp[dO.mR,dO.eY];done)|exact fQ|exact ii _ fQ);simp only[c9];rw[h o (by simp[dO.eY]),h x (by simp[dO.eY]),hd rfl];generalize ev o=p at w;generalize ev x=q;split;rfl;rename_i k bZ len ys;rw[w k (by simp[aT.dl,aT.fe,aT.key,aT.cJ])];rfl
 |rO m sz x i=>simp only[c9];rw[h x (by simp[dO.eY]),h i (by simp[dO.eY])]
 |gE A x y=>simp only[c9];rw[h x (by simp[dO.eY]),h y (by simp[dO.eY])]
 |bits A x y=>simp only[c9];rw[h x (by simp[dO.eY]),h y (by simp[dO.eY])]
 |sf f cR=>have:cR.map a=cR.map ev:=AX h;simp only[c9];rw[this]
 |qZ=>simp only[c9];rw[hd rfl]
 |pD F m k v=>have j:=g rfl m (by first|(simp[dO.mR,dO.eY];done)|exact fQ|exact ii _ fQ);simp only[c9];rw[h m (by simp[dO.eY]),h k (by simp[dO.eY]),h v (by simp[dO.eY])];generalize ev m=p at j;split;rename_i r bZ x y G N;rw[j r (by simp[aT.dl,aT.fe,aT.key,aT.cJ])];rfl
 |pC F O zero m k=>have j:=g rfl m (by first|(simp[dO.mR,dO.eY];done)|exact fQ|exact ii _ fQ);simp only[c9];rw[h m (by simp[dO.eY]),h k (by simp[dO.eY])];generalize ev m=p at j;split;rename_i r bZ x G;rw[j r (by simp[aT.dl,aT.fe,aT.key,aT.cJ])];rfl
 |call f args=>rfl
 |hK f args P=>rfl
 |ip=>rfl
theorem aaT(h:∀k∈p.dl,cN k=ob k):md cN b p=md ob b p:=by cases b;rfl;simp only[md,gF];exact SN h
theorem ad5(h:∀k∈p.dl,cN k=ob k):mq cN b p=mq ob b p:=by cases b;rfl;simp only[mq,gF];exact Tf h
theorem Mb:∀{e:List Bool}{xs:List Operand} (_:∀x∈xs,a x=ev x) (_:∀x∈xs,∀k∈(ev x).dl,cN k=ob k),jE a cN e xs=jE ev ob e xs
 |_,[],_,_=>by simp only[jE]
 |[],x::xs,h,c=>by simp only[jE];rw[h x (by simp),aaT (c x (by simp)),ad5 (c x (by simp)),Mb (λy d=>h y (by simp[d])) (λy d=>c y (by simp[d]))]
 |b::bs,x::xs,h,c=>by simp only[jE];rw[h x (by simp),aaT (c x (by simp)),ad5 (c x (by simp)),Mb (λy d=>h y (by simp[d])) (λy d=>c y (by simp[d]))]
end
end
section
variable{ob:cT}
def tI(g:cx)(ob:cT)(cX:cx)(a:cT)(k:Nat):Prop:=a k=ob k/\cX.cr k=g.cr k/\cX.cap k=g.cap k
theorem hO.l9{g cX:cx}{d:cT}{p:aT}{v:Value}(h:∀k∈p.cJ,tI g ob cX d k)(r:hO g ob p v):hO cX d p v:=by
 cases p with
 |aQ k s off=>obtain⟨a,b,c⟩:=h k fQ;simp only[hO,a,b]at r ⊢;exact r
 |eP k s i off=>obtain⟨a,b,c⟩:=h k fQ;simp only[hO,a,b]at r ⊢;exact r
 |aV k s off len=>obtain⟨a,b,c⟩:=h k fQ;simp only[hO,a,b,c]at r ⊢;exact r
 |fX k s=>obtain⟨a,b,c⟩:=h k fQ;simp only[hO,a,b]at r ⊢;exact r
 |_=>exact r.elim
theorem m5.l9{g cX:cx}{ob b:cT}{p:aT}{v:Value}(h:∀k∈p.key,tI g ob cX b k)(r:m5 g ob p v):m5 cX b p v:=by
 cases p with
 |ey f cR=>obtain⟨a,vs,rfl,d,e⟩:=r;refine⟨a,vs,rfl,d,λj q u c l=>(e j q u c l).imp id (hO.l9 λk a=>h k ?_)⟩;exact pO.2 ⟨q,eH c,a⟩
 |aQ k s off=>exact hO.l9 (p:= .aQ k s off) h r
 |eP k s i off=>exact hO.l9 (p:= .eP k s i off) h r
 |aV k s off len=>exact hO.l9 (p:= .aV k s off len) h r
 |fX k s=>exact hO.l9 (p:= .fX k s) h r
 |_=>exact r.elim
theorem g2.l9{g cX:cx}{w:World}{ob a:cT}{p:aT}{v:Value}(b:cX.af=g.af)(h:∀k∈p.key,tI g ob cX a k)(r:g2 g w ob p v):g2 cX w a p v:=
 r.imp (λr=>by rw[b];exact r) (m5.l9 h)
theorem dZ.l9{g cX:cx}{w:World}{ob e:cT}{p:aT}{v:Value}(c:cX.af=g.af)(h:∀k∈p.dl,tI g ob cX e k)(r:dZ g w ob p v):dZ cX w e p v:=by
 rcases r with r|r|⟨cs,vs,rfl,i,eE,eV⟩|⟨cs,vs,rfl,i,eE,eV⟩|r;exact .inl r;refine .inr (.inl ?_);rcases r with r|r;exact .inl (by rw[c];exact r);refine .inr ?_;cases p with
 |agg=>exact r.elim
 |bD=>exact r.elim
 |ey f cR=>exact m5.l9 (p:= .ey f cR) h r
 |_=>exact m5.l9 h r
 exact .inr (.inr (.inl ⟨cs,vs,rfl,i,eE,λj q u a b=>⟨(eV j q u a b).1,(eV j q u a b).2.l9 c λk d=>h k (pO.2 ⟨q,eH a,d⟩)⟩⟩));refine .inr (.inr (.inr (.inl ⟨cs,vs,rfl,i,eE,λj q u a b=>?_⟩)));have l:∀k∈q.fe,tI g ob cX e k:=λk d=>h k (pO.2 ⟨q,eH a,d⟩);rcases eV j q u a b with r|⟨hu,n,rfl,o,s3,s4⟩;left;rcases r with r|r;exact .inl (by rw[c];exact r);refine .inr ?_;cases q with
 |agg=>exact r.elim
 |ey f cR=>exact m5.l9 (p:= .ey f cR) l r
 |_=>exact m5.l9 l r
 exact .inr ⟨hu,n,rfl,o,s3,λj q u a b=>⟨(s4 j q u a b).1,(s4 j q u a b).2.l9 c λk d=>l k (pO.2 ⟨q,eH a,d⟩)⟩⟩;exact .inr (.inr (.inr (.inr (by rw[c];exact r))))
theorem l5.l9{g cX:cx}{w:World}{ob y:cT}{k:Nat}{o:Obj}(b:cX.af=g.af)(A:cX.cr k=g.cr k/\cX.cap k=g.cap k)(h:∀j∈o.r8,tI g ob cX y j)(r:l5 g w ob k o):l5 cX w y k o:=by
 obtain⟨a,l⟩:=A;cases o with
 |aF s=>trivial
 |box s cs=>obtain⟨bK,T,c,d,eE,eV⟩:=r;refine⟨bK,T,by rw[a];exact c,d,by rw[a,b];exact eE,λj q z=>?_⟩;obtain⟨u,n,t,x⟩:=eV j q z;exact⟨u,n,t,x.l9 b λi hi=>h i (pO.2 ⟨q,eH z,hi⟩)⟩
 |aV s e sz es bL=>obtain⟨bK,c,d,eE,eV,hM,i4,mm,mn⟩:=r;refine⟨bK,by rw[a];exact c,by rw[l];exact d,by rw[l];exact eE,by rw[l];exact eV,hM,λi j cs p hi B=>?_,by rw[a,b];exact mm,by rw[a,b];exact mn⟩;obtain⟨u,n,t,x⟩:=i4 i j cs p hi B;exact⟨u,n,t,by rw[b];exact x⟩
 |map s es=>obtain⟨bK,C,c,d,eE,eV⟩:=r;exact⟨bK,C,by rw[a];exact c,d,by rw[a,b];exact eE,eV⟩
def lV(K:Nat->Bool)(a b:cT):Nat->Obj:=λk=>if K k=true then a k else b k
theorem afl{gl:eh}{P:Program}{f:Nat}{args:eb}{B:aT}{q o:cT}(K:Nat->Bool)(h:lM gl P f args q B o)
 (A:∀k,K k=true->ob k=q k)(H:∀k,K k=false->¬(q k).gg)(N:∀k,K k=false->¬(o k).gg)
 (O:∀p∈args,∀k∈p.dl,K k=true)(Q:∀k,∀j∈(q k).r8,K j=true)(R:∀k,∀j∈(o k).r8,K j=true)(S:∀k∈B.dl,K k=true):
 lM gl P f args ob B (lV K o ob):=by
 obtain⟨T,V⟩:=h;refine⟨T,λg w vs W r I=>?_⟩;have J:∀k,(q k).gg->K k=true:=λk c=>by
  cases a:K k with
  |true=>rfl
  |false=>exact absurd c (H k a)
 have al:∀k,(o k).gg->K k=true:=λk c=>by
  cases a:K k with
  |true=>rfl
  |false=>exact absurd c (N k a)
 have L:∀k,K k=true->tI g ob g q k:=λk a=>⟨(A k a).symm,rfl,rfl⟩;have z:∀k,(q k).gg->(ob k).gg:=λk c=>by rw[A k (J k c)];exact c
 have C:∀b,gM g q b->gM g ob b:=λb ⟨k,c,x⟩=>⟨k,z k c,x⟩;have X:n2 g w q:=by
  refine⟨λk=>?_,λk l c n=>r.inj k l (z k c) (z l n),λk c=>r.lt k (z k c)⟩;cases a:K k with
  |true=>have:=r.h1 k;rw[A k a]at this;exact this.l9 rfl ⟨rfl,rfl⟩ λj y=>L j (Q k j y)
  |false=>
   have:=H k a;cases ho:q k with
   |aF s=>trivial
   |_=>rw[ho]at this;exact absurd trivial this
 refine(V g w vs W X ⟨I.1,λi p v M Y=>(I.2 i p v M Y).l9 rfl λk a=>L k (O p (eH M) k a)⟩).mono ?_;rintro e w' ⟨v,g',rfl,d,Z⟩;refine⟨v,⟨g'.af,λk=>if K k=true then g'.cr k else g.cr k,λk=>if K k=true then g'.cap k else g.cap k⟩,rfl,?_,?_⟩;have D:∀k,K k=false->(ob k).gg->¬gM g q (g.cr k):=λk a c ⟨j,y,x⟩=>by have:=r.inj j k (z j y) c x;subst this;rw[J j y]at a;cases a
 have E:∀k,K k=true->tI g' o ⟨g'.af,λk=>if K k=true then g'.cr k else g.cr k,λk=>if K k=true then g'.cap k else g.cap k⟩ (lV K o ob) k:=λk a=>by simp[tI,lV,a]
 have step:gb g ob ⟨g'.af,λk=>if K k=true then g'.cr k else g.cr k,λk=>if K k=true then g'.cap k else g.cap k⟩ (lV K o ob):=by
  intro k;cases a:K k with
  |true=>have:=d.step k;simp only[lV,a,gF,A k a];exact this
  |false=>have:=gb.refl g ob k;simp only[lV,a,io,hV];simpa using this
 refine⟨⟨d.iB.os,d.iB.tape,d.iB.output,d.iB.size,λb x F=>d.iB.block b x λG=>F (C b G),λb x F=>d.iB.af b x λG=>F (C b G)⟩,d.ext,⟨λk=>?_,λk l c n t=>?_,λk c=>?_⟩,step,λk c=>?_⟩;cases a:K k with
 |true=>
  have e:lV K o ob k=o k:=by simp[lV,a]
  rw[e];exact(d.heap.h1 k).l9 (g:=g') rfl ⟨(E k a).2.1,(E k a).2.2⟩ λj y=>E j (R k j y)
 |false=>
  have e:lV K o ob k=ob k:=by simp[lV,a]
  rw[e];refine(r.h1 k).ed d.ext step λc=>⟨by simp[a],by simp[a],d.iB.af _ (r.lt k c) (D k a c),d.iB.block _ (r.lt k c) (D k a c)⟩
 have ya:∀k l,K k=true->K l=false->(o k).gg->(ob l).gg->g'.cr k=g.cr l->False:=by intro k l a u c n t;rcases d.src k c with h|h;have:=r.lt l n;omega;rw[t]at h;exact D l u n h
 cases a:K k with
 |true=>
  cases u:K l with
  |true=>simp only[lV,a,u,gF]at c n t;exact d.heap.inj k l c n t
  |false=>simp only[lV,a,u,gF,io,hV]at c n t;exact(ya k l a u c n t).elim
 |false=>
  cases u:K l with
  |true=>simp only[lV,a,u,gF,io,hV]at c n t;exact(ya l k u a n c t.symm).elim
  |false=>simp only[lV,a,u,io,hV]at c n t;exact r.inj k l c n t
 cases a:K k with
 |true=>simp only[lV,a,gF]at c ⊢;exact d.heap.lt k c
 |false=>simp only[lV,a,io,hV]at c ⊢;exact pi (r.lt k c) d.ext.size
 cases a:K k with
 |true=>simp only[lV,a,gF]at c ⊢;rcases d.src k c with h|h;exact .inl h;exact .inr (C _ h)
 |false=>simp only[lV,a,io,hV]at c ⊢;exact .inr ⟨k,c,rfl⟩
 refine Z.l9 (g:=g') rfl λk a=>?_;simp[tI,lV,S k a]
end
end Go.Hf

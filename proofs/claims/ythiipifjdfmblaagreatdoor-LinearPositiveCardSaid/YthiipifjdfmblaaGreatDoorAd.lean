import Derived.Test.YthiipifjdfmblaaGreatDoorAc
set_option linter.all false
namespace Go.Hf
open Go.RowKit
section
variable{bs k:Nat} {rk:List Nat} {po:ey} {v:aG} {us:iP}
abbrev Loc:=Nat ⊕ Nat
def DR(bs c:Nat)(ob:cD):Nat->Obj:=λk=>if fl bs k=c then ob k else .ax 0
def eX(bs:Nat)(s:df):Loc->aG ⊕ cD
 | .inl t=> .inl (s.aC t)
 | .inr c=> .inr (DR bs c s.bo)
theorem rX{c:Nat}{ob asR:cD}:DR bs c ob=DR bs c asR↔∀k,fl bs k=c->ob k=asR k:=by
 constructor
 ·intro h k a;have:=congrFun h k;simpa[DR,a] using this
 ·intro h;funext k;simp only[DR];split
  ·rename_i a;exact h k a
  ·rfl
theorem df.aon{s t:df}(h:∀l,eX bs s l=eX bs t l):s=t:=by
 obtain⟨a,eR⟩:=s;obtain⟨b,c⟩:=t;congr
 ·funext i;have:=h (.inl i);simpa[eX] using this
 ·funext i;have:=h (.inr (fl bs i));simp only[eX,Gh,rX] at this;exact this i rfl
theorem Gx:∀(us:iP) (f:cD) (k:Nat),(∀u∈us,u.1≠k)->c7 f us k=f k
 |[],_,_,_=>rfl
 |(a,x)::r,f,k,h=>by simp only[c7];rw[Gx r _ k (λu b=>h u (by simp[b])),ir _ _ (λe=>h (a,x) (by simp) e.symm)]
def TK:Operand->List Nat
 | .tmp t=>[t]
 |_=>[]
def Fo(po:ey):List Nat:=po.ai.ez.flatMap TK++(match po.guard with|some (t,_)=>[t]|none=>[])
def An(rk:List Nat):List Nat:=if rk.contains 4097 then rk++(List.range 4099).filter (λc=> !(mK rk).contains c) else rk
theorem ahM(bs k:Nat):fl bs k<=4098:=by unfold fl;split;omega;split<;>omega
theorem amT(h:fl bs k∈rk):fl bs k∈An rk:=by
 unfold An;split
 ·exact Ic.2 (.inl h)
 ·exact h
theorem alH(h:4097∈rk)(a:fl bs k∉mK rk):fl bs k∈An rk:=by unfold An;rw[y1 (by simpa using h)];refine Ic.2 (.inr (kT.2 ⟨?_,by simpa using a⟩));have:=ahM bs k;simp;omega
def oK(po:ey):List Loc:=(Fo po).map .inl++(An po.bT).map .inr
def g1(po:ey):List Loc:=po.dst.toList.map .inl++po.a7.map .inr
def th(gl:eI)(P:Program)(bs:Nat)(po:ey)(s a:df):Prop:=
 ry gl P bs true po s a/\(∀l,l∉g1 po->eX bs a l=eX bs s l)/\
 ∀t,(∀l∈oK po++g1 po,eX bs t l=eX bs s l)->∃b,ry gl P bs true po t b/\(∀l∈g1 po,eX bs b l=eX bs a l)/\∀l,l∉g1 po->eX bs b l=eX bs t l
theorem Q8:∀(us:iP) (f a:cD) (k:Nat),a k=f k->c7 a us k=c7 f us k
 |[],_,_,_,h=>h
 |(c,x)::r,f,a,k,h=>by
  simp only[c7];refine Q8 r _ _ k ?_;by_cases b:k=c
  ·subst b;rw[iM,iM]
  ·rw[ir _ _ b,ir _ _ b,h]
theorem xV{s:df}(b:∀u∈us,fl bs u.1∈po.a7):∀l,l∉g1 po->eX bs ⟨put s.aC po.dst v,c7 s.bo us⟩ l=eX bs s l:=by
 intro l a;cases l with
 |inl t=>
  simp only[eX,Sum.inl.injEq];cases hd:po.dst with
  |none=>rfl
  |some d=>
   have:t≠d:=by rintro rfl;exact a (by simp[g1,hd])
   simp only[put];rw[ir _ _ this]
 |inr k=>simp only[eX,Gh,rX];intro h c;exact Gx _ _ _ (λu g e=>a (by simp only[g1,Ic,yd];exact .inr ⟨k,by rw[<-c,<-e];exact b u g,rfl⟩))
theorem Jl{s t:df}(b:∀l∈g1 po,eX bs t l=eX bs s l):∀l∈g1 po,eX bs ⟨put t.aC po.dst v,c7 t.bo us⟩ l=eX bs ⟨put s.aC po.dst v,c7 s.bo us⟩ l:=by
 intro l a;cases l with
 |inl i=>
  simp only[eX,Sum.inl.injEq];simp only[g1,Ic,yd] at a;rcases a with⟨d,hd,e⟩|⟨_,_,e⟩
  ·cases e;have:po.dst=some i:=by simpa using hd
   rw[this];simp[put,dl]
  ·cases e
 |inr k=>simp only[eX,Gh,rX];have:=b _ a;simp only[eX,Gh,rX] at this;exactλc g=>Q8 _ _ _ _ (this c g)
theorem anS{s t:df}(h:∀l∈oK po,eX bs t l=eX bs s l):∀x∈po.ai.ez,c9 t.aC x=c9 s.aC x:=by
 intro x a;cases x with
 |tmp i=>have:=h (.inl i) (by simp only[oK,Fo,Ic,yd,Ij];exact .inl ⟨i,.inl ⟨_,a,by simp[TK]⟩,rfl⟩);simpa[eX,c9] using this
 |_=>rfl
theorem Vp{s t:df}(h:∀l∈oK po,eX bs t l=eX bs s l):l6 t.aC po.guard=l6 s.aC po.guard:=by
 cases a:po.guard with
 |none=>rfl
 |some x=>
  obtain⟨i,b⟩:=x;have:=h (.inl i) (by simp[oK,Fo,a]);have e:t.aC i=s.aC i:=by simpa[eX] using this
  simp only[l6,e]
theorem th.La{P:Program}{gl:eI}{s:df}{a5:df->Prop}(c0:po.ai.ra=true->fl bs (bs+po.ai.off+po.dst.getD 0)∈po.a7)(h:nW gl P bs true po s a5):∃s',th gl P bs po s s'/\a5 s':=by
 unfold nW at h;split at h
 ·rename_i g;obtain⟨c1,h⟩:=h;have Q:∀t,(∀l∈oK po++g1 po,eX bs t l=eX bs s l)->(∀x∈po.ai.ez,c9 t.aC x=c9 s.aC x)/\(po.ai.Pl=false->po.ai.looks=true->∀x∈po.ai.mh,∀k∈(c9 s.aC x).cR,t.bo k=s.bo k)/\(po.ai.ra=true->t.bo (bs+po.ai.off+po.dst.getD 0)=s.bo (bs+po.ai.off+po.dst.getD 0))/\l6 t.aC po.guard=some true:=by
   intro t d;have o:∀l∈oK po,eX bs t l=eX bs s l:=λl b=>d l (by simp[b]);refine⟨anS o,λR c2 x S k a=>?_,λhm=>?_,by rw[Vp o];exact g⟩
   ·have:=d (.inr (fl bs k)) (by simp only[oK,Ic,yd];exact .inl (.inr ⟨_,amT ((c1 rfl c2 x S k a).resolve_right λh=>by rw[R] at h;cases h.2),rfl⟩));simp only[eX,Gh,rX] at this;exact this k rfl
   ·have:=d (.inr (fl bs (bs+po.ai.off+po.dst.getD 0))) (by simp only[g1,Ic,yd];exact .inr (.inr ⟨_,c0 hm,rfl⟩));simp only[eX,Gh,rX] at this;exact this _ rfl
  split at h
  ·rename_i f args o;split at h
   ·rename_i T x y H;split at h
    ·rename_i W us I;obtain⟨bd,bx,E,X⟩:=h;refine⟨_,⟨.call g o H I bx,xV (λu r=>E rfl u r),λt d=>?_⟩,X⟩;obtain⟨w,B,J,a4⟩:=Q t d;rw[o] at w B J;have B:=B rfl rfl;have Z:c9 t.aC f= .bu (.func (.func T) x y):=by rw[w f (by simp[ds.ez])];exact H
     have L:iU (c9 t.aC) t.bo [] args=some (W,us):=by rw[IC (λz D=>w z (by simp[ds.ez,D])) (λz D=>B z (by simp[ds.mh,ds.ez,D]))];exact I
     exact⟨_,.call a4 o Z L bx,Jl (λl b=>d l (by simp[b])),xV (λu r=>E rfl u r)⟩
    ·exact h.elim
   ·exact h.elim
  ·rename_i f args c3 o;split at h
   ·rename_i T ar9 H;split at h
    ·rename_i W us I;obtain⟨bd,asR,cc,c4,X⟩:=h;obtain⟨c5,E,A⟩:=c4 rfl;have cl:∀(N:df) (l:Loc),l∉g1 po->eX bs ⟨put N.aC po.dst bd,N.bo⟩ l=eX bs N l:=λN l b=>xV (us:=[]) (by simp) l b;have O:∀k,fl bs k∈mK po.bT->k=bs+fl bs k:=by
      intro k a;have q:=(A _ a).1;by_cases n:bs<=k/\k<bs+4096
      ·have:fl bs k=k-bs:=by unfold fl;rw[if_pos n]
       omega
      ·have:4096<=fl bs k:=by unfold fl;rw[if_neg n];split<;>omega
       omega
     have cn:∀k,fl bs k∈mK po.bT->fl bs k∉po.a7:=λk a=>(A _ a).2.1;have un:∀k,fl bs k∈mK po.bT->∀f:Nat->Obj,c7 f us k=f k:=λk a f=>Gx _ _ _ λu r e=>(A _ a).2.2.2.1 u r (e.trans (O k a));refine⟨_,⟨.hV g o H I cc,λl b=>?_,λt d=>?_⟩,X⟩
     ·cases l with
      |inl t=>exact cl s (.inl t) b
      |inr c=>simp only[eX,Gh,rX];intro k a;exact(E k).resolve_right λg=>b (by simp only[g1,Ic,yd];exact .inr ⟨c,by rw[<-a];exact g,rfl⟩)
     have ar:∀k,fl bs k∉mK po.bT->t.bo k=s.bo k:=by intro k a;have:=d (.inr (fl bs k)) (by simp only[oK,Ic,yd];exact .inl (.inr ⟨_,alH c5 a,rfl⟩));simp only[eX,Gh,rX] at this;exact this k rfl
     obtain⟨w,_,J,a4⟩:=Q t d;rw[o] at w J;have B:∀x∈f::args,∀k∈(c9 s.aC x).cR,t.bo k=s.bo k:=λx S k a=>ar k λn=>by have q:=(A _ n).2.2.2.2.2.2.1 (c9 s.aC x) (Ic.2 (.inl (yd.2 ⟨x,S,rfl⟩)));rw[<-O k n] at q;exact q a
     have Z:oH (c9 t.aC f)=some (T,ar9):=by rw[w f (by simp[ds.ez])];exact H
     have L:iU (c9 t.aC) t.bo c3 args=some (W,us):=by rw[IC (λz D=>w z (by simp[ds.ez,D])) (λz D=>B z (by simp[D]))];exact I
     let K:Nat->Bool:=λk=> !(mK po.bT).contains (fl bs k);have cp:∀k,K k=true->fl bs k∉mK po.bT:=λk a=>by simpa[K] using a
     have C:∀k,K k=false->fl bs k∈mK po.bT:=λk a=>by simpa[K] using a
     have fJ:∀(j:Nat) (l:List Nat),(∀c∈mK po.bT,bs+c∉l)->j∈l->K j=true:=λj l b M=>by
      cases a:K j with
      |true=>rfl
      |false=>have q:=b _ (C j a);rw[<-O j (C j a)] at q;exact absurd M q
     have cs:∀k,K k=false->¬(c7 s.bo us k).fx:=λk a=>by have q:=(A _ (C k a)).2.2.1;rw[<-O k (C k a)] at q;exact q
     have dd:=aza (ob:=c7 t.bo us) K cc (λk a=>Q8 _ _ _ _ (ar k (cp k a))) cs
      (λk a=>by rw[(E k).resolve_right (cn k (C k a)),<-un k (C k a) s.bo];exact cs k a)
      (λp F k a=>fJ k _ (λc n=>(A c n).2.2.2.2.2.2.1 p (Ic.2 (.inr F))) a)
      (λk j M=>fJ j _ (λc n=>(A c n).2.2.2.2.1 k) M) (λk j M=>fJ j _ (λc n=>(A c n).2.2.2.2.2.1 k) M) (λk a=>fJ k _ (λc n=>(A c n).2.2.2.2.2.2.2) a)
     refine⟨_,.hV a4 o Z L dd,λl b=>?_,λl b=>?_⟩
     ·cases l with
      |inl i=>exact Jl (us:=[]) (λl b=>d l (by simp[b])) (.inl i) b
      |inr c=>
       simp only[eX,Gh,rX];intro k a;have g:c∈po.a7:=by
        simp only[g1,Ic,yd] at b;rcases b with⟨_,_,e⟩|⟨_,q,e⟩
        ·cases e
        ·cases e;exact q
       have:K k=true:=by
        cases G:K k with
        |true=>rfl
        |false=>exact absurd (a▸g) (cn k (C k G))
       simp only[kF,this,w6]
     ·cases l with
      |inl i=>exact cl t (.inl i) b
      |inr c=>
       simp only[eX,Gh,rX];intro k a;have dq:fl bs k∉po.a7:=λg=>b (by simp only[g1,Ic,yd];exact .inr ⟨c,by rw[<-a];exact g,rfl⟩);cases G:K k with
       |true=>simp only[kF,G,w6];rw[(E k).resolve_right dq,ar k (cp k G)]
       |false=>simp only[kF,G,Nn,st];exact un k (C k G) t.bo
    ·exact h.elim
   ·exact h.elim
  ·split at h
   ·rename_i v us F;refine⟨_,⟨.b6 g F,xV (λu r=>h.1 rfl u r),λt d=>?_⟩,h.2⟩;obtain⟨w,B,J,a4⟩:=Q t d;have R:po.ai.Pl=false:=by
     cases o:po.ai with
     |hV=>rw[o] at F;simp[b6] at F
     |_=>rfl
    have L:b6 (c9 t.aC) t.bo (bs+po.ai.off+po.dst.getD 0) po.ai=some (v,us):=by rw[aAk w (B R) J];exact F
    exact⟨_,.b6 a4 L,Jl (λl b=>d l (by simp[b])),xV (λu r=>h.1 rfl u r)⟩
   ·exact h.elim
 ·rename_i g;refine⟨_,⟨.skip g,λl b=>xV (us:=[]) (by simp) l b,λt d=>?_⟩,h⟩;have dt:l6 t.aC po.guard=some false:=by rw[Vp (λl b=>d l (by simp[b]))];exact g
  exact⟨_,.skip dt,λl b=>Jl (us:=[]) (λl b=>d l (by simp[b])) l b,λl b=>xV (us:=[]) (by simp) l b⟩
 ·exact h.elim
theorem YU{P:Program}{gl:eI}{bs:Nat}{b:df->Prop}:∀(asY:List ey) (s:df),(∀po∈asY,po.ai.ra=true->fl bs (bs+po.ai.off+po.dst.getD 0)∈po.a7)->mI gl P bs true asY s b->
 ∃g5:Nat->df,g5 0=s/\b (g5 asY.length)/\∀(i:Nat) (po:ey),asY[i]? =some po->th gl P bs po (g5 i) (g5 (i+1))
 |[],s,_,h=>⟨λ_=>s,rfl,h,by simp⟩
 |po::asY,s,c,h=>by
  obtain⟨d,e,g⟩:=th.La (c po (by simp)) h;obtain⟨g5,j,l,n⟩:=YU asY d (λq a=>c q (by simp[a])) g;refine⟨λi=>match i with|0=>s|i+1=>g5 i,rfl,l,λi q a=>?_⟩;cases i with
  |zero=>simp at a;subst a;show th gl P bs po s (g5 0);rw[j];exact e
  |succ i=>exact n i q (by simpa using a)
end
section
variable{i j:Nat} {q:ey}
inductive ot (asX:Array Oper):Nat->Nat->Prop where
 |JW {i j:Nat} {o:Oper} {e:Edge} (ho:asX[j]? =some o) (he:e∈o.after) (hb:Region.binds .any e=true) (hi:e.on=i):ot asX i j
 |trans {i j k:Nat} (h:ot asX i j) (h':ot asX j k):ot asX i k
def P0(p q:ey):Prop:=(∃l∈g1 p,l∈oK q++g1 q)\/(∃l∈oK p,l∈g1 q)
structure Ai (bs:Nat) (asX:Array Oper) (asY:List ey):Prop where
 size:asX.size=asY.length
 V6:∀(j:Nat) (o:Oper),asX[j]? =some o->∀e∈o.after,Region.binds .any e=true->e.on<j
 L6:∀(i j:Nat) (p q:ey),i<j->asY[i]? =some p->asY[j]? =some q->P0 p q->ot asX i j
 ra:∀po∈asY,po.ai.ra=true->fl bs (bs+po.ai.off+po.dst.getD 0)∈po.a7
def iG(listed:Array Bool)(i:Nat):Prop:=listed.getD i false=true
theorem ot.cu{asX:Array Oper}{listed:Array Bool}(a:∀j,iG listed j->∀o e,asX[j]? =some o->e∈o.after->Region.binds .any e=true->iG listed e.on)(h:ot asX i j):iG listed j->iG listed i:=by
 induction h with
 |JW b c d hi=>intro g;rw[<-hi];exact a _ g _ _ b c d
 |trans _ _ ih1 k=>exactλh=>ih1 (k h)
structure pO (bs:Nat) (asX:Array Oper) (asY:List ey) (g5:Nat->df) (listed:Array Bool) (t:df):Prop where
 size:listed.size=asX.size
 I4:∀j,iG listed j->∀o e,asX[j]? =some o->e∈o.after->Region.binds .any e=true->iG listed e.on
 none:∀l,(∀i p,iG listed i->asY[i]? =some p->l∉g1 p)->eX bs t l=eX bs (g5 0) l
 Mi:∀l i p,iG listed i->asY[i]? =some p->l∈g1 p->(∀j q,iG listed j->i<j->asY[j]? =some q->l∉g1 q)->eX bs t l=eX bs (g5 (i+1)) l
theorem EV{P:Program}{gl:eI}{bs:Nat}{asY:List ey}{g5:Nat->df}(a:∀(i:Nat) (b:ey),asY[i]? =some b->th gl P bs b (g5 i) (g5 (i+1)))(l:Loc)(i:Nat):∀d,i+d<=asY.length->
 (∀j p,i<=j->j<i+d->asY[j]? =some p->l∉g1 p)->eX bs (g5 (i+d)) l=eX bs (g5 i) l
 |0,_,_=>rfl
 |d+1,k,h=>by
  have e:i+d<asY.length:=by omega
  have c:=dC e;rw[show i+(d+1)=(i+d)+1 by omega,(a (i+d) _ c).2.1 l (h (i+d) _ (by omega) (by omega) c)];exact EV a l i d (by omega) (λj p g o=>h j p g (by omega))
theorem Ng(A:Nat->Prop):∀j,(∀i,i<j->¬A i)\/∃i,i<j/\A i/\∀k,i<k->k<j->¬A k
 |0=> .inl (by omega)
 |j+1=>by
  rcases ie (A j) with h|h
  ·exact .inr ⟨j,by omega,h,λk a c=>by omega⟩
  ·rcases Ng A j with a|⟨i,a,c,d⟩
   ·refine .inl (λi hi=>?_);rcases DL i j with b|e
    ·exact a i b
    ·have:i=j:=by omega
     subst this;exact h
   ·refine .inr ⟨i,by omega,c,λk g l=>?_⟩;rcases DL k j with b|e
    ·exact d k g b
    ·have:k=j:=by omega
     subst this;exact h
section
variable{P:Program} {n B bs:Nat} {O:Nat->Prop} {gl:eI} {ph:ck×cD×World×List Deferred} {Q:Exit->Act->World->Prop} {asX:Array Oper} {asY:List ey} {g5:Nat->df} {listed:Array Bool} {t:df}
theorem pO.BG(E:Ai bs asX asY)(F:∀(i:Nat) (G:ey),asY[i]? =some G->th gl P bs G (g5 i) (g5 (i+1)))(h:pO bs asX asY g5 listed t)(y:asY[j]? =some q)(z:¬iG listed j)
 (I:∀o e,asX[j]? =some o->e∈o.after->Region.binds .any e=true->iG listed e.on):∀l∈oK q++g1 q,eX bs t l=eX bs (g5 j) l:=by
 intro l g;have T:j<asY.length:=(e6.1 y).1;have J:∀i p,i<j->asY[i]? =some p->l∈g1 p->iG listed i:=by
  intro i p A b a;have C:ot asX i j:=E.L6 i j p q A b y (.inl ⟨l,a,g⟩);have:∀{i j:Nat},ot asX i j->(∀o e,asX[j]? =some o->e∈o.after->Region.binds .any e=true->iG listed e.on)->iG listed i:=by
   intro i j C;induction C with
   |JW K L M hi=>intro d;rw[<-hi];exact d _ _ K L M
   |trans w D ih1 N=>intro d;exact w.cu h.I4 (N d)
  exact this C I
 have H:∀i p,j<i->asY[i]? =some p->l∈g1 p->¬iG listed i:=by
  intro i p A b a u;have R:P0 q p:=by
   simp only[Ic] at g;rcases g with g|g
   ·exact .inr ⟨l,g,a⟩
   ·exact .inl ⟨l,g,by simp[a]⟩
  exact z ((E.L6 j i q p A y b R).cu h.I4 u)
 rcases Ng (λi=>∃p,asY[i]? =some p/\l∈g1 p) j with w|⟨i,w,⟨p,b,a⟩,D⟩
 ·rw[h.none l (λi p u b a=>?_)]
  ·have:=EV F l 0 j (by omega) (λi p _ hi b a=>w i (by omega) ⟨p,b,a⟩);rw[Fa] at this;exact this.symm
  ·rcases sh i j with c|c|c
   ·exact w i c ⟨p,b,a⟩
   ·subst c;exact z u
   ·exact H i p c b a u
 ·rw[h.Mi l i p (J i p w b a) b a (λk r u S d x=>?_)]
  ·have:=EV F l (i+1) (j-(i+1)) (by omega) (λk r W X d x=>D k (by omega) (by omega) ⟨r,d,x⟩);rw[show i+1+(j-(i+1))=j by omega] at this;exact this.symm
  ·rcases sh k j with c|c|c
   ·exact D k S c ⟨r,d,x⟩
   ·subst c;exact z u
   ·exact H k r c d x u
theorem AB(b:i<listed.size):iG (listed.setIfInBounds i true) j↔j=i\/iG listed j:=by
 by_cases a:j=i
 ·subst a;simp[iG,b]
 ·simp only[iG,a,false_or];rw[getD_set_ne false (λe=>a e.symm)]
theorem pO.next(A:Ai bs asX asY)(h:pO bs asX asY g5 listed t)(c:asY[j]? =some q)(H:¬iG listed j)
 (I:∀o e,asX[j]? =some o->e∈o.after->Region.binds .any e=true->iG listed e.on){x:df}(J:∀l∈g1 q,eX bs x l=eX bs (g5 (j+1)) l)(C:∀l,l∉g1 q->eX bs x l=eX bs t l):
 pO bs asX asY g5 (listed.setIfInBounds j true) x:=by
 have K:j<asY.length:=(e6.1 c).1;have a:j<listed.size:=by rw[h.size,A.size];exact K
 have L:∀l i p,l∈g1 q->j<i->asY[i]? =some p->l∈g1 p->¬iG listed i:=by intro l i p w d b g M;exact H ((A.L6 j i q p d c b (.inl ⟨l,w,by simp[g]⟩)).cu h.I4 M)
 refine⟨by simp[h.size],λi hi o e D E F=>?_,λl u=>?_,λl i p hi b g u=>?_⟩
 ·rw[AB a] at hi ⊢;rcases hi with rfl|hi
  ·exact .inr (I o e D E F)
  ·exact .inr (h.I4 i hi o e D E F)
 ·have y:l∉g1 q:=u j q ((AB a).2 (.inl rfl)) c;rw[C l y];exact h.none l (λi p hi=>u i p ((AB a).2 (.inr hi)))
 ·rw[AB a] at hi;by_cases d:i=j
  ·subst d;rw[c] at b;cases b;exact J l g
  ·have G:iG listed i:=hi.resolve_left d;have y:l∉g1 q:=by
    intro w;rcases Nat.lt_or_gt_of_ne d with z|z
    ·exact u j q ((AB a).2 (.inl rfl)) z c w
    ·exact L l i p w z b g G
   rw[C l y];exact h.Mi l i p G b g (λk r N=>u k r ((AB a).2 (.inr N)))
theorem pO.done(g:∀(i:Nat) (o:ey),asY[i]? =some o->th gl P bs o (g5 i) (g5 (i+1)))(h:pO bs asX asY g5 listed t)(w:∀j,j<asY.length->iG listed j):t=g5 asY.length:=by
 refine df.aon (bs:=bs) (λl=>?_);rcases Ng (λi=>∃p,asY[i]? =some p/\l∈g1 p) asY.length with c|⟨i,c,⟨p,a,b⟩,u⟩
 ·rw[h.none l (λi p x a b=>c i (e6.1 a).1 ⟨p,a,b⟩)];have:=EV g l 0 asY.length (by omega) (λi p _ hi a b=>c i (by omega) ⟨p,a,b⟩);rw[Fa] at this;exact this.symm
 ·rw[h.Mi l i p (w i c) a b (λk r x y d e=>u k y (e6.1 d).1 ⟨r,d,e⟩)];have:=EV g l (i+1) (asY.length-(i+1)) (by omega) (λk r z A d e=>u k (by omega) (by omega) ⟨r,d,e⟩);rw[show i+1+(asY.length-(i+1))=asY.length by omega] at this;exact this.symm
theorem awq(a:Ai bs asX asY)(u:listed.size=asX.size)(k:Region.ready .any asX listed=[]):∀j,j<asY.length->iG listed j:=by
 intro j;induction j using Nat.strongRecOn with
 |_ j l=>
  intro o;rcases ie (iG listed j) with h|h
  ·exact h
  ·exfalso;have p:j<asX.size:=by rw[a.size];exact o
   have b:=OC p;have:j∈Region.ready .any asX listed:=by
    rw[mem_ready];refine⟨?_,_,b,λe c d=>l e.on (a.V6 j _ b e c d) (by have:=a.V6 j _ b e c d;omega)⟩;have r:j<listed.size:=by omega
    have g:¬listed.getD j false=true:=h;simp[nK,r] at g ⊢;exact g
   rw[k] at this;cases this
end
end
section
variable{g:ck} {s:df} {a:Act} {w:World}
theorem adj:∀(l:List Bool) (i:Nat),l[i]? =some false->(l.set i true).count false+1=l.count false
 |[],i,h=>by simp at h
 |x::l,0,h=>by simp at h;subst h;simp
 |x::l,i+1,h=>by have:=adj l i (by simpa using h);simp only[List.set_cons_succ,List.count_cons];omega
theorem ct.drew{n B:Nat}{O:Nat->Prop}{gl:eI}{ph:ck×cD×World×List Deferred}(h:ct gl ph n B O g s a w)(k:Nat):ct gl ph n B O g s a {w with drawn:=k}:=by have b:gk g.U w g.U {w with drawn:=k}:=⟨sm _,λ_ _=>sm _,λ_ _ _ _=>rfl⟩;exact h.zp s.bo (λ_=>False) b (fY.refl g s.bo) (λ_ _=>rfl) (λ_ _ _=>⟨rfl,rfl,rfl,rfl⟩) (λ_ c=>c.elim)
theorem gn.drew(B:Nat)(O:Nat->Prop)(c:Nat->Nat)(w:World)(k:Nat):gn B O c w c {w with drawn:=k}:=⟨rfl,rfl,rfl,sm _,λ_ _ _=>rfl,λ_ _ _=>rfl⟩
section
variable{P:Program} {n B bs:Nat} {O:Nat->Prop} {gl:eI} {ph:ck×cD×World×List Deferred} {Q:Exit->Act->World->Prop} {asX:Array Oper} {asY:List ey} {g5:Nat->df} {c0:Nat->Nat} {w0:World}
theorem atC(x:Ai bs asX asY)(H:∀(j:Nat) (q:ey),asY[j]? =some q->∃o,asX[j]? =some o/\uQ P n asX o q)
 (C:∀(i:Nat) (q:ey),asY[i]? =some q->th gl P bs q (g5 i) (g5 (i+1)))
 (I:∀g' y w',ct gl ph n B O g' (g5 asY.length) y w'->gn B O c0 w0 g'.U w'->Q .normal y w'):
 ∀(fuel:Nat) (b:Array Bool) (t:df) (g:ck) (a:Act) (w:World),b.toList.count false<=fuel->pO bs asX asY g5 b t->ct gl ph n B O g t a w->gn B O c0 w0 g.U w->wpAny P .any asX Q fuel b a w:=by
 have D:∀(b:Array Bool) (t:df) (g:ck) (a:Act) (w:World),pO bs asX asY g5 b t->ct gl ph n B O g t a w->gn B O c0 w0 g.U w->Region.ready .any asX b=[]->Q .normal a w:=by intro b t g a w c d k z;have e:=pO.done C c (awq x c.size z);rw[e] at d;exact I g a w d k
 intro fuel;induction fuel with
 |zero=>
  intro b t g a w J c d k;have z:Region.ready .any asX b=[]:=by
   refine AY.2 (λj r=>?_);rw[mem_ready] at r;obtain⟨h,o,l,_⟩:=r;have p:j<b.size:=by rw[c.size];exact(Gk.1 l).1
   have:false∈b.toList:=by simp[nK,p] at h;exact h▸(by simp)
   have:=List.count_pos_iff.2 this;omega
  exact⟨z,D b t g a w c d k z⟩
 |succ fuel K=>
  intro b t g a w J c d k;refine⟨D b t g a w c d k,λj r=>?_⟩;rw[mem_ready] at r;obtain⟨h,o,l,L⟩:=r;have E:j<asX.size:=(Gk.1 l).1;have p:j<b.size:=by rw[c.size];exact E
  have M:j<asY.length:=by rw[<-x.size];exact E
  have A:=dC M;have F:¬iG b j:=by simp[nK,p] at h;simp[iG,nK,p,h]
  have G:∀o' e,asX[j]? =some o'->e∈o'.after->Region.binds .any e=true->iG b e.on:=by intro o' e u N R;rw[l] at u;cases u;exact L e N R
  obtain⟨S,T,W,X⟩:=(C j _ A).2.2 t (pO.BG x C c A F G);obtain⟨o',u,Z⟩:=H j _ A;rw[l] at u;cases u;refine Ss d l Z T (λg' y w' ar a1=>?_);refine K _ S g' y w' ?_ (pO.next x c A F G W X) ar (k.trans a1);have a2:b.toList[j]? =some false:=by simp[nK,p] at h;simp[p,h]
  have:=adj b.toList j a2;rw[Array.toList_setIfInBounds];omega
theorem aiy{id:Nat}{d:df->Prop}(t:P.follows .mixedOrders=true)(e:Ai bs asX asY)
 (u:∀(j:Nat) (k:ey),asY[j]? =some k->∃o,asX[j]? =some o/\uQ P n asX o k)(x:mI gl P bs true asY s d)(h:ct gl ph n B O g s a w)(y:gn B O c0 w0 g.U w)
 (z:∀g' q c w',d q->ct gl ph n B O g' q c w'->gn B O c0 w0 g'.U w'->Q .normal c w'):(Code.region id asX true).wp P Q a w:=by
 obtain⟨g5,A,C,D⟩:=YU asY s e.ra x;refine wp_region_any t ?_;refine atC e u D (λg' c w' E F=>z g' _ c w' C E F) asX.size _ s g a _ ?_ ?_ (h.drew _) (y.trans (gn.drew _ _ _ _ _))
 ·simp
 ·have r:∀j,¬iG (Array.replicate asX.size false) j:=by intro j b;simp only[iG,nK,Array.getElem?_replicate] at b;split at b<;>simp at b
  refine⟨by simp,λj b=>?_,λl _=>by rw[A],λl i p hi=>?_⟩
  ·exact absurd b (r j)
  ·exact absurd hi (r i)
end
end
section
variable{P:Program} {t:TypeId} {o:Oper} {op:BinOp} {x:Operand}
structure l7 where
 vJ:List Nat
 aiW:List (Nat×List Bool)
 aD9:List Nat
 auq:List (Nat×List Nat)
 bJ:List (Nat×List Nat)
 deriving Inhabited
def vk(P:Program)(t:TypeId):Option (Nat×List Value):=
 match P.info? t with
 |some i=>match i.zero with
  |some z=>if z.cells.toList.length=i.size/\z.cells.toList.all iO=true then some (i.size,z.cells.toList) else none
  |none=>none
 |none=>none
theorem zc{sz:Nat}{zero:List Value}(h:vk P t=some (sz,zero)):ue P t sz zero:=by
 unfold vk at h;split at h
 ·rename_i i hi;split at h
  ·rename_i z b;split at h
   ·rename_i a;cases h;exact⟨i,z,hi,b,rfl,rfl,a.1,a.2⟩
   ·cases h
  ·cases h
 ·cases h
def Bd(P:Program)(t:TypeId):Option (Bool×Nat):=
 match P.info? t,P.underlying t with
 |some i,some d=>if Ax d=true\/i.size=1 then some (Ax d,i.size) else none
 |_,_=>none
theorem GA{a:Bool}{n:Nat}(h:Bd P t=some (a,n)):vB P t a n:=by
 unfold Bd at h;split at h
 ·rename_i i d hi hd;split at h
  ·rename_i b;cases h;exact⟨i,d,hi,rfl,hd,rfl,λe=>b.resolve_left (by simp[e])⟩
  ·cases h
 ·cases h
def CS(a:Nat->Option (Nat×Nat)):List (Nat×Operand)->Option (List (Nat×Nat×Operand))
 |[]=>some []
 |(i,x)::r=>
  match a i,CS a r with
  |some (off,n),some q=>if cJ x=true then some ((off,n,x)::q) else none
  |_,_=>none
theorem Of{a:Nat->Option (Nat×Nat)}:∀{l:List (Nat×Operand)} {q:List (Nat×Nat×Operand)},CS a l=some q->Cz a l q
 |[],q,h=>by cases h;trivial
 |(i,x)::r,q,h=>by
  unfold CS at h;split at h
  ·rename_i off n e b c;split at h
   ·rename_i d;cases h;exact⟨b,rfl,d,Of c⟩
   ·cases h
  ·cases h
def KN(P:Program)(t:TypeId)(parts:List (Nat×Operand)):Option (List (Nat×Nat×Operand)):=
 match P.underlying t with
 |some (.struct a)=>if a.toList.all (λf=>(P.info? f.type).isSome)=true then CS (λk=>(a[k]?).bind λf=>(P.info? f.type).map λi=>(f.offset,i.size)) parts else none
 |some (.array _ e)=>match P.info? e with
  |some i=>CS (λk=>some (k*i.size,i.size)) parts
  |none=>none
 |_=>none
theorem aBF{parts:List (Nat×Operand)}{b:List (Nat×Nat×Operand)}(h:KN P t parts=some b):YC P t parts b:=by
 unfold KN at h;split at h
 ·rename_i g a;split at h
  ·rename_i c;refine .inl ⟨g,a,λk f d=>?_,Of h⟩;rw[M2] at c;exact c f (by rw[<-xE] at d;exact On d)
  ·cases h
 ·rename_i m e a;split at h
  ·rename_i i hi;exact .inr ⟨m,e,i,a,hi,Of h⟩
  ·cases h
 ·cases h
def hJ(c:Bool)(r:nw):nw:=if c then r else .gY
theorem hN{c:Bool}{r:nw}(h:c=true->gA P o r):gA P o (hJ c r):=by
 cases c
 ·trivial
 ·exact h rfl
def QA:BinOp->Option Bool
 | .eql=>some false
 | .neq=>some true
 |_=>none
theorem O2{b:Bool}(h:QA op=some b):op=r5 b:=by cases op<;>simp[QA] at h<;>subst h<;>rfl
def MI:Operand->Bool
 | .const (.slice none 0 0)=>true
 |_=>false
theorem ag4(h:MI x=true):x= .const (.slice none 0 0):=by
 unfold MI at h;split at h
 ·rfl
 ·cases h
def PM(P:Program)(op:BinOp)(t:TypeId)(x y:Operand):nw:=
 match QA op,P.underlying t with
 |some neg,some .bool=>hJ (cJ x&&cJ y) (.p1 neg x y)
 |some neg,some (.slice _)=>hJ (cJ x&&MI y) (.pK neg x)
 |some neg,some (.struct ⟨[f1,f2]⟩)=>
  hJ (f1.name != "_" &&f2.name != "_" &&f1.offset==0&&f2.offset==1&&(match P.underlying f1.type with|some .string=>true|_=>false)&&(match P.underlying f2.type with|some .string=>true|_=>false)&&
   !P.stoodInHeld t&& !P.eqGuardType P.depth t&&cJ x&&cJ y) (.qn neg x y)
 |_,_=>hJ (cJ x&&cJ y) (match op with
  | .shl| .shr=> .e0 op x y
  | .and| .or| .xor| .andNot=> .bits op x y
  |_=> .qo op x y)
theorem TJ{d:Option TypeDesc}(h:(match d with|some .string=>true|_=>false)=true):d=some .string:=by
 split at h
 ·rfl
 ·cases h
theorem alN{c:TypeId}{y:Operand}(b:o.op= .binOp op t x y c):gA P o (PM P op t x y):=by
 unfold PM;split
 ·rename_i neg d g;refine hN (λa=>?_);simp only[Hi] at a;rw[O2 d] at b;exact⟨t,c,b,g,a.1,a.2⟩
 ·rename_i neg e d g;refine hN (λa=>?_);simp only[Hi] at a;rw[O2 d,ag4 a.2] at b;exact⟨t,c,e,b,g,a.1⟩
 ·rename_i neg f1 f2 d g;refine hN (λa=>?_);simp only[Hi,bne_iff_ne,m2,EY] at a;obtain⟨⟨⟨⟨⟨⟨⟨⟨⟨c1,h⟩,i⟩,j⟩,k⟩,l⟩,n⟩,p⟩,IR⟩,q⟩:=a;rw[O2 d] at b;exact⟨t,c,f1,f2,b,g,c1,h,i,j,TJ k,TJ l,n,p,IR,q⟩
 ·refine hN (λa=>?_);simp only[Hi] at a;cases op<;>exact⟨t,c,b,a.1,a.2⟩
def MF(P:Program)(s t:TypeId)(x:Operand):nw:=
 match P.underlying s,P.underlying t with
 |some _,some (.int k)=>hJ (cJ x) (.p4 k x)
 |some (.slice e),some .string=>match P.underlying e with
  |some (.int .u8)=>hJ (cJ x) (.oQ x)
  |_=> .gY
 |_,_=> .gY
theorem aeV{s:TypeId}(g:o.op= .convert s t x):gA P o (MF P s t x):=by
 unfold MF;split
 ·rename_i d k a b;exact hN (λc=>⟨s,t,d,g,a,b,c⟩)
 ·rename_i e a b;split
  ·rename_i h;exact hN (λc=>⟨s,t,e,g,a,h,b,c⟩)
  ·trivial
 ·trivial
def LY(P:Program)(H:l7)(o:Oper)(c:Call):nw:=
 match c with
 |{callee:= .value f,args:=args,argTypes:=_}=>hJ (cJ f&&args.toList.all cJ) (match f with
  | .func i=>(match H.aiW.lookup i with|some l=> .hV f args.toList l|none=> .call f args.toList)
  | .tmp t=>if H.aD9.contains t then .call f args.toList else .hV f args.toList []
  |_=> .hV f args.toList [])
 |{callee:= .builtin .len,args:=⟨[x]⟩,argTypes:=⟨[t]⟩}=>match P.underlying t with
  |some .string=>hJ (cJ x) (.len true x)
  |some (.slice _)=>hJ (cJ x) (.len false x)
  |_=> .gY
 |{callee:= .builtin .append,args:=⟨[s,x]⟩,argTypes:=⟨[t,a]⟩}=>match P.underlying t with
  |some (.slice e)=>match P.info? e with
   |some i=>match i.zero with
    |some z=>if t==a then hJ (t==a&&o.dst.isSome&&z.cells.size==i.size&&decide (0<i.size)&&cJ s&&cJ x) (.append e i.size i.bytes s x (H.vJ.contains (o.dst.getD 0)))
     else match vk P e,P.underlying a with
      |_,some .string=>hJ (o.dst.isSome&&z.cells.size==1&&i.size==1&&cJ s&&cJ x) (.mM e i.bytes s x (H.vJ.contains (o.dst.getD 0)))
      |some (sz,b),some (.int _)=>hJ (o.dst.isSome&&decide (0<sz)&&cJ s&&cJ x) (.oy e sz i.bytes b s x (H.vJ.contains (o.dst.getD 0)))
      |_,_=> .gY
    |none=> .gY
   |none=> .gY
  |_=> .gY
 |{callee:= .builtin .cap,args:=⟨[x]⟩,argTypes:=⟨[t]⟩}=>match P.underlying t with
  |some (.slice _)=>hJ (cJ x) (.pF x)
  |_=> .gY
 |{callee:= .builtin .clear,args:=⟨[x]⟩,argTypes:=⟨[t]⟩}=>match P.underlying t with
  |some (.slice e)=>match vk P e with
   |some (sz,z)=>hJ (decide (0<sz)&&cJ x) (.oO e sz z x)
   |none=> .gY
  |_=> .gY
 |{callee:= .builtin .max,args:=⟨[x,y]⟩,argTypes:=_}=>hJ (cJ x&&cJ y) (.kV true x y)
 |{callee:= .builtin .min,args:=⟨[x,y]⟩,argTypes:=_}=>hJ (cJ x&&cJ y) (.kV false x y)
 |_=> .gY
theorem aDb{H:l7}{c:Call}(b:o.op= .call c):gA P o (LY P H o c):=by
 unfold LY;split
 ·refine hN (λa=>?_);simp only[Hi] at a;split
  ·split
   ·exact⟨_,by rw[b],a.1,a.2⟩
   ·exact⟨_,by rw[b],a.1,a.2⟩
  ·split
   ·exact⟨_,by rw[b],a.1,a.2⟩
   ·exact⟨_,by rw[b],a.1,a.2⟩
  ·exact⟨_,by rw[b],a.1,a.2⟩
 ·rename_i x t;split
  ·rename_i d;exact hN (λa=>⟨t,b,by simpa using d,a⟩)
  ·rename_i e d;exact hN (λa=>⟨t,b,by simp;exact⟨e,d⟩,a⟩)
  ·trivial
 ·rename_i s x t j;split
  ·rename_i e d;split
   ·rename_i i hi;split
    ·rename_i z g;split
     ·refine hN (λa=>?_);simp only[Hi,m2,fo] at a;obtain⟨⟨⟨⟨⟨c1,l⟩,n⟩,p⟩,q⟩,r⟩:=a;subst c1;exact⟨t,i,b,l,d,hi,rfl,⟨z,g,n⟩,rfl,p,q,r⟩
     ·split
      ·rename_i h;refine hN (λa=>?_);simp only[Hi,m2] at a;exact⟨t,j,i,z,b,a.1.1.1.1,d,h,hi,rfl,g,a.1.1.1.2,a.1.1.2,a.1.2,a.2⟩
      ·rename_i sz w k u h;refine hN (λa=>?_);simp only[Hi,fo] at a;exact⟨t,j,i,k,b,a.1.1.1,d,h,hi,rfl,zc u,a.1.1.2,a.1.2,a.2⟩
      ·trivial
    ·trivial
   ·trivial
  ·trivial
 ·rename_i x t;split
  ·rename_i e d;exact hN (λa=>⟨t,e,b,d,a⟩)
  ·trivial
 ·rename_i x t;split
  ·rename_i e d;split
   ·rename_i sz z g;refine hN (λa=>?_);simp only[Hi,fo] at a;exact⟨t,b,d,zc g,a.1,a.2⟩
   ·trivial
  ·trivial
 ·refine hN (λa=>?_);simp only[Hi] at a;exact⟨_,b,a.1,a.2⟩
 ·refine hN (λa=>?_);simp only[Hi] at a;exact⟨_,b,a.1,a.2⟩
 ·trivial
def A8(P:Program)(H:l7)(o:Oper):nw:=
 match o.op with
 | .move x=>hJ (cJ x) (.qg x)
 | .assign x=>hJ (cJ x) (.qg x)
 | .pick c a b=>hJ (cJ c&&cJ a&&cJ b) (.pick c a b)
 | .alloc t=>match vk P t with
   |some (_,z)=>hJ (decide (t<65536)&&o.dst.isSome) (.alloc t z)
   |none=> .gY
 | .box t x=>hJ (decide (t<65536)&&o.dst.isSome&&cJ x) (.box t x)
 | .build t parts=>match vk P t,KN P t parts.toList with
   |some (_,z),some j=> .build z j
   |_,_=> .gY
 | .buildSlice t len parts=>match P.underlying t with
   |some (.slice e)=>match vk P e with
    |some (sz,z)=>hJ (o.dst.isSome&&decide (0<sz)&&decide (len*sz<=16777216)&&parts.toList.all (λp=>cJ p.2)) (.m4 e sz z len parts.toList (H.vJ.contains (o.dst.getD 0)))
    |none=> .gY
   |_=> .gY
 | .load t x=>match Bd P t with
   |some (d,n)=>hJ (cJ x) (.load d n x)
   |none=> .gY
 | .store t x v=>match Bd P t with
   |some (_,n)=>hJ (cJ x&&cJ v) (.store n x v)
   |none=> .gY
 | .nilCheck x=>hJ (cJ x) (.qj x)
 | .binOp op t x y _=>PM P op t x y
 | .unOp op _ x=>hJ (cJ x) (.nC op x)
 | .convert s t x=>MF P s t x
 | .makeSlice t l c=>match P.underlying t with
   |some (.slice e)=>match vk P e,P.info? e with
    |some (sz,z),some i=>hJ (o.dst.isSome&&decide (0<sz)&&cJ l&&cJ c) (.oJ e sz i.bytes z l c)
    |_,_=> .gY
   |_=> .gY
 | .slice t x lo hi none=>match P.underlying t with
   |some .string=>hJ (cJ x&&(nc lo++nc hi).all cJ) (.p9 x lo hi)
   |some (.slice e)=>match P.info? e with
    |some i=>hJ (cJ x&&(nc lo++nc hi).all cJ) (.o9 i.size x lo hi)
    |none=> .gY
   |some (.array n e)=>match P.info? e with
    |some i=>hJ (lo.isNone&&hi.isNone&&i.size==1&&cJ x) (.oF n x)
    |none=> .gY
   |_=> .gY
 | .fieldAddr t x k=>match P.underlying t with
   |some (.struct g)=>match g[k]? with
    |some f=>match P.info? f.type with
     |some i=>hJ (i.size !=0&&cJ x) (.p6 f.offset x)
     |none=> .gY
    |none=> .gY
   |_=> .gY
 | .field t x k=>match P.underlying t with
   |some (.struct g)=>match g[k]? with
    |some f=>match Bd P f.type with
     |some (d,n)=>hJ (cJ x) (.p5 d f.offset n x)
     |none=> .gY
    |none=> .gY
   |_=> .gY
 | .indexAddr t x i=>match P.underlying t with
   |some (.slice e)=>match P.info? e with
    |some h=>hJ (cJ x&&cJ i) (.ji h.size x i)
    |none=> .gY
   |some (.array n e)=>match P.info? e with
    |some h=>hJ (cJ x&&cJ i) (.pB n h.size x i)
    |none=> .gY
   |_=> .gY
 | .index t x i=>match P.underlying t with
   |some .string=>hJ (cJ x&&cJ i) (.pJ x i)
   |_=> .gY
 | .extract x i=>hJ (cJ x) (.ext x i)
 | .call c=>LY P H o c
 | .makeFunc (.func f) ⟨[]⟩ ar9=>hJ (ar9.toList.all cJ) (.qa f ar9.toList)
 |_=> .gY
theorem Z0{H:l7}:gA P o (A8 P H o):=by
 unfold A8;split
 ·rename_i x g;exact hN (λd=>⟨.inl g,d⟩)
 ·rename_i x g;exact hN (λd=>⟨.inr g,d⟩)
 ·rename_i c a b g;refine hN (λd=>?_);simp only[Hi] at d;exact⟨g,d.1.1,d.1.2,d.2⟩
 ·rename_i t g;split
  ·rename_i sz z j;refine hN (λd=>?_);simp only[Hi,fo] at d;exact⟨g,d.1,d.2,sz,zc j⟩
  ·trivial
 ·rename_i t x g;refine hN (λd=>?_);simp only[Hi,fo] at d;exact⟨g,d.1.1,d.1.2,d.2⟩
 ·rename_i t parts g;split
  ·rename_i sz z F j A;exact⟨t,parts,sz,g,zc j,aBF A⟩
  ·trivial
 ·rename_i t len parts g;split
  ·rename_i e h;split
   ·rename_i sz z j;refine hN (λd=>?_);simp only[Hi,fo] at d;exact⟨t,parts,g,d.1.1.1,h,zc j,rfl,d.1.1.2,d.1.2,d.2⟩
   ·trivial
  ·trivial
 ·rename_i t x g;split
  ·rename_i q n p;exact hN (λd=>⟨t,g,GA p,d⟩)
  ·trivial
 ·rename_i t x v g;split
  ·rename_i q n p;refine hN (λd=>?_);simp only[Hi] at d;exact⟨t,q,g,GA p,d.1,d.2⟩
  ·trivial
 ·rename_i x g;exact hN (λd=>⟨g,d⟩)
 ·rename_i op t x y G g;exact alN g
 ·rename_i op t x g;exact hN (λd=>⟨t,g,d⟩)
 ·rename_i s t x g;exact aeV g
 ·rename_i t l c g;split
  ·rename_i e h;split
   ·rename_i sz z i j hi;refine hN (λd=>?_);simp only[Hi,fo] at d;exact⟨t,i,g,d.1.1.1,h,zc j,hi,rfl,d.1.1.2,d.1.2,d.2⟩
   ·trivial
  ·trivial
 ·rename_i t x lo hi g;split
  ·rename_i h;refine hN (λd=>?_);simp only[Hi] at d;exact⟨t,g,h,d.1,d.2⟩
  ·rename_i e h;split
   ·rename_i i hi;refine hN (λd=>?_);simp only[Hi] at d;exact⟨t,e,i,g,h,hi,rfl,d.1,d.2⟩
   ·trivial
  ·rename_i m e h;split
   ·rename_i i hi;refine hN (λd=>?_);simp only[Hi,Option.isNone_iff_eq_none,m2] at d;obtain⟨⟨⟨B,C⟩,D⟩,E⟩:=d;subst B;subst C;exact⟨t,e,i,g,h,hi,D,E⟩
   ·trivial
  ·trivial
 ·rename_i t x k g;split
  ·rename_i r h;split
   ·rename_i f u;split
    ·rename_i i hi;refine hN (λd=>?_);simp only[Hi,bne_iff_ne] at d;exact⟨t,r,k,f,i,g,h,u,rfl,hi,d.1,d.2⟩
    ·trivial
   ·trivial
  ·trivial
 ·rename_i t x k g;split
  ·rename_i r h;split
   ·rename_i f u;split
    ·rename_i q n p;exact hN (λd=>⟨t,r,k,f,g,h,u,rfl,GA p,d⟩)
    ·trivial
   ·trivial
  ·trivial
 ·rename_i t x i g;split
  ·rename_i e h;split
   ·rename_i w hi;refine hN (λd=>?_);simp only[Hi] at d;exact⟨t,e,w,g,h,hi,rfl,d.1,d.2⟩
   ·trivial
  ·rename_i m e h;split
   ·rename_i w hi;refine hN (λd=>?_);simp only[Hi] at d;exact⟨t,e,w,g,h,hi,rfl,d.1,d.2⟩
   ·trivial
  ·trivial
 ·rename_i t x i g;split
  ·rename_i h;refine hN (λd=>?_);simp only[Hi] at d;exact⟨t,g,h,d.1,d.2⟩
  ·trivial
 ·rename_i x i g;exact hN (λd=>⟨g,d⟩)
 ·rename_i c g;exact aDb g
 ·rename_i f ar9 g;exact hN (λd=>⟨g,d⟩)
 ·trivial
end
section
variable{bs:Nat}
def nR:Loc->Nat
 | .inl t=>2*t
 | .inr k=>2*k+1
theorem aqj{a b:Loc}(h:nR a=nR b):a=b:=by
 cases a<;>cases b<;>simp only[nR] at h
 ·congr 1;omega
 ·omega
 ·omega
 ·congr 1;omega
def mR:List Loc->Nat
 |[]=>0
 |l::r=>(1 <<< nR l)|||mR r
theorem Ag:∀{l:Loc} {a:List Loc},l∈a->(mR a).testBit (nR l)=true
 |l,[],h=>by cases h
 |l,x::r,h=>by
  simp only[mR,i7,dS];rcases pG.1 h with rfl|h
  ·left;simp[GP]
  ·right;exact Ag h
theorem ad7:∀{l:Loc} {c:List Loc},(mR c).testBit (nR l)=true->l∈c
 |l,[],h=>by simp[mR] at h
 |l,x::r,h=>by
  simp only[mR,i7,dS] at h;rcases h with h|h
  ·rw[GP] at h;simp only[Hi,fo] at h;obtain⟨g,d⟩:=h;rcases P1 (nR l-nR x) with e|e
   ·rw[aqj (a:=l) (b:=x) (by omega)];exact HO
   ·have:(1:Nat).testBit (nR l-nR x)=false:=Nat.testBit_lt_two_pow (nJ (by omega));rw[this] at d;cases d
  ·exact OJ _ (ad7 h)
def EJ:Nat:=Nat.div (Nat.mul 2 (Nat.sub (Nat.pow 4 4099) 1)) 3
theorem awk:(List.range 4099).all (λc=>EJ.testBit (2*c+1))=true:=by kernel_rfl
def wB(a:ey):Nat:=
 if a.bT.contains 4097 then mR ((Fo a).map .inl++a.bT.map .inr)|||(EJ^^^(EJ&&& mR ((mK a.bT).map .inr))) else mR ((Fo a).map .inl++a.bT.map .inr)
theorem aeh{l:Loc}{a:ey}(h:l∈oK a):(wB a).testBit (nR l)=true:=by
 unfold wB;unfold oK An at h;split
 ·rename_i b;rw[y1 b,LZ,<-dD,Ic] at h;rw[i7,dS];rcases h with h|h
  ·exact .inl (Ag h)
  ·right;obtain⟨c,g,rfl⟩:=yd.1 h;obtain⟨i,d⟩:=kT.1 g;have j:EJ.testBit (2*c+1)=true:=M2.1 awk c i;have k:(mR ((mK a.bT).map .inr)).testBit (nR (.inr c))=false:=by
    cases n:(mR ((mK a.bT).map .inr)).testBit (nR (.inr c)) with
    |false=>rfl
    |true=>obtain⟨p,o,e⟩:=yd.1 (ad7 n);cases e;simp at d;exact absurd o d
   rw[Nat.testBit_xor,Nat.testBit_and,k];show(EJ.testBit (2*c+1)^^_)=true;rw[j,Bool.and_false];rfl
 ·rename_i b;rw[Ca b] at h;exact Ag h
def xO(done:Nat->Nat):List Edge->Nat
 |[]=>0
 |e::r=>(if Region.binds .any e then(1 <<< e.on)|||done e.on else 0)|||xO done r
theorem Xq{asX:Array Oper}{j:Nat}{o:Oper}(b:asX[j]? =some o){done:Nat->Nat}:∀(l:List Edge),(∀e∈l,e∈o.after/\(Region.binds .any e=true->∀i,(done e.on).testBit i=true->ot asX i e.on))->
 ∀i,(xO done l).testBit i=true->ot asX i j
 |[],_,i,h=>by simp[xO] at h
 |e::r,d,i,h=>by
  simp only[xO,i7,dS] at h;rcases h with h|h
  ·split at h
   ·rename_i c;obtain⟨a,hd⟩:=d e (by simp);rw[i7,dS] at h;rcases h with h|h
    ·have:i=e.on:=by
      rw[GP] at h;simp only[Hi,fo] at h;obtain⟨n,g⟩:=h;rcases P1 (i-e.on) with k|k
      ·omega
      ·have:(1:Nat).testBit (i-e.on)=false:=Nat.testBit_lt_two_pow (nJ (by omega));rw[this] at g;cases g
     subst this;exact .JW b (by simpa using a) c rfl
    ·exact .trans (hd c i h) (.JW b (by simpa using a) c rfl)
   ·simp at h
  ·exact Xq b r (λe a=>d e (by simp[a])) i h
def Gi(nS a b:Nat):List (Nat×Nat×Nat)->Bool
 |[]=>true
 |(d,w',_)::c=>((w'&&&(nS|||a))==0&&(d&&& a)==0||b.testBit c.length)&&Gi nS a b c
def vT:List (Nat×Nat×Nat)->Nat->Nat
 |[],_=>0
 |(_,_,a)::b,i=>if i=b.length then a else vT b i
def Rm(j:Nat)(l:List Edge):Bool:=l.all λe=> !Region.binds .any e||decide (e.on<j)
def zV:List Oper->List ey->List (Nat×Nat×Nat)->Bool
 |[],[],_=>true
 |o::os,p::c,arZ=>
  let nS:=wB p;let a:=mR (g1 p);let b:=xO (vT arZ) o.after.toList
  Rm arZ.length o.after.toList&&(!p.ai.ra||p.a7.contains (p.ai.off+p.dst.getD 0)&&decide (p.ai.off+p.dst.getD 0<4096))&&Gi nS a b arZ&&zV os c ((nS,a,b)::arZ)
 |_,_,_=>false
structure abA (asX:Array Oper) (asY:List ey) (arZ:List (Nat×Nat×Nat)):Prop where
 get:∀i,i<arZ.length->∃p,asY[i]? =some p/\arZ.reverse[i]? =some (wB p,mR (g1 p),vT arZ i)
 qz:∀i j,j<arZ.length->(vT arZ j).testBit i=true->ot asX i j
theorem aeN{nS d k:Nat}:∀(arZ:List (Nat×Nat×Nat)),Gi nS d k arZ=true->∀i b w' c,arZ.reverse[i]? =some (b,w',c)->((w'&&&(nS|||d))=0/\(b&&& d)=0)\/k.testBit i=true
 |[],_,i,b,w',c,h=>by simp at h
 |(r,w,a)::g,j,i,b,w',c,h=>by
  simp only[Gi,Hi,dS,m2] at j;rw[List.reverse_cons] at h;rcases DL i g.length with hi|hi
  ·rw[q5 (by simpa using hi)] at h;exact aeN g j.2 i b w' c h
  ·rw[sH (by simpa using hi)] at h;have:i=g.length:=by
    rcases Nat.eq_or_lt_of_le hi with e|e
    ·exact e.symm
    ·rw[qQ (by simp;omega)] at h;cases h
   subst this;simp at h;obtain⟨rfl,rfl,rfl⟩:=h;exact j.1
theorem aBU{d:Nat}(h:d<4096):fl bs (bs+d)=d:=by unfold fl;rw[fS];omega
theorem Rh{bs:Nat}{asX:Array Oper}{asY:List ey}:∀(os:List Oper) (d:List ey) (arZ:List (Nat×Nat×Nat)),zV os d arZ=true->(∀j,os[j]? =asX[arZ.length+j]?)->(∀j,d[j]? =asY[arZ.length+j]?)->abA asX asY arZ->
 (∀(j:Nat) (o:Oper),arZ.length<=j->asX[j]? =some o->∀e∈o.after,Region.binds .any e=true->e.on<j)/\
 (∀(i j:Nat) (p q:ey),i<j->arZ.length<=j->asY[i]? =some p->asY[j]? =some q->P0 p q->ot asX i j)/\
 (∀(j:Nat) (p:ey),arZ.length<=j->asY[j]? =some p->p.ai.ra=true->fl bs (bs+p.ai.off+p.dst.getD 0)∈p.a7)
 |[],[],arZ,_,g,n,_=>by
  have O:∀j,arZ.length<=j->asX[j]? =none:=λj a=>by have:=g (j-arZ.length);rw[show arZ.length+(j-arZ.length)=j by omega] at this;simpa using this.symm
  have E:∀j,arZ.length<=j->asY[j]? =none:=λj a=>by have:=n (j-arZ.length);rw[show arZ.length+(j-arZ.length)=j by omega] at this;simpa using this.symm
  exact⟨λj o a h=>absurd h (by simp[O j a]),λi j p q _ a _ h=>absurd h (by simp[E j a]),λj p a h=>absurd h (by simp[E j a])⟩
 |[],p::d,arZ,h,_,_,_=>by simp[zV] at h
 |o::os,[],arZ,h,_,_,_=>by simp[zV] at h
 |o::os,p::d,arZ,h,g,n,t=>by
  simp only[zV,Hi] at h;obtain⟨⟨⟨F,x⟩,P⟩,Q⟩:=h;have G:asX[arZ.length]? =some o:=by have:=g 0;simpa using this.symm
  have y:asY[arZ.length]? =some p:=by have:=n 0;simpa using this.symm
  have H:∀e∈o.after,Region.binds .any e=true->e.on<arZ.length:=by intro e u b;rw[Rm,M2] at F;have:=F e (by simpa using u);simpa[b] using this
  have I:∀i,(xO (vT arZ) o.after.toList).testBit i=true->ot asX i arZ.length:=
   Xq G _ (λe u=>⟨by simpa using u,λb i hi=>t.qz i e.on (H e (by simpa using u) b) hi⟩)
  have R:abA asX asY ((wB p,mR (g1 p),xO (vT arZ) o.after.toList)::arZ):=by
   refine⟨λi hi=>?_,λi j a b=>?_⟩
   ·simp only[JO] at hi;rw[List.reverse_cons];simp only[vT];by_cases e:i=arZ.length
    ·subst e;refine⟨p,y,?_⟩;rw[sH (by simp)];simp
    ·obtain⟨q,w,z⟩:=t.get i (by omega);refine⟨q,w,?_⟩;rw[q5 (by simp;omega),Ca e];exact z
   ·simp only[JO] at a;simp only[vT] at b;split at b
    ·rename_i e;subst e;exact I i b
    ·exact t.qz i j (by omega) b
  obtain⟨r1,J,K⟩:=Rh (bs:=bs) (asX:=asX) (asY:=asY) os d _ Q (λj=>by have:=g (j+1);simp only[zd] at this;rw[this];congr 1;simp only[JO];omega)
   (λj=>by have:=n (j+1);simp only[zd] at this;rw[this];congr 1;simp only[JO];omega) R
  simp only[JO] at r1 J K;refine⟨λj o' a A=>?_,λi j q r L a c B M=>?_,λj q a c N=>?_⟩
  ·by_cases e:j=arZ.length
   ·subst e;rw[G] at A;cases A;exact H
   ·exact r1 j o' (by omega) A
  ·by_cases e:j=arZ.length
   ·subst e;rw[y] at B;cases B;obtain⟨W,w,z⟩:=t.get i L;rw[c] at w;cases w;rcases aeN arZ P i _ _ _ z with⟨S,T⟩|k
    ·exfalso;rcases M with⟨l,C,D⟩|⟨l,C,D⟩
     ·have:(mR (g1 q)&&&(wB p|||mR (g1 p))).testBit (nR l)=true:=by
       rw[Nat.testBit_and,i7,Ag C];rcases Ic.1 D with h|h
       ·rw[aeh h];rfl
       ·rw[Ag h];simp
      rw[S] at this;simp at this
     ·have:(wB q&&& mR (g1 p)).testBit (nR l)=true:=by rw[Nat.testBit_and,aeh C,Ag D];rfl
      rw[T] at this;simp at this
    ·exact I i k
   ·exact J i j q r L (by omega) c B M
  ·by_cases e:j=arZ.length
   ·subst e;rw[y] at c;cases c;simp only[N,tF,qq,List.contains_eq_mem,fo,Hi] at x;rw[gm,aBU x.2];exact x.1
   ·exact K j q (by omega) c N
def XS(asX:Array Oper)(asY:List ey):Bool:=zV asX.toList asY []
theorem ath{asX:Array Oper}{asY:List ey}(b:asX.size=asY.length)(h:XS asX asY=true):Ai bs asX asY:=by obtain⟨c,d,e⟩:=Rh (bs:=bs) (asX:=asX) (asY:=asY) asX.toList asY [] h (by simp) (by simp) ⟨λi hi=>by simp at hi,λi j a=>by simp at a⟩;refine⟨b,λj o g=>c j o (by simp) g,λi j p q k l n r=>d i j p q k (by simp) l n r,λt u w=>?_⟩;obtain⟨j,a⟩:=vg.1 u;exact e j t (by simp) a w
end
section
variable{asX:Array Oper} {asB:Bool} {s:df}
def Po(asX:Array Oper)(n:Nat):Option (Nat×Bool)->Option (Option (Nat×Bool))
 |none=>some none
 |some (j,b)=>match asX[j]? with
  |some o=>match o.dst with
   |some t=>if t<n then some (some (t,b)) else none
   |none=>none
  |none=>none
def vz(H:l7)(xs:List Operand):List Nat:=xs.flatMap λ | .tmp t=>(H.auq.lookup t).getD []|_=>[]
def aAm(H:l7)(d:Nat)(r:nw):List Nat:=
 (if r.ra then[r.off+d] else[])++
 match r with
 | .store _ a _=>vz H [a]
 | .append _ _ _ s _ _=>vz H [s]
 | .mM _ _ s _ _=>vz H [s]
 | .oO _ _ _ x=>vz H [x]
 | .oF _ x=>vz H [x]
 | .m4 _ _ _ _ parts _=>(vz H (parts.map (·.2))).filter λc=>H.vJ.contains (c-2048)
 | .call _ args=>(vz H args).filter λc=>H.vJ.contains (c-2048)
 | .hV _ _ _=>((H.bJ.lookup d).getD [4096,4098]).filter λc=> !Nat.ble 8192 c
 |_=>[]
def aCd(H:l7)(d:Nat):nw->List Nat
 | .hV _ _ _=>4097::((H.bJ.lookup d).getD []).filter λc=>Nat.ble 8192 c
 |r=>if r.looks then vz H r.mh else[]
def SK(n:Nat):Option Nat->Bool
 |some t=>decide (t<n)
 |none=>true
def LA(P:Program)(H:l7)(n:Nat)(asB:Bool)(asX:Array Oper)(o:Oper):Option ey:=
 if SK n o.dst then
  match Po asX n o.guard with
  |some g=>some (if asB then⟨o.dst,g,A8 P H o,aCd H (o.dst.getD 0) (A8 P H o),aAm H (o.dst.getD 0) (A8 P H o)⟩ else⟨o.dst,g,A8 P H o,[],[]⟩)
  |none=>none
 else none
def ajG(asX:Array Oper)(n:Nat)(a g:Option (Nat×Bool)):Prop:=
 match a,g with
 |none,none=>True
 |some (j,b),some (t,c)=>b=c/\(asX[j]?).bind (·.dst)=some t/\t<n
 |_,_=>False
theorem awS{n:Nat}{a g:Option (Nat×Bool)}(h:Po asX n a=some g):ajG asX n a g:=by
 cases a with
 |none=>cases h;trivial
 |some x=>
  obtain⟨j,b⟩:=x;simp only[Po] at h;split at h
  ·rename_i o' c;split at h
   ·rename_i t d;split at h
    ·rename_i e;cases h;exact⟨rfl,by rw[c];exact d,e⟩
    ·cases h
   ·cases h
  ·cases h
theorem aih{P:Program}{H:l7}{n:Nat}{o:Oper}{a:ey}(h:LA P H n asB asX o=some a):uQ P n asX o a:=by
 unfold LA at h;split at h
 ·rename_i hd;split at h
  ·rename_i g d;have b:∀t,o.dst=some t->t<n:=by intro t e;rw[e] at hd;simpa[SK] using hd
   have c:=awS d;cases asB
   ·simp only[Nn,st,O5] at h;subst h;exact⟨rfl,b,Z0,c⟩
   ·simp only[w6,O5] at h;subst h;exact⟨rfl,b,Z0,c⟩
  ·cases h
 ·cases h
def JQ(P:Program)(H:l7)(n:Nat)(asB:Bool)(asX:Array Oper):List Oper->Option (List ey)
 |[]=>some []
 |o::r=>match LA P H n asB asX o,JQ P H n asB asX r with
  |some p,some a=>some (p::a)
  |_,_=>none
theorem Yl{P:Program}{H:l7}{n:Nat}{asB:Bool}{asX:Array Oper}:∀{l:List Oper} {a:List ey},JQ P H n asB asX l=some a->l.length=a.length/\∀(j:Nat) (b:ey),a[j]? =some b->∃o,l[j]? =some o/\uQ P n asX o b
 |[],a,h=>by cases h;exact⟨rfl,by simp⟩
 |o::r,a,h=>by
  unfold JQ at h;split at h
  ·rename_i p k d e;cases h;obtain⟨g,i⟩:=Yl e;refine⟨by simp[g],λj b c=>?_⟩;cases j with
   |zero=>simp at c;subst c;exact⟨o,rfl,aih d⟩
   |succ j=>exact i j b (by simpa using c)
  ·cases h
def D3:pY:= .cond (.const .nilIface) .skip .skip
theorem yf{P:Program}{gl:eI}{bs:Nat}{Q:ne->df->Prop}(h:kG gl P bs D3 Q s):False:=h
def MD(P:Program)(H:l7)(n:Nat)(asX:Array Oper)(asB:Bool):pY:=
 match JQ P H n asB asX asX.toList with
 |some a=>if !asB||XS asX a then .region asB a else D3
 |none=>D3
def comp(P:Program)(H:l7)(n:Nat):Code->pY
 | .skip=> .skip
 | .region _ asX asB=>MD P H n asX asB
 | .seq a b=> .seq (comp P H n a) (comp P H n b)
 | .cond c a b=>if cJ c then .cond c (comp P H n a) (comp P H n b) else D3
 | .block id b=> .block id (comp P H n b)
 | .loop b=> .loop (comp P H n b)
 | .exit id=> .exit id
 | .label _=> .skip
 | .ret=> .ret
 |_=>D3
def MC:ne->Exit
 | .normal=> .normal
 | .exit i=> .exit i
 | .ret=> .ret
section
variable{P:Program} {H:l7} {n B bs:Nat} {O:Nat->Prop} {gl:eI} {ph:ck×cD×World×List Deferred} {c0:Nat->Nat} {w0:World}
theorem aqE(z:P.follows .mixedOrders=true){id:Nat}{p:ne->df->Prop}{Q:Exit->Act->World->Prop}{g:ck}{a:Act}{w:World}
 (b:kG gl P bs (MD P H n asX asB) p s)(h:ct gl ph n B O g s a w)(q:gn B O c0 w0 g.U w)(r:∀x g' c d w',p x c->ct gl ph n B O g' c d w'->gn B O c0 w0 g'.U w'->Q (MC x) d w'):(Code.region id asX asB).wp P Q a w:=by
 unfold MD at b;split at b
 ·rename_i i A;split at b
  ·rename_i t;obtain⟨u,C⟩:=Yl A;have y:∀(j:Nat) (e:ey),i[j]? =some e->∃o,asX[j]? =some o/\uQ P n asX o e:=λj e k=>by obtain⟨o,D,E⟩:=C j e k;exact⟨o,by simpa using D,E⟩
   simp only[kG] at b;cases asB with
   |true=>simp only[tF,qq] at t;exact aiy z (ath (by simpa using u) t) y b h q (λg' c d w' l=>r .normal g' c d w' l)
   |false=>refine wp_region ?_;have:=Vk (asX:=asX) (Q:=Q) i 0 g s a w (λj e k=>by rw[Fa];exact y j e k) b h q (λg' c d w' l=>r .normal g' c d w' l);rw[List.range_eq_range',show asX.size=i.length by simpa using u];exact this
  ·exact(yf b).elim
 ·exact(yf b).elim
theorem arH(I:P.follows .mixedOrders=true):∀(c:Code) (k:ne->df->Prop) (Q:Exit->Act->World->Prop) (g:ck) (s:df) (a:Act) (w:World),
 kG gl P bs (comp P H n c) k s->ct gl ph n B O g s a w->gn B O c0 w0 g.U w->(∀x g' q r w',k x q->ct gl ph n B O g' q r w'->gn B O c0 w0 g'.U w'->Q (MC x) r w')->c.wp P Q a w:=by
 intro c;induction c with
 |skip=>intro k Q g s a w d h o j;exact wp_skip (j .normal g s a w d h o)
 |region id asX asB=>intro k Q g s a w d h o j;exact aqE I d h o j
 |seq x y A C=>
  intro k Q g s a w d h o j;refine wp_seq (A (xX (u9 (kG gl P bs (comp P H n y) k)) k) _ g s a w d h o (λe g' q r w' p t u=>?_));cases e with
  |normal=>obtain⟨D,E,p⟩:=p;exact C k Q g' ⟨D,q.bo⟩ r w' p (t.u9 E) u j
  |exit i=>exact j (.exit i) g' q r w' p t u
  |ret=>exact j .ret g' q r w' p t u
 |cond c x y A C=>
  intro k Q g s a w d h o j;simp only[comp] at d;split at d
  ·rename_i J;have e:=h.fF J;simp only[kG] at d;split at d
   ·rename_i F;rw[F] at e;exact wp_cond_true e.fB.1 (A k Q g s a w d h o j)
   ·rename_i F;rw[F] at e;exact wp_cond_false e.fB.1 (C k Q g s a w d h o j)
   ·exact d.elim
  ·exact(yf d).elim
 |block id b G=>
  intro k Q g s a w d h o j;refine wp_block (G (CK id k) _ g s a w d h o (λe g' q r w' p t u=>?_));cases e with
  |normal=>exact j .normal g' q r w' p t u
  |exit i=>
   simp only[CK] at p;simp only[MC,Exit.inBlock];by_cases hi:i=id
   ·rw[y1 hi] at p ⊢;exact j .normal g' q r w' p t u
   ·rw[Ca hi] at p ⊢;exact j (.exit i) g' q r w' p t u
  |ret=>exact j .ret g' q r w' p t u
 |loop b G=>
  intro k Q g s a w d h o j;obtain⟨m,z⟩:=d;refine wp_loop_rounds m ?_;induction m generalizing g s a w with
  |zero=>exact z.elim
  |succ m K=>
   obtain⟨D,E,z⟩:=z;refine G (xX (rounds (kG gl P bs (comp P H n b)) k m) k) _ g ⟨D,s.bo⟩ a w z (h.u9 E) o (λe g' q r w' p t u=>?_);cases e with
   |normal=>exact K g' q r w' t u p
   |exit i=>exact j (.exit i) g' q r w' p t u
   |ret=>exact j .ret g' q r w' p t u
 |exit id=>intro k Q g s a w d h o j;exact wp_exit (j (.exit id) g s a w d h o)
 |label l=>intro k Q g s a w d h o j;exact wp_label (j .normal g s a w d h o)
 |ret=>intro k Q g s a w d h o j;exact wp_ret (j .ret g s a w d h o)
 |rangeFunc _ _ _ _=>intro k Q g s a w d;exact(yf d).elim
 |scope _=>intro k Q g s a w d;exact(yf d).elim
 |goto _=>intro k Q g s a w d;exact(yf d).elim
 |refuse _=>intro k Q g s a w d;exact(yf d).elim
end
end
section
variable{P:Program} {n B:Nat} {O:Nat->Prop} {gl:eI} {ph:ck×cD×World×List Deferred} {g:ck} {s:df} {a:Act} {w:World}
inductive kL where
 |tmp (t:Nat)
 |cell (t:Nat) (agg:Bool) (n:Nat)
 deriving Inhabited
def LC(P:Program):ResultVar->Option kL
 | .tmp t=>some (.tmp t)
 | .cell a T=>match Bd P T with
   |some (b,n)=>some (.cell a b n)
   |none=>none
def rt(P:Program):List ResultVar->Option (List kL)
 |[]=>some []
 |x::r=>match LC P x,rt P r with
  |some y,some q=>some (y::q)
  |_,_=>none
def sw(s:df):kL->Option aG
 | .tmp t=>some (s.aC t)
 | .cell t b n=>match s.aC t with
   | .bn k aM off=>match s.bo k with
     | .box c cs=>if aM=c then o8 b n cs off else none
     |_=>none
   |_=>none
def nq(s:df):List kL->Option dA
 |[]=>some []
 |x::r=>match sw s x,nq s r with
  |some y,some q=>some (y::q)
  |_,_=>none
def sx:dA->aG
 |[v]=>v
 |vs=> .a0 vs
def mA(ob:cD):List Bool->dA->Option (dA×iP)
 |_,[]=>some ([],[])
 |[],x::xs=>match lj ob true x,mA ob [] xs with
  |some q,some (c,us)=>some (q::c,lC ob true x++us)
  |_,_=>none
 |b::bs,x::xs=>match lj ob b x,mA ob bs xs with
  |some q,some (c,us)=>some (q::c,lC ob b x++us)
  |_,_=>none
theorem agm{ob:cD}{e:List Bool}{x:aG}{xs:dA}{k:dA}{us:iP}(h:mA ob e (x::xs)=some (k,us)):
 ∃q c d,lj ob (e.getD 0 true) x=some q/\mA ob e.tail xs=some (c,d)/\k=q::c/\us=lC ob (e.getD 0 true) x++d:=by
 cases e with
 |nil=>
  simp only[mA] at h;split at h
  ·rename_i q c d i j;cases h;exact⟨q,c,d,i,j,rfl,rfl⟩
  ·cases h
 |cons b bs=>
  simp only[mA] at h;split at h
  ·rename_i q c d i j;cases h;exact⟨q,c,d,i,j,rfl,rfl⟩
  ·cases h
def Obj.cR:Obj->List Nat
 | .box _ cs=>cs.flatMap aG.key
 |_=>[]
structure E5 (ob0 obE obF:cD) (bW:aG):Prop where
 k:∀k,obF k=obE k\/(¬(obF k).fx/\(ob0 k).cd<=(obF k).cd)
 ig:∀k,(obF k).fx->obF k=ob0 k\/∀k2∈(obF k).cR,obF k2=obE k2
 bW:∀k2∈bW.cR,obF k2=obE k2
def mX:aG->Bool
 | .a0 _=>false
 | .undef=>false
 |_=>true
def Fin(as8:List Bool)(e:List kL)(h i:cD)(c:aG):ne->df->Prop
 | .exit _,_=>False
 |_,s=>∃d b us,nq s e=some d/\mA s.bo as8 d=some (b,us)/\b.all mX=true/\c=sx b/\E5 h (c7 s.bo us) i c
def xA(args:dA)(ob:cD):df:=⟨λi=>(args[i]?).getD .undef,ob⟩
def v3(a:Act)(x:ResultVar):Sem Value:=match x with| .tmp t=>pure (a.tmps.getD t undef)| .cell b t=>do loadVar t (<-asAddr (a.tmps.getD b undef))
theorem N0(h:ct gl ph n B O g s a w){x:ResultVar}{y:kL}{p:aG}(d:LC P x=some y)(c:sw s y=some p):
 ∃v,(v3 a x).run P w= .ok v w/\dT g w s.bo p v:=by
 cases x with
 |tmp t=>cases d;cases c;exact⟨_,rfl,h.aC t⟩
 |cell b T=>
  simp only[LC] at d;split at d
  ·rename_i L m r;cases d;simp only[sw] at c;split at c
   ·rename_i k aM off z;have e:=h.aC b;rw[z] at e;obtain⟨_,M,A,C⟩:=e.ju (by simp[aG.key,aG.cf]);split at c
    ·rename_i N cs i;split at c
     ·rename_i D;subst D;have l:=h.ig k;rw[i] at l;obtain⟨ar6,Q,r1,R,S,E⟩:=l;have F:=C cs i;obtain⟨v,o,G⟩:=dT.FC (s:=s) (g:=g) (w:=w) (b:=g.b3 k) (o':=0) (GA r) c (λj q H=>by obtain⟨u,I,J,K⟩:=E j q H;exact⟨u,by rw[Fa,cell_of_heap r1];exact I,J,K⟩)
      rw[Fa] at o;refine⟨v,?_,G⟩;simp only[v3,A,F,asAddr,q6,wd,MT];exact o
     ·cases c
    ·cases c
   ·cases c
  ·cases d
theorem adu{P:Program}{n B:Nat}{O:Nat->Prop}{gl:eI}{ph:ck×cD×World×List Deferred}{g:ck}{s:df}{a:Act}{w:World}(h:ct gl ph n B O g s a w):∀{xs:List ResultVar} {ys:List kL} {d:dA},rt P xs=some ys->nq s ys=some d->
 ∃vs:List Value,(xs.mapM (v3 a)).run P w= .ok vs w/\d.length=vs.length/\d.length=xs.length/\
  (∀(j:Nat) (x:ResultVar) (v:Value),xs[j]? =some x->vs[j]? =some v->(v3 a x).run P w= .ok v w)/\
  ∀(j:Nat) (q:aG) (u:Value),d[j]? =some q->vs[j]? =some u->dT g w s.bo q u
 |[],ys,d,e,i=>by cases e;cases i;exact⟨[],rfl,rfl,rfl,by simp,by simp⟩
 |x::xs,ys,d,e,i=>by
  simp only[rt] at e;split at e
  ·rename_i y q l o;cases e;simp only[nq] at i;split at i
   ·rename_i p F r t;cases i;obtain⟨v,k,z⟩:=N0 h l r;obtain⟨vs,r1,A,C,D,E⟩:=adu h o t;refine⟨v::vs,?_,by simp[A],by simp[C],λj q u b c=>?_,λj q u b c=>?_⟩
    ·rw[List.mapM_cons,q6,k,MT,q6,r1,MT,wd]
    ·cases j with
     |zero=>simp at b c;subst b;subst c;exact k
     |succ j=>exact D j q u (by simpa using b) (by simpa using c)
    ·cases j with
     |zero=>simp at b c;subst b;subst c;exact z
     |succ j=>exact E j q u (by simpa using b) (by simpa using c)
   ·cases i
  ·cases e
theorem alY{fn:Func}(h:ct gl ph n B O g s a w){ys:List kL}{c:dA}(e:rt P fn.results.toList=some ys)(i:nq s ys=some c):
 ∃vs:List Value,(results fn a.tmps).run P w= .ok (if h:vs.toArray.size=1 then vs.toArray[0] else .tuple vs.toArray) w/\c.length=vs.length/\fn.results.toList.length=vs.length/\
  (∀(j:Nat) (x:ResultVar) (v:Value),fn.results.toList[j]? =some x->vs[j]? =some v->(v3 a x).run P w= .ok v w)/\
  ∀(j:Nat) (q:aG) (u:Value),c[j]? =some q->vs[j]? =some u->dT g w s.bo q u:=by
 obtain⟨vs,r1,d,k,l,o⟩:=adu h e i;refine⟨vs,?_,d,by rw[<-k,d],l,o⟩;unfold results;rw[q6];have:fn.results=fn.results.toList.toArray:=by simp
 rw[this,List.mapM_toArray,map_eq_pure_bind,q6];exact(oT (λr=>(Result.andThen r (λb w'=>Sem.run P (pure b.toArray) w')).andThen (λb w'=>Sem.run P (pure (if h:b.size=1 then b[0] else Value.tuple b)) w')) r1).trans rfl
end
section
variable{P:Program} {n B bs:Nat} {O:Nat->Prop} {gl:eI} {ph:ck×cD×World×List Deferred} {a:Act} {w:World}
theorem ado{asC:Nat->aG}{b ob:cD}(h:ki b ob)(y:kL):sw ⟨asC,ob⟩ y=sw ⟨asC,b⟩ y:=by
 cases y with
 |tmp t=>rfl
 |cell t g m=>
  simp only[sw];split
  ·rename_i k aM off i;rcases h k with e|⟨j,e,sz,es,c,d⟩
   ·rw[e]
   ·rw[c,d]
  ·rfl
theorem PX{asC:Nat->aG}{z:cD}:∀(xs:List ResultVar) (d:List Bool) (ys:List kL) (A r:dA) (us:iP) (vs:List Value) (g:ck) (ob:cD),ct gl ph n B O g ⟨asC,ob⟩ a w->ki z ob->rt P xs=some ys->nq ⟨asC,z⟩ ys=some A->
 xs.length=vs.length->(∀(j:Nat) (x:ResultVar) (v:Value),xs[j]? =some x->vs[j]? =some v->(v3 a x).run P w= .ok v w)->mA z d A=some (r,us)->
 ∃g',ct gl ph n B O g' ⟨asC,c7 ob us⟩ a w/\gn B O g.U w g'.U w/\gk g.U w g'.U w/\ki z (c7 ob us)/\r.length=vs.length/\
  ∀(j:Nat) (q:aG) (u:Value),r[j]? =some q->vs[j]? =some u->dT g' w (c7 ob us) q u
 |[],d,ys,A,r,us,vs,g,ob,h,t,i,k,l,_,C=>by cases i;cases k;simp only[mA,O5,pV] at C;obtain⟨rfl,rfl⟩:=C;exact⟨g,h,gn.refl _ _ _ _,gk.refl _ _,t,l,by simp⟩
 |x::xs,d,ys,A,r,us,vs,g,ob,h,t,i,k,l,G,C=>by
  simp only[rt] at i;split at i
  ·rename_i y N Q R;cases i;simp only[nq] at k;split at k
   ·rename_i p S T W;cases k;obtain⟨q,X,Z,D,ar,rfl,rfl⟩:=agm C
    match vs,l with
    |v::vs,l=>
     obtain⟨H,a2,a3⟩:=N0 h Q ((ado t y).trans T);have o:(v3 a x).run P w= .ok v w:=G 0 x v rfl rfl;have:H=v:=by have e:(v3 a x).run P w= .ok H w:=a2;rw[o] at e;injection e with I _;exact I.symm
     subst this;cases hb:d.getD 0 true with
     |true=>
      simp only[hb,lj,w6] at D;simp only[lC,w6];obtain⟨dB,gx,a4,a5,ka,bd⟩:=h.jE t a3 D;obtain⟨cT,gT,J,E,F,K,L⟩:=PX xs d.tail N S X Z vs dB _ gx ka R W (by simpa using l) (λj x v M o=>G (j+1) x v (by simpa using M) (by simpa using o)) ar;refine⟨cT,?_,a4.trans J,a5.trans E,?_,by simp[K],λj q u b c=>?_⟩
      ·simp only[sC];exact gT
      ·simp only[sC];exact F
      ·simp only[sC];cases j with
       |zero=>simp at b c;subst b;subst c;exact dT.Ra (bd.mono E)
       |succ j=>exact L j q u (by simpa using b) (by simpa using c)
     |false=>
      simp only[hb,lj,Nn,st,O5] at D;subst D;simp only[lC,Nn,st,Pt];obtain⟨cT,gT,J,E,F,K,L⟩:=PX xs d.tail N S X Z vs g ob h t R W (by simpa using l) (λj x v M o=>G (j+1) x v (by simpa using M) (by simpa using o)) ar;obtain⟨bx,a1,cc⟩:=N0 gT Q ((ado F y).trans T);have cl:bx=H:=by rw[o] at a1;injection a1 with I _;exact I.symm
      subst cl;refine⟨cT,gT,J,E,F,by simp[K],λj q u b c=>?_⟩;cases j with
      |zero=>simp at b c;subst b;subst c;exact cc
      |succ j=>exact L j q u (by simpa using b) (by simpa using c)
   ·cases k
  ·cases i
end
section
variable{vs:List Value} {n:Nat} {g g':ck} {w:World} {ob ob0 obF:cD} {gl:eI} {p:aG} {v:Value}
section
variable{P:Program}
theorem akp{i:Nat}:(vs.toArray++Array.replicate (n-vs.toArray.size) undef).getD i undef=(vs[i]?).getD undef:=by
 rw[nK,Array.getElem?_append];split
 ·simp
 ·rename_i h;have:vs[i]? =none:=by simp at h ⊢;omega
  rw[this,Array.getElem?_replicate];split<;>rfl
theorem ct.start{args:dA}(e:gl.ak g.U w)(a:oC g w ob)(b:sU g w ob args vs)(l:args.length<=n):
 ct gl (g,ob,w,[]) n w.heap.size (nZ g ob) g (xA args ob) {tmps:=vs.toArray++Array.replicate (n-vs.toArray.size) undef,defers:=[]} w:=by
 obtain⟨h,b⟩:=b;refine⟨by simp;omega,rfl,sm _,λi=>?_,a.ig,a.inj,λk c=>⟨.inr ⟨k,c,rfl⟩,a.lt k c⟩,⟨fY.refl _ _,gk.refl _ _⟩,e⟩;rw[akp];simp only[xA];cases hi:args[i]? with
 |none=>left;rfl
 |some p=>
  have j:i<vs.length:=by rw[<-h];exact(e6.1 hi).1
  have d:=dC j;rw[d];exact b i p _ hi d
theorem gM.fg{asR:cD}(h:gM g ob p v)(a:∀k∈p.cf,asR k=ob k):gM g asR p v:=by
 cases p with
 |bn k s off=>have e:=a k (by simp[aG.cf]);simp only[gM,e];exact h
 |dH k s i off=>have e:=a k (by simp[aG.cf]);simp only[gM,e];exact h
 |az k s off len=>have e:=a k (by simp[aG.cf]);simp only[gM,e];exact h
 |hG k s=>have e:=a k (by simp[aG.cf]);simp only[gM,e];exact h
 |_=>exact h.elim
theorem gf.fg{g:ck}{w:World}{ob asR:cD}{p:aG}{v:Value}(h:gf g w ob p v)(a:∀k∈p.key,asR k=ob k):gf g w asR p v:=by
 rcases h with h|h
 ·exact .inl h
 ·refine .inr ?_;cases p with
  |gJ f ar9=>obtain⟨c,vs,d,e,l⟩:=h;refine⟨c,vs,d,e,λj q u b o=>(l j q u b o).imp id (λr=>r.fg (λk t=>a k ?_))⟩;simp only[aG.key,Ij];exact⟨q,On b,t⟩
  |bn k s off=>exact gM.fg (p:= .bn k s off) h a
  |dH k s i off=>exact gM.fg (p:= .dH k s i off) h a
  |az k s off len=>exact gM.fg (p:= .az k s off len) h a
  |hG k s=>exact gM.fg (p:= .hG k s) h a
  |_=>exact h.elim
theorem dT.fg{g:ck}{w:World}{ob asR:cD}{p:aG}{v:Value}(h:dT g w ob p v)(e:∀k∈p.cR,asR k=ob k):dT g w asR p v:=by
 rcases h with h|h|⟨cs,vs,rfl,rfl,l,i⟩|⟨cs,vs,rfl,rfl,l,i⟩|h
 ·exact .inl h
 ·refine .inr (.inl ?_);rcases h with a|a
  ·exact .inl a
  ·refine gf.fg (.inr a) ?_;cases p with
   |agg=>exact a.elim
   |a0=>exact a.elim
   |_=>exact e
 ·simp only[aG.cR,aG.eg,Ij] at e;exact .inr (.inr (.inl ⟨cs,vs,rfl,rfl,l,λj q u b c=>⟨(i j q u b c).1,(i j q u b c).2.fg (λk d=>e k ⟨q,On b,d⟩)⟩⟩))
 ·simp only[aG.cR,Ij] at e;refine .inr (.inr (.inr (.inl ⟨cs,vs,rfl,rfl,l,λj q u b c=>?_⟩)));have d:∀k∈q.eg,asR k=ob k:=λk d=>e k ⟨q,On b,d⟩;rcases i j q u b c with a|⟨asq,o,rfl,s2,s3,s4⟩
  ·left;rcases a with a|a
   ·exact .inl a
   ·refine gf.fg (.inr a) ?_;cases q with
    |agg=>exact a.elim
    |_=>exact d
  ·right;simp only[aG.eg,Ij] at d;exact⟨asq,o,rfl,s2,s3,λj q u b c=>⟨(s4 j q u b c).1,(s4 j q u b c).2.fg (λk r=>d k ⟨q,On b,r⟩)⟩⟩
 ·exact .inr (.inr (.inr (.inr h)))
theorem gM.kU{r:cD}{t:Value}(h:gM g' r p v)(l:gM g ob0 p t)(q:∀k,obF k=r k\/(¬(obF k).fx/\(ob0 k).cd<=(obF k).cd)):gM g' obF p v:=by
 cases p with
 |bn k s off=>
  rcases q k with e|⟨c,d⟩
  ·simp only[gM,e];exact h
  ·obtain⟨_,a,rfl,_⟩:=h;exact⟨y4 l.1 d,a,rfl,λcs j=>absurd (by rw[j];trivial) c⟩
 |dH k s i off=>
  rcases q k with e|⟨c,d⟩
  ·simp only[gM,e];exact h
  ·obtain⟨_,a,rfl,_⟩:=h;exact⟨y4 l.1 d,a,rfl,λ_ _ _ _ j=>absurd (by rw[j];trivial) c⟩
 |az k s off len=>
  rcases q k with e|⟨c,d⟩
  ·simp only[gM,e];exact h
  ·obtain⟨_,b,o,u,rfl,x,y,_⟩:=h;exact⟨y4 l.1 d,b,o,u,rfl,x,y,λ_ _ _ _ j=>absurd (by rw[j];trivial) c⟩
 |hG k s=>
  rcases q k with e|⟨c,d⟩
  ·simp only[gM,e];exact h
  ·obtain⟨_,b,rfl,_⟩:=h;exact⟨y4 l.1 d,b,rfl,λ_ j=>absurd (by rw[j];trivial) c⟩
 |_=>exact h.elim
theorem gf.kU{g g':ck}{w w':World}{ob0 l obF:cD}{p:aG}{v o:Value}(h:gf g' w' l p v)(a:gf g w ob0 p o)(b:∀k,obF k=l k\/(¬(obF k).fx/\(ob0 k).cd<=(obF k).cd)):gf g' w' obF p v:=by
 rcases h with h|h
 ·exact .inl h
 ·refine .inr ?_;have c:lP g ob0 p o:=by
   rcases a with a|a
   ·exfalso;have:=h.s9;cases a<;>simp[aG.key,aG.cf] at this
   ·exact a
  cases p with
  |gJ f ar9=>
   obtain⟨r,vs,t,x,y⟩:=h;obtain⟨_,z,_,E,A⟩:=c;refine⟨r,vs,t,x,λj q u e B=>?_⟩;have C:j<z.length:=by have:=(e6.1 e).1;omega
   rcases y j q u e B with d|d
   ·exact .inl d
   ·refine .inr ?_;rcases A j q _ e (dC C) with⟨rfl,_⟩|D
    ·exact d.elim
    ·exact d.kU D b
  |bn k s off=>exact gM.kU (p:= .bn k s off) h c b
  |dH k s i off=>exact gM.kU (p:= .dH k s i off) h c b
  |az k s off len=>exact gM.kU (p:= .az k s off len) h c b
  |hG k s=>exact gM.kU (p:= .hG k s) h c b
  |_=>exact h.elim
theorem ct.after{H:List Deferred}{w':World}{s:df}{a:Act}{I:aG}(J:oC g w ob0)(h:ct gl (g,ob0,w,H) n w.heap.size (nZ g ob0) g' s a w')(i:gn w.heap.size (nZ g ob0) g.U w g'.U w')(x:E5 ob0 s.bo obF I):
 ml g w ob0 g' w' obF:=by
 have r:∀k,(obF k).fx->obF k=s.bo k:=λk c=>(x.k k).resolve_right (λe=>e.1 c);obtain⟨K,L⟩:=h.uM;refine⟨⟨i.os,i.tape,i.output,i.size,λb y z=>i.block b y z,λb y z=>i.U b y z⟩,L,⟨λk=>?_,λk E c A e=>?_,λk c=>?_⟩,λk=>?_,λk c=>?_⟩
 ·by_cases c:(obF k).fx
  ·have e:=r k c;have l:=h.ig k;rw[e];cases o:s.bo k with
   |ax aM=>trivial
   |az aM e' sz es as0=>rw[o] at l;exact l
   |map aM es=>rw[o] at l;exact l
   |box aM cs=>
    rw[o] at l;obtain⟨ar6,T,r1,M,N,O⟩:=l;refine⟨ar6,T,r1,M,N,λj q B=>?_⟩;obtain⟨u,Q,R,F⟩:=O j q B;refine⟨u,Q,R,?_⟩;rcases x.ig k c with C|C
    ·have G:=J.ig k;rw[<-C,e,o] at G;obtain⟨ar,bD,_,_,_,S⟩:=G;obtain⟨wD,_,_,W⟩:=S j q B;exact F.kU W x.k
    ·refine F.fg (λX Z=>C X ?_);rw[e,o];simp only[Obj.cR,Ij];exact⟨q,On B,Z⟩
  ·cases o:obF k<;>simp_all [Obj.fx,kR]
 ·have d:=r k c;have D:=r E A;rw[d] at c;rw[D] at A;exact h.inj k E c A e
 ·have d:=r k c;rw[d] at c;exact(h.jI k c).2
 ·rcases x.k k with e|⟨d,D⟩
  ·have:=K k;simp only[e];exact this
  ·exact⟨D,λcs t=>absurd (by rw[t];trivial) d,λ_ _ _ _ t=>absurd (by rw[t];trivial) d,λ_ t=>absurd (by rw[t];trivial) d⟩
 ·have d:=r k c;rw[d] at c;exact(h.jI k c).1
end
end
section
variable{vs:List Value} {ob:cD}
section
variable{P:Program}
def yM(vs:List Value):Value:=if h:vs.toArray.size=1 then vs.toArray[0] else .tuple vs.toArray
theorem aBq(v:Value):yM [v]=v:=rfl
theorem afT(h:vs.length≠1):yM vs= .tuple vs.toArray:=by simp[yM,h]
theorem dT.aC6{g:ck}{w:World}{a:dA}(d:a.length=vs.length)(h:∀(j:Nat) (q:aG) (u:Value),a[j]? =some q->vs[j]? =some u->dT g w ob q u)(k:a.all mX=true):dT g w ob (sx a) (yM vs):=by
 by_cases b:a.length=1
 ·match a,b with
  |[q],_=>
   match vs,d with
   |[v],_=>rw[aBq];exact h 0 q v rfl rfl
 ·have e:sx a= .a0 a:=by
   match a,b with
   |[],_=>rfl
   |[q],b=>exact absurd rfl b
   |_::_::_,_=>rfl
  rw[e,afT (by omega)];refine .inr (.inr (.inr (.inl ⟨a,vs,rfl,rfl,d,λj q u i l=>?_⟩)));have c:=M2.1 k q (On i);rcases h j q u i l with rfl|b|b|⟨_,_,rfl,_⟩|⟨_,_,_,rfl,_⟩
  ·simp[mX] at c
  ·exact .inl b
  ·exact .inr b
  ·simp[mX] at c
  ·simp[mX] at c
theorem ar7{gl:eI}{H:l7}{f:Nat}{fn:Func}{o:Code}{args:dA}{c:cD}{d:aG}(bs:Nat)(as8:List Bool)(j:List kL)(D:P.follows .mixedOrders=true)(r:P.funcs[f]? =some fn)(t:fn.body=some o)
 (E:(fn.name== "runtime.NumGoroutine")=false)(F:args.length<=fn.ntmps)(u:rt P fn.results.toList=some j)
 (G:kG gl P bs (comp P H fn.ntmps o) (Fin as8 j ob c d) (xA args ob)):lx gl P f args ob d c:=by
 refine⟨⟨fn,r,E,by rw[t];rfl⟩,λg w vs I y J=>?_⟩;have Ba:=ct.start I y J F;refine calls_of_wp r t ?_;refine arH (bs:=bs) (c0:=g.U) (w0:=w) D o (Fin as8 j ob c d) _ g (xA args ob) _ w G Ba (gn.refl _ _ _ _) ?_;have z:∀g' b e w',(∃l k us,nq b j=some l/\mA b.bo as8 l=some (k,us)/\k.all mX=true/\d=sx k/\E5 ob (c7 b.bo us) c d)->ct gl (g,ob,w,[]) fn.ntmps w.heap.size (nZ g ob) g' b e w'->gn w.heap.size (nZ g ob) g.U w g'.U w'->
  e.defers=[]/\∃v,(results fn e.tmps).run P w'= .ok v w'/\∃A g',Ending.returned v= .returned A/\ml g w ob g' w' c/\dT g' w' c d A:=by
  rintro g' ⟨asC,asR⟩ a w' ⟨l,k,us,B,K,L,rfl,C⟩ h n;obtain⟨p,M,T,N,O,W⟩:=alY (fn:=fn) h u B;obtain⟨cT,gT,Q,_,X,R,S⟩:=PX fn.results.toList as8 j l k us p g' asR h (ki.refl asR) u B N O K;refine⟨h.defers,yM p,M,yM p,cT,rfl,gT.after y (n.trans Q) C,?_⟩;exact(dT.aC6 R S L).fg C.bW
 intro x g' b e w' q h n;cases x with
 |exit i=>exact q.elim
 |normal=>exact z g' b e w' q h n
 |ret=>exact z g' b e w' q h n
end
end
theorem RO{α a:Type}(g:α->a)(ev:a->aG):∀(b:List (Nat×Nat×α)) (cs:dA),pg ev cs (b.map λq=>(q.1,q.2.1,g q.2.2))=pg (λx=>ev (g x)) cs b
 |[],_=>rfl
 |(off,n,x)::r,cs=>by
  simp only[mG,pg];split
  ·split
   ·exact RO g ev r _
   ·rfl
  ·rfl
theorem Uu{α a:Type}(g:α->a)(ev:a->aG)(ob:cD)(sz:Nat):∀(b:List (Nat×α)) (es:kO),lD ev ob sz es (b.map λq=>(q.1,g q.2))=lD (λx=>ev (g x)) ob sz es b
 |[],_=>rfl
 |(i,x)::r,es=>by
  simp only[mG,lD];split
  ·split
   ·exact Uu g ev ob sz r _
   ·rfl
  ·rfl
theorem oW(a b:Nat):Nat.blt a b=decide (a<b):=by rw[gK];simp[wo]
section
variable{l:Nat}
def gR:Nat->Nat->List UInt8
 |0,_=>[]
 |l+1,n=>UInt8.ofNat (n/256^l)::gR l n
theorem yl:∀(l n:Nat),(gR l n).length=l
 |0,_=>rfl
 |l+1,n=>by simp[gR,yl l n]
theorem rP:∀(l n i:Nat),i<l->(gR l n)[i]? =some (UInt8.ofNat (n/256^(l-1-i)))
 |0,_,_,h=>by omega
 |l+1,n,0,_=>by simp[gR]
 |l+1,n,i+1,h=>by rw[gR,zd,rP l n i (by omega)];congr 4;omega
theorem BT{n i:Nat}(h:l<=i:=by omega):(gR l n)[i]? =none:=by rw[qQ];rw[yl];exact h
theorem acP(a b:Nat)(h:a%256=b%256):UInt8.ofNat a=UInt8.ofNat b:=by apply UInt8.toNat_inj.1;simp only[sp];exact h
theorem CO(l n:Nat):gR l (n%256^l)=gR l n:=by
 apply xh;intro i;by_cases h:i<l
 ·rw[rP _ _ _ h,rP _ _ _ h];congr 1;apply acP;have e:256^l=256^(l-1-i)*256^(i+1):=by rw[<-D2];congr 1;omega
  rw[e,Nat.mod_mul_right_div_self];have:256^(i+1)=256*256^i:=by rw[nV];omega
  rw[this];exact Nat.mod_mul_right_mod _ _ _
 ·rw[BT,BT]
theorem als:∀{n m:Nat},gR l n=gR l m->n%256^l=m%256^l:=by
 induction l with
 |zero=>intro n m _;simp[Nat.mod_one]
 |succ l a=>
  intro n m h;simp only[gR,kP] at h;have b:=a h.2;have c:n/256^l%256=m/256^l%256:=by have:=oT UInt8.toNat h.1;simpa[sp] using this
  have e:∀x:Nat,x%256^(l+1)=(x/256^l%256)*256^l+x%256^l:=by intro x;rw[nV,Nat.mod_mul,gp,Nat.add_comm]
  rw[e n,e m,c,b]
def e7(l n:Nat):ByteArray:=⟨⟨gR l n⟩⟩
theorem xK(l n:Nat):(e7 l n).size=l:=by show(gR l n).length=l;exact yl l n
theorem pX(l n:Nat):(e7 l n).data.toList=gR l n:=rfl
theorem HG(s:ByteArray):s.toList=s.data.toList:=ByteArray.toList_eq s
def px(l n a b:Nat):Bool:=Nat.beq l a&&Nat.beq (n%256^l) (b%256^l)
theorem yi(l n a b:Nat):px l n a b=((e7 l n).toList==(e7 a b).toList):=by
 rw[HG,HG,pX,pX,gK,m2];simp only[px,Hi,IY];constructor
 ·rintro⟨rfl,h⟩;rw[<-CO l n,<-CO l b,h]
 ·intro h;have c:l=a:=by have:=oT List.length h;simpa[yl] using this
  subst c;exact⟨rfl,als h⟩
theorem aAp(l n:Nat):e7 l (n%256^l)=e7 l n:=by unfold e7;rw[CO]
theorem aAl(l n lo hi:Nat)(g:lo<=hi)(j:hi<=l):(e7 l n).extract lo hi=e7 (hi-lo) (n/256^(l-hi)):=by
 have e:∀a b:ByteArray,a.data.toList=b.data.toList->a=b:=by rintro⟨⟨a⟩⟩ ⟨⟨b⟩⟩ h;have h':a=b:=h;rw[h']
 apply e;have d:((e7 l n).extract lo hi).data.toList=((gR l n).drop lo).take (hi-lo):=by simp[ByteArray.data_extract,e7,List.extract_eq_take_drop]
 rw[d,pX];apply xh;intro i;by_cases c:i<hi-lo
 ·rw[List.getElem?_take_of_lt c,lh,rP _ _ _ (by omega),rP _ _ _ c,Nat.div_div_eq_div_mul,<-D2];congr 4;omega
 ·rw[qQ (by simp;omega),BT]
theorem ahd(l n c d:Nat):e7 l n++e7 c d=e7 (l+c) (n*256^c+d%256^c):=by
 have e:∀a b:ByteArray,a.data.toList=b.data.toList->a=b:=by rintro⟨⟨a⟩⟩ ⟨⟨b⟩⟩ h;have h':a=b:=h;rw[h']
 apply e;have j:(e7 l n++e7 c d).data.toList=gR l n++gR c d:=by simp[ByteArray.data_append,e7]
 rw[j,pX];apply xh;intro i;have g:0<256^c:=Nat.pow_pos (by omega);by_cases hi:i<l
 ·rw[q5 (by rw[yl];exact hi),rP _ _ _ hi,rP _ _ _ (by omega)];congr 2;have:l+c-1-i=c+(l-1-i):=by omega
  rw[this,D2,<-Nat.div_div_eq_div_mul,gp n,ly g,uE (Fq _ g),gU]
 ·rw[sH (by rw[yl];omega),yl];by_cases k:i<l+c
  ·rw[rP _ _ _ (by omega),rP _ _ _ k];congr 1;apply acP;have o:l+c-1-i=c-1-(i-l):=by omega
   rw[o];have p:256^c=256^(c-1-(i-l))*256^(i-l+1):=by rw[<-D2];congr 1;omega
   have q:0<256^(c-1-(i-l)):=Nat.pow_pos (by omega);have r:256^(i-l+1)=256*256^(i-l):=by rw[nV];omega
   generalize u:256^(c-1-(i-l))=A at*;generalize w:256^(i-l)=B at*;have t:n*256^c+d%256^c=A*(256*B*n)+d% (A*(256*B)):=by
    rw[p,r];have:n*(A*(256*B))=A*(256*B*n):=by rw[gp n,Nat.mul_assoc]
    rw[this]
   rw[t,ly q,Nat.mod_mul_right_div_self];have:(256*B*n+d/A% (256*B)) %256=(d/A) %256:=by rw[Nat.mul_assoc,ny,Nat.mod_mul_right_mod]
   exact this.symm
  ·rw[BT,BT]
end
end Go.Hf

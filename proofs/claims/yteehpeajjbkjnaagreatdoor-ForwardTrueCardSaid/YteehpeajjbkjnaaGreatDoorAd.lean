import Derived.Test.YteehpeajjbkjnaaGreatDoorAc
import Derived.KernelRfl
set_option linter.all false
namespace Go.Hf
open Go.RowKit
section
variable{bs k:Nat}{rk:List Nat}{a:dg}{v:aT}{us:nH}
abbrev Loc:=Nat ⊕ Nat
def Ha(bs c:Nat)(ob:cT):Nat->Obj:=λk=>if gj bs k=c then ob k else .aF 0
def e2(bs:Nat)(s:cK):Loc->aT ⊕ cT
 | .inl t=> .inl (s.aI t)
 | .inr c=> .inr (Ha bs c s.bC)
theorem tm{c:Nat}{ob cN:cT}:Ha bs c ob=Ha bs c cN↔∀k,gj bs k=c->ob k=cN k:=by constructor;intro h k b;have:=congrFun h k;simpa[Ha,b] using this;intro h;funext k;simp only[Ha];split;rename_i b;exact h k b;rfl
theorem cK.anr{s t:cK}(h:∀l,e2 bs s l=e2 bs t l):s=t:=by obtain⟨b,fP⟩:=s;obtain⟨c,d⟩:=t;congr;funext i;have:=h (.inl i);simpa[e2] using this;funext i;have:=h (.inr (gj bs i));simp only[e2,st,tm]at this;exact this i rfl
theorem M0:∀(us:nH) (f:cT) (k:Nat),(∀u∈us,u.1≠k)->fE f us k=f k
 |[],_,_,_=>rfl
 |(b,x)::r,f,k,h=>by simp only[fE];rw[M0 r _ k (λu c=>h u (by simp[c])),h9 _ _ (λe=>h (b,x) (by simp) e.symm)]
def acW:Operand->List Nat
 | .tmp t=>[t]
 |_=>[]
def HJ(a:dg):List Nat:=a.ak.eY.flatMap acW++(match a.guard with|some (t,_)=>[t]|none=>[])
def CB(rk:List Nat):List Nat:=if rk.contains 4097 then rk++(List.range 4099).filter (λc=> !(nb rk).contains c) else rk
theorem alO(bs k:Nat):gj bs k<=4098:=by unfold gj;split;omega;split<;>omega
theorem arn(h:gj bs k∈rk):gj bs k∈CB rk:=by unfold CB;split;exact fq.2 (.inl h);exact h
theorem ab4(h:4097∈rk)(b:gj bs k∉nb rk):gj bs k∈CB rk:=by unfold CB;rw[dr (by simpa using h)];refine fq.2 (.inr (List.mem_filter.2 ⟨?_,by simpa using b⟩));have:=alO bs k;simp;omega
def o7(a:dg):List Loc:=(HJ a).map .inl++(CB a.cb).map .inr
def hj(a:dg):List Loc:=a.dst.toList.map .inl++a.bG.map .inr
def y1(gl:eh)(P:Program)(bs:Nat)(a:dg)(s b:cK):Prop:=
 rG gl P bs true a s b/\(∀l,l∉hj a->e2 bs b l=e2 bs s l)/\
 ∀t,(∀l∈o7 a++hj a,e2 bs t l=e2 bs s l)->∃c,rG gl P bs true a t c/\(∀l∈hj a,e2 bs c l=e2 bs b l)/\∀l,l∉hj a->e2 bs c l=e2 bs t l
theorem Ty:∀(us:nH) (f f':cT) (k:Nat),f' k=f k->fE f' us k=fE f us k
 |[],_,_,_,h=>h
 |(c,x)::r,f,f',k,h=>by simp only[fE];refine Ty r _ _ k ?_;by_cases b:k=c;subst b;rw[jc,jc];rw[h9 _ _ b,h9 _ _ b,h]
theorem tx{s:cK}(c:∀u∈us,gj bs u.1∈a.bG):∀l,l∉hj a->e2 bs ⟨put s.aI a.dst v,fE s.bC us⟩ l=e2 bs s l:=by
 intro l b;cases l with
 |inl t=>
  simp only[e2,Sum.inl.injEq];cases hd:a.dst with
  |none=>rfl
  |some d=>
   have:t≠d:=by rintro rfl;exact b (by simp[hj,hd])
   simp only[put];rw[h9 _ _ this]
 |inr k=>simp only[e2,st,tm];intro i g;exact M0 _ _ _ (λu h e=>b (by simp only[hj,fq,ia];exact .inr ⟨k,by rw[<-g,<-e];exact c u h,rfl⟩))
theorem Dx{s t:cK}(c:∀l∈hj a,e2 bs t l=e2 bs s l):∀l∈hj a,e2 bs ⟨put t.aI a.dst v,fE t.bC us⟩ l=e2 bs ⟨put s.aI a.dst v,fE s.bC us⟩ l:=by
 intro l b;cases l with
 |inl i=>
  simp only[e2,Sum.inl.injEq];simp only[hj,fq,ia]at b;rcases b with⟨d,hd,e⟩|⟨_,_,e⟩;cases e;have:a.dst=some i:=by simpa using hd
  rw[this];simp[put,dk];cases e
 |inr k=>simp only[e2,st,tm];have:=c _ b;simp only[e2,st,tm]at this;exactλg h=>Ty _ _ _ _ (this g h)
theorem ZC{s t:cK}(h:∀l∈o7 a,e2 bs t l=e2 bs s l):∀x∈a.ak.eY,eX t.aI x=eX s.aI x:=by
 intro x b;cases x with
 |tmp i=>have:=h (.inl i) (by simp only[o7,HJ,fq,ia,pO];exact .inl ⟨i,.inl ⟨_,b,by simp[acW]⟩,rfl⟩);simpa[e2,eX] using this
 |_=>rfl
theorem TL{s t:cK}(h:∀l∈o7 a,e2 bs t l=e2 bs s l):lu t.aI a.guard=lu s.aI a.guard:=by
 cases c:a.guard with
 |none=>rfl
 |some x=>
  obtain⟨i,b⟩:=x;have:=h (.inl i) (by simp[o7,HJ,c]);have e:t.aI i=s.aI i:=by simpa[e2] using this
  simp only[lu,e]
theorem y1.LW{P:Program}{gl:eh}{s:cK}{al:cK->Prop}(b2:a.ak.sc=true->gj bs (bs+a.ak.off+a.dst.getD 0)∈a.bG)(h:mW gl P bs true a s al):∃s',y1 gl P bs a s s'/\al s':=by
 unfold mW at h;split at h;rename_i n;obtain⟨cc,h⟩:=h;have S:∀t,(∀l∈o7 a++hj a,e2 bs t l=e2 bs s l)->(∀x∈a.ak.eY,eX t.aI x=eX s.aI x)/\(a.ak.Rw=false->a.ak.looks=true->∀x∈a.ak.mR,∀k∈(eX s.aI x).dl,t.bC k=s.bC k)/\(a.ak.sc=true->t.bC (bs+a.ak.off+a.dst.getD 0)=s.bC (bs+a.ak.off+a.dst.getD 0))/\lu t.aI a.guard=some true:=by intro t g;have q:∀l∈o7 a,e2 bs t l=e2 bs s l:=λl d=>g l (by simp[d]);refine⟨ZC q,λT cn x V k b=>?_,λhm=>?_,by rw[TL q];exact n⟩;have:=g (.inr (gj bs k)) (by simp only[o7,fq,ia];exact .inl (.inr ⟨_,arn ((cc rfl cn x V k b).resolve_right λh=>by rw[T]at h;cases h.2),rfl⟩));simp only[e2,st,tm]at this;exact this k rfl;have:=g (.inr (gj bs (bs+a.ak.off+a.dst.getD 0))) (by simp only[hj,fq,ia];exact .inr (.inr ⟨_,b2 hm,rfl⟩));simp only[e2,st,tm]at this;exact this _ rfl
 split at h;rename_i f args q;split at h;rename_i W x y I;split at h;rename_i ps us J;obtain⟨ar,a5,F,X⟩:=h;refine⟨_,⟨.call n q I J a5,tx (λu w=>F rfl u w),λt g=>?_⟩,X⟩;obtain⟨A,C,L,M⟩:=S t g;rw[q]at A C L;have C:=C rfl rfl;have Y:eX t.aI f= .bo (.func (.func W) x y):=by rw[A f (by simp[dO.eY])];exact I
 have N:jE (eX t.aI) t.bC [] args=some (ps,us):=by rw[Mb (λz E=>A z (by simp[dO.eY,E])) (λz E=>C z (by simp[dO.mR,dO.eY,E]))];exact J
 exact⟨_,.call M q Y N a5,Dx (λl d=>g l (by simp[d])),tx (λu w=>F rfl u w)⟩;exact h.elim;exact h.elim;rename_i f args cs q;split at h;rename_i W cR I;split at h;rename_i ps us J;obtain⟨ar,cN,bd,cu,X⟩:=h;obtain⟨cY,F,B⟩:=cu rfl;have bx:∀(Q:cK) (l:Loc),l∉hj a->e2 bs ⟨put Q.aI a.dst ar,Q.bC⟩ l=e2 bs Q l:=λQ l d=>tx (us:=[]) (by simp) l d;have R:∀k,gj bs k∈nb a.cb->k=bs+gj bs k:=by
  intro k b;have r:=(B _ b).1;by_cases o:bs<=k/\k<bs+4096;have:gj bs k=k-bs:=by unfold gj;rw[if_pos o]
  omega;have:4096<=gj bs k:=by unfold gj;rw[if_neg o];split<;>omega
  omega
 have nw:∀k,gj bs k∈nb a.cb->gj bs k∉a.bG:=λk b=>(B _ b).2.1;have un:∀k,gj bs k∈nb a.cb->∀f:Nat->Obj,fE f us k=f k:=λk b f=>M0 _ _ _ λu w e=>(B _ b).2.2.2.1 u w (e.trans (R k b));refine⟨_,⟨.hK n q I J bd,λl d=>?_,λt g=>?_⟩,X⟩;cases l with
 |inl t=>exact bx s (.inl t) d
 |inr c=>simp only[e2,st,tm];intro k b;exact(F k).resolve_right λn=>d (by simp only[hj,fq,ia];exact .inr ⟨c,by rw[<-b];exact n,rfl⟩)
 have Z:∀k,gj bs k∉nb a.cb->t.bC k=s.bC k:=by intro k b;have:=g (.inr (gj bs k)) (by simp only[o7,fq,ia];exact .inl (.inr ⟨_,ab4 cY b,rfl⟩));simp only[e2,st,tm]at this;exact this k rfl
 obtain⟨A,_,L,M⟩:=S t g;rw[q]at A L;have C:∀x∈f::args,∀k∈(eX s.aI x).dl,t.bC k=s.bC k:=λx V k b=>Z k λo=>by have r:=(B _ o).2.2.2.2.2.2.1 (eX s.aI x) (fq.2 (.inl (ia.2 ⟨x,V,rfl⟩)));rw[<-R k o]at r;exact r b
 have Y:lO (eX t.aI f)=some (W,cR):=by rw[A f (by simp[dO.eY])];exact I
 have N:jE (eX t.aI) t.bC cs args=some (ps,us):=by rw[Mb (λz E=>A z (by simp[dO.eY,E])) (λz E=>C z (by simp[E]))];exact J
 let K:Nat->Bool:=λk=> !(nb a.cb).contains (gj bs k);have kt:∀k,K k=true->gj bs k∉nb a.cb:=λk b=>by simpa[K] using b
 have D:∀k,K k=false->gj bs k∈nb a.cb:=λk b=>by simpa[K] using b
 have dA:∀(j:Nat) (l:List Nat),(∀c∈nb a.cb,bs+c∉l)->j∈l->K j=true:=λj l d O=>by
  cases b:K j with
  |true=>rfl
  |false=>have r:=d _ (D j b);rw[<-R j (D j b)]at r;exact absurd O r
 have b1:∀k,K k=false->¬(fE s.bC us k).gg:=λk b=>by have r:=(B _ (D k b)).2.2.1;rw[<-R k (D k b)]at r;exact r
 have c0:=afl (ob:=fE t.bC us) K bd (λk b=>Ty _ _ _ _ (Z k (kt k b))) b1
  (λk b=>by rw[(F k).resolve_right (nw k (D k b)),<-un k (D k b) s.bC];exact b1 k b)
  (λp G k b=>dA k _ (λc o=>(B c o).2.2.2.2.2.2.1 p (fq.2 (.inr G))) b)
  (λk j O=>dA j _ (λc o=>(B c o).2.2.2.2.1 k) O) (λk j O=>dA j _ (λc o=>(B c o).2.2.2.2.2.1 k) O) (λk b=>dA k _ (λc o=>(B c o).2.2.2.2.2.2.2) b)
 refine⟨_,.hK M q Y N c0,λl d=>?_,λl d=>?_⟩;cases l with
 |inl i=>exact Dx (us:=[]) (λl d=>g l (by simp[d])) (.inl i) d
 |inr c=>
  simp only[e2,st,tm];intro k b;have n:c∈a.bG:=by simp only[hj,fq,ia]at d;rcases d with⟨_,_,e⟩|⟨_,r,e⟩;cases e;cases e;exact r
  have:K k=true:=by
   cases H:K k with
   |true=>rfl
   |false=>exact absurd (b▸n) (nw k (D k H))
  simp only[lV,this,gF]
 cases l with
 |inl i=>exact bx t (.inl i) d
 |inr c=>
  simp only[e2,st,tm];intro k b;have c1:gj bs k∉a.bG:=λn=>d (by simp only[hj,fq,ia];exact .inr ⟨c,by rw[<-b];exact n,rfl⟩);cases H:K k with
  |true=>simp only[lV,H,gF];rw[(F k).resolve_right c1,Z k (kt k H)]
  |false=>simp only[lV,H,io,hV];exact un k (D k H) t.bC
 exact h.elim;exact h.elim;split at h;rename_i v us G;refine⟨_,⟨.c9 n G,tx (λu w=>h.1 rfl u w),λt g=>?_⟩,h.2⟩;obtain⟨A,C,L,M⟩:=S t g;have T:a.ak.Rw=false:=by
  cases q:a.ak with
  |hK=>rw[q]at G;simp[c9]at G
  |_=>rfl
 have N:c9 (eX t.aI) t.bC (bs+a.ak.off+a.dst.getD 0) a.ak=some (v,us):=by rw[aue A (C T) L];exact G
 exact⟨_,.c9 M N,Dx (λl d=>g l (by simp[d])),tx (λu w=>h.1 rfl u w)⟩;exact h.elim;rename_i n;refine⟨_,⟨.skip n,λl d=>tx (us:=[]) (by simp) l d,λt g=>?_⟩,h⟩;have c2:lu t.aI a.guard=some false:=by rw[TL (λl d=>g l (by simp[d]))];exact n
 exact⟨_,.skip c2,λl d=>Dx (us:=[]) (λl d=>g l (by simp[d])) l d,λl d=>tx (us:=[]) (by simp) l d⟩;exact h.elim
theorem aeA{P:Program}{gl:eh}{bs:Nat}{c:cK->Prop}:∀(du:List dg) (s:cK),(∀a∈du,a.ak.sc=true->gj bs (bs+a.ak.off+a.dst.getD 0)∈a.bG)->kc gl P bs true du s c->
 ∃gx:Nat->cK,gx 0=s/\c (gx du.length)/\∀(i:Nat) (a:dg),du[i]? =some a->y1 gl P bs a (gx i) (gx (i+1))
 |[],s,_,h=>⟨λ_=>s,rfl,h,by simp⟩
 |a::du,s,d,h=>by
  obtain⟨e,g,j⟩:=y1.LW (d a (by simp)) h;obtain⟨gx,l,n,o⟩:=aeA du e (λq b=>d q (by simp[b])) j;refine⟨λi=>match i with|0=>s|i+1=>gx i,rfl,n,λi q b=>?_⟩;cases i with
  |zero=>simp at b;subst b;show y1 gl P bs a s (gx 0);rw[l];exact g
  |succ i=>exact o i q (by simpa using b)
end
section
variable{i j:Nat}{q:dg}
inductive pP (bS:Array Oper):Nat->Nat->Prop where
 |Kw {i j:Nat}{o:Oper}{e:Edge} (ho:bS[j]? =some o) (he:e∈o.after) (hb:Region.binds .any e=true) (hi:e.on=i):pP bS i j
 |trans {i j k:Nat} (h:pP bS i j) (h':pP bS j k):pP bS i k
def Nk(p q:dg):Prop:=(∃l∈hj p,l∈o7 q++hj q)\/(∃l∈o7 p,l∈hj q)
structure wD (bs:Nat) (bS:Array Oper) (du:List dg):Prop where
 size:bS.size=du.length
 Yn:∀(j:Nat) (o:Oper),bS[j]? =some o->∀e∈o.after,Region.binds .any e=true->e.on<j
 Qx:∀(i j:Nat) (p q:dg),i<j->du[i]? =some p->du[j]? =some q->Nk p q->pP bS i j
 sc:∀po∈du,po.ak.sc=true->gj bs (bs+po.ak.off+po.dst.getD 0)∈po.bG
def iJ(listed:Array Bool)(i:Nat):Prop:=listed.getD i false=true
theorem pP.dm{bS:Array Oper}{listed:Array Bool}(a:∀j,iJ listed j->∀o e,bS[j]? =some o->e∈o.after->Region.binds .any e=true->iJ listed e.on)(h:pP bS i j):iJ listed j->iJ listed i:=by
 induction h with
 |Kw ho b c hi=>intro d;rw[<-hi];exact a _ d _ _ ho b c
 |trans _ _ ih1 g=>exactλh=>ih1 (g h)
structure n4 (bs:Nat) (bS:Array Oper) (du:List dg) (gx:Nat->cK) (listed:Array Bool) (t:cK):Prop where
 size:listed.size=bS.size
 Kk:∀j,iJ listed j->∀o e,bS[j]? =some o->e∈o.after->Region.binds .any e=true->iJ listed e.on
 none:∀l,(∀i p,iJ listed i->du[i]? =some p->l∉hj p)->e2 bs t l=e2 bs (gx 0) l
 RP:∀l i p,iJ listed i->du[i]? =some p->l∈hj p->(∀j q,iJ listed j->i<j->du[j]? =some q->l∉hj q)->e2 bs t l=e2 bs (gx (i+1)) l
theorem HT{bs:Nat}{du:List dg}{gx:Nat->cK}(a:∀(i:Nat) (b:dg),du[i]? =some b->∀l,l∉hj b->e2 bs (gx (i+1)) l=e2 bs (gx i) l)(l:Loc)(i:Nat):∀d,i+d<=du.length->
 (∀j p,i<=j->j<i+d->du[j]? =some p->l∉hj p)->e2 bs (gx (i+d)) l=e2 bs (gx i) l
 |0,_,_=>rfl
 |d+1,k,h=>by
  have e:i+d<du.length:=by omega
  have c:=fo e;rw[show i+(d+1)=(i+d)+1 by omega,(a (i+d) _ c) l (h (i+d) _ (by omega) (by omega) c)];exact HT a l i d (by omega) (λj p g o=>h j p g (by omega))
theorem RQ(a:Nat->Prop):∀j,(∀i,i<j->¬a i)\/∃i,i<j/\a i/\∀k,i<k->k<j->¬a k
 |0=> .inl (by omega)
 |j+1=>by
  rcases yJ (a j) with h|h;exact .inr ⟨j,by omega,h,λk b d=>by omega⟩;rcases RQ a j with b|⟨i,b,d,e⟩;refine .inl (λi hi=>?_);rcases DK i j with c|g;exact b i c;have:i=j:=by omega
  subst this;exact h;refine .inr ⟨i,by omega,d,λk l o=>?_⟩;rcases DK k j with c|g;exact e k l c;have:k=j:=by omega
  subst this;exact h
section
variable{P:Program}{n B bs:Nat}{O:Nat->Prop}{gl:eh}{ph:cx×cT×World×List Deferred}{Q:Exit->Act->World->Prop}{bS:Array Oper}{du:List dg}{gx:Nat->cK}{listed:Array Bool}{t:cK}
theorem n4.Bf(E:wD bs bS du)(F:∀(i:Nat) (G:dg),du[i]? =some G->∀l,l∉hj G->e2 bs (gx (i+1)) l=e2 bs (gx i) l)(h:n4 bs bS du gx listed t)(y:du[j]? =some q)(z:¬iJ listed j)
 (I:∀o e,bS[j]? =some o->e∈o.after->Region.binds .any e=true->iJ listed e.on):∀l∈o7 q++hj q,e2 bs t l=e2 bs (gx j) l:=by
 intro l g;have S:j<du.length:=(g8.1 y).1;have J:∀i p,i<j->du[i]? =some p->l∈hj p->iJ listed i:=by
  intro i p A b a;have C:pP bS i j:=E.Qx i j p q A b y (.inl ⟨l,a,g⟩);have:∀{i j:Nat},pP bS i j->(∀o e,bS[j]? =some o->e∈o.after->Region.binds .any e=true->iJ listed e.on)->iJ listed i:=by
   intro i j C;induction C with
   |Kw ho K L hi=>intro d;rw[<-hi];exact d _ _ ho K L
   |trans w D ih1 M=>intro d;exact w.dm h.Kk (M d)
  exact this C I
 have H:∀i p,j<i->du[i]? =some p->l∈hj p->¬iJ listed i:=by
  intro i p A b a u;have N:Nk q p:=by simp only[fq]at g;rcases g with g|g;exact .inr ⟨l,g,a⟩;exact .inl ⟨l,g,by simp[a]⟩
  exact z ((E.Qx j i q p A y b N).dm h.Kk u)
 rcases RQ (λi=>∃p,du[i]? =some p/\l∈hj p) j with w|⟨i,w,⟨p,b,a⟩,D⟩;rw[h.none l (λi p u b a=>?_)];have:=HT F l 0 j (by omega) (λi p _ hi b a=>w i (by omega) ⟨p,b,a⟩);rw[ou]at this;exact this.symm;rcases Nat.lt_trichotomy i j with c|c|c;exact w i c ⟨p,b,a⟩;subst c;exact z u;exact H i p c b a u;rw[h.RP l i p (J i p w b a) b a (λk r u R d x=>?_)];have:=HT F l (i+1) (j-(i+1)) (by omega) (λk r T V d x=>D k (by omega) (by omega) ⟨r,d,x⟩);rw[show i+1+(j-(i+1))=j by omega]at this;exact this.symm;rcases Nat.lt_trichotomy k j with c|c|c;exact D k R c ⟨r,d,x⟩;subst c;exact z u;exact H k r c d x u
theorem CA(b:i<listed.size):iJ (listed.setIfInBounds i true) j↔j=i\/iJ listed j:=by by_cases a:j=i;subst a;simp[iJ,b];simp only[iJ,a,false_or];rw[getD_set_ne false (λe=>a e.symm)]
theorem n4.next(A:wD bs bS du)(h:n4 bs bS du gx listed t)(c:du[j]? =some q)(G:¬iJ listed j)
 (H:∀o e,bS[j]? =some o->e∈o.after->Region.binds .any e=true->iJ listed e.on){x:cK}(I:∀l∈hj q,e2 bs x l=e2 bs (gx (j+1)) l)(C:∀l,l∉hj q->e2 bs x l=e2 bs t l):
 n4 bs bS du gx (listed.setIfInBounds j true) x:=by
 have J:j<du.length:=(g8.1 c).1;have a:j<listed.size:=by rw[h.size,A.size];exact J
 have K:∀l i p,l∈hj q->j<i->du[i]? =some p->l∈hj p->¬iJ listed i:=by intro l i p w d b g L;exact G ((A.Qx j i q p d c b (.inl ⟨l,w,by simp[g]⟩)).dm h.Kk L)
 refine⟨by simp[h.size],λi hi o e ho D E=>?_,λl u=>?_,λl i p hi b g u=>?_⟩;rw[CA a]at hi ⊢;rcases hi with rfl|hi;exact .inr (H o e ho D E);exact .inr (h.Kk i hi o e ho D E);have y:l∉hj q:=u j q ((CA a).2 (.inl rfl)) c;rw[C l y];exact h.none l (λi p hi=>u i p ((CA a).2 (.inr hi)));rw[CA a]at hi;by_cases d:i=j;subst d;rw[c]at b;cases b;exact I l g;have F:iJ listed i:=hi.resolve_left d;have y:l∉hj q:=by intro w;rcases Nat.lt_or_gt_of_ne d with z|z;exact u j q ((CA a).2 (.inl rfl)) z c w;exact K l i p w z b g F
 rw[C l y];exact h.RP l i p F b g (λk r M=>u k r ((CA a).2 (.inr M)))
theorem n4.done(g:∀(i:Nat) (o:dg),du[i]? =some o->∀l,l∉hj o->e2 bs (gx (i+1)) l=e2 bs (gx i) l)(h:n4 bs bS du gx listed t)(w:∀j,j<du.length->iJ listed j):t=gx du.length:=by refine cK.anr (bs:=bs) (λl=>?_);rcases RQ (λi=>∃p,du[i]? =some p/\l∈hj p) du.length with c|⟨i,c,⟨p,a,b⟩,u⟩;rw[h.none l (λi p x a b=>c i (g8.1 a).1 ⟨p,a,b⟩)];have:=HT g l 0 du.length (by omega) (λi p _ hi a b=>c i (by omega) ⟨p,a,b⟩);rw[ou]at this;exact this.symm;rw[h.RP l i p (w i c) a b (λk r x y d e=>u k y (g8.1 d).1 ⟨r,d,e⟩)];have:=HT g l (i+1) (du.length-(i+1)) (by omega) (λk r z A d e=>u k (by omega) (by omega) ⟨r,d,e⟩);rw[show i+1+(du.length-(i+1))=du.length by omega]at this;exact this.symm
theorem Uv(a:wD bs bS du)(r:listed.size=bS.size)(g:Region.ready .any bS listed=[]):∀j,j<du.length->iJ listed j:=by
 intro j;induction j using Nat.strongRecOn with
 |_ j k=>
  intro l;rcases yJ (iJ listed j) with h|h;exact h;exfalso;have o:j<bS.size:=by rw[a.size];exact l
  have ho:=In o;have:j∈Region.ready .any bS listed:=by
   rw[DN];refine⟨?_,_,ho,λe b c=>k e.on (a.Yn j _ ho e b c) (by have:=a.Yn j _ ho e b c;omega)⟩;have p:j<listed.size:=by omega
   have d:¬listed.getD j false=true:=h;simp[l1,p]at d ⊢;exact d
  rw[g]at this;cases this
end
end
section
variable{g:cx}{s:cK}{a:Act}{w:World}
theorem Qz:∀(l:List Bool) (i:Nat),l[i]? =some false->(l.set i true).count false+1=l.count false
 |[],i,h=>by simp at h
 |x::l,0,h=>by simp at h;subst h;simp
 |x::l,i+1,h=>by have:=Qz l i (by simpa using h);simp only[List.set_cons_succ,List.count_cons];omega
theorem cL.drew{n B:Nat}{O:Nat->Prop}{gl:eh}{ph:cx×cT×World×List Deferred}(h:cL gl ph n B O g s a w)(k:Nat):cL gl ph n B O g s a {w with drawn:=k}:=by have b:gA g.af w g.af {w with drawn:=k}:=⟨dn _,λ_ _=>dn _,λ_ _ _ _=>rfl⟩;exact h.v3 s.bC (λ_=>False) b (gb.refl g s.bC) (λ_ _=>rfl) (λ_ _ _=>⟨rfl,rfl,rfl,rfl⟩) (λ_ c=>c.elim)
theorem eM.drew(B:Nat)(O:Nat->Prop)(c:Nat->Nat)(w:World)(k:Nat):eM B O c w c {w with drawn:=k}:=⟨rfl,rfl,rfl,dn _,λ_ _ _=>rfl,λ_ _ _=>rfl⟩
section
variable{P:Program}{n B bs:Nat}{O:Nat->Prop}{gl:eh}{ph:cx×cT×World×List Deferred}{Q:Exit->Act->World->Prop}{bS:Array Oper}{du:List dg}{gx:Nat->cK}{c0:Nat->Nat}{w0:World}
theorem af2(x:wD bs bS du)(H:∀(j:Nat) (d:dg),du[j]? =some d->∃o,bS[j]? =some o/\rK P n bS o d)
 (C:∀(i:Nat) (d:dg),du[i]? =some d->y1 gl P bs d (gx i) (gx (i+1)))
 (I:∀g' y w',cL gl ph n B O g' (gx du.length) y w'->eM B O c0 w0 g'.af w'->Q .normal y w'):
 ∀(fuel:Nat) (b:Array Bool) (t:cK) (g:cx) (a:Act) (w:World),b.toList.count false<=fuel->n4 bs bS du gx b t->cL gl ph n B O g t a w->eM B O c0 w0 g.af w->wpAny P .any bS Q fuel b a w:=by
 have D:∀(b:Array Bool) (t:cK) (g:cx) (a:Act) (w:World),n4 bs bS du gx b t->cL gl ph n B O g t a w->eM B O c0 w0 g.af w->Region.ready .any bS b=[]->Q .normal a w:=by intro b t g a w c k p z;have e:=n4.done (λi d h=>(C i d h).2.1) c (Uv x c.size z);rw[e]at k;exact I g a w k p
 intro fuel;induction fuel with
 |zero=>
  intro b t g a w J c k p;have z:Region.ready .any bS b=[]:=by
   refine DJ.2 (λj r=>?_);rw[DN]at r;obtain⟨l,o,ho,_⟩:=r;have q:j<b.size:=by rw[c.size];exact(nA.1 ho).1
   have:false∈b.toList:=by simp[l1,q]at l;exact l▸(by simp)
   have:=List.count_pos_iff.2 this;omega
  exact⟨z,D b t g a w c k p z⟩
 |succ fuel K=>
  intro b t g a w J c k p;refine⟨D b t g a w c k p,λj r=>?_⟩;rw[DN]at r;obtain⟨l,o,ho,L⟩:=r;have E:j<bS.size:=(nA.1 ho).1;have q:j<b.size:=by rw[c.size];exact E
  have M:j<du.length:=by rw[<-x.size];exact E
  have A:=fo M;have F:¬iJ b j:=by simp[l1,q]at l;simp[iJ,l1,q,l]
  have G:∀o' e,bS[j]? =some o'->e∈o'.after->Region.binds .any e=true->iJ b e.on:=by intro o' e u N R;rw[ho]at u;cases u;exact L e N R
  obtain⟨S,T,V,W⟩:=(C j _ A).2.2 t (n4.Bf x (λi d h=>(C i d h).2.1) c A F G);obtain⟨o',u,X⟩:=H j _ A;rw[ho]at u;cases u;refine Ti k ho X T (λg' y w' Y Z=>?_);refine K _ S g' y w' ?_ (n4.next x c A F G V W) Y (p.trans Z);have al:b.toList[j]? =some false:=by simp[l1,q]at l;simp[q,l]
  have:=Qz b.toList j al;rw[Array.toList_setIfInBounds];omega
theorem awa{id:Nat}{d:cK->Prop}(t:P.follows .mixedOrders=true)(e:wD bs bS du)
 (u:∀(j:Nat) (k:dg),du[j]? =some k->∃o,bS[j]? =some o/\rK P n bS o k)(x:kc gl P bs true du s d)(h:cL gl ph n B O g s a w)(y:eM B O c0 w0 g.af w)
 (z:∀g' q c w',d q->cL gl ph n B O g' q c w'->eM B O c0 w0 g'.af w'->Q .normal c w'):(Code.region id bS true).wp P Q a w:=by
 obtain⟨gx,A,C,D⟩:=aeA du s e.sc x;refine wp_region_any t ?_;refine af2 e u D (λg' c w' E F=>z g' _ c w' C E F) bS.size _ s g a _ ?_ ?_ (h.drew _) (y.trans (eM.drew _ _ _ _ _));simp;have r:∀j,¬iJ (Array.replicate bS.size false) j:=by intro j b;simp only[iJ,l1,Array.getElem?_replicate]at b;split at b<;>simp at b
 refine⟨by simp,λj b=>?_,λl _=>by rw[A],λl i p hi=>?_⟩;exact absurd b (r j);exact absurd hi (r i)
end
end
section
variable{P:Program}{t:TypeId}{agg:Bool}{n g:Nat}{o:Oper}{op:BinOp}{x v:Operand}
structure jk where
 sl:List Nat
 alD:List (Nat×List Bool)
 amn:List Nat
 aum:List (Nat×List Nat)
 bv:List (Nat×List Nat)
 deriving Inhabited
def AM(P:Program)(t:TypeId):Option (Nat×List Value):=
 match P.info? t with
 |some i=>match i.zero with
  |some z=>if z.cells.toList.length=i.size/\z.cells.toList.all iS=true then some (i.size,z.cells.toList) else none
  |none=>none
 |none=>none
theorem Nc{sz:Nat}{zero:List Value}(h:AM P t=some (sz,zero)):y3 P t sz zero:=by unfold AM at h;split at h;rename_i i hi;split at h;rename_i z b;split at h;rename_i a;cases h;exact⟨i,z,hi,b,rfl,rfl,a.1,a.2⟩;cases h;cases h;cases h
def DB(P:Program)(t:TypeId):Option (Bool×Nat):=
 match P.info? t,P.underlying t with
 |some i,some d=>if wQ d=true\/i.size=1 then some (wQ d,i.size) else none
 |_,_=>none
theorem MS(h:DB P t=some (agg,n)):vm P t agg n:=by unfold DB at h;split at h;rename_i i d hi hd;split at h;rename_i a;cases h;exact⟨i,d,hi,rfl,hd,rfl,λe=>a.resolve_left (by simp[e])⟩;cases h;cases h
def Hk(a:Nat->Option (Nat×Nat)):List (Nat×Operand)->Option (List (Nat×Nat×Operand))
 |[]=>some []
 |(i,x)::r=>
  match a i,Hk a r with
  |some (off,n),some q=>if c6 x=true then some ((off,n,x)::q) else none
  |_,_=>none
theorem SJ{a:Nat->Option (Nat×Nat)}:∀{l:List (Nat×Operand)}{q:List (Nat×Nat×Operand)},Hk a l=some q->Eg a l q
 |[],q,h=>by cases h;trivial
 |(i,x)::r,q,h=>by unfold Hk at h;split at h;rename_i off n e b c;split at h;rename_i d;cases h;exact⟨b,rfl,d,SJ c⟩;cases h;cases h
def Qj(P:Program)(t:TypeId)(parts:List (Nat×Operand)):Option (List (Nat×Nat×Operand)):=
 match P.underlying t with
 |some (.struct a)=>if a.toList.all (λf=>(P.info? f.type).isSome)=true then Hk (λk=>(a[k]?).bind λf=>(P.info? f.type).map λi=>(f.offset,i.size)) parts else none
 |some (.array _ e)=>match P.info? e with
  |some i=>Hk (λk=>some (k*i.size,i.size)) parts
  |none=>none
 |_=>none
theorem aj0{parts:List (Nat×Operand)}{ps:List (Nat×Nat×Operand)}(h:Qj P t parts=some ps):T3 P t parts ps:=by unfold Qj at h;split at h;rename_i d a;split at h;rename_i b;refine .inl ⟨d,a,λk f c=>?_,SJ h⟩;rw[kg]at b;exact b f (by rw[<-AV]at c;exact eH c);cases h;rename_i m e a;split at h;rename_i i hi;exact .inr ⟨m,e,i,a,hi,SJ h⟩;cases h;cases h
def iv(c:Bool)(r:mA):mA:=if c then r else .ip
theorem iA{c:Bool}{r:mA}(h:c=true->pR P o r):pR P o (iv c r):=by cases c;trivial;exact h rfl
def QP:BinOp->Option Bool
 | .eql=>some false
 | .neq=>some true
 |_=>none
theorem QQ{b:Bool}(h:QP op=some b):op=uj b:=by cases op<;>simp[QP]at h<;>subst h<;>rfl
def Sk:Operand->Bool
 | .const (.slice none 0 0)=>true
 |_=>false
theorem arO(h:Sk x=true):x= .const (.slice none 0 0):=by unfold Sk at h;split at h;rfl;cases h
def Qe(P:Program)(op:BinOp)(t:TypeId)(x y:Operand):mA:=
 match QP op,P.underlying t with
 |some neg,some .bool=>iv (c6 x&&c6 y) (.rS neg x y)
 |some neg,some (.slice _)=>iv (c6 x&&Sk y) (.r5 neg x)
 |some neg,some (.struct ⟨[f1,f2]⟩)=>
  iv (f1.name != "_" &&f2.name != "_" &&f1.offset==0&&f2.offset==1&&(match P.underlying f1.type with|some .string=>true|_=>false)&&(match P.underlying f2.type with|some .string=>true|_=>false)&&
   !P.stoodInHeld t&& !P.eqGuardType P.depth t&&c6 x&&c6 y) (.rZ neg x y)
 |_,_=>iv (c6 x&&c6 y) (match op with
  | .shl| .shr=> .gE op x y
  | .and| .or| .xor| .andNot=> .bits op x y
  |_=> .rR op x y)
theorem MI{d:Option TypeDesc}(h:(match d with|some .string=>true|_=>false)=true):d=some .string:=by split at h;rfl;cases h
theorem ajU{b:TypeId}{y:Operand}(ho:o.op= .binOp op t x y b):pR P o (Qe P op t x y):=by unfold Qe;split;rename_i neg c d;refine iA (λa=>?_);simp only[cC]at a;rw[QQ c]at ho;exact⟨t,b,ho,d,a.1,a.2⟩;rename_i neg e c d;refine iA (λa=>?_);simp only[cC]at a;rw[QQ c,arO a.2]at ho;exact⟨t,b,e,ho,d,a.1⟩;rename_i neg f1 f2 c d;refine iA (λa=>?_);simp only[cC,bne_iff_ne,rr,Bool.not_eq_true']at a;obtain⟨⟨⟨⟨⟨⟨⟨⟨⟨c1,h⟩,i⟩,j⟩,k⟩,l⟩,p⟩,Qm⟩,q⟩,r⟩:=a;rw[QQ c]at ho;exact⟨t,b,f1,f2,ho,d,c1,h,i,j,MI k,MI l,p,Qm,q,r⟩;refine iA (λa=>?_);simp only[cC]at a;cases op<;>exact⟨t,b,ho,a.1,a.2⟩
def Qy(P:Program)(s t:TypeId)(x:Operand):mA:=
 match P.underlying s,P.underlying t with
 |some _,some (.int k)=>iv (c6 x) (.rU k x)
 |some (.slice e),some .string=>match P.underlying e with
  |some (.int .u8)=>iv (c6 x) (.qI x)
  |_=> .ip
 |_,_=> .ip
theorem alY{s:TypeId}(ho:o.op= .convert s t x):pR P o (Qy P s t x):=by unfold Qy;split;rename_i d k a b;exact iA (λc=>⟨s,t,d,ho,a,b,c⟩);rename_i e a b;split;rename_i h;exact iA (λc=>⟨s,t,e,ho,a,h,b,c⟩);trivial;trivial
def Qn(P:Program)(H:jk)(o:Oper)(c:Call):mA:=
 match c with
 |{callee:= .value f,args:=args,argTypes:=_}=>iv (c6 f&&args.toList.all c6) (match f with
  | .func i=>(match H.alD.lookup i with|some l=> .hK f args.toList l|none=> .call f args.toList)
  | .tmp t=>if H.amn.contains t then .call f args.toList else .hK f args.toList []
  |_=> .hK f args.toList [])
 |{callee:= .builtin .len,args:=⟨[x]⟩,argTypes:=⟨[t]⟩}=>match P.underlying t with
  |some .string=>iv (c6 x) (.len true x)
  |some (.slice _)=>iv (c6 x) (.len false x)
  |_=> .ip
 |{callee:= .builtin .append,args:=⟨[s,x]⟩,argTypes:=⟨[t,a]⟩}=>match P.underlying t with
  |some (.slice e)=>match P.info? e with
   |some i=>match i.zero with
    |some z=>if t==a then iv (t==a&&o.dst.isSome&&z.cells.size==i.size&&decide (0<i.size)&&c6 s&&c6 x) (.append e i.size i.bytes s x (H.sl.contains (o.dst.getD 0)))
     else match AM P e,P.underlying a with
      |_,some .string=>iv (o.dst.isSome&&z.cells.size==1&&i.size==1&&c6 s&&c6 x) (.n7 e i.bytes s x (H.sl.contains (o.dst.getD 0)))
      |_,_=> .ip
    |none=> .ip
   |none=> .ip
  |_=> .ip
 |{callee:= .builtin .max,args:=⟨[x,y]⟩,argTypes:=_}=>iv (c6 x&&c6 y) (.q0 true x y)
 |{callee:= .builtin .min,args:=⟨[x,y]⟩,argTypes:=_}=>iv (c6 x&&c6 y) (.q0 false x y)
 |_=> .ip
theorem alC{H:jk}{c:Call}(ho:o.op= .call c):pR P o (Qn P H o c):=by unfold Qn;split;refine iA (λa=>?_);simp only[cC]at a;split;split;exact⟨_,by rw[ho],a.1,a.2⟩;exact⟨_,by rw[ho],a.1,a.2⟩;split;exact⟨_,by rw[ho],a.1,a.2⟩;exact⟨_,by rw[ho],a.1,a.2⟩;exact⟨_,by rw[ho],a.1,a.2⟩;rename_i x t;split;rename_i b;exact iA (λa=>⟨t,ho,by simpa using b,a⟩);rename_i e b;exact iA (λa=>⟨t,ho,by simp;exact⟨e,b⟩,a⟩);trivial;rename_i s x t h;split;rename_i e b;split;rename_i i hi;split;rename_i z d;split;refine iA (λa=>?_);simp only[cC,rr,nB]at a;obtain⟨⟨⟨⟨⟨c1,j⟩,k⟩,l⟩,p⟩,q⟩:=a;subst c1;exact⟨t,i,ho,j,b,hi,rfl,⟨z,d,k⟩,rfl,l,p,q⟩;split;rename_i r;refine iA (λa=>?_);simp only[cC,rr]at a;exact⟨t,h,i,z,ho,a.1.1.1.1,b,r,hi,rfl,d,a.1.1.1.2,a.1.1.2,a.1.2,a.2⟩;trivial;trivial;trivial;trivial;refine iA (λa=>?_);simp only[cC]at a;exact⟨_,ho,a.1,a.2⟩;refine iA (λa=>?_);simp only[cC]at a;exact⟨_,ho,a.1,a.2⟩;trivial
def RL:TypeDesc->Option Nat
 | .int _=>some 0
 | .string=>some 1
 | .bool=>some 2
 |_=>none
theorem aqi{d:TypeDesc}(h:RL d=some g):te g d=true:=by cases d<;>simp[RL]at h<;>subst h<;>rfl
def GZ(P:Program)(t:TypeId):Option (Nat×Value):=
 match P.underlying t with
 |some (.map a b)=>match P.underlying a,P.info? b with
  |some d,some i=>match RL d,i.zero with
   |some g,some z=>if iS z then some (g,z) else none
   |_,_=>none
  |_,_=>none
 |_=>none
theorem R8{z:Value}(h:GZ P t=some (g,z)):
 ∃a b d i,P.underlying t=some (.map a b)/\P.underlying a=some d/\te g d=true/\P.info? b=some i/\i.zero=some z/\iS z=true:=by
 unfold GZ at h;split at h;rename_i a b c;split at h;rename_i d i e j;split at h;rename_i q r k l;split at h;rename_i p;cases h;exact⟨a,b,d,i,c,e,aqi k,j,l,p⟩;cases h;cases h;cases h;cases h
def Tv(P:Program)(t:TypeId):Bool:=match P.underlying t with
 |some (.struct ⟨[f1,f2]⟩)=>f1.name != "_" &&f2.name != "_" &&f1.offset==0&&f2.offset==1&&(match P.underlying f1.type with|some .string=>true|_=>false)&&(match P.underlying f2.type with|some .string=>true|_=>false)
 |_=>false
theorem axc(h:Tv P t=true):NH P t:=by unfold Tv at h;split at h;rename_i f1 f2 a;simp only[cC,bne_iff_ne,ne_eq,rr]at h;exact⟨f1,f2,a,h.1.1.1.1.1,h.1.1.1.1.2,h.1.1.1.2,h.1.1.2,MI h.1.2,MI h.2⟩;cases h
def LD(P:Program)(t:TypeId)(m k v:Operand):mA:=match P.underlying t with
 |some (.map a _)=>iv (Tv P a&&c6 m&&c6 k&&c6 v) (.p9 m k v)
 |_=> .ip
theorem acl{m k:Operand}(ho:o.op= .mapUpdate t m k v\/o.op= .insert t m k v):pR P o (LD P t m k v):=by unfold LD;split;rename_i b c d;refine iA (λa=>?_);simp only[cC]at a;exact⟨t,b,c,ho,d,axc a.1.1.1,a.1.1.2,a.1.2,a.2⟩;trivial
def Tk(o:Oper)(n:Nat)(x v:Operand):mA:=iv (c6 x&&c6 v) (.store n x v)
theorem awI{t:Nat}(ho:o.op= .store t x v)(b:vm P t agg n):pR P o (Tk o n x v):=by unfold Tk;refine iA (λa=>?_);simp only[cC]at a;exact⟨t,agg,ho,b,a.1,a.2⟩
def Du(P:Program)(H:jk)(o:Oper):mA:=
 match o.op with
 | .move x=>iv (c6 x) (.qa x)
 | .assign x=>iv (c6 x) (.qa x)
 | .pick c a b=>iv (c6 c&&c6 a&&c6 b) (.pick c a b)
 | .alloc t=>match AM P t with
   |some (_,z)=>iv (decide (t<65536)&&o.dst.isSome) (.alloc t z)
   |none=> .ip
 | .box t x=>iv (decide (t<65536)&&o.dst.isSome&&c6 x) (.box t x)
 | .build t parts=>match AM P t,Qj P t parts.toList with
   |some (_,z),some ps=> .build z ps
   |_,_=> .ip
 | .buildSlice t len parts=>match P.underlying t with
   |some (.slice e)=>match AM P e with
    |some (sz,z)=>iv (o.dst.isSome&&decide (0<sz)&&decide (len*sz<=16777216)&&parts.toList.all (λp=>c6 p.2)) (bif H.sl.contains (o.dst.getD 0+2000000) then .pY e sz z len parts.toList else .oN e sz z len parts.toList (H.sl.contains (o.dst.getD 0)))
    |none=> .ip
   |_=> .ip
 | .load t x=>match DB P t with
   |some (agg,n)=>iv (c6 x) (.load agg n x)
   |none=> .ip
 | .store t x v=>match DB P t with
   |some (_,n)=>Tk o n x v
   |none=> .ip
 | .nilCheck x=>iv (c6 x) (.sg x)
 | .binOp op t x y _=>Qe P op t x y
 | .unOp op _ x=>iv (c6 x) (.pd op x)
 | .convert s t x=>Qy P s t x
 | .makeSlice t l c=>match P.underlying t with
   |some (.slice e)=>match AM P e,P.info? e with
    |some (sz,z),some i=>iv (o.dst.isSome&&decide (0<sz)&&c6 l&&c6 c) (.p8 e sz i.bytes z l c)
    |_,_=> .ip
   |_=> .ip
 | .slice t x lo hi none=>match P.underlying t with
   |some .string=>iv (c6 x&&(o1 lo++o1 hi).all c6) (.sr x lo hi)
   |some (.slice e)=>match P.info? e with
    |some i=>iv (c6 x&&(o1 lo++o1 hi).all c6) (.ri i.size x lo hi)
    |none=> .ip
   |_=> .ip
 | .fieldAddr t x k=>match P.underlying t with
   |some (.struct d)=>match d[k]? with
    |some f=>match P.info? f.type with
     |some i=>iv (i.size !=0&&c6 x) (.pW f.offset x)
     |none=> .ip
    |none=> .ip
   |_=> .ip
 | .field t x k=>match P.underlying t with
   |some (.struct d)=>match d[k]? with
    |some f=>match DB P f.type with
     |some (agg,n)=>iv (c6 x) (.r0 agg f.offset n x)
     |none=> .ip
    |none=> .ip
   |_=> .ip
 | .indexAddr t x i=>match P.underlying t with
   |some (.slice e)=>match P.info? e with
    |some h=>iv (c6 x&&c6 i) (.qU h.size x i)
    |none=> .ip
   |some (.array n e)=>match P.info? e with
    |some h=>iv (c6 x&&c6 i) (.rO n h.size x i)
    |none=> .ip
   |_=> .ip
 | .index t x i=>match P.underlying t with
   |some .string=>iv (c6 x&&c6 i) (.sq x i)
   |_=> .ip
 | .extract x i=>iv (c6 x) (.ext x i)
 | .call c=>Qn P H o c
 | .makeFunc (.func f) ⟨[]⟩ cR=>iv (cR.toList.all c6) (.sf f cR.toList)
 | .makeMap _ none=>iv o.dst.isSome .qZ
 | .mapUpdate t m k v=>match GZ P t with
   |some (g,_)=>iv (c6 m&&c6 k&&c6 v) (.pD g m k v)
   |none=>LD P t m k v
 | .insert t m k v=>match GZ P t with
   |some (g,_)=>iv (c6 m&&c6 k&&c6 v) (.pD g m k v)
   |none=>LD P t m k v
 | .lookup t m k j=>match GZ P t with
   |some (g,z)=>iv (c6 m&&c6 k) (.pC g j z m k)
   |none=> .ip
 |_=> .ip
theorem adQ{H:jk}:pR P o (Du P H o):=by unfold Du;split;rename_i x ho;exact iA (λh=>⟨.inl ho,h⟩);rename_i x ho;exact iA (λh=>⟨.inr ho,h⟩);rename_i c a b ho;refine iA (λh=>?_);simp only[cC]at h;exact⟨ho,h.1.1,h.1.2,h.2⟩;rename_i t ho;split;rename_i sz z p;refine iA (λh=>?_);simp only[cC,nB]at h;exact⟨ho,h.1,h.2,sz,Nc p⟩;trivial;rename_i t x ho;refine iA (λh=>?_);simp only[cC,nB]at h;exact⟨ho,h.1.1,h.1.2,h.2⟩;rename_i t parts ho;split;rename_i sz z ps p K;exact⟨t,parts,sz,ho,Nc p,aj0 K⟩;trivial;rename_i t len parts ho;split;rename_i e j;split;rename_i sz z p;refine iA (λh=>?_);simp only[cC,nB]at h;cases H.sl.contains (o.dst.getD 0+2000000)<;>exact⟨t,parts,ho,h.1.1.1,j,Nc p,rfl,h.1.1.2,h.1.2,h.2⟩;trivial;trivial;rename_i t x ho;split;rename_i agg n q;exact iA (λh=>⟨t,ho,MS q,h⟩);trivial;rename_i t x v ho;split;rename_i agg n q;exact awI ho (MS q);trivial;rename_i x ho;exact iA (λh=>⟨ho,h⟩);rename_i op t x y L ho;exact ajU ho;rename_i op t x ho;exact iA (λh=>⟨t,ho,h⟩);rename_i s t x ho;exact alY ho;rename_i t l c ho;split;rename_i e j;split;rename_i sz z i p hi;refine iA (λh=>?_);simp only[cC,nB]at h;exact⟨t,i,ho,h.1.1.1,j,Nc p,hi,rfl,h.1.1.2,h.1.2,h.2⟩;trivial;trivial;rename_i t x lo hi ho;split;rename_i j;refine iA (λh=>?_);simp only[cC]at h;exact⟨t,ho,j,h.1,h.2⟩;rename_i e j;split;rename_i i hi;refine iA (λh=>?_);simp only[cC]at h;exact⟨t,e,i,ho,j,hi,rfl,h.1,h.2⟩;trivial;trivial;rename_i t x k ho;split;rename_i D j;split;rename_i f E;split;rename_i i hi;refine iA (λh=>?_);simp only[cC,bne_iff_ne]at h;exact⟨t,D,k,f,i,ho,j,E,rfl,hi,h.1,h.2⟩;trivial;trivial;trivial;rename_i t x k ho;split;rename_i D j;split;rename_i f E;split;rename_i agg n q;exact iA (λh=>⟨t,D,k,f,ho,j,E,rfl,MS q,h⟩);trivial;trivial;trivial;rename_i t x i ho;split;rename_i e j;split;rename_i F hi;refine iA (λh=>?_);simp only[cC]at h;exact⟨t,e,F,ho,j,hi,rfl,h.1,h.2⟩;trivial;rename_i m e j;split;rename_i F hi;refine iA (λh=>?_);simp only[cC]at h;exact⟨t,e,F,ho,j,hi,rfl,h.1,h.2⟩;trivial;trivial;rename_i t x i ho;split;rename_i j;refine iA (λh=>?_);simp only[cC]at h;exact⟨t,ho,j,h.1,h.2⟩;trivial;rename_i x i ho;exact iA (λh=>⟨ho,h⟩);rename_i c ho;exact alC ho;rename_i f cR ho;exact iA (λh=>⟨ho,h⟩);rename_i t ho;exact iA (λh=>⟨t,ho,h⟩);rename_i t m k v ho;split;rename_i g z r;obtain⟨u,w,d,i,A,B,C,G,I,J⟩:=R8 r;refine iA (λh=>?_);simp only[cC]at h;exact⟨t,u,w,d,.inl ho,A,B,C,h.1.1,h.1.2,h.2⟩;exact acl (.inl ho);rename_i t m k v ho;split;rename_i g z r;obtain⟨u,w,d,i,A,B,C,G,I,J⟩:=R8 r;refine iA (λh=>?_);simp only[cC]at h;exact⟨t,u,w,d,.inr ho,A,B,C,h.1.1,h.1.2,h.2⟩;exact acl (.inr ho);rename_i t m k M ho;split;rename_i g z r;obtain⟨u,w,d,i,A,B,C,G,I,J⟩:=R8 r;refine iA (λh=>?_);simp only[cC]at h;exact⟨t,u,w,d,i,ho,A,B,C,G,I,J,h.1,h.2⟩;trivial;trivial
end
section
variable{bs:Nat}
def pB:Loc->Nat
 | .inl t=>2*t
 | .inr k=>2*k+1
theorem arc{a b:Loc}(h:pB a=pB b):a=b:=by cases a<;>cases b<;>simp only[pB]at h;congr 1;omega;omega;omega;congr 1;omega
def ol:List Loc->Nat
 |[]=>0
 |l::r=>(1 <<< pB l)|||ol r
theorem C4:∀{l:Loc}{a:List Loc},l∈a->(ol a).testBit (pB l)=true
 |l,[],h=>by cases h
 |l,x::r,h=>by simp only[ol,yP,oA];rcases e9.1 h with rfl|h;left;simp[Ng];right;exact C4 h
theorem ab2:∀{l:Loc}{c:List Loc},(ol c).testBit (pB l)=true->l∈c
 |l,[],h=>by simp[ol]at h
 |l,x::r,h=>by simp only[ol,yP,oA]at h;rcases h with h|h;rw[Ng]at h;simp only[cC,nB]at h;obtain⟨g,d⟩:=h;rcases Ij (pB l-pB x) with e|e;rw[arc (a:=l) (b:=x) (by omega)];exact fQ;have:(1:Nat).testBit (pB l-pB x)=false:=Nat.testBit_lt_two_pow (Nh (by omega));rw[this]at d;cases d;exact ii _ (ab2 h)
def En:Nat:=Nat.div (Nat.mul 2 (Nat.sub (Nat.pow 4 4099) 1)) 3
theorem afS:(List.range 4099).all (λc=>En.testBit (2*c+1))=true:=by kernel_rfl
def Aw(a:dg):Nat:=
 if a.cb.contains 4097 then ol ((HJ a).map .inl++a.cb.map .inr)|||(En^^^(En&&& ol ((nb a.cb).map .inr))) else ol ((HJ a).map .inl++a.cb.map .inr)
theorem adL{l:Loc}{a:dg}(h:l∈o7 a):(Aw a).testBit (pB l)=true:=by
 unfold Aw;unfold o7 CB at h;split;rename_i b;rw[dr b,oz,<-DT,fq]at h;rw[yP,oA];rcases h with h|h;exact .inl (C4 h);right;obtain⟨c,g,rfl⟩:=ia.1 h;obtain⟨i,d⟩:=List.mem_filter.1 g;have j:En.testBit (2*c+1)=true:=kg.1 afS c i;have k:(ol ((nb a.cb).map .inr)).testBit (pB (.inr c))=false:=by
  cases n:(ol ((nb a.cb).map .inr)).testBit (pB (.inr c)) with
  |false=>rfl
  |true=>obtain⟨c',o,e⟩:=ia.1 (ab2 n);cases e;simp at d;exact absurd o d
 rw[Nat.testBit_xor,DY,k];show(En.testBit (2*c+1)^^_)=true;rw[j,Bool.and_false];rfl;rename_i b;rw[dU b]at h;exact C4 h
def zF(done:Nat->Nat):List Edge->Nat
 |[]=>0
 |e::r=>(if Region.binds .any e then(1 <<< e.on)|||done e.on else 0)|||zF done r
theorem Zs{bS:Array Oper}{j:Nat}{o:Oper}(ho:bS[j]? =some o){done:Nat->Nat}:∀(l:List Edge),(∀e∈l,e∈o.after/\(Region.binds .any e=true->∀i,(done e.on).testBit i=true->pP bS i e.on))->
 ∀i,(zF done l).testBit i=true->pP bS i j
 |[],_,i,h=>by simp[zF]at h
 |e::r,c,i,h=>by
  simp only[zF,yP,oA]at h;rcases h with h|h;split at h;rename_i b;obtain⟨a,hd⟩:=c e (by simp);rw[yP,oA]at h;rcases h with h|h;have:i=e.on:=by rw[Ng]at h;simp only[cC,nB]at h;obtain⟨k,d⟩:=h;rcases Ij (i-e.on) with g|g;omega;have:(1:Nat).testBit (i-e.on)=false:=Nat.testBit_lt_two_pow (Nh (by omega));rw[this]at d;cases d
  subst this;exact .Kw ho (by simpa using a) b rfl;exact .trans (hd b i h) (.Kw ho (by simpa using a) b rfl);simp at h;exact Zs ho r (λe a=>c e (by simp[a])) i h
def LY(kN a b:Nat):List (Nat×Nat×Nat)->Bool
 |[]=>true
 |(d,w',_)::c=>((w'&&&(kN|||a))==0&&(d&&& a)==0||b.testBit c.length)&&LY kN a b c
def wT:List (Nat×Nat×Nat)->Nat->Nat
 |[],_=>0
 |(_,_,a)::b,i=>if i=b.length then a else wT b i
def Yo(j:Nat)(l:List Edge):Bool:=l.all λe=> !Region.binds .any e||decide (e.on<j)
def Cu:List Oper->List dg->List (Nat×Nat×Nat)->Bool
 |[],[],_=>true
 |o::os,p::ps,ca=>
  let kN:=Aw p;let a:=ol (hj p);let b:=zF (wT ca) o.after.toList
  Yo ca.length o.after.toList&&(!p.ak.sc||p.bG.contains (p.ak.off+p.dst.getD 0)&&decide (p.ak.off+p.dst.getD 0<4096))&&LY kN a b ca&&Cu os ps ((kN,a,b)::ca)
 |_,_,_=>false
structure TY (bS:Array Oper) (du:List dg) (ca:List (Nat×Nat×Nat)):Prop where
 get:∀i,i<ca.length->∃p,du[i]? =some p/\ca.reverse[i]? =some (Aw p,ol (hj p),wT ca i)
 sI:∀i j,j<ca.length->(wT ca j).testBit i=true->pP bS i j
theorem acL{kN d k:Nat}:∀(ca:List (Nat×Nat×Nat)),LY kN d k ca=true->∀i b w' c,ca.reverse[i]? =some (b,w',c)->((w'&&&(kN|||d))=0/\(b&&& d)=0)\/k.testBit i=true
 |[],_,i,b,w',c,h=>by simp at h
 |(r,w,a)::g,j,i,b,w',c,h=>by
  simp only[LY,cC,oA,rr]at j;rw[List.reverse_cons]at h;rcases DK i g.length with hi|hi;rw[ve (by simpa using hi)]at h;exact acL g j.2 i b w' c h;rw[wv (by simpa using hi)]at h;have:i=g.length:=by rcases Nat.eq_or_lt_of_le hi with e|e;exact e.symm;rw[rt (by simp;omega)]at h;cases h
  subst this;simp at h;obtain⟨rfl,rfl,rfl⟩:=h;exact j.1
theorem alQ{d:Nat}(h:d<4096):gj bs (bs+d)=d:=by unfold gj;rw[dr (by omega)];omega
theorem Zo{bs:Nat}{bS:Array Oper}{du:List dg}:∀(os:List Oper) (ps:List dg) (ca:List (Nat×Nat×Nat)),Cu os ps ca=true->(∀j,os[j]? =bS[ca.length+j]?)->(∀j,ps[j]? =du[ca.length+j]?)->TY bS du ca->
 (∀(j:Nat) (o:Oper),ca.length<=j->bS[j]? =some o->∀e∈o.after,Region.binds .any e=true->e.on<j)/\
 (∀(i j:Nat) (p q:dg),i<j->ca.length<=j->du[i]? =some p->du[j]? =some q->Nk p q->pP bS i j)/\
 (∀(j:Nat) (p:dg),ca.length<=j->du[j]? =some p->p.ak.sc=true->gj bs (bs+p.ak.off+p.dst.getD 0)∈p.bG)
 |[],[],ca,_,ho,d,_=>by
  have M:∀j,ca.length<=j->bS[j]? =none:=λj a=>by have:=ho (j-ca.length);rw[show ca.length+(j-ca.length)=j by omega]at this;simpa using this.symm
  have C:∀j,ca.length<=j->du[j]? =none:=λj a=>by have:=d (j-ca.length);rw[show ca.length+(j-ca.length)=j by omega]at this;simpa using this.symm
  exact⟨λj o a h=>absurd h (by simp[M j a]),λi j p q _ a _ h=>absurd h (by simp[C j a]),λj p a h=>absurd h (by simp[C j a])⟩
 |[],p::ps,ca,h,_,_,_=>by simp[Cu]at h
 |o::os,[],ca,h,_,_,_=>by simp[Cu]at h
 |o::os,p::ps,ca,h,ho,d,g=>by
  simp only[Cu,cC]at h;obtain⟨⟨⟨D,u⟩,N⟩,O⟩:=h;have E:bS[ca.length]? =some o:=by have:=ho 0;simpa using this.symm
  have w:du[ca.length]? =some p:=by have:=d 0;simpa using this.symm
  have F:∀e∈o.after,Region.binds .any e=true->e.on<ca.length:=by intro e n b;rw[Yo,kg]at D;have:=D e (by simpa using n);simpa[b] using this
  have G:∀i,(zF (wT ca) o.after.toList).testBit i=true->pP bS i ca.length:=
   Zs E _ (λe n=>⟨by simpa using n,λb i hi=>g.sI i e.on (F e (by simpa using n) b) hi⟩)
  have P:TY bS du ((Aw p,ol (hj p),zF (wT ca) o.after.toList)::ca):=by refine⟨λi hi=>?_,λi j a b=>?_⟩;simp only[qw]at hi;rw[List.reverse_cons];simp only[wT];by_cases e:i=ca.length;subst e;refine⟨p,w,?_⟩;rw[wv (by simp)];simp;obtain⟨q,t,x⟩:=g.get i (by omega);refine⟨q,t,?_⟩;rw[ve (by simp;omega),dU e];exact x;simp only[qw]at a;simp only[wT]at b;split at b;rename_i e;subst e;exact G i b;exact g.sI i j (by omega) b
  obtain⟨H,I,eE⟩:=Zo (bs:=bs) (bS:=bS) (du:=du) os ps _ O (λj=>by have:=ho (j+1);simp only[AU]at this;rw[this];congr 1;simp only[qw];omega)
   (λj=>by have:=d (j+1);simp only[AU]at this;rw[this];congr 1;simp only[qw];omega) P
  simp only[qw]at H I eE;refine⟨λj o' a y=>?_,λi j q r J a c z K=>?_,λj q a c L=>?_⟩;by_cases e:j=ca.length;subst e;rw[E]at y;cases y;exact F;exact H j o' (by omega) y;by_cases e:j=ca.length;subst e;rw[w]at z;cases z;obtain⟨S,t,x⟩:=g.get i J;rw[c]at t;cases t;rcases acL ca N i _ _ _ x with⟨Q,R⟩|k;exfalso;rcases K with⟨l,A,B⟩|⟨l,A,B⟩;have:(ol (hj q)&&&(Aw p|||ol (hj p))).testBit (pB l)=true:=by rw[DY,yP,C4 A];rcases fq.1 B with h|h;rw[adL h];rfl;rw[C4 h];simp
  rw[Q]at this;simp at this;have:(Aw q&&& ol (hj p)).testBit (pB l)=true:=by rw[DY,adL A,C4 B];rfl
  rw[R]at this;simp at this;exact G i k;exact I i j q r J (by omega) c z K;by_cases e:j=ca.length;subst e;rw[w]at c;cases c;simp only[L,gX,Ic,List.contains_eq_mem,nB,cC]at u;rw[rp,alQ u.2];exact u.1;exact eE j q (by omega) c L
def Gk(bS:Array Oper)(du:List dg):Bool:=Cu bS.toList du []
theorem Zp{bS:Array Oper}{du:List dg}(b:bS.size=du.length)(h:Gk bS du=true):wD bs bS du:=by obtain⟨c,d,e⟩:=Zo (bs:=bs) (bS:=bS) (du:=du) bS.toList du [] h (by simp) (by simp) ⟨λi hi=>by simp at hi,λi j a=>by simp at a⟩;refine⟨b,λj o ho=>c j o (by simp) ho,λi j p q g k l n=>d i j p q g (by simp) k l n,λr t u=>?_⟩;obtain⟨j,a⟩:=yM.1 t;exact e j r (by simp) a u
end
section
variable{bS:Array Oper}{bu:Bool}{s:cK}
def Rj(bS:Array Oper)(n:Nat):Option (Nat×Bool)->Option (Option (Nat×Bool))
 |none=>some none
 |some (j,b)=>match bS[j]? with
  |some o=>match o.dst with
   |some t=>if t<n then some (some (t,b)) else none
   |none=>none
  |none=>none
def v6(H:jk)(xs:List Operand):List Nat:=xs.flatMap λ | .tmp t=>(H.aum.lookup t).getD []|_=>[]
def axE(H:jk)(d:Nat)(r:mA):List Nat:=
 (if r.sc then[r.off+d] else[])++
 match r with
 | .store _ a _=>v6 H [a]
 | .append _ _ _ s _ _=>v6 H [s]
 | .n7 _ _ s _ _=>v6 H [s]
 | .oN _ _ _ _ parts _=>(v6 H (parts.map (·.2))).filter λc=>H.sl.contains (c-2048)
 | .p9 m _ _=>v6 H [m]
 | .pY _ _ _ _ parts=>(v6 H (parts.map (·.2))).filter λc=>H.sl.contains (c-2048)
 | .call _ args=>(v6 H args).filter λc=>H.sl.contains (c-2048)
 | .pD _ m _ _=>v6 H [m]
 | .hK _ _ _=>((H.bv.lookup d).getD [4096,4098]).filter λc=> !Nat.ble 8192 c
 |_=>[]
def auT(H:jk)(d:Nat):mA->List Nat
 | .hK _ _ _=>4097::((H.bv.lookup d).getD []).filter λc=>Nat.ble 8192 c
 |r=>if r.looks then v6 H r.mR else[]
def Zq(n:Nat):Option Nat->Bool
 |some t=>decide (t<n)
 |none=>true
def SF(P:Program)(H:jk)(n:Nat)(bu:Bool)(bS:Array Oper)(o:Oper):Option dg:=
 if Zq n o.dst then
  match Rj bS n o.guard with
  |some g=>some (if bu then⟨o.dst,g,Du P H o,auT H (o.dst.getD 0) (Du P H o),axE H (o.dst.getD 0) (Du P H o)⟩ else⟨o.dst,g,Du P H o,[],[]⟩)
  |none=>none
 else none
def aff(bS:Array Oper)(n:Nat)(a g:Option (Nat×Bool)):Prop:=
 match a,g with
 |none,none=>True
 |some (j,b),some (t,b')=>b=b'/\(bS[j]?).bind (·.dst)=some t/\t<n
 |_,_=>False
theorem aoa{n:Nat}{a g:Option (Nat×Bool)}(h:Rj bS n a=some g):aff bS n a g:=by
 cases a with
 |none=>cases h;trivial
 |some x=>obtain⟨j,b⟩:=x;simp only[Rj]at h;split at h;rename_i o' c;split at h;rename_i t d;split at h;rename_i e;cases h;exact⟨rfl,by rw[c];exact d,e⟩;cases h;cases h;cases h
theorem atS{P:Program}{H:jk}{n:Nat}{o:Oper}{a:dg}(h:SF P H n bu bS o=some a):rK P n bS o a:=by
 unfold SF at h;split at h;rename_i hd;split at h;rename_i g d;have b:∀t,o.dst=some t->t<n:=by intro t e;rw[e]at hd;simpa[Zq] using hd
 have c:=aoa d;cases bu;simp only[io,hV,dN]at h;subst h;exact⟨rfl,b,adQ,c⟩;simp only[gF,dN]at h;subst h;exact⟨rfl,b,adQ,c⟩;cases h;cases h
def qd(P:Program)(H:jk)(n:Nat)(bu:Bool)(bS:Array Oper):List Oper->Option (List dg)
 |[]=>some []
 |o::r=>match SF P H n bu bS o,qd P H n bu bS r with
  |some p,some ps=>some (p::ps)
  |_,_=>none
theorem Hi{P:Program}{H:jk}{n:Nat}{bu:Bool}{bS:Array Oper}:∀{l:List Oper}{ps:List dg},qd P H n bu bS l=some ps->l.length=ps.length/\∀(j:Nat) (a:dg),ps[j]? =some a->∃o,l[j]? =some o/\rK P n bS o a
 |[],ps,h=>by cases h;exact⟨rfl,by simp⟩
 |o::r,ps,h=>by
  unfold qd at h;split at h;rename_i p i c d;cases h;obtain⟨e,g⟩:=Hi d;refine⟨by simp[e],λj a b=>?_⟩;cases j with
  |zero=>simp at b;subst b;exact⟨o,rfl,atS c⟩
  |succ j=>exact g j a (by simpa using b)
  cases h
def oL:hJ:= .cond (.const .nilIface) .skip .skip
theorem oo{P:Program}{gl:eh}{bs:Nat}{Q:m4->cK->Prop}(h:iw gl P bs oL Q s):False:=h
def Ax(P:Program)(H:jk)(n:Nat)(bS:Array Oper)(bu:Bool):hJ:=
 match qd P H n bu bS bS.toList with
 |some ps=>if !bu||Gk bS ps then .region bu ps else oL
 |none=>oL
def comp(P:Program)(H:jk)(n:Nat):Code->hJ
 | .skip=> .skip
 | .region _ bS bu=>Ax P H n bS bu
 | .seq a b=> .seq (comp P H n a) (comp P H n b)
 | .cond c a b=>if c6 c then .cond c (comp P H n a) (comp P H n b) else oL
 | .block id b=> .block id (comp P H n b)
 | .loop b=> .loop (comp P H n b)
 | .exit id=> .exit id
 | .label _=> .skip
 | .ret=> .ret
 |_=>oL
def AE:m4->Exit
 | .normal=> .normal
 | .exit i=> .exit i
 | .ret=> .ret
section
variable{P:Program}{H:jk}{n B bs:Nat}{O:Nat->Prop}{gl:eh}{ph:cx×cT×World×List Deferred}{c0:Nat->Nat}{w0:World}
theorem Th(y:P.follows .mixedOrders=true){id:Nat}{l:m4->cK->Prop}{Q:Exit->Act->World->Prop}{g:cx}{a:Act}{w:World}
 (b:iw gl P bs (Ax P H n bS bu) l s)(h:cL gl ph n B O g s a w)(p:eM B O c0 w0 g.af w)(q:∀x g' c d w',l x c->cL gl ph n B O g' c d w'->eM B O c0 w0 g'.af w'->Q (AE x) d w'):(Code.region id bS bu).wp P Q a w:=by
 unfold Ax at b;split at b;rename_i ps z;split at b;rename_i r;obtain⟨t,A⟩:=Hi z;have u:∀(j:Nat) (e:dg),ps[j]? =some e->∃o,bS[j]? =some o/\rK P n bS o e:=λj e i=>by obtain⟨o,ho,C⟩:=A j e i;exact⟨o,by simpa using ho,C⟩
 simp only[iw]at b;cases bu with
 |true=>simp only[gX,Ic]at r;exact awa y (Zp (by simpa using t) r) u b h p (λg' c d w' k=>q .normal g' c d w' k)
 |false=>refine wp_region ?_;have:=MD (bS:=bS) (Q:=Q) ps 0 g s a w (λj e i=>by rw[ou];exact u j e i) b h p (λg' c d w' k=>q .normal g' c d w' k);rw[List.range_eq_range',show bS.size=ps.length by simpa using t];exact this
 exact(oo b).elim;exact(oo b).elim
theorem av7(I:P.follows .mixedOrders=true):∀(c:Code) (k:m4->cK->Prop) (Q:Exit->Act->World->Prop) (g:cx) (s:cK) (a:Act) (w:World),
 iw gl P bs (comp P H n c) k s->cL gl ph n B O g s a w->eM B O c0 w0 g.af w->(∀x g' q r w',k x q->cL gl ph n B O g' q r w'->eM B O c0 w0 g'.af w'->Q (AE x) r w')->c.wp P Q a w:=by
 intro c;induction c with
 |skip=>intro k Q g s a w d h o j;exact wp_skip (j .normal g s a w d h o)
 |region id bS bu=>intro k Q g s a w d h o j;exact Th I d h o j
 |seq x y A C=>
  intro k Q g s a w d h o j;refine wp_seq (A (tz (qq (iw gl P bs (comp P H n y) k)) k) _ g s a w d h o (λe g' q r w' p t u=>?_));cases e with
  |normal=>obtain⟨D,E,p⟩:=p;exact C k Q g' ⟨D,q.bC⟩ r w' p (t.qq E) u j
  |exit i=>exact j (.exit i) g' q r w' p t u
  |ret=>exact j .ret g' q r w' p t u
 |cond c x y A C=>intro k Q g s a w d h o j;simp only[comp]at d;split at d;rename_i J;have e:=h.ga J;simp only[iw]at d;split at d;rename_i F;rw[F]at e;exact wp_cond_true e.fY.1 (A k Q g s a w d h o j);rename_i F;rw[F]at e;exact wp_cond_false e.fY.1 (C k Q g s a w d h o j);exact d.elim;exact(oo d).elim
 |block id b G=>
  intro k Q g s a w d h o j;refine wp_block (G (vR id k) _ g s a w d h o (λe g' q r w' p t u=>?_));cases e with
  |normal=>exact j .normal g' q r w' p t u
  |exit i=>simp only[vR]at p;simp only[AE,Exit.inBlock];by_cases hi:i=id;rw[dr hi]at p ⊢;exact j .normal g' q r w' p t u;rw[dU hi]at p ⊢;exact j (.exit i) g' q r w' p t u
  |ret=>exact j .ret g' q r w' p t u
 |loop b G=>
  intro k Q g s a w d h o j;obtain⟨m,z⟩:=d;refine wp_loop_rounds m ?_;induction m generalizing g s a w with
  |zero=>exact z.elim
  |succ m K=>
   obtain⟨D,E,z⟩:=z;refine G (tz (rounds (iw gl P bs (comp P H n b)) k m) k) _ g ⟨D,s.bC⟩ a w z (h.qq E) o (λe g' q r w' p t u=>?_);cases e with
   |normal=>exact K g' q r w' t u p
   |exit i=>exact j (.exit i) g' q r w' p t u
   |ret=>exact j .ret g' q r w' p t u
 |exit id=>intro k Q g s a w d h o j;exact wp_exit (j (.exit id) g s a w d h o)
 |label l=>intro k Q g s a w d h o j;exact wp_label (j .normal g s a w d h o)
 |ret=>intro k Q g s a w d h o j;exact wp_ret (j .ret g s a w d h o)
 |rangeFunc _ _ _ _=>intro k Q g s a w d;exact(oo d).elim
 |scope _=>intro k Q g s a w d;exact(oo d).elim
 |goto _=>intro k Q g s a w d;exact(oo d).elim
 |refuse _=>intro k Q g s a w d;exact(oo d).elim
end
end
section
variable{P:Program}{n B:Nat}{O:Nat->Prop}{gl:eh}{ph:cx×cT×World×List Deferred}{g:cx}{s:cK}{a:Act}{w:World}
inductive jS where
 |tmp (t:Nat)
 |cell (t:Nat) (agg:Bool) (n:Nat)
 deriving Inhabited
def S9(P:Program):ResultVar->Option jS
 | .tmp t=>some (.tmp t)
 | .cell a T=>match DB P T with
   |some (b,n)=>some (.cell a b n)
   |none=>none
def oq(P:Program):List ResultVar->Option (List jS)
 |[]=>some []
 |x::r=>match S9 P x,oq P r with
  |some y,some q=>some (y::q)
  |_,_=>none
def wg(s:cK):jS->Option aT
 | .tmp t=>some (s.aI t)
 | .cell t b n=>match s.aI t with
   | .aQ k bZ off=>match s.bC k with
     | .box c cs=>if bZ=c then qn b n cs off else none
     |_=>none
   |_=>none
def nX(s:cK):List jS->Option eb
 |[]=>some []
 |x::r=>match wg s x,nX s r with
  |some y,some q=>some (y::q)
  |_,_=>none
def tq:eb->aT
 |[v]=>v
 |vs=> .bD vs
def mN(ob:cT):List Bool->eb->Option (eb×nH)
 |_,[]=>some ([],[])
 |[],x::xs=>match md ob true x,mN ob [] xs with
  |some q,some (c,us)=>some (q::c,mq ob true x++us)
  |_,_=>none
 |b::bs,x::xs=>match md ob b x,mN ob bs xs with
  |some q,some (c,us)=>some (q::c,mq ob b x++us)
  |_,_=>none
theorem aoi{ob:cT}{e:List Bool}{x:aT}{xs:eb}{k:eb}{us:nH}(h:mN ob e (x::xs)=some (k,us)):
 ∃q c d,md ob (e.getD 0 true) x=some q/\mN ob e.tail xs=some (c,d)/\k=q::c/\us=mq ob (e.getD 0 true) x++d:=by
 cases e with
 |nil=>simp only[mN]at h;split at h;rename_i q c d i j;cases h;exact⟨q,c,d,i,j,rfl,rfl⟩;cases h
 |cons b bs=>simp only[mN]at h;split at h;rename_i q c d i j;cases h;exact⟨q,c,d,i,j,rfl,rfl⟩;cases h
def Obj.dl:Obj->List Nat
 | .box _ cs=>cs.flatMap aT.key
 |_=>[]
structure sF (ob0 obE obF:cT) (bW:aT):Prop where
 aa:∀aa,obF aa=obE aa\/(¬(obF aa).gg/\(ob0 aa).cH<=(obF aa).cH)
 h1:∀aa,(obF aa).gg->obF aa=ob0 aa\/∀k2∈(obF aa).dl,obF k2=obE k2
 bW:∀k2∈bW.dl,obF k2=obE k2
def nt:aT->Bool
 | .bD _=>false
 | .undef=>false
 |_=>true
def Fin(fj:List Bool)(fT:List jS)(e h:cT)(c:aT):m4->cK->Prop
 | .exit _,_=>False
 |_,s=>∃d b us,nX s fT=some d/\mN s.bC fj d=some (b,us)/\b.all nt=true/\c=tq b/\sF e (fE s.bC us) h c
def nM(args:eb)(ob:cT):cK:=⟨λi=>(args[i]?).getD .undef,ob⟩
def yz(a:Act)(x:ResultVar):Sem Value:=match x with| .tmp t=>pure (a.tmps.getD t undef)| .cell b t=>do loadVar t (<-asAddr (a.tmps.getD b undef))
theorem Ta(h:cL gl ph n B O g s a w){x:ResultVar}{y:jS}{p:aT}(d:S9 P x=some y)(c:wg s y=some p):
 ∃v,(yz a x).run P w= .ok v w/\dZ g w s.bC p v:=by
 cases x with
 |tmp t=>cases d;cases c;exact⟨_,rfl,h.aI t⟩
 |cell b T=>
  simp only[S9]at d;split at d;rename_i L m r;cases d;simp only[wg]at c;split at c;rename_i k bZ off z;have e:=h.aI b;rw[z]at e;obtain⟨_,M,A,C⟩:=e.kz (by simp[aT.key,aT.cJ]);split at c;rename_i N cs i;split at c;rename_i D;subst D;have l:=h.h1 k;rw[i]at l;obtain⟨bK,Q,E,R,eE,eV⟩:=l;have F:=C cs i;obtain⟨v,o,G⟩:=dZ.LV (s:=s) (g:=g) (w:=w) (b:=g.cr k) (o':=0) (MS r) c (λj q H=>by obtain⟨u,I,J,K⟩:=eV j q H;exact⟨u,by rw[ou,cell_of_heap E];exact I,J,K⟩)
  rw[ou]at o;refine⟨v,?_,G⟩;simp only[yz,A,F,asAddr,fy,g7,fU];exact o;cases c;cases c;cases c;cases d
theorem adX{P:Program}{n B:Nat}{O:Nat->Prop}{gl:eh}{ph:cx×cT×World×List Deferred}{g:cx}{s:cK}{a:Act}{w:World}(h:cL gl ph n B O g s a w):∀{xs:List ResultVar}{ys:List jS}{ps:eb},oq P xs=some ys->nX s ys=some ps->
 ∃vs:List Value,(xs.mapM (yz a)).run P w= .ok vs w/\ps.length=vs.length/\ps.length=xs.length/\
  (∀(j:Nat) (x:ResultVar) (v:Value),xs[j]? =some x->vs[j]? =some v->(yz a x).run P w= .ok v w)/\
  ∀(j:Nat) (q:aT) (u:Value),ps[j]? =some q->vs[j]? =some u->dZ g w s.bC q u
 |[],ys,ps,d,e=>by cases d;cases e;exact⟨[],rfl,rfl,rfl,by simp,by simp⟩
 |x::xs,ys,ps,d,e=>by
  simp only[oq]at d;split at d;rename_i y q k l;cases d;simp only[nX]at e;split at e;rename_i p C o r;cases e;obtain⟨v,i,t⟩:=Ta h k o;obtain⟨vs,z,A,eE,hM,eV⟩:=adX h l r;refine⟨v::vs,?_,by simp[A],by simp[eE],λj q u b c=>?_,λj q u b c=>?_⟩;rw[List.mapM_cons,fy,i,fU,fy,z,fU,g7];cases j with
  |zero=>simp at b c;subst b;subst c;exact i
  |succ j=>exact hM j q u (by simpa using b) (by simpa using c)
  cases j with
  |zero=>simp at b c;subst b;subst c;exact t
  |succ j=>exact eV j q u (by simpa using b) (by simpa using c)
  cases e;cases d
theorem S0{fn:Func}(h:cL gl ph n B O g s a w){ys:List jS}{ps:eb}(d:oq P fn.results.toList=some ys)(e:nX s ys=some ps):
 ∃vs:List Value,(results fn a.tmps).run P w= .ok (if h:vs.toArray.size=1 then vs.toArray[0] else .tuple vs.toArray) w/\ps.length=vs.length/\fn.results.toList.length=vs.length/\
  (∀(j:Nat) (x:ResultVar) (v:Value),fn.results.toList[j]? =some x->vs[j]? =some v->(yz a x).run P w= .ok v w)/\
  ∀(j:Nat) (q:aT) (u:Value),ps[j]? =some q->vs[j]? =some u->dZ g w s.bC q u:=by
 obtain⟨vs,i,c,eE,hM,eV⟩:=adX h d e;refine⟨vs,?_,c,by rw[<-eE,c],hM,eV⟩;unfold results;rw[fy];have:fn.results=fn.results.toList.toArray:=by simp
 rw[this,List.mapM_toArray,map_eq_pure_bind,fy];exact(oy (λr=>(Result.andThen r (λb w'=>Sem.run P (pure b.toArray) w')).andThen (λb w'=>Sem.run P (pure (if h:b.size=1 then b[0] else Value.tuple b)) w')) i).trans rfl
end
section
variable{P:Program}{n B bs:Nat}{O:Nat->Prop}{gl:eh}{ph:cx×cT×World×List Deferred}{a:Act}{w:World}
theorem adW{aR:Nat->aT}{b ob:cT}(h:kG b ob)(y:jS):wg ⟨aR,ob⟩ y=wg ⟨aR,b⟩ y:=by
 cases y with
 |tmp t=>rfl
 |cell t g m=>simp only[wg];split;rename_i k bZ off i;rcases h k with e|⟨j,e,sz,es,c,d⟩;rw[e];rw[c,d];rfl
theorem HI{aR:Nat->aT}{z:cT}:∀(xs:List ResultVar) (d:List Bool) (ys:List jS) (ps r:eb) (us:nH) (vs:List Value) (g:cx) (ob:cT),cL gl ph n B O g ⟨aR,ob⟩ a w->kG z ob->oq P xs=some ys->nX ⟨aR,z⟩ ys=some ps->
 xs.length=vs.length->(∀(j:Nat) (x:ResultVar) (v:Value),xs[j]? =some x->vs[j]? =some v->(yz a x).run P w= .ok v w)->mN z d ps=some (r,us)->
 ∃g',cL gl ph n B O g' ⟨aR,fE ob us⟩ a w/\eM B O g.af w g'.af w/\gA g.af w g'.af w/\kG z (fE ob us)/\r.length=vs.length/\
  ∀(j:Nat) (q:aT) (u:Value),r[j]? =some q->vs[j]? =some u->dZ g' w (fE ob us) q u
 |[],d,ys,ps,r,us,vs,g,ob,h,t,i,k,l,_,A=>by cases i;cases k;simp only[mN,dN,h4]at A;obtain⟨rfl,rfl⟩:=A;exact⟨g,h,eM.refl _ _ _ _,gA.refl _ _,t,l,by simp⟩
 |x::xs,d,ys,ps,r,us,vs,g,ob,h,t,i,k,l,F,A=>by
  simp only[oq]at i;split at i;rename_i y M N Q;cases i;simp only[nX]at k;split at k;rename_i p R S T;cases k;obtain⟨q,V,W,C,X,rfl,rfl⟩:=aoi A
  match vs,l with
  |v::vs,l=>
   obtain⟨G,al,ar⟩:=Ta h N ((adW t y).trans S);have o:(yz a x).run P w= .ok v w:=F 0 x v rfl rfl;have:G=v:=by have e:(yz a x).run P w= .ok G w:=al;rw[o]at e;injection e with H _;exact H.symm
   subst this;cases Y:d.getD 0 true with
   |true=>
    simp only[Y,md,gF]at C;simp only[mq,gF];obtain⟨c8,g9,a1,a2,a3,a4⟩:=h.jN t ar C;obtain⟨cX,gZ,I,D,E,J,K⟩:=HI xs d.tail M R V W vs c8 _ g9 a3 Q T (by simpa using l) (λj x v L o=>F (j+1) x v (by simpa using L) (by simpa using o)) X;refine⟨cX,?_,a1.trans I,a2.trans D,?_,by simp[J],λj q u b c=>?_⟩;simp only[wq];exact gZ;simp only[wq];exact E;simp only[wq];cases j with
    |zero=>simp at b c;subst b;subst c;exact dZ.Sy (a4.mono D)
    |succ j=>exact K j q u (by simpa using b) (by simpa using c)
   |false=>
    simp only[Y,md,io,hV,dN]at C;subst C;simp only[mq,io,hV,yO];obtain⟨cX,gZ,I,D,E,J,K⟩:=HI xs d.tail M R V W vs g ob h t Q T (by simpa using l) (λj x v L o=>F (j+1) x v (by simpa using L) (by simpa using o)) X;obtain⟨a5,Z,bd⟩:=Ta gZ N ((adW E y).trans S);have bx:a5=G:=by rw[o]at Z;injection Z with H _;exact H.symm
    subst bx;refine⟨cX,gZ,I,D,E,by simp[J],λj q u b c=>?_⟩;cases j with
    |zero=>simp at b c;subst b;subst c;exact bd
    |succ j=>exact K j q u (by simpa using b) (by simpa using c)
  cases k;cases i
end
section
variable{vs:List Value}{n:Nat}{g g':cx}{w:World}{ob d c:cT}{gl:eh}{p:aT}{v:Value}
section
variable{P:Program}
theorem an2{i:Nat}:(vs.toArray++Array.replicate (n-vs.toArray.size) undef).getD i undef=(vs[i]?).getD undef:=by
 rw[l1,Array.getElem?_append];split;simp;rename_i h;have:vs[i]? =none:=by simp at h ⊢;omega
 rw[this,Array.getElem?_replicate];split<;>rfl
theorem cL.start{args:eb}(j:gl.p g.af w)(a:n2 g w ob)(b:tJ g w ob args vs)(q:args.length<=n):
 cL gl (g,ob,w,[]) n w.heap.size (gM g ob) g (nM args ob) {tmps:=vs.toArray++Array.replicate (n-vs.toArray.size) undef,defers:=[]} w:=by
 obtain⟨l,b⟩:=b;refine⟨by simp;omega,rfl,dn _,λi=>?_,a.h1,a.inj,λk e=>⟨.inr ⟨k,e,rfl⟩,a.lt k e⟩,⟨gb.refl _ _,gA.refl _ _⟩,j⟩;rw[an2];simp only[nM];cases hi:args[i]? with
 |none=>left;rfl
 |some p=>
  have o:i<vs.length:=by rw[<-l];exact(g8.1 hi).1
  have h:=fo o;rw[h];exact b i p _ hi h
theorem hO.ed{cN:cT}(h:hO g ob p v)(a:∀k∈p.cJ,cN k=ob k):hO g cN p v:=by
 cases p with
 |aQ k s off=>have e:=a k (by simp[aT.cJ]);simp only[hO,e];exact h
 |eP k s i off=>have e:=a k (by simp[aT.cJ]);simp only[hO,e];exact h
 |aV k s off len=>have e:=a k (by simp[aT.cJ]);simp only[hO,e];exact h
 |fX k s=>have e:=a k (by simp[aT.cJ]);simp only[hO,e];exact h
 |_=>exact h.elim
theorem g2.ed{g:cx}{w:World}{ob cN:cT}{p:aT}{v:Value}(h:g2 g w ob p v)(a:∀k∈p.key,cN k=ob k):g2 g w cN p v:=by
 rcases h with h|h;exact .inl h;refine .inr ?_;cases p with
 |ey f cR=>obtain⟨e,vs,l,o,r⟩:=h;refine⟨e,vs,l,o,λj q u b t=>(r j q u b t).imp id (λx=>x.ed (λk y=>a k ?_))⟩;simp only[aT.key,pO];exact⟨q,eH b,y⟩
 |aQ k s off=>exact hO.ed (p:= .aQ k s off) h a
 |eP k s i off=>exact hO.ed (p:= .eP k s i off) h a
 |aV k s off len=>exact hO.ed (p:= .aV k s off len) h a
 |fX k s=>exact hO.ed (p:= .fX k s) h a
 |_=>exact h.elim
theorem dZ.ed{g:cx}{w:World}{ob cN:cT}{p:aT}{v:Value}(h:dZ g w ob p v)(l:∀k∈p.dl,cN k=ob k):dZ g w cN p v:=by
 rcases h with h|h|⟨cs,vs,rfl,rfl,r,o⟩|⟨cs,vs,rfl,rfl,r,o⟩|h;exact .inl h;refine .inr (.inl ?_);rcases h with a|a;exact .inl a;refine g2.ed (.inr a) ?_;cases p with
 |agg=>exact a.elim
 |bD=>exact a.elim
 |_=>exact l
 simp only[aT.dl,aT.fe,pO]at l;exact .inr (.inr (.inl ⟨cs,vs,rfl,rfl,r,λj q u b e=>⟨(o j q u b e).1,(o j q u b e).2.ed (λk i=>l k ⟨q,eH b,i⟩)⟩⟩));simp only[aT.dl,pO]at l;refine .inr (.inr (.inr (.inl ⟨cs,vs,rfl,rfl,r,λj q u b e=>?_⟩)));have i:∀k∈q.fe,cN k=ob k:=λk i=>l k ⟨q,eH b,i⟩;rcases o j q u b e with a|⟨hu,t,rfl,x,s3,s4⟩;left;rcases a with a|a;exact .inl a;refine g2.ed (.inr a) ?_;cases q with
 |agg=>exact a.elim
 |_=>exact i
 right;simp only[aT.fe,pO]at i;exact⟨hu,t,rfl,x,s3,λj q u b e=>⟨(s4 j q u b e).1,(s4 j q u b e).2.ed (λk y=>i k ⟨q,eH b,y⟩)⟩⟩;exact .inr (.inr (.inr (.inr h)))
theorem hO.kx{u:cT}{x:Value}(h:hO g' u p v)(r:hO g d p x)(t:∀k,c k=u k\/(¬(c k).gg/\(d k).cH<=(c k).cH)):hO g' c p v:=by
 cases p with
 |aQ k s off=>rcases t k with e|⟨j,l⟩;simp only[hO,e];exact h;obtain⟨_,a,rfl,_⟩:=h;exact⟨jv r.1 l,a,rfl,λcs q=>absurd (by rw[q];trivial) j⟩
 |eP k s i off=>rcases t k with e|⟨j,l⟩;simp only[hO,e];exact h;obtain⟨_,a,rfl,_⟩:=h;exact⟨jv r.1 l,a,rfl,λ_ _ _ _ q=>absurd (by rw[q];trivial) j⟩
 |aV k s off len=>rcases t k with e|⟨j,l⟩;simp only[hO,e];exact h;obtain⟨_,b,o,y,rfl,z,A,_⟩:=h;exact⟨jv r.1 l,b,o,y,rfl,z,A,λ_ _ _ _ q=>absurd (by rw[q];trivial) j⟩
 |fX k s=>rcases t k with e|⟨j,l⟩;simp only[hO,e];exact h;obtain⟨_,b,rfl,_⟩:=h;exact⟨jv r.1 l,b,rfl,λ_ q=>absurd (by rw[q];trivial) j⟩
 |_=>exact h.elim
theorem g2.kx{g g':cx}{w w':World}{d r c:cT}{p:aT}{v t:Value}(h:g2 g' w' r p v)(a:g2 g w d p t)(b:∀k,c k=r k\/(¬(c k).gg/\(d k).cH<=(c k).cH)):g2 g' w' c p v:=by
 rcases h with h|h;exact .inl h;refine .inr ?_;have e:m5 g d p t:=by rcases a with a|a;exfalso;have:=h.x3;cases a<;>simp[aT.key,aT.cJ]at this;exact a
 cases p with
 |ey f cR=>
  obtain⟨x,vs,y,z,A⟩:=h;obtain⟨_,B,_,G,C⟩:=e;refine⟨x,vs,y,z,λj q u o D=>?_⟩;have E:j<B.length:=by have:=(g8.1 o).1;omega
  rcases A j q u o D with l|l;exact .inl l;refine .inr ?_;rcases C j q _ o (fo E) with⟨rfl,_⟩|F;exact l.elim;exact l.kx F b
 |aQ k s off=>exact hO.kx (p:= .aQ k s off) h e b
 |eP k s i off=>exact hO.kx (p:= .eP k s i off) h e b
 |aV k s off len=>exact hO.kx (p:= .aV k s off len) h e b
 |fX k s=>exact hO.kx (p:= .fX k s) h e b
 |_=>exact h.elim
theorem cL.after{H:List Deferred}{w':World}{s:cK}{a:Act}{I:aT}(J:n2 g w d)(h:cL gl (g,d,w,H) n w.heap.size (gM g d) g' s a w')(o:eM w.heap.size (gM g d) g.af w g'.af w')(y:sF d s.bC c I):
 i9 g w d g' w' c:=by
 have t:∀k,(c k).gg->c k=s.bC k:=λk i=>(y.aa k).resolve_right (λe=>e.1 i);obtain⟨K,L⟩:=h.mO;refine⟨⟨o.os,o.tape,o.output,o.size,λb z A=>o.block b z A,λb z A=>o.af b z A⟩,L,⟨λk=>?_,λk E i B e=>?_,λk i=>?_⟩,λk=>?_,λk i=>?_⟩;by_cases i:(c k).gg;have e:=t k i;have r:=h.h1 k;rw[e];cases ho:s.bC k with
 |aF bZ=>trivial
 |aV bZ e' sz es bL=>rw[ho]at r;exact r
 |map bZ es=>rw[ho]at r;exact r
 |box bZ cs=>rw[ho]at r;obtain⟨bK,T,M,N,eE,eV⟩:=r;refine⟨bK,T,M,N,eE,λj q C=>?_⟩;obtain⟨u,O,Q,F⟩:=eV j q C;refine⟨u,O,Q,?_⟩;rcases y.h1 k i with e0|e0;have G:=J.h1 k;rw[<-e0,e,ho]at G;obtain⟨W,bX,_,_,_,iI⟩:=G;obtain⟨tA,_,_,R⟩:=iI j q C;exact F.kx R y.aa;refine F.ed (λS V=>e0 S ?_);rw[e,ho];simp only[Obj.dl,pO];exact⟨q,eH C,V⟩
 cases ho:c k<;>simp_all [Obj.gg,l5];have l:=t k i;have D:=t E B;rw[l]at i;rw[D]at B;exact h.inj k E i B e;have l:=t k i;rw[l]at i;exact(h.hP k i).2;rcases y.aa k with e|⟨l,D⟩;have:=K k;simp only[e];exact this;exact⟨D,λcs x=>absurd (by rw[x];trivial) l,λ_ _ _ _ x=>absurd (by rw[x];trivial) l,λ_ x=>absurd (by rw[x];trivial) l⟩;have l:=t k i;rw[l]at i;exact(h.hP k i).1
end
end
section
variable{vs:List Value}{ob:cT}
section
variable{P:Program}
def uR(vs:List Value):Value:=if h:vs.toArray.size=1 then vs.toArray[0] else .tuple vs.toArray
theorem atY(v:Value):uR [v]=v:=rfl
theorem atX(h:vs.length≠1):uR vs= .tuple vs.toArray:=by simp[uR,h]
theorem dZ.Sz{g:cx}{w:World}{a:eb}(d:a.length=vs.length)(h:∀(j:Nat) (q:aT) (u:Value),a[j]? =some q->vs[j]? =some u->dZ g w ob q u)(k:a.all nt=true):dZ g w ob (tq a) (uR vs):=by
 by_cases b:a.length=1
 match a,b with
 |[q],_=>
  match vs,d with
  |[v],_=>rw[atY];exact h 0 q v rfl rfl
 have e:tq a= .bD a:=by
  match a,b with
  |[],_=>rfl
  |[q],b=>exact absurd rfl b
  |_::_::_,_=>rfl
 rw[e,atX (by omega)];refine .inr (.inr (.inr (.inl ⟨a,vs,rfl,rfl,d,λj q u i l=>?_⟩)));have c:=kg.1 k q (eH i);rcases h j q u i l with rfl|b|b|⟨_,_,rfl,_⟩|⟨_,_,_,rfl,_⟩;simp[nt]at c;exact .inl b;exact .inr b;simp[nt]at c;simp[nt]at c
theorem afj{gl:eh}{H:jk}{f:Nat}{fn:Func}{body:Code}{args:eb}{c:cT}{d:aT}(bs:Nat)(fj:List Bool)(fT:List jS)(B:P.follows .mixedOrders=true)(p:P.funcs[f]? =some fn)(q:fn.body=some body)
 (C:(fn.name== "runtime.NumGoroutine")=false)(D:args.length<=fn.ntmps)(r:oq P fn.results.toList=some fT)
 (E:iw gl P bs (comp P H fn.ntmps body) (Fin fj fT ob c d) (nM args ob)):lM gl P f args ob d c:=by
 refine⟨⟨fn,p,C,by rw[q];rfl⟩,λg w vs F t G=>?_⟩;have rz:=cL.start F t G D;refine calls_of_wp p q ?_;refine av7 (bs:=bs) (c0:=g.af) (w0:=w) B body (Fin fj fT ob c d) _ g (nM args ob) _ w E rz (eM.refl _ _ _ _) ?_;have u:∀g' b e w',(∃k j us,nX b fT=some k/\mN b.bC fj k=some (j,us)/\j.all nt=true/\d=tq j/\sF ob (fE b.bC us) c d)->cL gl (g,ob,w,[]) fn.ntmps w.heap.size (gM g ob) g' b e w'->eM w.heap.size (gM g ob) g.af w g'.af w'->
  e.defers=[]/\∃v,(results fn e.tmps).run P w'= .ok v w'/\∃y g',Ending.returned v= .returned y/\i9 g w ob g' w' c/\dZ g' w' c d y:=by
  rintro g' ⟨aR,cN⟩ a w' ⟨k,j,us,z,I,J,rfl,A⟩ h l;obtain⟨n,K,R,L,M,S⟩:=S0 (fn:=fn) h r z;obtain⟨cX,gZ,N,_,T,O,Q⟩:=HI fn.results.toList fj fT k j us n g' cN h (kG.refl cN) r z L M I;refine⟨h.defers,uR n,K,uR n,cX,rfl,gZ.after t (l.trans N) A,?_⟩;exact(dZ.Sz O Q J).ed A.bW
 intro x g' b e w' o h l;cases x with
 |exit i=>exact o.elim
 |normal=>exact u g' b e w' o h l
 |ret=>exact u g' b e w' o h l
end
end
theorem Z7{α a:Type}(g:α->a)(ev:a->aT):∀(ps:List (Nat×Nat×α)) (cs:eb),qQ ev cs (ps.map λq=>(q.1,q.2.1,g q.2.2))=qQ (λx=>ev (g x)) cs ps
 |[],_=>rfl
 |(off,n,x)::r,cs=>by simp only[hN,qQ];split;split;exact Z7 g ev r _;rfl;rfl
theorem Q4{α a:Type}(g:α->a)(ev:a->aT)(ob:cT)(sz:Nat):∀(ps:List (Nat×α)) (es:l7),mM ev ob sz es (ps.map λq=>(q.1,g q.2))=mM (λx=>ev (g x)) ob sz es ps
 |[],_=>rfl
 |(i,x)::r,es=>by simp only[hN,mM];split;split;exact Q4 g ev ob sz r _;rfl;rfl
theorem m9(a b:Nat):Nat.blt a b=decide (a<b):=by rw[n0];simp[AS]
section
variable{l:Nat}
def iq:Nat->Nat->List UInt8
 |0,_=>[]
 |l+1,n=>UInt8.ofNat (n/256^l)::iq l n
theorem zA:∀(l n:Nat),(iq l n).length=l
 |0,_=>rfl
 |l+1,n=>by simp[iq,zA l n]
theorem sW:∀(l n i:Nat),i<l->(iq l n)[i]? =some (UInt8.ofNat (n/256^(l-1-i)))
 |0,_,_,h=>by omega
 |l+1,n,0,_=>by simp[iq]
 |l+1,n,i+1,h=>by rw[iq,AU,sW l n i (by omega)];congr 4;omega
theorem F9{n i:Nat}(h:l<=i:=by omega):(iq l n)[i]? =none:=by rw[rt];rw[zA];exact h
theorem Sx(a b:Nat)(h:a%256=b%256):UInt8.ofNat a=UInt8.ofNat b:=by apply UInt8.toNat_inj.1;simp only[Ik];exact h
theorem F8(l n:Nat):iq l (n%256^l)=iq l n:=by
 apply vc;intro i;by_cases h:i<l;rw[sW _ _ _ h,sW _ _ _ h];congr 1;apply Sx;have e:256^l=256^(l-1-i)*256^(i+1):=by rw[<-AQ];congr 1;omega
 rw[e,Nat.mod_mul_right_div_self];have:256^(i+1)=256*256^i:=by rw[m1];omega
 rw[this];exact Nat.mod_mul_right_mod _ _ _;rw[F9 (by omega),F9 (by omega)]
theorem aj4:∀{n m:Nat},iq l n=iq l m->n%256^l=m%256^l:=by
 induction l with
 |zero=>intro n m _;simp[Nat.mod_one]
 |succ l a=>
  intro n m h;simp only[iq,jQ]at h;have b:=a h.2;have c:n/256^l%256=m/256^l%256:=by have:=oy UInt8.toNat h.1;simpa[Ik] using this
  have e:∀x:Nat,x%256^(l+1)=(x/256^l%256)*256^l+x%256^l:=by intro x;rw[m1,Nat.mod_mul,su,Nat.add_comm]
  rw[e n,e m,c,b]
def fd(l n:Nat):ByteArray:=⟨⟨iq l n⟩⟩
theorem Kf(l n:Nat):(fd l n).size=l:=by show(iq l n).length=l;exact zA l n
theorem sV(l n:Nat):(fd l n).data.toList=iq l n:=rfl
theorem MP(s:ByteArray):s.toList=s.data.toList:=ByteArray.toList_eq s
def qP(l n l' a:Nat):Bool:=Nat.beq l l'&&Nat.beq (n%256^l) (a%256^l)
theorem zH(l n l' a:Nat):qP l n l' a=((fd l n).toList==(fd l' a).toList):=by
 rw[MP,MP,sV,sV,n0,rr];simp only[qP,cC,k9];constructor;rintro⟨rfl,h⟩;rw[<-F8 l n,<-F8 l a,h];intro h;have b:l=l':=by have:=oy List.length h;simpa[zA] using this
 subst b;exact⟨rfl,aj4 h⟩
theorem aj3(l n:Nat):fd l (n%256^l)=fd l n:=by unfold fd;rw[F8]
theorem aj2(l n lo hi:Nat)(g:lo<=hi)(j:hi<=l):(fd l n).extract lo hi=fd (hi-lo) (n/256^(l-hi)):=by
 have e:∀a b:ByteArray,a.data.toList=b.data.toList->a=b:=by rintro⟨⟨a⟩⟩ ⟨⟨b⟩⟩ h;have h':a=b:=h;rw[h']
 apply e;have d:((fd l n).extract lo hi).data.toList=((iq l n).drop lo).take (hi-lo):=by simp[ByteArray.data_extract,fd,List.extract_eq_take_drop]
 rw[d,sV];apply vc;intro i;by_cases c:i<hi-lo;rw[List.getElem?_take_of_lt c,u9,sW _ _ _ (by omega),sW _ _ _ c,Nat.div_div_eq_div_mul,<-AQ];congr 4;omega;rw[rt (by simp;omega),F9 (by omega)]
theorem aj1(l n l' c:Nat):fd l n++fd l' c=fd (l+l') (n*256^l'+c%256^l'):=by
 have e:∀a b:ByteArray,a.data.toList=b.data.toList->a=b:=by rintro⟨⟨a⟩⟩ ⟨⟨b⟩⟩ h;have h':a=b:=h;rw[h']
 apply e;have j:(fd l n++fd l' c).data.toList=iq l n++iq l' c:=by simp[ByteArray.data_append,fd]
 rw[j,sV];apply vc;intro i;have g:0<256^l':=Nat.pow_pos (by omega);by_cases hi:i<l;rw[ve (by rw[zA];exact hi),sW _ _ _ hi,sW _ _ _ (by omega)];congr 2;have:l+l'-1-i=l'+(l-1-i):=by omega
 rw[this,AQ,<-Nat.div_div_eq_div_mul,su n,Il g,DX (u5 _ g),rq];rw[wv (by rw[zA];omega),zA];by_cases k:i<l+l';rw[sW _ _ _ (by omega),sW _ _ _ k];congr 1;apply Sx;have o:l+l'-1-i=l'-1-(i-l):=by omega
 rw[o];have p:256^l'=256^(l'-1-(i-l))*256^(i-l+1):=by rw[<-AQ];congr 1;omega
 have q:0<256^(l'-1-(i-l)):=Nat.pow_pos (by omega);have r:256^(i-l+1)=256*256^(i-l):=by rw[m1];omega
 generalize u:256^(l'-1-(i-l))=d at*;generalize w:256^(i-l)=B at*;have t:n*256^l'+c%256^l'=d*(256*B*n)+c% (d*(256*B)):=by
  rw[p,r];have:n*(d*(256*B))=d*(256*B*n):=by rw[su n,Nat.mul_assoc]
  rw[this]
 rw[t,Il q,Nat.mod_mul_right_div_self];have:(256*B*n+c/d% (256*B)) %256=(c/d) %256:=by rw[Nat.mul_assoc,Im,Nat.mod_mul_right_mod]
 exact this.symm;rw[F9 (by omega),F9 (by omega)]
end
end Go.Hf

import Derived.Test.YthiipifjdfmblaaGreatDoorAx
set_option linter.all false
set_option maxRecDepth 100000
namespace Go.Hf
open Go.RowKit
section
variable{h:Nat×Nat×Nat×Nat×Nat} {l:aY} {aR:List (Nat×Nat×Nat)} {a b:aB} {P Q:bE}
section
variable[Tok]
theorem Tm(i:Nat)(hi:i<3):dk.di (i+1)= .aQ 11 [dW i]:=by show tW (i+1)=_;unfold tW;rw[cz,fS,tc hi];rfl
theorem WN{ln:aB}{p:bE}(h:p∈oR):jp p:=by have:=cB E0 h;simp only[Hi] at this;exact abC this.1
theorem aBj(n:Nat)(h:((((∀t p,lz (· +1) t p->mf (bB bD n) dk t p)/\∀(p q:an) (c e:bE),cA dk p c->cA dk q e->nv dk fT c e->fy (bB bD n) 156 dk [p,q] (ei (c++e)))/\
 (∀(p q:an) (c e:bE),cA dk p c->cA dk q e->Mo c e->fy (bB bD n) 118 dk [p,q] (ei (eK fW c e)))/\∀(p:an) (c:bE),cA dk p c->nB fT c->fy (bB bD n) 155 dk [p,.agg (dk.num (-1))] (hB c))/\
 aK (bB bD n) 37 [ao (-1)] (.agg (dk.num (-1)))/\ac1 (bB bD n)))(t:aB)(p:bE)(u:ka t p)(x:¬lz (· +1) t p):mf (bB bD (n+1)) dk t p:=by
 obtain⟨⟨⟨i,y⟩,z,B⟩,C,I⟩:=h;cases u with
 |t0 _ _ g=>exact absurd g x
 |plus t s p q dB cT=>
  have a:=i t p dB;have b:=i s q cT;have A:nv dk fT p q:=Gq y7 (λ_ _=>trivial) (by have:=cB E0 dB.mem;simp only[Hi] at this;exact cB this.2.2 cT.mem)
  have d:=ks (p:=bP) (n:=fv) (l:=[t,s]) rfl;obtain⟨v,j,k⟩:=RU d a.t11 b.t11 (I.HD t s) a.ah b.ah (λv w o r=>y v w _ _ o r A);exact⟨⟨d.aa,d.e5⟩,v,j,cI (aM 154 lV n) k⟩
 |MU t s p q dB cT=>have a:=i t p dB;have b:=i s q cT;have D:=zn (WN (ln:=[]) dB.mem) (WN (ln:=[]) cT.mem);have d:=ks (p:=bP) (n:=eM) (l:=[t,s]) rfl;obtain⟨v,j,k⟩:=acf d a.t11 b.t11 (I.g2 t s) (I.dh t s) a.ah b.ah (λv w o r=>z v w _ _ o r D);exact⟨⟨d.aa,d.e5⟩,v,j,cI (aM 154 lV n) k⟩
 |neg t p dB=>
  have a:=i t p dB;have N:nB fT p:=HP y7 (by have:=cB E0 dB.mem;simp only[Hi] at this;exact this.2.1)
  have d:=ks (p:=bP) (n:=jy) (l:=[t]) rfl;have F:b8 (dk.num (-1))=true:=dk.eU _;obtain⟨v,j,k⟩:=aiz d a.t11 (I.ns t) (I.hM t) (I.qP t) C F a.ah (λv o=>B v _ o N);exact⟨⟨d.aa,d.e5⟩,v,j,cI (aM 154 lV n) k⟩
theorem asS:bl λu=>∀t p,ka t p->mf u dk t p:=by
 have d:=k8.PD (ln:=(· +1)) Tm;have e:=(((d.and k8.add).and (Kg.and k8.neg)).and (k8.fC.and G7));have i:bl λu=>∀t p,ka t p->¬lz (· +1) t p->mf u dk t p:=by refine e.up λn h t p c j=>?_;exact aBj n h t p c j
 refine(d.and i).imp λn h t p c=>?_;by_cases g:lz (· +1) t p
 ·exact h.1 t p g
 ·exact h.2 t p c g
theorem agC(c:h∈iu++i1)(d:kx l aR):bl λu=>mf u (p0 h l aR) (cO h l) [⟨dQ aR,1⟩]:=by
 have H:=YJ c d;have e:(p0 h l aR).di (dQ aR)= .aQ 11 [cO h l]:=by show pk (cO h l) (dQ aR) (dQ aR)=_;unfold pk;rw[if_pos rfl]
 have i:bl λu=>aK u 98 [.agg (cO h l),fv,ao 2] (.a9 false)/\aK u 98 [.agg (cO h l),eM,ao 2] (.a9 false)/\aK u 98 [.agg (cO h l),jy,ao 1] (.a9 false)/\aK u 98 [.agg (cO h l),y3,ao 1] (.a9 false):=bl.run λn=>by have a:=cB (ajJ n l) c;simp only[Hi] at a;exact⟨eN a.1,eN a.2.1,eN a.2.2.1,eN a.2.2.2⟩
 refine(i.and qx).up λn g=>?_;obtain⟨⟨j,k,o,a4⟩,p⟩:=g;have q:aK (bB bD n) 37 [ao 1] (.agg ((p0 h l aR).num 1)):=p.int 1 (by decide);obtain⟨v,r,t⟩:=ayK e (i4 h l) (by omega) j k o a4 q;exact⟨⟨(i4 h l).aa,(i4 h l).e5⟩,v,r,cI (aM 154 lV n) t⟩
def n1(t:aB)(P:bE):Prop:=∃n l,n<=2/\mL n t l/\P=ei l
abbrev tf:=lz (· +1)
def Ji(t:aB)(k:Int)(p:bE):Prop:=∃a b P Q,((n1 a P/\n1 b Q)\/(tf a P/\tf b Q))/\p=lW P Q/\((k=2/\t=vh a b)\/(k=1/\t=xZ b a))
inductive i6 (u:Fn) (t:aB):Prop
 |ax (t11:cq t) (a:aK u 116 [.agg t] (.a0 [.aE,ao 0,.a9 false])):i6 u t
 |zero (t11:cq t) (v:an) (es:aY) (hv:dw 8 v es) (a:aK u 116 [.agg t] (.a0 [v,ao 3,.a9 true])):i6 u t
 |row (t11:cq t) (k:Int) (hk:k=1\/k=2) (p:bE) (v:an) (ol:aB) (hv:cA dk v p) (a:aK u 116 [.agg t] (.a0 [v,ao k,.a9 true])) (hl:ol.length=7) (c:aK u 117 [v] (.a0 [.agg ol,.a9 (h6 0 p)])) (hp:h6 0 p=true\/jp p) (pr:Ji t k p):i6 u t
def KP(E:cr)(K:Nat->Prop)(u:Fn):Prop:=∀v p,cA E v p->(∀m∈p,K m.k)->p.length<1000->∃c:aB,c.length=7/\aK u 117 [v] (.a0 [.agg c,.a9 (h6 0 p)])
section
variable{E:cr} {K:Nat->Prop} {L:Nat} (H:kI E K L)
include H
theorem kI.si(c:∀k,K k->k≠0->∃t l,E.di k= .aQ 11 (t::l)/\l.length<1000):bl λu=>KP E K u:=qx.up λn h v p d e g=>by
 have i:aK (bB bD n) 37 [ao 0] (.agg (E.num 0)):=by rw[H.num];exact h.int 0 (by decide)
 obtain⟨j,eR,o⟩:=av8 H.has (λm q r=>c _ (e m q) r) d g i;exact⟨j,eR,cI (aM 117 uL n) o⟩
theorem kI.oX(S:aB->bE->Prop)(e:bl λu=>∀t P,S t P->mf u E t P):bl λu=>∀a b P Q,S a P->S b Q->nB K Q->nv E K P (hB Q)->i6 u (oX a b):=by have g:=H.adg S e;refine g.up λn h a b P Q i j k o=>?_;obtain⟨v,d,q⟩:=(h a b P Q i j k o).2.2.ah;have c:=ks (p:=bP) (n:=fe) (l:=[bU bP iB [a,b]]) rfl;exact .zero ⟨c.aa,c.e5⟩ v _ d (cI (aM 116 yo n) (PI ⟨c.aa,c.e5⟩ d (by omega) q))
end
theorem EU:∀k,fT k->k≠0->∃t l,dk.di k= .aQ 11 (t::l)/\l.length<1000:=by
 intro k _ g;have c:=oD k;rcases ru k with⟨e,h⟩|⟨e,h⟩
 ·unfold tW at e;rw[if_neg g] at e;split at e<;>cases e
 ·cases d:fb k with
  |nil=>exact absurd d h
  |cons t l=>rw[d] at c e;exact⟨t,l,e,by simp at c;omega⟩
theorem ZK(S:aB->bE->Prop)(D:(∀t P,S t P->n1 t P)\/∀t P,S t P->tf t P)(F:bl λu=>∀t P,S t P->mf u dk t P):bl λu=>∀a b P Q,S a P->S b Q->nB fT Q->nv dk fT P (hB Q)->(h6 0 (lW P Q)=true\/jp (lW P Q))->i6 u (vh a b)/\i6 u (xZ b a):=by
 have r:∀a b P Q,S a P->S b Q->(n1 a P/\n1 b Q)\/(tf a P/\tf b Q):=λa b P Q c d=>D.imp (λh=>⟨h _ _ c,h _ _ d⟩) λh=>⟨h _ _ c,h _ _ d⟩;have x:=(k8.adg S F).and (k8.si EU);refine(x.and (x.up (C:=λu=>∀a b P Q,S a P->S b Q->nB fT Q->nv dk fT P (hB Q)->(∃v,cA dk v (lW P Q)/\aK u 116 [.agg (vh a b)] (.a0 [v,ao 2,.a9 true]))/\∃v,cA dk v (lW P Q)/\aK u 116 [.agg (xZ b a)] (.a0 [v,ao 1,.a9 true])) λn h a b P Q c d k e=>?_)).imp λn h a b P Q c d k e y=>?_
 ·obtain⟨v,g,o⟩:=(h.1 a b P Q c d k e).1.ah;obtain⟨w,i,q⟩:=(h.1 a b P Q c d k e).2.1.ah;have j:=ks (p:=bP) (n:=fe) (l:=[bU bP eu [b,a]]) rfl;have tl:=ks (p:=bP) (n:=eu) (l:=[a,b]) rfl;exact⟨⟨v,g,cI (aM 116 yo n) (PI ⟨tl.aa,tl.e5⟩ g (by omega) o)⟩,w,i,cI (aM 116 yo n) (PI ⟨j.aa,j.e5⟩ i (by omega) q)⟩
 ·obtain⟨⟨T,z⟩,G⟩:=h;obtain⟨⟨v,g,o⟩,w,i,q⟩:=G a b P Q c d k e;have j:=ks (p:=bP) (n:=fe) (l:=[bU bP eu [b,a]]) rfl;have tl:=ks (p:=bP) (n:=eu) (l:=[a,b]) rfl;have A:∀m∈lW P Q,fT m.k:=pD _ (by simp) λm I=>(Ic.1 I).elim (e.iy m) (e.lF m);have B:(lW P Q).length<1000:=by have:=pP (P++hB Q) [];have:=e.len;simp only[Md,OD] at*;show(hU [] _).length<1000;omega
  obtain⟨J,eR,M⟩:=z v _ g A B;obtain⟨N,O,R⟩:=z w _ i A B;exact⟨.row ⟨tl.aa,tl.e5⟩ 2 (.inr rfl) _ v J g o eR M y ⟨a,b,P,Q,r _ _ _ _ c d,rfl,.inl ⟨rfl,rfl⟩⟩,.row ⟨j.aa,j.e5⟩ 1 (.inl rfl) _ w N i q O R y ⟨a,b,P,Q,r _ _ _ _ c d,rfl,.inr ⟨rfl,rfl⟩⟩⟩
theorem VZ:bl λu=>∀t P,n1 t P->mf u dk t P:=((HY 0 (by omega)).and ((HY 1 (by omega)).and (HY 2 (by omega)))).imp λn h t P c=>by
 obtain⟨k,l,d,c,rfl⟩:=c
 match k,d,c with
 |0,_,c=>exact h.1 t l c
 |1,_,c=>exact h.2.1 t l c
 |2,_,c=>exact h.2.2 t l c
theorem KG:bl λu=>∀a b P Q,n1 a P->n1 b Q->i6 u (vh a b)/\i6 u (xZ b a)/\i6 u (oX a b):=((ZK n1 (.inl λ_ _ h=>h) VZ).and (k8.oX n1 VZ)).imp λn h a b P Q c d=>by obtain⟨k,l,i,j,rfl⟩:=id c;obtain⟨q,r,o,p,rfl⟩:=id d;obtain⟨r1,e,g⟩:=at0 j p i o;exact⟨(h.1 a b _ _ c d r1 e (.inr g)).1,(h.1 a b _ _ c d r1 e (.inr g)).2,h.2 a b _ _ c d r1 e⟩
theorem ax3(g:tf a P)(d:tf b Q):nB fT Q/\nv dk fT P (hB Q)/\(h6 0 (lW P Q)=true\/jp (lW P Q)):=by have e:=cB E0 d.mem;have c:=cB (cB aaq g.mem) d.mem;simp only[Hi,dS] at e c;exact⟨HP y7 e.2.1,Gq y7 (λ_ _=>trivial) c.1,c.2.symm.imp id abC⟩
theorem UR:bl λu=>∀a b P Q,tf a P->tf b Q->i6 u (vh a b)/\i6 u (xZ b a):=(ZK tf (.inr λ_ _ h=>h) (k8.PD Tm)).imp λn h a b P Q c d=>by obtain⟨r1,e,g⟩:=ax3 c d;exact h a b P Q c d r1 e g
theorem amZ(e:ka a P)(c:tf b Q):nB fT Q/\nv dk fT P (hB Q):=by
 refine⟨?_,Gq (sB:=zU) y7 (λ_ _=>trivial) ?_⟩
 ·have d:=cB E0 c.mem;simp only[Hi] at d;exact HP y7 d.2.1
 ·cases e with
  |t0 _ _ g=>have:=cB (cB aaq g.mem) c.mem;simp only[Hi] at this;exact this.1
  |plus t s p q dB cT=>exact cB (cB (cB axG dB.mem) cT.mem) c.mem
  |MU t s p q dB cT=>exact cB (cB (cB ano dB.mem) cT.mem) c.mem
  |neg t p dB=>exact cB (cB alU dB.mem) c.mem
theorem Fl:bl λu=>∀a b P Q,ka a P->tf b Q->i6 u (oX a b):=(k8.oX ka asS).imp λn h a b P Q c d=>by obtain⟨r1,e⟩:=amZ c d;exact h a b P Q c (.t0 _ _ d) r1 e
def Gb(r k:Nat):Bool:=Nat.beq k 0||(Nat.beq k 2||(Nat.beq k 4||(Nat.beq k 6||Nat.beq k r)))
theorem XL{r:Nat}(k:Nat)(h:Gb r k=true):mE r k:=by simp only[Gb,dS] at h;unfold mE;rcases h with h|h|h|h|h<;>have:=dp h<;>omega
def wj(i:Nat):Nat:=2*i+2
theorem aA6:(([1,8]:List Nat).all λr=>(zw wj).all λq=>IT (Gb r) q&&v8 (Gb r) (λk=> !Nat.beq k r) [⟨r,1⟩] (hB q))=true:=by kernel_rfl
theorem aEg(i:Nat)(hi:i<3):(p0 h l aR).di (wj i)= .aQ 11 [dW i]:=by
 show pk (cO h l) (dQ aR) (wj i)=_;have c:=nF aR;have:i=0\/i=1\/i=2:=by omega
 unfold pk;rcases this with rfl|rfl|rfl<;>rw[Ca (by unfold wj;omega)]<;>rfl
end
end
section
variable{t b a:aB} {l:aY} {n:Nat}
section
variable[Tok]
theorem av4(n:Nat):((List.range 3).all λi=>dy (bB bD (n+9) 116 [.agg (dW i)] 0 .nil) (.a0 [.aE,ao 0,.a9 false])&&dy (bB bD (n+9) 116 [.agg (bU bP fe [dW i])] 0 .nil) (.a0 [.aE,ao 0,.a9 false]))=true:=by kernel_rfl
theorem Xx(n:Nat):(to.all λo=>dy (bB bD (n+9) 116 [.agg (cW o)] 0 .nil) (.a0 [.aE,ao 0,.a9 false])&&dy (bB bD (n+9) 116 [.agg (bU bP fe [cW o])] 0 .nil) (.a0 [.aE,ao 0,.a9 false]))=true:=by kernel_rfl
theorem aEj(n:Nat)(a d:aB):(dy (bB bD (n+9) 116 [.agg (cW (jU a d))] 0 .nil) (.a0 [.aE,ao 0,.a9 false])&&dy (bB bD (n+9) 116 [.agg (bU bP fe [cW (jU a d)])] 0 .nil) (.a0 [.aE,ao 0,.a9 false]))=true:=by kernel_rfl
inductive re:aB->Prop
 |tt (o:aB) (h:o∈kY):re o
 |DW (x:Int×Int) (h:x∈wZ):re (b5 x.1 x.2)
 |im (n c c':Nat) (a d:aB) (hn:n<=2) (ha:h0 n c a) (hd:h0 n c' d):re (jU a d)
inductive je:aB->Prop
 |var (i:Nat) (hi:i<3):je (dW i)
 |iW (o:aB) (h:re o):je (cW o)
theorem OY{x:Int×Int}(h:x∈wZ):b5 x.1 x.2∈to:=xb _ (yd.2 ⟨x,List.mem_of_mem_drop h,rfl⟩)
theorem re.aj{o:aB}(h:re o):∃n c,n<=3/\h0 n c o:=by
 cases h with
 |tt o h=>exact⟨0,1,by omega,.leaf (gv _ h)⟩
 |DW x h=>exact⟨0,1,by omega,.leaf (OY h)⟩
 |im n c g a d i e hd=>exact⟨n+1,_,by omega,.cons e hd⟩
theorem je.al(h:je t):∃w,m5 t w:=by
 cases h with
 |var i hi=>exact⟨_,.var i hi⟩
 |iW o h=>obtain⟨n,c,d,e⟩:=h.aj;exact⟨_,.iW n c o d e⟩
theorem je.af(h:je t)(ln:Nat->Nat):∃p,lz ln t p:=by
 cases h with
 |var i hi=>exact⟨_,.var i hi⟩
 |iW o h=>
  cases h with
  |tt o h=>exact⟨_,.tt o h⟩
  |DW x h=>exact⟨_,.num x h⟩
  |im n c e a d j g hd=>exact⟨_,.im n c e a d g hd⟩
theorem je.ge(h:je t)(n:Nat):GE n t:=by
 cases h with
 |var i hi=>exact .var n _ _ _ _
 |iW o h=>obtain⟨m,c,e,d⟩:=h.aj;exact .iW n m c o (by omega) d.NM
theorem NB{u:Fn}(c:cq t)(h:dy (u 116 [.agg t] 0 .nil) (.a0 [.aE,ao 0,.a9 false])=true):i6 u t:= .ax c (eN h)
theorem YX(t:aB):cq (bU bP fe [t]):=⟨rfl,rfl⟩
theorem acK:bl λu=>∀t,je t->i6 u t/\i6 u (bU bP fe [t]):=bl.run λn t j=>by
 have g:∀{t:aB},cq t->(dy (bB bD (n+9) 116 [.agg t] 0 .nil) (.a0 [.aE,ao 0,.a9 false])&&dy (bB bD (n+9) 116 [.agg (bU bP fe [t])] 0 .nil) (.a0 [.aE,ao 0,.a9 false]))=true->i6 (bB bD (n+9)) t/\i6 (bB bD (n+9)) (bU bP fe [t]):=λ{t} e h=>by rw[Hi] at h;exact⟨NB e h.1,NB (YX t) h.2⟩
 obtain⟨w,k⟩:=j.al;have e:=k.t11;cases j with
 |var i hi=>exact g e (cB (av4 n) (mem_range hi))
 |iW o h=>
  cases h with
  |tt o h=>exact g e (cB (Xx n) (gv _ h))
  |DW x h=>exact g e (cB (Xx n) (OY h))
  |im m c p a d q r hd=>exact g e (aEj n a d)
structure Gy (h:Nat×Nat×Nat×Nat×Nat) (l:aY):Prop where
 ab:l.length=h.2.2.2.2
 ah:∀t∈l,je t
theorem JG:((iu++i1++lS).all λh=>Nat.ble 1 h.2.2.2.2&&Nat.ble h.2.2.2.2 3)=true:=by decide+kernel
theorem Gy.al{h:Nat×Nat×Nat×Nat×Nat}(k:h∈iu++i1++lS){l:aY}(H:Gy h l):∃aR,kx l aR:=by
 have g:=cB JG k;rw[Hi] at g;have y:=pn g.1;have z:=pn g.2;have o:∀l:aY,(∀t∈l,je t)->∃aR:List (Nat×Nat×Nat),aR.length=l.length/\∀(i:Nat) (t:aB) (w:Nat×Nat×Nat),l[i]? =some t->aR[i]? =some w->m5 t w:=by
  intro l;induction l with
  |nil=>intro _;exact⟨[],rfl,λi t w h=>by simp at h⟩
  |cons t r p=>
   intro h;obtain⟨aR,e,j⟩:=p λx q=>h x (OJ _ q);obtain⟨w,u⟩:=(h t HO).al;refine⟨w::aR,by simp[e],λi s v c d=>?_⟩;cases i with
   |zero=>simp at c d;subst c;subst d;exact u
   |succ i=>simp at c d;exact j i s v c d
 obtain⟨aR,e,j⟩:=o l H.ah;exact⟨aR,e,by have:=H.ab;omega,by have:=H.ab;omega,j⟩
inductive qw:aB->Prop
 |t0 (t:aB) (h:je t):qw t
 |kS (h:Nat×Nat×Nat×Nat×Nat) (l:aY) (hh:h∈iu++i1++lS) (H:Gy h l):qw (cO h l)
theorem qw.ge{t:aB}(h:qw t)(n:Nat):GE (n+1) t:=by
 cases h with
 |t0 t h=>exact h.ge _
 |kS h l c H=>refine .kS n _ _ _ _ l ?_ λt d=>(H.ah t d).ge n;have:=cB JG c;rw[Hi] at this;have:=pn this.2;have:=H.ab;omega
theorem aeK(h:l.length=1):∃t,l=[t]:=List.length_eq_one_iff.1 h
theorem OW(h:l.length=2):∃t s,l=[t,s]:=by
 match l,h with
 |[t,s],_=>exact⟨t,s,rfl⟩
theorem Rt(h:Nat×Nat×Nat×Nat×Nat)(l:aY):cq (cO h l):=⟨(i4 h l).aa,(i4 h l).e5⟩
theorem aDV{h:Nat×Nat×Nat×Nat×Nat}(c:h∈iu++i1)(H:Gy h l)(r:je b):bl λu=>i6 u (oX (cO h l) b):=by
 obtain⟨aR,j⟩:=H.al (gv _ c);have E:=YJ c j;have w:=E.PD (ln:=wj) aEg;obtain⟨q,o⟩:=r.af wj;have x:bl λu=>∀t P,((t=cO h l/\P=[⟨dQ aR,1⟩])\/lz wj t P)->mf u (p0 h l aR) t P:=((agC c j).and w).imp λn g t P d=>by
  rcases d with⟨rfl,rfl⟩|d
  ·exact g.1
  ·exact g.2 t P d
 have y:dQ aR∈([1,8]:List Nat):=by rcases nF aR with h|h<;>rw[h]<;>simp
 have i:=cB (cB aA6 y) o.mem;rw[Hi] at i;exact(E.oX _ x).imp λn g=>g _ _ _ _ (.inl ⟨rfl,rfl⟩) (.inr o) (HP XL i.1) (Gq (E:=p0 h l aR) XL (λk p=>by show k≠dQ aR;intro e;rw[e,wT] at p;cases p) i.2)
theorem ag9(w:qw a)(k:je b):bl λu=>i6 u (oX a b):=by
 obtain⟨q,j⟩:=k.af (· +1);cases w with
 |t0 _ h=>obtain⟨p,c⟩:=h.af (· +1);exact Fl.imp λn g=>g _ _ _ _ (.t0 _ _ c) j
 |kS h l d H=>
  rcases Ic.1 d with d|d
  ·exact aDV d H k
  ·have o:∀{l:aY},l.length=2->(∀t∈l,je t)->∃t s p r,l=[t,s]/\tf t p/\tf s r:=λ{l} e g=>by obtain⟨t,s,rfl⟩:=OW e;obtain⟨p,c⟩:=(g t (by simp)).af (· +1);obtain⟨r,i⟩:=(g s (by simp)).af (· +1);exact⟨t,s,p,r,rfl,c,i⟩
   simp only[lS,pG,CY,wN] at d;rcases d with rfl|rfl|rfl
   ·obtain⟨t,s,p,r,rfl,c,i⟩:=o H.ab H.ah;exact Fl.imp λn g=>g _ _ _ _ (.plus t s p r c i) j
   ·obtain⟨t,s,p,r,rfl,c,i⟩:=o H.ab H.ah;exact Fl.imp λn g=>g _ _ _ _ (.MU t s p r c i) j
   ·obtain⟨t,rfl⟩:=aeK H.ab;obtain⟨p,c⟩:=(H.ah t (by simp)).af (· +1);exact Fl.imp λn g=>g _ _ _ _ (.neg t p c) j
theorem abb(w:qw a):bl λu=>i6 u a/\i6 u (bU bP fe [a]):=by
 cases w with
 |t0 _ h=>exact acK.imp λn g=>g a h
 |kS h l c H=>
  have k:∀h'∈iu++lS++[(4,0x6c697370,5,0x657175616c,2)],bl λu=>i6 u (cO h' l):=λh' c=>bl.run λn=>by exact NB (Rt h' l) (cB (VT n l) c)
  have o:∀h'∈iu++lS++[(4,0x6c697370,3,0x6e6f74,1)],bl λu=>i6 u (bU bP fe [cO h' l]):=λh' c=>bl.run λn=>by exact NB (YX _) (cB (amp n l) c)
  rcases Ic.1 c with e|e
  ·rcases Ic.1 e with d|d
   ·exact(k h (gv _ (gv _ d))).and (o h (gv _ (gv _ d)))
   ·simp only[i1,pG,CY,wN] at d;rcases d with rfl|rfl|rfl
    ·obtain⟨t,rfl⟩:=aeK H.ab;exact(acK.imp λn g=>(g t (H.ah t (by simp))).2).and (o _ (xb _ (by simp)))
    ·obtain⟨t,s,rfl⟩:=OW H.ab;obtain⟨p,i⟩:=(H.ah t (by simp)).af (· +1);obtain⟨r,j⟩:=(H.ah s (by simp)).af (· +1);exact(k _ (xb _ (by simp))).and (Fl.imp λn g=>g _ _ _ _ (.t0 _ _ i) j)
    ·obtain⟨t,s,rfl⟩:=OW H.ab;obtain⟨p,i⟩:=(H.ah t (by simp)).af (· +1);obtain⟨r,j⟩:=(H.ah s (by simp)).af (· +1);exact UR.imp λn g=>⟨(g t s p r i j).1,(g s t r p j i).2⟩
  ·exact(k h (gv _ (xb _ e))).and (o h (gv _ (xb _ e)))
inductive Lit:aB->Prop
 |Lb (a b:aB) (P Q:bE) (ha:n1 a P) (hb:n1 b Q):Lit (vh a b)
 |Qw (a b:aB) (P Q:bE) (ha:n1 a P) (hb:n1 b Q):Lit (xZ a b)
 |Lh (a b:aB) (P Q:bE) (ha:n1 a P) (hb:n1 b Q):Lit (oX a b)
 |Me (a:aB) (h:qw a):Lit a
 |iR (a:aB) (h:qw a):Lit (bU bP fe [a])
 |nH (a b:aB) (h:qw a) (hb:je b):Lit (oX a b)
 |eq (a b:aB) (h:qw a) (hb:je b):Lit (bU bP iB [a,b])
 |aE (a b:aB) (h:je a) (hb:je b):Lit (xZ a b)
theorem Lit.ak{t:aB}(h:Lit t):bl λu=>i6 u t:=by
 cases h with
 |Lb a b P Q d c=>exact KG.imp λn g=>(g a b P Q d c).1
 |Qw a b P Q d c=>exact KG.imp λn g=>(g b a Q P c d).2.1
 |Lh a b P Q d c=>exact KG.imp λn g=>(g a b P Q d c).2.2
 |Me a h=>exact(abb h).imp λn g=>g.1
 |iR a h=>exact(abb h).imp λn g=>g.2
 |nH a b h c=>exact ag9 h c
 |eq a b h c=>refine bl.run λn=>?_;have:=cB (VT n [a,b]) (x:=(4,0x6c697370,5,0x657175616c,2)) (xb _ (by simp));exact NB (t:=bU bP iB [a,b]) ⟨rfl,rfl⟩ this
 |aE a b h c=>obtain⟨p,e⟩:=h.af (· +1);obtain⟨r,i⟩:=c.af (· +1);exact UR.imp λn g=>(g b a r p i e).2
theorem mL.ge{l:bE}(h:mL n t l):GE (n+4) t:=by
 induction h with
 |num z d=>exact .iW _ 0 1 _ (by omega) (.leaf (Dk _ _))
 |add n z i t l d hi h e=>
  have g:GE 1 (ec i):=by
   unfold ec;split
   ·exact .var _ _ _ _ _
   ·split<;>exact .kS 0 _ _ _ _ _ (by simp) λt c=>by simp at c;rw[c];exact .var _ _ _ _ _
  have j:GE 2 (BF z i):= .kS 1 _ _ _ _ _ (by simp) λt c=>by
   simp at c;rcases c with rfl|rfl
   ·exact .iW _ 0 1 _ (by omega) (.leaf (Dk _ _))
   ·exact g
  exact .kS (n+4) _ _ _ _ _ (by simp) λt c=>by
   simp at c;rcases c with rfl|rfl
   ·exact j.le (by omega)
   ·exact e
theorem n1.ge{t:aB}{P:bE}(h:n1 t P):GE 6 t:=by obtain⟨n,l,c,h,_⟩:=h;exact h.ge.le (by omega)
theorem sI(d:GE n a)(e:GE n b)(c1 g d1 d2:Nat):GE (n+1) (bU (.s c1 g) (.s d1 d2) [a,b]):= .kS n _ _ _ _ _ (by simp) λt c=>by
 simp at c;rcases c with rfl|rfl
 ·exact d
 ·exact e
theorem Az(d:GE n a)(c1 e d1 d2:Nat):GE (n+1) (bU (.s c1 e) (.s d1 d2) [a]):= .kS n _ _ _ _ _ (by simp) λt c=>by simp at c;rw[c];exact d
theorem Lit.ge{t:aB}(h:Lit t):GE 8 t:=by
 cases h with
 |Lb a b P Q d c=>exact(sI d.ge c.ge _ _ _ _).mono
 |Qw a b P Q d c=>exact Az (sI d.ge c.ge _ _ _ _) _ _ _ _
 |Lh a b P Q d c=>exact Az (sI d.ge c.ge _ _ _ _) _ _ _ _
 |Me a h=>exact h.ge 7
 |iR a h=>exact Az (h.ge 6) _ _ _ _
 |nH a b h c=>exact Az (sI (h.ge 5) (c.ge 6) _ _ _ _) _ _ _ _
 |eq a b h c=>exact sI (h.ge 6) (c.ge 7) _ _ _ _
 |aE a b h c=>exact Az (sI (h.ge 6) (c.ge 6) _ _ _ _) _ _ _ _
end
end
section
variable{atf:b1} {q s N d e sz f:Nat} {BX:an} {h:aI} {cs args:aB} {es:aY} {as0:Bool} {R:an->Prop}
section
variable[Tok] {u:Fn} {b:Nat}
def oi(BX:an)(N:Nat):Prop:=N<=1000/\((BX= .aE/\N=0)\/∃l,BX= .aQ 1 l/\l.length=N/\∀r∈l,∃c:Nat,c<256/\r=[.V .u8 (18446744073709551616+c)])
def tM(BX:an):Prop:=∀b,n8 b [BX]=true
theorem oi.aa{BX:an}{N:Nat}(h:oi BX N):tM BX:=λb=>by rcases h.2 with⟨rfl,_⟩|⟨l,rfl,_⟩<;>rfl
structure fu (b:Nat) (atf:b1) (q s:Nat) (BX:an) (N:Nat) (h:aI):Prop where
 lt:q<b
 dn:q%4096<2048
 bh:b+4096<=h.bh
 aj:∃z:Nat,z<=N/\h.aj q= .box s [BX,ao z]
 bQ:∀k∈h.bQ,k=q
 ag:∀k,k<b->k≠q->h.aj k=cE b atf k
 tI:tM BX
theorem fu.ay(H:fu b atf q s BX N h):b4 h b:=⟨H.bh⟩
def ii(a:aw)(b:Nat)(atf:b1)(q s:Nat)(BX:an)(N:Nat)(R:an->Prop):Prop:=
 ∃r c d,∃z:Nat,a= .ok r b c d/\R r/\z<=N/\cE b c q= .box s [BX,ao z]/\(∀k,k≠q->cE b c k=cE b atf k)/\∀k∈d,k=q
def gN(u:Fn)(f:Nat)(args:aB)(BX:an)(N:Nat)(R:an->Prop):Prop:=tM BX->∀{b:Nat} {atf:b1} {q s z:Nat},q<b->q%4096<2048->z<=N->cE b atf q= .box s [BX,ao z]->ii (u f (.bn q s 0::args) b atf) b atf q s BX N R
theorem fu.start{z:Nat}(c:q<b)(g:q%4096<2048)(i:z<=N)(j:cE b atf q= .box s [BX,ao z])(l:tM BX):fu b atf q s BX N (ba b atf):=
 ⟨c,g,sm _,⟨z,i,by rw[kz atf c];exact j⟩,(λk a=>by cases a),λk a _=>kz atf a,l⟩
theorem fu.g4{atf:b1}{q s N:Nat}{BX:an}{h:aI}(H:fu b atf q s BX N h){d:Nat}{o:e9}(hd:d<4096:=by decide):fu b atf q s BX N (h.g4 b d o):=by
 haveI:=H.ay
 refine⟨H.lt,H.dn,by rw[Kf];exact H.bh,?_,?_,λk g i=>?_,H.tI⟩
 ·obtain⟨z,j,l⟩:=H.aj;refine⟨z,j,?_⟩;rw[(ng (b4.lt hd)).aj _ λc a=>by simp at a;have:=H.lt;omega];exact l
 ·have e:(h.g4 b d o).bQ=h.bQ:=(ng (o:=o) (b4.lt hd)).bQ;rw[e];exact H.bQ
 ·rw[(ng (b4.lt hd)).aj _ λc a=>by simp at a;omega];exact H.ag k g i
theorem fu.fz{t:Nat}(H:fu b atf q s BX N h)(hd:d<4096:=by decide):fu b atf q s BX N (h.fz b d t cs):=H.g4 hd
theorem fu.eP(H:fu b atf q s BX N h)(hd:d<4096:=by decide):fu b atf q s BX N (h.eP b d cs):=H.g4 hd
theorem fu.fm(H:fu b atf q s BX N h)(hd:d<4096:=by decide):fu b atf q s BX N (h.fm b d e sz es as0):=H.g4 hd
theorem fu.ow{a:Nat}(H:fu b atf q s BX N h)(hd:d<4096:=by decide):fu b atf q s BX N (h.ow b d a e sz es as0):=H.g4 hd
theorem agp(H:fu b atf q s BX N h)(C:gN u f args BX N R):∃r h',R r/\fu b atf q s BX N h'/\(∀k,k≠q->h'.aj k=h.aj k)/\∀k:dg,fD u b f (.bn q s 0::args) [] h k=k r h':=by
 obtain⟨z,l,n⟩:=H.aj;obtain⟨ub,a8,dd⟩:=h;have o:b+4096<=ub:=H.bh;obtain⟨r,c,d,p,t,w,x,y,i,g⟩:= @C H.tI ub a8 q s z (by have:=H.lt;omega) H.dn l n;have hd:∀k∈aA (gZ b d) dd,k=q:=λk a=>by rw[mJ,Ic] at a;exact a.elim (λh=>g k (uC h)) (H.bQ k)
 refine⟨r,.mk ub c (aA (gZ b d) dd),w,⟨H.lt,H.dn,o,⟨p,x,y⟩,hd,λk a j=>(i k j).trans (H.ag k a j),H.tI⟩,i,λk=>?_⟩;have g:fD u b f (.bn q s 0::args) [] (.mk ub a8 dd) k=jT b ub dd k (u f (.bn q s 0::args) ub a8):=rfl;rw[g,t];have A:jT b ub dd k (.ok r ub c d)=bf (Nat.ble ub ub) (k r (.mk ub c (aA (gZ b d) dd))) .ax:=rfl;rw[A,ek,pl (sm ub),cM]
theorem Wb{q:Nat}(a:eb [4096,4098] (iD b q)=true):∀(d:List Nat),(∀k∈d,k=q)->sS b [4096,4098] d=true
 |[],_=>rfl
 |k::d,h=>by have e:sS b [4096,4098] (k::d)=cS (eb [4096,4098] (iD b k)) (sS b [4096,4098] d):=rfl;rw[e,h k HO,a,Wb a d λj c=>h j (OJ _ c)];rfl
theorem avp{xs:aB}(H:fu b atf q s BX N h)(C:gN u f args BX N R):∃r h',R r/\fu b atf q s BX N h'/\(∀k,k≠q->h'.aj k=h.aj k)/\∀k:dg,o7 u b [4097] [4096,4098] xs f (.bn q s 0::args) [] h k=k r h':=by
 obtain⟨z,l,n⟩:=H.aj;obtain⟨ub,a8,dd⟩:=h;have o:b+4096<=ub:=H.bh;obtain⟨r,c,d,p,t,w,x,y,g,i⟩:= @C H.tI ub a8 q s z (by have:=H.lt;omega) H.dn l n;have hd:∀k∈aA (gZ b d) dd,k=q:=λk a=>by rw[mJ,Ic] at a;exact a.elim (λh=>i k (uC h)) (H.bQ k)
 refine⟨r,.mk ub c (aA (gZ b d) dd),w,⟨H.lt,H.dn,o,⟨p,x,y⟩,hd,λk a j=>(g k j).trans (H.ag k a j),H.tI⟩,g,λk=>?_⟩;have A:o7 u b [4097] [4096,4098] xs f (.bn q s 0::args) [] (.mk ub a8 dd) k=xH b [4097] [4096,4098] [] (aA xs (.bn q s 0::args)) ub a8 dd k (u f (.bn q s 0::args) ub a8):=rfl;rw[A,t];have B:xH b [4097] [4096,4098] [] (aA xs (.bn q s 0::args)) ub a8 dd k (.ok r ub c d)=
  bf (Nat.ble ub ub) (bf (sS b [4096,4098] d) (bf (rn [4096,4098] ub ub) (bf true (k r (.mk ub c (aA (gZ b d) dd))) .ax) .ax) .ax) .ax:=rfl
 have D:rn [4096,4098] ub ub=true:=by unfold rn;rw[Nat.beq_refl]
 have E:eb [4096,4098] (iD b q)=true:=by rw[wb];unfold fl;have G:=H.lt;have F:=H.dn;rw[cz,y1 F];rfl
 rw[B,D,ek,pl (sm ub),cM,Wb E d i,cM,cM,cM]
theorem Sa{q s N:Nat}{BX:an}{a8:b1}(a:n8 b [BX]=true){z:Nat}(c:(a8.get q).ag= .box s [BX,ao z]):∀d:List Nat,(∀k∈d,k=q)->kE b a8 d=true
 |[],_=>rfl
 |k::d,h=>by
  have g:kE b a8 (k::d)=cS (xF b (a8.get k).ag) (kE b a8 d):=rfl;have i:xF b (.box s [BX,ao z])=true:=by show n8 b [BX,ao z]=true;rw[cX];cases BX<;>first|exact a|rfl|cases a
  rw[g,h k HO,c,i,Sa (N:=N) a c d λj l=>h j (OJ _ l)];rfl
theorem PU{r:an}(H:fu b atf q s BX N h)(i:R r):ii (dJ b r [] h) b atf q s BX N R:=by
 have j:=H.tI b;have l:=H.ag;obtain⟨z,n,p⟩:=H.aj;obtain⟨ub,a8,d⟩:=h;have x:b+4096<=ub:=H.bh;have c:=H.lt;have g:(a8.get q).ag= .box s [BX,ao z]:=by have:cE ub a8 q= .box s [BX,ao z]:=p;rw[ic] at this;exact this
 have t:dJ b r [] (.mk ub a8 d)= @Bool.rec (λ_=>aw) (.ok r ub a8 d) (.ok r b (a8.drop b) d) (kE b a8 d):=rfl;rw[t,Sa (N:=N) j g d H.bQ];refine⟨r,a8.drop b,d,z,rfl,i,n,?_,λk w=>?_,H.bQ⟩
 ·rw[ic c,b1.rB b a8 q c];exact g
 ·by_cases a:k<b
  ·rw[ic a,b1.rB b a8 k a,<-l k a w];show _=cE ub a8 k;rw[ic]
  ·rw[jz,jz]
end
end
section
variable{atf:b1} {q s N:Nat} {BX:an}
section
variable[Tok] {u:Fn} {b:Nat}
theorem vF(q s o:Nat)(k:an->aw):hY (.bn q s o) k=k (.bn q s o):=jL rfl
theorem A3{h:aI}(H:fu b atf q s BX N h)(o:Nat)(z:aw):met b [4096] [.bn q s o] z=z:=by
 have a:jP b [4096] (.bn q s o)=true:=by show eb [4096] (iD b q)=true;rw[wb];unfold fl;have d:=H.lt;have c:=H.dn;rw[cz,y1 c];rfl
 rw[aV a,aN]
theorem ayE{c:Nat}(g:c<256)(k:an->aw):c8 (hs .i64 (.V .u8 (18446744073709551616+c))) k=k (ao c):=by
 have e:hs .i64 (.V .u8 (18446744073709551616+c))=bif lr .i64 (18446744073709551616+c) then some (.V .i64 (18446744073709551616+c)) else tr (.int .i64 (IntKind.i64.wrap (intOf (18446744073709551616+c)))):=rfl;have a:lr .i64 (18446744073709551616+c)=true:=by
  rw[<-zZ];have:=Bn (c:=(c:Int)) (by omega) (by omega);have d:((c:Int)+18446744073709551616).toNat=18446744073709551616+c:=by omega
  rw[d] at this;exact this
 rw[e,a,lR,tH,cX];congr 2;omega
theorem aeo{a c:Int}(d:0<=a/\a<=1000:=by omega)(j:1<=c/\c<=1000:=by omega)(k:an->aw):c8 (fA .rem (ao a) (ao c)) k=k (ao (a%c)):=by
 have g:a.tmod c=a%c:=Int.tmod_eq_emod_of_nonneg d.1;have l:0<=a%c:=Int.emod_nonneg _ (by omega);have n:a%c<c:=Int.emod_lt_of_pos _ (by omega);have h:intOf (a+18446744073709551616).toNat=a:=by unfold intOf;omega
 have i:intOf (c+18446744073709551616).toNat=c:=by unfold intOf;omega
 have e:fA .rem (ao a) (ao c)=some (ao (a%c)):=by rw[cX,cX,cX];simp only[fA,vY,lR,sJ,AP,A7,h,i,jW,w6,Ca (show c≠0 by omega),h9,g,tr];rw[fS]
 rw[e,tH]
def pe(n:Int)(r:an):Prop:=∃k:Int,0<=k/\k<n/\r=ao k
theorem aoP{n:Int}(Q:1<=n/\n<=100)(d:oi BX N){z:Nat}(j:q<b)(A:q%4096<2048)(F:z<=N)(B:cE b atf q= .box s [BX,ao z]):ii (za u [.bn q s 0,ao n] b atf) b atf q s BX N (pe n):=by
 have S:=fu.start j A F B d.aa;have R:=d.1
 haveI:=S.ay
 have a:(ba b atf).aj q= .box s [BX,ao z]:=by rw[kz atf j];exact B
 have eO:([BX,ao z]:aB)[0+0]? =some BX:=rfl;have dB:([BX,ao z]:aB)[0+1]? =some (ao z):=rfl;have C:∀k:an->aw,bq false BX k=k (ao N):=λk=>by
  rcases d.2 with⟨rfl,rfl⟩|⟨l,rfl,D,_⟩
  ·exact hy k
  ·rw[<-D];exact eA _ _ k
 by_cases G:z<N
 ·obtain⟨l,rfl,D,H⟩:∃l,BX= .aQ 1 l/\l.length=N/\∀r∈l,∃c:Nat,c<256/\r=[.V .u8 (18446744073709551616+c)]:=by
   rcases d.2 with⟨_,h⟩|h
   ·omega
   ·exact h
  obtain⟨p,I⟩:∃p,l[z]? =some p:=⟨l[z]'(by omega),dC _⟩;obtain⟨c,J,K⟩:=H p (On I);subst K;have t:q<(ba b atf).bh:=by have:=S.bh;have:=S.lt;omega
  have E:∀k:dg,aX b none 1 (.bn q s (0+1)) (ao ((z:Int)+1)) (ba b atf) k=k .undef ((ba b atf).eW b q (.ae (.box s [.aQ 1 l,ao ((z+1:Nat):Int)]))):=λk=>by rw[QO,tD (n:=1) (off:=0+1) (cs:=[.aQ 1 l,ao z]) (new:=[ao ((z:Int)+1)]) a rfl (by simp) (λo=>gs b _) t];rfl
  generalize e:(ba b atf).eW b q (.ae (.box s [.aQ 1 l,ao ((z+1:Nat):Int)]))=h' at E;have w:h'.aj q= .box s [.aQ 1 l,ao ((z+1:Nat):Int)]:=by rw[<-e];exact kB t
  have L:fu b atf q s (.aQ 1 l) N h':=by
   refine⟨j,A,by rw[<-e,aI.qv];exact S.bh,⟨z+1,G,w⟩,λk g=>?_,λk g M=>?_,d.aa⟩
   ·rw[<-e] at g;exact(aI.aaC k g).elim (λh=>by cases h) id
   ·rw[<-e,aI.tS t];simp[Go.Hf.dl,M];exact kz atf g
  have f0:([.aQ 1 l,ao ((z+1:Nat):Int)]:aB)[0+0]? =some (.aQ 1 l):=rfl;have f1:([.aQ 1 l,ao ((z+1:Nat):Int)]:aB)[0+1]? =some (ao ((z+1:Nat):Int)):=rfl;have O:((z+1:Nat):Int)-1=(z:Int):=by omega
  have P:∀y:aw,met b [4098] [.aQ 1 l,ao z] y=y:=λy=>by rw[aV,aV,aN]
  have T:∀(ob:ej) (f:jm) (c:Int),aD ob (ao c) f=f (ao c) []:=λob f c=>b7 _ _ _;rw[za,dE,Mk,vF,bb,aJ,A3 S,aH a,bc dB,K8,vF,bb,aJ,A3 S,aH a,bc eO,C,bK,ix,bk,fZ,bO,I5,gE,dO,bk,a6,vF,bb,S0,aH a,bc dB,bK,cK,vF,bb,E,vF,bb,aJ,A3 S,aH w,bc f0,vF,acI,bb,aJ,A3 S,aH w,bc f1,bK,e1,O,bZ,P,eE,aJ,aV,aN,ch,bc (by rfl),ayE J,aeo,FH,bj,b7];rw[av];exact PU L ⟨_,Int.emod_nonneg _ (by omega),Int.emod_lt_of_pos _ (by omega),rfl⟩
 ·rw[za,dE,Mk,vF,bb,aJ,A3 S,aH a,bc dB,K8,vF,bb,aJ,A3 S,aH a,bc eO,C,bK,ix,bN,lL,I5,dR,gE,bL,FH,bF,bj,b7];rw[av];exact PU S ⟨0,by omega,by omega,rfl⟩
end
end
section
variable{f z s2 s3:Nat} {args Z:aB} {R R':an->Prop} {h:aI} {K:dg}
section
variable[Tok] {u:Fn} {b:Nat}
theorem awr:(v2:an)=ao 6:=by rw[cX];rfl
theorem iv{atf:b1}{q s N:Nat}{BX:an}(S:fu b atf q s BX N h)(C:gN u f args BX N R)
 (H:∀r h',R r->fu b atf q s BX N h'->(∀d,h'.aj (b+d)=h.aj (b+d))->ii (K r h') b atf q s BX N R'):ii (fD u b f (.bn q s 0::args) [] h K) b atf q s BX N R':=by
 obtain⟨r,h',a,c,g,e⟩:=agp S C;rw[e];exact H r h' a c λd=>g _ (by have:=S.lt;omega)
theorem He{atf:b1}{q s N:Nat}{BX:an}{xs:aB}(S:fu b atf q s BX N h)(C:gN u f args BX N R)
 (H:∀r h',R r->fu b atf q s BX N h'->(∀d,h'.aj (b+d)=h.aj (b+d))->ii (K r h') b atf q s BX N R'):ii (o7 u b [4097] [4096,4098] xs f (.bn q s 0::args) [] h K) b atf q s BX N R':=by
 obtain⟨r,h',a,c,g,e⟩:=avp (xs:=xs) S C;rw[e];exact H r h' a c λd=>g _ (by have:=S.lt;omega)
theorem qO{atf:b1}{q s N:Nat}{BX:an}{r:an}(S:fu b atf q s BX N h)(a:R r):ii (dJ b r [] h) b atf q s BX N R:=PU S a
def tT(r:an):Prop:=∃i,i<3/\r= .agg (dW i)
theorem aAy{BX:an}{N:Nat}(c:∀n:Int,1<=n/\n<=100->gN u 30 [ao n] BX N (pe n))(d:∀i,i<3->aK u 21 [.s 1 (0x78+i)] (.agg (dW i)))(g:tM BX){atf:b1}{q s:Nat}(j:q<b)(l:q%4096<2048)(o:z<=N)(p:cE b atf q= .box s [BX,ao z]):ii (DE u [.bn q s 0] b atf) b atf q s BX N tT:=by
 have S:=fu.start j l o p g
 haveI:=S.ay
 rw[DE,dK,aen,de];rw[i2];refine iv S.fz (c 3 (by omega)) λr h' t a w=>?_;obtain⟨k,A,B,rfl⟩:=t
 haveI:=a.ay
 have C:=(w 2).trans fE;have x:∀i:Nat,i<3->k=(i:Int)->(∀f:an->aw,kw (.s 3 0x78797a) (some (ao k)) none f=f (.s (3-i) (0x78797a%256^(3-i))))/\(∀f:an->aw,kw (.s (3-i) (0x78797a%256^(3-i))) none (some aS) f=f (.s 1 (0x78+i))):=by
  intro i hi e;have:i=0\/i=1\/i=2:=by omega
  rcases this with rfl|rfl|rfl
  ·rw[e];exact⟨λf=>by rw[cX];rfl,λf=>rfl⟩
  ·rw[e];exact⟨λf=>by rw[cX];rfl,λf=>rfl⟩
  ·rw[e];exact⟨λf=>by rw[cX];rfl,λf=>rfl⟩
 obtain⟨y,s2⟩:=x k.toNat (by omega) (by omega);have ev:=d k.toNat (by omega);have D:(dW k.toNat).length=11:=rfl;have iV:b8 (dW k.toNat)=true:=rfl;rw[y,s2,bg,DQ,av,aT,dc,YV,gh,be,bj,bm];rw[av];exact qO a.eP ⟨_,by omega,rfl⟩
def E9(r:an):Prop:=∃t P,n1 t P/\r= .agg t
section
variable{BX:an} {N:Nat} {atf:b1} {q s:Nat}
theorem L0(A:∀n:Int,1<=n/\n<=100->gN u 30 [ao n] BX N (pe n))(e:∀a c l,aK u 22 [.s a c,.aQ 11 l] (.agg (bU bP (.s a c) l)))(B:∀z:Int,z.natAbs<=4->aK u 23 [ao z] (.agg (cW (ef z))))(S:fu b atf q s BX N h){s6 a i:Nat}{t:aB}{l:bE}(C:h.aj (b+2)= .box s2 Z)(D:h.aj (b+3)= .box s3 t)(E:h.aj (b+6)= .box s6 (ec a))(F:a<9)(g:mL i t l){j o:an}{p:kb}
 (G:∀h' w H,fu b atf q s BX N h'->h'.aj (b+2)= .box s2 Z->h'.aj (b+3)= .box s3 w->mL (i+1) w H->ii (p (.bn q s 0) (.bn (b+2) s2 0) (.bn (b+3) s3 0) j o h') b atf q s BX N R):
 ii (o7 u b [4097] [4096,4098] [.bn q s 0,pQ] 30 [.bn q s 0,pQ] [] h λI J=>cP I jf λL=>I1 u b p L (.bn (b+6) s6 0) (.bn (b+3) s3 0) (.bn q s 0) (.bn (b+2) s2 0) j o J) b atf q s BX N R:=by
 rw[Fu];refine He S (A 9 (by omega)) λr h' M x d=>?_;obtain⟨k,T,W,rfl⟩:=M
 haveI:=x.ay
 have O:=(d 2).trans C;have P:=(d 3).trans D;have X:=(d 6).trans E;have ar:=B (k-4) (by omega);have y:=iA (jk ((k-4:Int):Rat).num ((k-4:Int):Rat).den) (iY ((k-4:Int):Rat).num ((k-4:Int):Rat).den);have a1:(cW (ef ((k-4:Int):Rat))).length=11:=y.aa;have cp:b8 (cW (ef ((k-4:Int):Rat)))=true:=y.e5;obtain⟨a2,uJ⟩:=rM a;have Q:=g.ge.t11;obtain⟨tl,tp⟩:=Q;have mt:(bU bP eM [cW (ef ((k-4:Int):Rat)),ec a]).length=11:=rfl;have mp:b8 (bU bP eM [cW (ef ((k-4:Int):Rat)),ec a])=true:=rfl;have a3:=e 8 0x62696e6172792d2a [cW (ef ((k-4:Int):Rat)),ec a];have a4:=e 8 0x62696e6172792d2b [bU bP eM [cW (ef ((k-4:Int):Rat)),ec a],t];have a5:(bU bP fv [bU bP eM [cW (ef ((k-4:Int):Rat)),ec a],t]).length=11:=rfl;rw[p7,e1,I1,aV,aN,b7,av,aT,aJ,cH,aN,aH,be,aV,aV,aN,lb,lw,av,av,n5,hO,aN,gX,av,aT,UH,aJ,cH,aN,aH,be,aV,aV,aN,lb,lw,av,av,n5,hO,aN,gX,av,aT,cH,aN,pf];exact G _ _ _ (((x.fm).fm).eP) (gi (ga (ga O))) (gS (ga (ga P))) (.add i (k-4) a t l (by omega) F g)
theorem ark(E:∀n:Int,1<=n/\n<=100->gN u 30 [ao n] BX N (pe n))(a5:gN u 33 [] BX N tT)(F:∀a c l,aK u 22 [.s a c,.aQ 11 l] (.agg (bU bP (.s a c) l)))(bd:∀a c l,aK u 75 [.s a c,.aQ 11 l] (.agg (bU kl (.s a c) l)))(H:∀z:Int,z.natAbs<=4->aK u 23 [ao z] (.agg (cW (ef z))))(dq:Z.length=11){cc:Nat}(dt:cc<=2):∀(m i d:Nat) (h:aI) (t:aB) (l:bE),m+i=cc->m<d->fu b atf q s BX N h->h.aj (b+2)= .box s2 Z->h.aj (b+3)= .box s3 t->mL i t l->
 ii (fs 0 2 3 4 5 d (y0 u b (λj w o=>aW o.aj true 11 w λx=>aX b none 11 j x o λ_ y=>B3 b j y)) (.bn q s 0) (.bn (b+2) s2 0) (.bn (b+3) s3 0) (ao cc) (ao i) h) b atf q s BX N E9:=by
 intro m;induction m with
 |zero=>
  intro i d h t l hm bs S T W p;obtain⟨d,rfl⟩:=cN d
  haveI:=S.ay
  obtain⟨tl,tp⟩:=p.ge.t11;rw[gI];generalize fs 0 2 3 4 5 d (y0 u b (λj w o=>aW o.aj true 11 w λx=>aX b none 11 j x o λ_ y=>B3 b j y))=X;rw[y0,bO,bk,a6,aH,be,dc,B3,gh,be,bj,bm];rw[av];exact qO S.eP ⟨t,_,⟨i,l,by omega,p,rfl⟩,rfl⟩
 |succ m bx=>
  intro i d h t l hm bs S T W p;obtain⟨d,rfl⟩:=cN d
  haveI:=S.ay
  have cl:((i+1:Nat):Int)=(i:Int)+1:=by omega
  have I:=λh' e g=>bx (i+1) d h' e g (by omega) (by omega);rw[cl] at I;rw[gI];generalize fs 0 2 3 4 5 d (y0 u b (λj w o=>aW o.aj true 11 w λx=>aX b none 11 j x o λ_ y=>B3 b j y))=X at I;rw[y0,bO,bN,bL,ZH];refine iv S a5 λr h' J S' ar=>?_;obtain⟨v,hv,rfl⟩:=J
  haveI:=S'.ay
  have cn:=(ar 2).trans T;have cp:=(ar 3).trans W;have dz:(dW v).length=11:=rfl;have iV:b8 (dW v)=true:=rfl;rw[U6,de,dc];rw[awr];refine iv (S'.fz.eP) (E 6 (by omega)) λr ee J G L=>?_;obtain⟨k,k0,em,rfl⟩:=J
  haveI:=G.ay
  have M:=(L 2).trans (gi (gF cn));have O:=(L 3).trans (gi (gF cp));have P:=(L 6).trans (gS fE);have Q:∀h' e g,fu b atf q s BX N h'->h'.aj (b+2)= .box s2 Z->h'.aj (b+3)= .box s3 e->mL (i+1) e g->ii ((λcs c0 c1 c2 c3 c4=>bR c3 aS λc5=>X cs c0 c1 c2 c5 c4) (.bn q s 0) (.bn (b+2) s2 0) (.bn (b+3) s3 0) (ao cc) (ao i) h') b atf q s BX N E9:=λh' e g A B C a4=>by dsimp only;rw[bK,cK];exact I h' e g A B C a4
  by_cases en:k=0
  ·have dd:(bU bP Ii [dW v]).length=11:=rfl;have uJ:b8 (bU bP Ii [dW v])=true:=rfl;have eq:=F 3 0x6c656e [dW v];rw[bF,dj,bN,bL,X8,aH,be,hX,av,gW,gX,av,aT,dc];refine L0 (a:=3+v) E F H (G.fm.eP) (gi (ga M)) (gi (ga O)) ?_ (by omega) p Q;have D:ec (3+v)=bU bP Ii [dW v]:=by unfold ec;rw[cz,fS,show 3+v-3=v by omega]
   rw[D];exact gS (ga P)
  ·by_cases es:k=1
   ·have dd:(bU kl Hp [dW v]).length=11:=rfl;have uJ:b8 (bU kl Hp [dW v])=true:=rfl;have ev:=bd 4 0x74726565 [dW v];rw[bF,dj,bk,a6,KU,bK,dj,bN,bL,SJ,aH,be,hX,av,gW,gX,av,aT,dc];refine L0 (a:=6+v) E F H (G.fm.eP) (gi (ga M)) (gi (ga O)) ?_ (by omega) p (λh' e g A B C a4=>by rw[<-bK];exact Q h' e g A B C a4);have D:ec (6+v)=bU kl Hp [dW v]:=by unfold ec;rw[cz,cz,show 6+v-6=v by omega]
    rw[D];exact gS (ga P)
   ·rw[bF,dj,bk,a6,KU,bK,dj,bk,a6];refine L0 (a:=v) E F H G M O ?_ (by omega) p (λh' e g A B C a4=>by rw[<-bK];exact Q h' e g A B C a4);have D:ec v=dW v:=(tc hv).symm;rw[D];exact P
theorem apM(d:∀n:Int,1<=n/\n<=100->gN u 30 [ao n] BX N (pe n))(p:gN u 33 [] BX N tT)(t:∀a c l,aK u 22 [.s a c,.aQ 11 l] (.agg (bU bP (.s a c) l)))(w:∀a c l,aK u 75 [.s a c,.aQ 11 l] (.agg (bU kl (.s a c) l)))(g:∀z:Int,z.natAbs<=4->aK u 23 [ao z] (.agg (cW (ef z))))(x:tM BX)(y:q<b)(A:q%4096<2048)(B:z<=N)(C:cE b atf q= .box s [BX,ao z]):ii (DP u [.bn q s 0] b atf) b atf q s BX N E9:=by
 have S:=fu.start y A B C x
 haveI:=S.ay
 rw[DP,dK,SZ,de];rw[Fu];refine iv S.fz (d 9 (by omega)) λr h' e i D=>?_;obtain⟨k,L,M,rfl⟩:=e
 haveI:=i.ay
 have E:=(D 2).trans fE;have O:=g (k-4) (by omega);have j:=iA (jk ((k-4:Int):Rat).num ((k-4:Int):Rat).den) (iY ((k-4:Int):Rat).num ((k-4:Int):Rat).den);have P:(cW (ef ((k-4:Int):Rat))).length=11:=j.aa;have Q:b8 (cW (ef ((k-4:Int):Rat)))=true:=j.e5;rw[p7,e1,UV,bg,b7,av,aT,de,dc];rw[i2];refine iv (i.fz.eP) (d 3 (by omega)) λr G e H o=>?_;obtain⟨c,c0,T,rfl⟩:=e;have I:=(o 2).trans (gi (gF E));have J:=(o 3).trans (gS fE);obtain⟨cc,rfl⟩:∃n:Nat,c=n:=⟨c.toNat,by omega⟩;have F:=ark (s2:=qk (ba b atf) b 2 56) d p t w g (Z:=ca) rfl (cc:=cc) (by omega) cc 0 1000000 G _ _ (by omega) (by omega) H I J (.num (k-4) (by omega));rw[bF,show(0:Int)=((0:Nat):Int) from rfl];exact F
end
end
end
section
variable{o d:aB} {v:an} {l:aY}
section
variable[Tok] {u:Fn} {b:Nat}
def tu:aB:=nt 4 0x6c697370 3 0x6e696c
def k5:aY->aB
 |[]=>tu
 |a::l=>jU a (k5 l)
theorem Ar:∀l:aY,(k5 l).length=7/\b8 (k5 l)=true
 |[]=>by rw[k5,tu,nt,<-ff];exact⟨rfl,rfl⟩
 |a::l=>by rw[k5,jU,<-p7];exact⟨rfl,rfl⟩
theorem akI{ob:ej}{q s e a n:Nat}{pre:aB}{es:aY}(c:b8 pre=true)(i:ob q= .az s e a es false)(j:n=es.length)(f:jm):
 aD ob (.agg (pre++[.az q s 0 n])) f=f (.agg (pre++[.aQ a es])) []:=by
 subst j;have k:∀g,aD ob (.agg (pre++[.az q s 0 es.length])) g=bf (b8 (pre++[.az q s 0 es.length])) (g (.agg (pre++[.az q s 0 es.length])) []) (k3 ob (pre++[.az q s 0 es.length]) λp us=>g (.agg p) us):=λ_=>rfl;have r:∀g:aB->eH->aw,k3 ob [.az q s 0 es.length] g=jQ (ob q) λh e sz asH as0=>bf (Nat.beq s h) (bf (Nat.ble (Nat.add 0 es.length) (ea asH)) (g [.aQ sz (l3 asH 0 es.length)] (@Bool.rec (λ_=>eH) [] ((q,.az h e sz asH false)::[]) as0)) .ax) .ax:=λ_=>rfl;rw[k,Hl c,Kh,I6 ob _ _ c,r,i,qC,wT,cM,gr,ek,pl (by rw[Ct];omega),cM,zj]
theorem Py(u:Fn)(a c:an)(b:Nat)(atf:b1):zD u [a,c] b atf=PV u b a c (ba b atf):=rfl
theorem an0(g:o.length=7)(h:b8 o=true)(hd:d.length=7)(i:b8 d=true):∃s d',zD u [.agg o,.agg d] 0 .nil= .ok (.agg (jU o d)) 0 s d':=by
 have a:∀f:aB->aw,cC 0 1 jf dx f=f [jf,(.s 0 0),(.s 0 0),(.s 0 0),(.s 0 0),(.s 0 0),.aE]:=λf=>rfl;have c:∀(q s o l:Nat) (f:aB->aw),cC 6 1 (.az q s o l) [jf,(.s 0 0),(.s 0 0),(.s 0 0),(.s 0 0),(.s 0 0),.aE] f=f ([jf,(.s 0 0),(.s 0 0),(.s 0 0),(.s 0 0),(.s 0 0)]++[.az q s o l]):=λq s o l f=>rfl;have e:jU o d=[jf,(.s 0 0),(.s 0 0),(.s 0 0),(.s 0 0),(.s 0 0)]++[.aQ 7 [o,d]]:=by rw[jU,p7];rfl
 rw[e];rw[zD,dE,PV,cy,cy,aae,de,aH,be,aH,be,lb,lw,av,av,gW,a,c,hL,dc,Z6,gh,be,bj,akI (by rfl) (gi i9) (by rfl),av];exact b9
theorem SW(u:Fn)(a:an)(b:Nat)(atf:b1):zA u [a] b atf=OM u b a (ba b atf):=rfl
theorem aCJ(y:v= .aQ 7 l\/l=[])(K:l.length<1000)(z:∀a∈l,a.length=7/\b8 a=true)(A:∀a∈l,∀i,aK u 130 [.agg a,.agg (k5 (l.drop i))] (.agg (jU a (k5 (l.drop i))))){s2 s3:Nat}{Z:aB}(L:Z.length=7):∀(m c:Nat) (h:aI),m<c->m<=l.length->b4 h 0->da h->h.aj (0+2)= .box s2 Z->h.aj (0+3)= .box s3 (k5 (l.drop m))->
 ∃s d,du 0 2 3 4 c (AH u 0 (λg k j=>aW j.aj true 7 k λn=>aX 0 none 7 g n j λ_ p=>Cv 0 g p)) v (.bn (0+2) s2 0) (.bn (0+3) s3 0) (ao ((m:Int)-1)) h= .ok (.agg (k5 l)) 0 s d:=by
 intro m;induction m with
 |zero=>intro c h B q ub fc r t;obtain⟨c,rfl⟩:=cN c;obtain⟨C,D⟩:=Ar l;rw[dm] at t;rw[fj];generalize du 0 2 3 4 c (AH u 0 (λg k j=>aW j.aj true 7 k λn=>aX 0 none 7 g n j λ_ p=>Cv 0 g p))=j4;rw[show(((0:Nat):Int)-1)= -1 from rfl];rw[AH,bF,ix,bk,a6,aH,be,dc,Cv,gh (gS r),be,bj,bm,av];exact b9
 |succ m E=>
  intro c h B q ub fc r t;obtain⟨c,rfl⟩:=cN c;obtain rfl:v= .aQ 7 l:=y.elim id λe=>by rw[e] at q;simp at q
  obtain⟨C,D⟩:=Ar (l.drop (m+1));obtain⟨M,N⟩:=Ar (l.drop m);have F:l[m]? =some (l[m]'(by omega)):=dC _;have G:k5 (l.drop m)=jU (l[m]'(by omega)) (k5 (l.drop (m+1))):=by rw[iK (by omega),k5]
  have w:=A _ (tL (show m<l.length by omega)) (m+1);obtain⟨H,I⟩:=z _ (tL (show m<l.length by omega));rw[<-G] at w;generalize (l[m]'(by omega))=a at F w H I;have x:=λh'=>E c h' (by omega) (by omega);have J:(((m+1:Nat):Int)-1)=(m:Int):=by omega
  rw[J,fj];generalize du 0 2 3 4 c (AH u 0 (λg k j=>aW j.aj true 7 k λn=>aX 0 none 7 g n j λ_ p=>Cv 0 g p))=j4 at x;rw[AH,bF,ix,bN,bL,aal,bZ,aV,aV,aN,bK,eE,ab9,aJ,aV,aN,ch,be,aJ,cH,aN,aH,be,aV,aV,aN,bm,bm,av,av,aT,cH,aN,pf,e1];exact x _ inferInstance inferInstance (gi r) (gS t)
theorem amG(c:dw 7 v l)(e:l.length<1000)(g:∀a∈l,a.length=7/\b8 a=true)(k:aK u 66 [] (.agg tu))(j:∀a∈l,∀i,aK u 130 [.agg a,.agg (k5 (l.drop i))] (.agg (jU a (k5 (l.drop i))))):∃s d,zA u [v] 0 .nil= .ok (.agg (k5 l)) 0 s d:=by
 have n:tu.length=7:=rfl;rw[zA,dK,OM,de,RT,aT,de,dc,c.len,bK,e1];refine aCJ ?_ e g j rfl _ _ _ (by omega) (sm _) inferInstance inferInstance (gi (gF (fE (h:=ba 0 .nil) (d:=2) (t:=54) (cs:=dx)))) ?_
 ·exact c.elim (λh=> .inr h.2) .inl
 ·rw[List.drop_length];exact gS (fE (h:=(ba 0 .nil).fz 0 2 54 _))
def lA(o:aB):Prop:=o∈kY\/∃x∈wZ,o=b5 x.1 x.2
theorem lA.aj(h:lA o):re o:=by
 rcases h with h|⟨x,a,rfl⟩
 ·exact .tt _ h
 ·exact .DW x a
theorem lA.eR(h:lA o):h0 0 1 o:=by
 rcases h with h|⟨x,a,rfl⟩
 ·exact .leaf (gv _ h)
 ·exact .leaf (OY a)
theorem lA.ak{o:aB}(h:lA o):o.length=7/\b8 o=true:=h.eR.ak
theorem ZF:∀{l:aY},(∀a∈l,lA a)->∃c,h0 l.length c (k5 l)
 |[],_=>⟨1,.leaf (gv _ (by simp[kY,k5,tu]))⟩
 |a::l,h=>by obtain⟨c,e⟩:=ZF (l:=l) λx g=>h x (OJ _ g);exact⟨_,.cons ((h a HO).eR.le (xW _)) e⟩
theorem ap0(e:l.length<=3)(h:∀a∈l,lA a):re (k5 l):=by
 match l,e,h with
 |[],_,_=>exact .tt _ (by simp[kY,k5,tu])
 |a::l,e,h=>
  obtain⟨c,g⟩:=ZF (l:=l) λx i=>h x (OJ _ i);have:l.length<=2:=by simp at e;omega
  exact .im 2 _ _ _ _ (sm _) ((h a HO).eR.le (xW _)) (g.le this)
theorem Zk{a:aB}(c:lA a)(hd:lA d):re (jU a d):= .im 0 _ _ _ _ (by omega) c.eR hd.eR
end
end
section
variable{h:aI} {s4:Nat} {Z:aB} {R:an->Prop}
section
variable[Tok] {u:Fn} {b:Nat}
theorem ao6:(EP:an)=ao 7:=by rw[cX];rfl
theorem aeM:(n14:an)=ao 14:=by rw[cX];rfl
def Aw(r:an):Prop:=∃o,r= .agg o/\lA o
def xa(r:an):Prop:=∃o,r= .agg o/\re o
structure BU (u:Fn):Prop where
 ZY:aK u 66 [] (.agg tu)
 ala:aK u 87 [] (.agg (nt 4 0x6c697370 1 0x74))
 Nl:∀z:Int,z.natAbs<=4->aK u 60 [ao z] (.agg (b5 z 1))
 ayv:aK u 114 [.s 1 0x31,.s 1 0x32] (.agg (b5 1 2))
 ak0:aK u 114 [.s 2 0x2d35,.s 1 0x33] (.agg (b5 (-5) 3))
 rE:∀a c,aK u 28 [.s a c] (.agg [kl,.s a c])
 ats:∀a1 c1 a2 c2,aK u 127 [.agg [.s a1 c1,.s a2 c2]] (.agg (nt a1 c1 a2 c2))
 aEf:∀a c,aK u 128 [.s a c] (.agg (uV a c))
 adG:∀v l,dw 7 v l->l.length<=3->(∀a∈l,a.length=7/\b8 a=true)->aK u 129 [v] (.agg (k5 l))
 yD:∀a d,(a.length=7/\b8 a=true)->(d.length=7/\b8 d=true)->aK u 130 [.agg a,.agg d] (.agg (jU a d))
section
variable{BX:an} {N:Nat} {atf:b1} {q s:Nat}
theorem t63(k:Nat)(G:k<14:=by omega)(c d a:an)(h:aI):Gw u b c d a (ao k) h=
 if k=0 then bH u b none 66 [] [] h λe g=>aX b none 7 a e g λ_ j=>kN b a j
 else if k=1 then bH u b none 87 [] [] h λl n=>aX b none 7 a l n λ_ o=>kN b a o
 else if k<=3 then Hz u b c a h
 else if k=4 then bH u b none 114 [(.s 1 0x31),(.s 1 0x32)] [] h λp r=>aX b none 7 a p r λ_ t=>kN b a t
 else if k=5 then bH u b none 114 [(.s 2 0x2d35),(.s 1 0x33)] [] h λw x=>aX b none 7 a w x λ_ y=>kN b a y
 else if k=6 then Ot u b c a h
 else if k=7 then Ku u b c a h
 else if k=8 then bH u b none 60 [aL] [] h λz A=>aX b none 7 a z A λ_ B=>kN b a B
 else if k=9 then bH u b none 60 [aS] [] h λC D=>aX b none 7 a C D λ_ E=>kN b a E
 else if k<=12 then It u b c d a h
 else Ol u b c d a h:=by
 have F:∀k:Nat,ao (k:Int)= .V .i64 (18446744073709551616+k):=λk=>by rw[cX];congr 1;omega
 rw[F];have:k=0\/k=1\/k=2\/k=3\/k=4\/k=5\/k=6\/k=7\/k=8\/k=9\/k=10\/k=11\/k=12\/k=13:=by omega
 rcases this with rfl|rfl|rfl|rfl|rfl|rfl|rfl|rfl|rfl|rfl|rfl|rfl|rfl|rfl<;>rfl
theorem ad9{o:aB}(S:fu b atf q s BX N h)(d:h.aj (b+4)= .box s4 Z)(e:Z.length=7)(a:o.length=7/\b8 o=true)(c:R (.agg o)):ii (aX b none 7 (.bn (b+4) s4 0) (.agg o) h λ_ h'=>kN b (.bn (b+4) s4 0) h') b atf q s BX N R:=by
 haveI:=S.ay
 obtain⟨g,i⟩:=a;rw[dc,kN,gh,be,bj,bm];rw[av];exact qO S.eP c
theorem K1(d:BU u)(p:∀n:Int,1<=n/\n<=100->gN u 30 [ao n] BX N (pe n))(S:fu b atf q s BX N h)(e:h.aj (b+4)= .box s4 Z)(y:Z.length=7)(A:∀o,lA o->R (.agg o))(B:an){k:Nat}(E:k<10):ii (Gw u b (.bn q s 0) B (.bn (b+4) s4 0) (ao k) h) b atf q s BX N R:=by
 have F:∀{h':aI} {o:aB},fu b atf q s BX N h'->h'.aj (b+4)= .box s4 Z->lA o->ii (aX b none 7 (.bn (b+4) s4 0) (.agg o) h' λ_ h'=>kN b (.bn (b+4) s4 0) h') b atf q s BX N R:=λg o' w=>ad9 g o' y w.ak (A _ w);have L:∀{o:aB},o∈kY->lA o:=λh=> .inl h;have num:∀z:Int,(z,1)∈wZ->lA (b5 z 1):=λz C=> .inr ⟨_,C,rfl⟩;rw[t63 k];split
 ·rw[aT d.ZY];exact F S e (L (by simp[kY,tu]))
 split
 ·rw[aT d.ala];exact F S e (L (by simp[kY]))
 split
 ·rw[Hz,ao6];refine iv S (p 7 (by omega)) λr h' j g l=>?_;obtain⟨z,x,dx,rfl⟩:=j;rw[i2,e1,bg,b7,av,aT (d.Nl (z-3) (by omega))];have:z=0\/z=1\/z=2\/z=3\/z=4\/z=5\/z=6:=by omega
  exact F g ((l 4).trans e) (num _ (by rcases this with rfl|rfl|rfl|rfl|rfl|rfl|rfl<;>decide))
 split
 ·rw[aT d.ayv];exact F S e (.inr ⟨(1,2),by decide,rfl⟩)
 split
 ·rw[aT d.ak0];exact F S e (.inr ⟨(-5,3),by decide,rfl⟩)
 split
 ·rw[Ot,i2];refine iv S (p 3 (by omega)) λr h' j g l=>?_;obtain⟨z,x,dx,rfl⟩:=j;have:z=0\/z=1\/z=2:=by omega
  obtain⟨i,hi,t⟩:∃i:Nat,nt 4 0x75736572 1 i∈kY/\∀f:an->aw,(kw (.s 3 0x616263) (some (ao z)) none λD=>kw D none (some aS) f)=f (.s 1 i):=by
   rcases this with rfl|rfl|rfl
   ·exact⟨0x61,by simp[kY],λf=>by rw[cX];rfl⟩
   ·exact⟨0x62,by simp[kY],λf=>by rw[cX];rfl⟩
   ·exact⟨0x63,by simp[kY],λf=>by rw[cX];rfl⟩
  rw[t,bg,DQ,av,aT (d.rE _ _),bg,bm,av,kl,aT (d.ats _ _ _ _)];exact F g ((l 4).trans e) (L hi)
 split
 ·rw[Ku,i2];refine iv S (p 3 (by omega)) λr h' j g l=>?_;obtain⟨z,x,dx,rfl⟩:=j;have:z=0\/z=1\/z=2:=by omega
  obtain⟨a,c,hi,t⟩:∃a c:Nat,uV a c∈kY/\∀f:an->aw,kw (.s 2 0x7071) none (some (ao z)) f=f (.s a c):=by
   rcases this with rfl|rfl|rfl
   ·exact⟨0,0,by simp[kY],λf=>by rw[cX];rfl⟩
   ·exact⟨1,0x70,by simp[kY],λf=>by rw[cX];rfl⟩
   ·exact⟨2,0x7071,by simp[kY],λf=>by rw[cX];rfl⟩
  rw[t,bg,DQ,av,aT (d.aEf _ _)];exact F g ((l 4).trans e) (L hi)
 split
 ·rw[bF,aT (d.Nl 0 (by omega))];exact F S e (num _ (by decide))
 ·rw[fS,bK,aT (d.Nl 1 (by omega))];exact F S e (num _ (by decide))
theorem awi(d:BU u)(a:∀n:Int,1<=n/\n<=100->gN u 30 [ao n] BX N (pe n))(i:tM BX){z:Nat}(j:q<b)(l:q%4096<2048)(p:z<=N)(t:cE b atf q= .box s [BX,ao z]):ii (uq u [.bn q s 0,ao 0] b atf) b atf q s BX N Aw:=by
 have S:=fu.start j l p t i
 haveI:=S.ay
 rw[uq,dE,Pm,de];rw[aeM];refine iv S.fz (a 14 (by omega)) λr h' w e x=>?_;obtain⟨z,y,dx,rfl⟩:=w;have g:=(x 4).trans fE;by_cases A:9<z
 ·rw[bK,bO,bN,fi,Fu,hH,EC,dR,bN,bL,AK,e1];have:=K1 d a e g rfl (R:=Aw) (λo c=>⟨o,rfl,c⟩) (ao 0) (k:=(z-8).toNat) (by omega);rw[show(((z-8).toNat:Nat):Int)=z-8 by omega] at this;exact this
 ·rw[bK,bO,bN,fi,Fu,hH,EC,dR,bk,a6];have:=K1 d a e g rfl (R:=Aw) (λo c=>⟨o,rfl,c⟩) (ao 0) (k:=z.toNat) (by omega);rw[show((z.toNat:Nat):Int)=z by omega] at this;exact this
end
end
end
section
variable{n:Nat} {l:List Nat}
def fP:List Nat->Nat
 |[]=>0
 |d::r=>d+10*fP r
def JD:Nat->Nat->List Nat
 |0,_=>[]
 |f+1,n=>if n=0 then[] else n%10::JD f (n/10)
def cU(n:Nat):List Nat:=JD n n
theorem agJ:∀{f g n:Nat},n<=f->n<=g->JD f n=JD g n
 |0,0,_,_,_=>rfl
 |0,g+1,n,h,_=>by have:n=0:=by omega
                  subst this;rfl
 |f+1,0,n,_,h=>by have:n=0:=by omega
                  subst this;rfl
 |f+1,g+1,n,a,b=>by
  unfold JD;split
  ·rfl
  ·rw[agJ (f:=f) (g:=g) (by omega) (by omega)]
theorem QC:cU 0=[]:=rfl
theorem Bq(h:n≠0):cU n=n%10::cU (n/10):=by
 unfold cU;cases n with
 |zero=>exact absurd rfl h
 |succ n=>rw[JD,Ca h,agJ (by omega) (sm _)]
theorem q3:∀(n:Nat),∀d∈cU n,d<10:=by
 intro n;induction n using Nat.strongRecOn with
 |_ n a=>
  intro d hd;by_cases h:n=0
  ·subst h;cases hd
  ·rw[Bq h] at hd;rcases pG.1 hd with rfl|hd
   ·omega
   ·exact a _ (by omega) d hd
theorem ud:∀n:Nat,fP (cU n)=n:=by
 intro n;induction n using Nat.strongRecOn with
 |_ n a=>
  by_cases h:n=0
  ·subst h;rfl
  ·rw[Bq h];show n%10+10*fP (cU (n/10))=n;rw[a _ (by omega)];omega
def sD:List Nat->List Nat
 |[]=>[]
 |d::r=>if d=0/\sD r=[] then[] else d::sD r
theorem Do:∀{l:List Nat},(∀d∈l,d<10)->sD l=cU (fP l)
 |[],_=>rfl
 |d::r,h=>by
  have c:=Do (l:=r) λx e=>h x (OJ _ e);have hd:=h d HO;unfold sD;rw[c];have g:fP (d::r)=d+10*fP r:=rfl;rw[g];by_cases a:fP r=0
  ·rw[a,QC];by_cases b:d=0
   ·rw[y1 ⟨b,rfl⟩,b];rfl
   ·rw[Ca (λx=>b x.1),Bq (by omega),show(d+10*0) %10=d by omega,show(d+10*0)/10=0 by omega,QC]
  ·rw[Bq a,Ca (λx=>by cases x.2),<-Bq a,Bq (n:=d+10*fP r) (by omega),show(d+10*fP r) %10=d by omega,show(d+10*fP r)/10=fP r by omega]
theorem Bt:∀(k n:Nat),n<10^k->(cU n).length<=k
 |0,n,h=>by have:n=0:=by omega
            subst this;exact sm _
 |k+1,n,h=>by
  by_cases a:n=0
  ·subst a;exact xW _
  ·rw[Bq a];have:=Bt k (n/10) (by rw[nV] at h;omega);simp;omega
theorem SB:∀{l:List Nat},(∀d∈l,d<10)->fP l<10^l.length
 |[],_=>by decide
 |d::r,h=>by have:=SB (l:=r) λx a=>h x (OJ _ a);have hd:=h d HO;simp only[fP,JO,nV];omega
theorem Dj{k:Nat}(h:(cU n).length<=k):n<10^k:=by have:=SB (q3 n);rw[ud] at this;exact iC this (Nat.pow_le_pow_right (by decide) h)
theorem Wn:∀(l r:List Nat),fP (l++r)=fP l+10^l.length*fP r
 |[],r=>by simp[fP]
 |d::l,r=>by simp only[LH,fP,Wn l r,JO,nV];rw[Nat.mul_add,<-Nat.mul_assoc,gp (10^l.length) 10,gm]
theorem Xn:∀(l:List Nat) (d:Nat),sD (l++[d])=if d=0 then sD l else l++[d]
 |[],d=>by unfold sD;simp[sD]
 |c::l,d=>by
  have a:=Xn l d;show(if c=0/\sD (l++[d])=[] then[] else c::sD (l++[d]))=_;rw[a];by_cases h:d=0
  ·rw[y1 h,y1 h];rfl
  ·rw[Ca h,Ca h,Ca (by simp)];rfl
theorem XE(h:n<l.length):fP (l.take (n+1))=fP (l.take n)+10^n*l[n]:=by rw[List.take_succ_eq_append_getElem h,Wn,jl,Nat.min_eq_left (by omega)];simp[fP]
theorem ZP(h:n<l.length):fP (l.drop n)=l[n]+10*fP (l.drop (n+1)):=by rw[iK h];rfl
theorem ajI:∀{l:List Nat} {n:Nat} (x:Nat) (h:n<l.length),fP (l.set n x)+10^n*l[n]=fP l+10^n*x
 |d::l,0,x,h=>by simp[fP];omega
 |d::l,n+1,x,h=>by have:=ajI x (l:=l) (n:=n) (by simpa using h);simp only[List.set_cons_succ,fP,List.getElem_cons_succ,nV];rw[Nat.mul_right_comm,Nat.mul_right_comm _ 10 x];omega
theorem aeE:∀n,fP (List.replicate n 0)=0
 |0=>rfl
 |n+1=>by rw[List.replicate_succ];simp[fP,aeE n]
end
section
variable{l:List UInt8} {a c d e sz bytes:Nat} {h:aI} {x:an} {es:aY}
theorem aa1{m:Nat}(h:m≠0):Lib.decDigits m=(cU m).reverse.map λd=>UInt8.ofNat (48+d):=by
 induction m using Nat.strongRecOn with
 |_ m i=>
  rw[Lib.decDigits,Bq h];by_cases g:m<10
  ·rw[dif_pos g,show m/10=0 by omega,show m%10=m by omega];rfl
  ·rw[dif_neg g,i (m/10) (by omega) (by omega)];simp
theorem Qr:Lib.itoa 0=[48]:=by unfold Lib.itoa;rw[if_neg (by omega),Lib.decDigits,dif_pos (by decide)];rfl
theorem Oj{n:Int}(h:n≠0):Lib.itoa n=(if n<0 then[45] else[])++(cU n.natAbs).reverse.map λd=>UInt8.ofNat (48+d):=by
 unfold Lib.itoa;split
 ·rw[aa1 (by omega)];rfl
 ·rw[show n.toNat=n.natAbs by omega,aa1 (by omega)];rfl
theorem aht[Tok]{g:List UInt8}(i:l.length=g.length)(j:oI l=oI g):l=g:=by rw[<-HZ l,<-HZ g,i,j]
section
variable[Tok] {u:Fn} {b:Nat}
@[irreducible] def q4 (c:Nat):an:= .V .u8 (18446744073709551616+c)
theorem uh(c:Nat):q4 c= .V .u8 (18446744073709551616+c):=by unfold q4;rfl
theorem Q9:(uB:an)=q4 48:=by rw[uh];rfl
theorem NU:(uY:an)=q4 45:=by rw[uh];rfl
theorem aEZ:(DY:an)=q4 57:=by rw[uh];rfl
theorem ayg:(amg:an)=ao 48:=by rw[cX];rfl
theorem UN:lQ .u8 .u8=true:=rfl
theorem aFl(k:an->aw):cm (q4 a) (q4 c) k=k (.a9 (decide (a<c))):=by unfold cm vK;rw[uh,uh,Kk,wg,UN,cM];dsimp only;rw[ek];congr 2;exact L9.2 (by omega)
theorem aEI(k:an->aw):fw (q4 a) (q4 c) k=k (.a9 (decide (c<a))):=by unfold fw vK;rw[uh,uh,Kk,wg,UN,cM];dsimp only;rw[ek];congr 2;exact L9.2 (by omega)
theorem IG(k:an->aw):bY (q4 a) (q4 c) k=k (.a9 (decide (a=c))):=by unfold bY;rw[uh,uh,Kk,wg,UN,cM,K6];congr 2;exact L9.2 (by omega)
theorem ae9(h:c<256):qX .u8 (18446744073709551616+c)=true:=by rw[zZ];simp only[lr,u1,wC,Hi,hZ];constructor<;>omega
theorem ayl(g:c<=a:=by omega)(i:a<256:=by omega)(k:an->aw):cP (q4 a) (q4 c) k=k (q4 (a-c)):=by
 unfold cP;rw[uh,uh,wg,wg,UN,cM,fd,ek];have e:Nat.sub (Nat.add (18446744073709551616+a) 18446744073709551616) (18446744073709551616+c)=18446744073709551616+(a-c):=by rw[cY,Ct];omega
 rw[e,ae9 (by omega),cM,uh,pl (by rw[Ct];omega),cM]
theorem avH(n:c<256:=by omega)(k:an->aw):c8 (hs .i64 (q4 c)) k=k (ao c):=by
 rw[uh];have e:hs .i64 (.V .u8 (18446744073709551616+c))=bif lr .i64 (18446744073709551616+c) then some (.V .i64 (18446744073709551616+c)) else tr (.int .i64 (IntKind.i64.wrap (intOf (18446744073709551616+c)))):=rfl;have g:lr .i64 (18446744073709551616+c)=true:=by
  rw[<-zZ];have:=Bn (c:=(c:Int)) (by omega) (by omega);have j:((c:Int)+18446744073709551616).toNat=18446744073709551616+c:=by omega
  rw[j] at this;exact this
 rw[e,g,lR,tH,cX];congr 2;omega
theorem aFB{c:Int}(n:0<=c:=by omega)(o:c<256:=by omega)(k:an->aw):c8 (hs .u8 (ao c)) k=k (q4 c.toNat):=by
 rw[cX];have g:(c+18446744073709551616).toNat=18446744073709551616+c.toNat:=by omega
 rw[g];have e:hs .u8 (.V .i64 (18446744073709551616+c.toNat))=bif lr .u8 (18446744073709551616+c.toNat) then some (.V .u8 (18446744073709551616+c.toNat)) else tr (.int .u8 (IntKind.u8.wrap (intOf (18446744073709551616+c.toNat)))):=rfl;have j:lr .u8 (18446744073709551616+c.toNat)=true:=by rw[<-zZ];exact ae9 (by omega)
 rw[e,j,lR,tH,uh]
theorem asb{a:Int}(g:0<=a:=by omega)(k:an->aw):c8 (fA .rem (ao a) (ao 10)) k=k (ao (a%10)):=by
 have i:intOf (a+18446744073709551616).toNat=a:=by unfold intOf;omega
 have j:intOf ((10:Int)+18446744073709551616).toNat=10:=by unfold intOf;omega
 have e:fA .rem (ao a) (ao 10)=some (ao (a%10)):=by rw[cX,cX,cX];simp only[fA,vY,lR,sJ,AP,A7,i,j,jW,w6,Ca (show(10:Int)≠0 by omega),h9,Int.tmod_eq_emod_of_nonneg g,tr];rw[fS]
 rw[e,tH]
theorem aum{a:Int}(g:0<=a:=by omega)(p:a<1000000:=by omega)(k:an->aw):c8 (fA .quo (ao a) (ao 10)) k=k (ao (a/10)):=by
 have i:intOf (a+18446744073709551616).toNat=a:=by unfold intOf;omega
 have j:intOf ((10:Int)+18446744073709551616).toNat=10:=by unfold intOf;omega
 have n:IntKind.i64.wrap (a/10)=a/10:=by have o:IntKind.i64.wrap (a/10)=if(true&&decide ((a/10) %18446744073709551616≥9223372036854775808))=true then(a/10) %18446744073709551616-18446744073709551616 else(a/10) %18446744073709551616:=rfl;rw[o,Ca (by rw[gy,fo];omega)];omega
 have e:fA .quo (ao a) (ao 10)=some (ao (a/10)):=by rw[cX,cX,cX];simp only[fA,vY,lR,sJ,AP,A7,i,j,jW,w6,Ca (show(10:Int)≠0 by omega),h9,Int.tdiv_eq_ediv_of_nonneg g,tr,n];rw[fS]
 rw[e,tH]
theorem CT:(mQ:an)=ao 10:=by rw[cX];rfl
def z9(l:List UInt8):an:= .s l.length (oI l)
theorem Y3{i:Nat}{c:UInt8}(h:l[i]? =some c:=by assumption)(k:an->aw):iN (z9 l) (ao i) k=k (q4 c.toNat):=by obtain⟨hi,_⟩:=e6.1 h;have g:=rP l.length (oI l) i hi;rw[HZ,h] at g;have j:=jZ g;rw[cX,uh,j];have n:∀f:Nat->Nat->aw,k6 (z9 l) f=f l.length (oI l):=λ_=>rfl;unfold iN;rw[n,wg];rw[SH,ek,bN,cM,oW,pl hi,cM,fd,Vi];congr 2
theorem aD8(l g:List UInt8):jH l.length (oI l) g.length (oI g)=decide (l=g):=by
 rw[MK,gK,fo];unfold px;rw[Hi,IY,IY];constructor
 ·rintro⟨i,j⟩;rw[vw (Rq l),i,vw (Rq g)] at j;exact aht i j
 ·rintro rfl;exact⟨rfl,rfl⟩
theorem anN(l g:List UInt8)(k:an->aw):bY (z9 l) (z9 g) k=k (.a9 (decide (l=g))):=by rw[<-aD8];rfl
structure WV (x:an):Prop where
 dU:∀(ob:ej) (f:jm),aD ob x f=f x []
 cells:∀f:aB->aw,lp x f=f [x]
theorem Jy{c:Int}:WV (ao c):=⟨λob f=>b7 ob c f,λf=>by rw[cX];rfl⟩
theorem anZ:WV (q4 c):=⟨λob f=>by rw[uh];rfl,λf=>by rw[uh];rfl⟩
def pd(b d e sz:Nat)(h:aI)(x:an)(es:aY):Prop:=(x= .aE/\es=[])\/∃s,x= .az (b+d) s 0 es.length/\h.aj (b+d)= .az s e sz es false
theorem pd.aj{h':aI}(H:pd b d e sz h x es)(g:h'.aj (b+d)=h.aj (b+d)):pd b d e sz h' x es:=by
 rcases H with H|⟨s,i,j⟩
 ·exact .inl H
 ·exact .inr ⟨s,i,g.trans j⟩
theorem pd.kS{d':Nat}[b4 h b]{y:an}{r:aB}(H:pd b d e sz h x es)(g:∀f:aY->aw,ke h.aj sz y f=f [r])(n:es.length<1000)(p:bytes<1000)(hd:d<4096:=by decide)(i:es=[]->d'=d:=by intro _;rfl):
 ∃s,∀k:dg,eC b d' none e sz bytes x y false h k=k (.az (b+d) s 0 (es++[r]).length) (h.ow b d s e sz (es++[r]) false):=by
 have q:(es.length+1)*bytes<=1000*1000:=FE (by omega) (by omega);rcases H with⟨rfl,rfl⟩|⟨s,rfl,j⟩
 ·rw[i rfl];exact⟨_,λk=>ak5 g (by simp) (λo=>gs b _) (by simp;omega) (by simp) k hd⟩
 ·refine⟨Nat.add s 1,λk=>?_⟩;rw[Gm (d:=d) j g rfl (λo=>gs b _) (by simp;omega) (by simp;omega) k hd,OD]
theorem pd.dU(H:pd b d e sz h x es):∃v,dw sz v es/\∀f:an->eH->aw,aD h.aj x f=f v []:=by
 rcases H with⟨rfl,rfl⟩|⟨s,rfl,g⟩
 ·exact⟨.aE,.inl ⟨rfl,rfl⟩,λf=>yg _ f⟩
 ·exact⟨_,.inr rfl,λf=>gX g rfl f⟩
theorem pd.new{s:Nat}[b4 h b](hd:d<4096:=by decide):pd b d e sz (h.ow b d s e sz es false) (.az (b+d) s 0 es.length) es:= .inr ⟨s,rfl,pi hd⟩
theorem MZ{d1 d2 d3:Nat}{arZ:an}{z:aB}[b4 h b][da h](S:WV x)(q:pd b d2 e 1 h arZ es)(t:es.length<1000)(w:bytes<1000:=by decide)(A:d1≠d2:=by decide)(g:d1<4096:=by decide)(i:d2<4096:=by decide)(B:es=[]->d3=d2:=by intro _;rfl):
 ∃j h',b4 h' b/\da h'/\pd b d2 e 1 h' j (es++[[x]])/\(∀d,d1≠d->d2≠d->d<4096->h'.aj (b+d)=h.aj (b+d))/\
  ∀k:dg,(cj h.aj 1 0 x (cG 1 z) λm n=>c6 b d1 none e 1 1 false m (aA n []) h λo p=>eC b d3 none e 1 bytes arZ o false p k)=k j h':=by
 have C:pd b d2 e 1 (h.fm b d1 e 1 [[x]] false) arZ es:=q.aj (ga rfl A g);obtain⟨s,D⟩:=C.kS (bytes:=bytes) (y:= .az (b+d1) (ri h b d1) 0 1) (r:=[x]) (λf=>LL (i9 g) rfl f) t w i B;refine⟨_,(h.fm b d1 e 1 [[x]] false).ow b d2 s e 1 (es++[[x]]) false,inferInstance,inferInstance,pd.new i,λd aS cZ hd=>l5 (ga rfl aS g) cZ i,λk=>?_⟩;rw[HE (S.dU _) S.cells rfl (by rw[x3];simp),av,show((cG 1 z).set 0 [x]=[[x]]) from by rw[x3];rfl,gW _ g,D]
end
end
section
variable{z:Nat}
section
variable[Tok] {u:Fn} {b:Nat}
section
variable{BX:an} {N:Nat} {atf:b1} {q s:Nat}
structure Rw (P:aB->Prop) (R:aB->Prop):Prop where
 ak:∀o,P o->o.length=7/\b8 o=true
 tt:∀o,lA o->R o
 Fp:∀l:aY,l.length<=3->(∀a∈l,P a)->R (k5 l)
 im:∀a d,P a->P d->R (jU a d)
def BN(P:aB->Prop)(r:an):Prop:=∃o,r= .agg o/\P o
variable{P R:aB->Prop} {dz:Nat}
theorem ap9(t:BU u)(D:Rw P R)(O:dz<=9)(w:gN u 63 [ao dz] BX N (BN P)){s4:Nat}{Z:aB}(A:Z.length=7){cc:Nat}(Q:cc<=3):∀(m i c:Nat) (h:aI) (x:an) (es:aY),m+i=cc->m<c->fu b atf q s BX N h->h.aj (b+4)= .box s4 Z->pd b 2125 54 7 h x es->es.length=i->(∀a∈es,P a)->
 ii (ih 0 1 4 6 7 8 c (Ac u b (C1 u b)) (.bn q s 0) (ao (dz+1:Nat)) (.bn (b+4) s4 0) x (ao cc) (ao i) h) b atf q s BX N (BN R):=by
 intro m;induction m with
 |zero=>intro i c h x es B C S e L k d;obtain⟨c,rfl⟩:=cN c;obtain⟨v,E,F⟩:=L.dU;have T:=t.adG v es E (by omega) λa g=>D.ak a (d a g);rw[mb];generalize ih 0 1 4 6 7 8 c (Ac u b (C1 u b))=j6;rw[Ac,bO,bk,a6,C1,bg,F,av,aT];exact ad9 S e A (Ar es) ⟨_,rfl,D.Fp _ (by omega) d⟩
 |succ m G=>
  intro i c h x es B C S e L k d;obtain⟨c,rfl⟩:=cN c
  haveI:=S.ay
  have H:((i+1:Nat):Int)=(i:Int)+1:=by omega
  have j:=λh' I asH=>G (i+1) c h' I asH (by omega) (by omega);rw[H] at j;rw[mb];generalize ih 0 1 4 6 7 8 c (Ac u b (C1 u b))=j6 at j;rw[Ac,bO,bN,bL,Uv,bK,e1,b7,show((dz+1:Nat):Int)-1=dz by omega];refine iv S w λr h' J l n=>?_;obtain⟨o,rfl,p⟩:=J
  haveI:=l.ay
  obtain⟨W,X⟩:=D.ak o p;have K:=(L.aj (n 2125)).aj (h':=h'.fm b 2124 54 7 [o] false) (ga rfl);obtain⟨s',M⟩:=K.kS (bytes:=112) (y:= .az (b+2124) (ri h' b 2124) 0 1) (r:=o) (λf=>LL i9 (by rfl) f) (by omega) (by omega);rw[hX,av,gW,M,cK];exact j _ _ _ (l.fm.ow) (l5 (ga ((n 4).trans e))) pd.new (by simp[k]) λa g=>(Ic.1 g).elim (d a) λh=>by simp at h;rw[h];exact p
theorem amK(j:BU u)(D:Rw P R)(w:dz<=9)(k:∀n:Int,1<=n/\n<=100->gN u 30 [ao n] BX N (pe n))(l:gN u 63 [ao dz] BX N (BN P))(B:tM BX)(C:q<b)(E:q%4096<2048)(x:z<=N)(F:cE b atf q= .box s [BX,ao z]):ii (uq u [.bn q s 0,ao (dz+1:Nat)] b atf) b atf q s BX N (BN R):=by
 have S:=fu.start C E x F B
 haveI:=S.ay
 rw[uq,dE,Pm,de];rw[aeM];refine iv S.fz (k 14 (by omega)) λr h' e g G=>?_;obtain⟨z,L,dx,rfl⟩:=e
 haveI:=g.ay
 have p:=(G 4).trans fE;obtain⟨z,rfl⟩:∃n:Nat,z=n:=⟨z.toNat,by omega⟩;rw[bK,bO,bk,iE,EC,dO,fQ,a6];by_cases w:z<10
 ·exact K1 j k g p rfl (R:=BN R) (λo h=>⟨o,rfl,D.tt o h⟩) _ w
 ·rw[t63 z,cz,cz,cz,cz,cz,cz,cz,cz,cz];split
  ·rw[It,p7];refine iv g (k 4 (by omega)) λr y e i t=>?_;obtain⟨c,c0,M,rfl⟩:=e;obtain⟨cc,rfl⟩:∃n:Nat,c=n:=⟨c.toNat,by omega⟩;rw[bF,show(0:Int)=((0:Nat):Int) from rfl];exact ap9 j D (by omega) l (s4:=qk (ba b atf) b 4 54) rfl (cc:=cc) (by omega) cc 0 1000000 y .aE [] (by omega) (by omega) i ((t 4).trans p) (.inl ⟨rfl,rfl⟩) rfl (λa H=>by simp at H)
  ·rw[Ol,bK,e1,b7,show((dz+1:Nat):Int)-1=dz by omega];refine iv g l λr y e i t=>?_;obtain⟨o,rfl,h⟩:=e
   haveI:=i.ay
   obtain⟨I,J⟩:=D.ak o h;rw[de,dc,VR,aJ,cH,aN,aH,be,bK,e1,b7,show((dz+1:Nat):Int)-1=dz by omega];refine He (i.fz.eP) l λr x e A K=>?_;obtain⟨d,rfl,hd⟩:=e
   haveI:=A.ay
   obtain⟨d1,d2⟩:=D.ak d hd;have O:=j.yD o d ⟨I,J⟩ ⟨d1,d2⟩;have Q:(jU o d).length=7:=(Ar [o]).1.trans rfl;have T:b8 (jU o d)=true:=by unfold jU;rw[cX];rfl
   have W:=(K 4).trans (gi (gF ((t 4).trans p)));rw[aV,aV,aN,bm,bm,av,av,aT,cH,aN,pf,kN,gh,be,bj,bm];rw[av];exact qO A.eP ⟨_,rfl,D.im _ _ h hd⟩
theorem asv:Rw lA re:=⟨λo h=>h.ak,λo h=>h.aj,λl h g=>ap0 h g,λa d c hd=>Zk c hd⟩
theorem aoS(a:BU u)(c:∀n:Int,1<=n/\n<=100->gN u 30 [ao n] BX N (pe n))(d:gN u 63 [ao 0] BX N Aw)(e:tM BX)(g:q<b)(h:q%4096<2048)(i:z<=N)(j:cE b atf q= .box s [BX,ao z]):ii (uq u [.bn q s 0,ao 1] b atf) b atf q s BX N xa:=amK (dz:=0) a asv (by omega) c d e g h i j
end
end
end
section
variable{t Z:aB} {s6 s8 z:Nat} {hd:Nat×Nat×Nat×Nat×Nat} {h:aI} {R:an->Prop}
section
variable[Tok] {u:Fn} {b:Nat}
def Lp:List (Nat×Nat):=[(3,0x636172),(3,0x636472),(4,0x636f6e73),(5,0x636f6e7370),(3,0x6e6f74),(5,0x657175616c),(2,0x6966),(8,0x62696e6172792d2b),(1,0x3c),(8,0x696e746567657270),(3,0x6c656e),(13,0x62696e6172792d617070656e64),(3,0x726576),(10,0x747275652d6c69737470),(4,0x6e617470),(4,0x706f7370),(7,0x756e6172792d2d),(8,0x62696e6172792d2a),(7,0x696d706c696573),(7,0x73796d626f6c70),(9,0x726174696f6e616c70),(3,0x666978),(3,0x696666),(4,0x6e666978),(2,0x7a70)]
def Lx:List (Nat×Nat):=[(3,0x647562),(8,0x73616d652d6c656e),(5,0x7061697273),(4,0x64756273),(4,0x74726565),(5,0x6576656e73),(4,0x6f646473),(4,0x786f7232)]
def E2(x:Nat×Nat):aB:=[.s x.1 x.2]
theorem afi:(Lp.all λx=>(iu++i1++lS).any λh=>h.1==4&&(h.2.1==0x6c697370&&(h.2.2.1==x.1&&h.2.2.2.1==x.2)))=true:=by decide+kernel
theorem afb:(Lx.all λx=>(iu++i1++lS).any λh=>h.1==4&&(h.2.1==0x75736572&&(h.2.2.1==x.1&&h.2.2.2.1==x.2)))=true:=by decide+kernel
theorem V4{L:List (Nat×Nat)}{c0:Nat}(H:(L.all λx=>(iu++i1++lS).any λh=>h.1==4&&(h.2.1==c0&&(h.2.2.1==x.1&&h.2.2.2.1==x.2)))=true){i:Nat}(hi:i<L.length):∃a c,(L.map E2)[i]? =some [.s a c]/\∃h∈iu++i1++lS,([.s h.1 h.2.1,.s h.2.2.1 h.2.2.2.1]:aB)=[.s 4 c0,.s a c]:=by have d:=M2.1 H _ (tL hi);obtain⟨h,g,e⟩:=pL.1 d;simp only[Hi,m2] at e;refine⟨(L[i]'hi).1,(L[i]'hi).2,by rw[O8,dC hi];rfl,h,g,?_⟩;rw[e.1,e.2.1,e.2.2.1,e.2.2.2]
def v6(r:an):Prop:=∃t,r= .agg t/\je t
def yV(r:an):Prop:=∃t,r= .agg t/\qw t
theorem je.ak(h:je t):cq t:=(h.ge 0).t11
structure A4 (u:Fn) (w:an):Prop where
 N9:q0 u 59
 Sq:aK u 150 [] (.aQ 1 (Lp.map E2))
 UD:aK u 151 [] (.aQ 1 (Lx.map E2))
 aa0:∀a c,aK u 152 [.s a c] (.agg [bP,.s a c])
 rE:∀a c,aK u 28 [.s a c] (.agg [kl,.s a c])
 CC:∀h∈iu++i1++lS,aK u 153 [w,.agg [.s h.1 h.2.1,.s h.2.2.1 h.2.2.2.1]] (.a0 [ao h.2.2.2.2,.a9 true])
 W0:∀a1 c1 a2 c2 l,aK u 81 [.agg [.s a1 c1,.s a2 c2],.aQ 11 l] (.agg (bU (.s a1 c1) (.s a2 c2) l))
 bJ:∃n l,w= .aQ n l
section
variable{w:an} {BX:an} {N:Nat} {atf:b1} {q s:Nat}
theorem afB(l:A4 u w)(E:gN u 96 [w,ao 0] BX N v6)(X:Z.length=11)(n:hd∈iu++i1++lS):∀(m i c:Nat) (h:aI) (x:an) (es:aY),m+i=hd.2.2.2.2->m<c->fu b atf q s BX N h->h.aj (b+6)= .box s6 Z->h.aj (b+8)= .box s8 [.s hd.1 hd.2.1,.s hd.2.2.1 hd.2.2.2.1]->pd b 2123 56 11 h x es->es.length=i->(∀t∈es,je t)->
 ii (yJ 0 1 2 6 8 11 13 14 c (zy u b (EO u b)) (.bn q s 0) w (ao 1) (.bn (b+6) s6 0) (.bn (b+8) s8 0) (ao hd.2.2.2.2) x (ao i) h) b atf q s BX N yV:=by
 have g:=cB JG n;rw[Hi] at g;have a1:=pn g.1;have a2:=pn g.2;obtain⟨a3,a4,o⟩:=l.bJ;intro m;induction m with
 |zero=>
  intro i c h x es F G S p A L d j;obtain⟨c,rfl⟩:=cN c
  haveI:=S.ay
  obtain⟨v,H,I⟩:=L.dU;obtain rfl:v= .aQ 11 es:=H.elim (λh=>by rw[h.2] at d;simp at d;omega) id;have a5:=l.W0 hd.1 hd.2.1 hd.2.2.1 hd.2.2.2.1 es;obtain⟨t1,t2⟩:=Rt hd es;rw[cO] at t1 t2;rw[X3];generalize yJ 0 1 2 6 8 11 13 14 c (zy u b (EO u b))=J;rw[zy,bO,bk,a6,EO,aH,be,ce,bm,I,av,av,aT,dc,yx,gh,be,bj,bm];rw[av];exact qO S.eP ⟨_,rfl,.kS hd es n ⟨by omega,j⟩⟩
 |succ m K=>
  intro i c h x es F G S p A L d j;obtain⟨c,rfl⟩:=cN c
  haveI:=S.ay
  have M:((i+1:Nat):Int)=(i:Int)+1:=by omega
  have e:=λh' O asH=>K (i+1) c h' O asH (by omega) (by omega);have B:=E;rw[o] at e B;rw[M] at e;rw[X3,o];generalize yJ 0 1 2 6 8 11 13 14 c (zy u b (EO u b))=J at e;rw[zy,bO,bN,bL,X6,bK,e1,mg,b7];refine iv S B λr h' P C k=>?_;obtain⟨t,rfl,D⟩:=P
  haveI:=C.ay
  obtain⟨bd,bs⟩:=D.ak;have Q:=(L.aj (k 2123)).aj (h':=h'.fm b 2122 56 11 [t] false) (ga rfl);obtain⟨s',T⟩:=Q.kS (bytes:=176) (y:= .az (b+2122) (ri h' b 2122) 0 1) (r:=t) (λf=>LL i9 (by rfl) f) (by omega) (by omega);rw[hX,av,gW,T,cK];exact e _ _ _ (C.fm.ow) (l5 (ga ((k 6).trans p))) (l5 (ga ((k 8).trans A))) pd.new (by simp[d]) λa W=>(Ic.1 W).elim (j a) λh=>by simp at h;rw[h];exact D
theorem aeb(a:A4 u w)(g:gN u 96 [w,ao 0] BX N v6)(S:fu b atf q s BX N h)(i:Z.length=11)(c:hd∈iu++i1++lS)(j:h.aj (b+6)= .box s6 Z)(k:h.aj (b+8)= .box s8 [.s hd.1 hd.2.1,.s hd.2.2.1 hd.2.2.2.1]):
 ii (J0 u b (.bn q s 0) w (ao 1) (.bn (b+6) s6 0) (.bn (b+8) s8 0) h) b atf q s BX N yV:=by
 obtain⟨o,p,d⟩:=a.bJ;have l:=a.CC hd c;have F:=afB a g i c hd.2.2.2.2 0 1000000 h .aE [] (by omega) (by have e:=cB JG c;rw[Hi] at e;have:=pn e.2;omega) S j k (.inl ⟨rfl,rfl⟩) rfl (λt n=>by simp at n);rw[d] at l F;rw[d];have r:ao hd.2.2.2.2≠ .undef:=by rw[cX];simp
 have x:an.a9 true≠ .undef:=by simp
 rw[J0,aH,be,ce,mg,bm,av,av,aT,e2 _ _,e3 _ _];rw[bF,show(0:Int)=((0:Nat):Int) from rfl];exact F
theorem Ty(S:fu b atf q s BX N h)(d:h.aj (b+6)= .box s6 Z)(e:Z.length=11)(a:cq t)(c:R (.agg t)):ii (aX b none 11 (.bn (b+6) s6 0) (.agg t) h λ_ h'=>yx b (.bn (b+6) s6 0) h') b atf q s BX N R:=by
 haveI:=S.ay
 obtain⟨g,i⟩:=a;rw[dc,yx,gh,be,bj,bm];rw[av];exact qO S.eP c
theorem ML(y:A4 u w)(A:gN u 33 [] BX N tT)(B:gN u 63 [ao 1] BX N xa)(S:fu b atf q s BX N h)(j:h.aj (b+6)= .box s6 Z)(l:Z.length=11)(x:∀t,je t->R (.agg t))(C:an){k:Nat}(G:k<4):ii (AJ u b (.bn q s 0) w C (.bn (b+6) s6 0) (ao k) h) b atf q s BX N R:=by
 haveI:=S.ay
 by_cases H:k<3
 ·rw[AJ,i2,bO,bN,bL];refine iv S A λr h' a d e=>?_;obtain⟨i,hi,rfl⟩:=a;exact Ty d ((e 6).trans j) l (je.var i hi).ak (x _ (.var i hi))
 ·rw[AJ,i2,bO,bk,a6,PY,i2,dj,bN,bL,adb];rw[bK];refine iv S B λr h' a d e=>?_;obtain⟨o,rfl,g⟩:=a;obtain⟨n,c,_,D⟩:=g.aj;obtain⟨E,F⟩:=D.ak;have I:=y.N9 o E F;rw[bg,bm,av,aT];exact Ty d ((e 6).trans j) l (je.iW o g).ak (x _ (.iW o g))
theorem aje(c:A4 u w)(j:∀n:Int,1<=n/\n<=100->gN u 30 [ao n] BX N (pe n))(d:gN u 33 [] BX N tT)(e:gN u 63 [ao 1] BX N xa)(l:tM BX)(o:q<b)(p:q%4096<2048)(x:z<=N)(y:cE b atf q= .box s [BX,ao z]):ii (uz u [.bn q s 0,w,ao 0] b atf) b atf q s BX N v6:=by
 have S:=fu.start o p x y l
 haveI:=S.ay
 rw[uz,vE,KM,de];rw[xf];refine iv S.fz (j 12 (by omega)) λr h' A g B=>?_;obtain⟨k,D,E,rfl⟩:=A;have i:=(B 6).trans fE;obtain⟨k,rfl⟩:∃n:Nat,k=n:=⟨k.toNat,by omega⟩;by_cases C:(3:Int)<(k:Int)
 ·rw[bK,i2,bO,bN,fi,hH,BE,pl C,dR,bL,p7,aeo];rw[show((k:Int) %4)=((k%4:Nat):Int) by omega];exact ML c d e g i rfl (R:=v6) (λt a=>⟨t,rfl,a⟩) (ao 0) (by omega)
 ·rw[bK,i2,bO,bN,fi,hH,BE,dR,bk,a6];exact ML c d e g i rfl (R:=v6) (λt a=>⟨t,rfl,a⟩) (ao 0) (by omega)
theorem al5(d:A4 u w)(x:∀n:Int,1<=n/\n<=100->gN u 30 [ao n] BX N (pe n))(J:gN u 33 [] BX N tT)(K:gN u 63 [ao 1] BX N xa)(E:gN u 96 [w,ao 0] BX N v6)(L:tM BX)(M:q<b)(O:q%4096<2048)(y:z<=N)(P:cE b atf q= .box s [BX,ao z]):ii (uz u [.bn q s 0,w,ao 1] b atf) b atf q s BX N yV:=by
 have S:=fu.start M O y P L
 haveI:=S.ay
 rw[uz,vE,KM,de];rw[xf];refine iv S.fz (x 12 (by omega)) λr h' l A Q=>?_;obtain⟨k,k0,a1,rfl⟩:=l;have F:=(Q 6).trans fE;obtain⟨k,rfl⟩:∃n:Nat,k=n:=⟨k.toNat,by omega⟩
 haveI:=A.ay
 rw[bK,i2,bO,bk,iE,BE,dO,fQ,a6];by_cases T:k<4
 ·exact ML d J K A F rfl (R:=yV) (λt W=>⟨t,rfl,.t0 t W⟩) (ao 1) T
 ·have a2:=d.Sq;have a3:=d.UD;rw[AJ,i2,bO,bk,a6,PY,i2,dj,bk,a6,RV,de,aT,aT];rw[p7];refine iv A.fz (x 4 (by omega)) λr a4 l B G=>?_;obtain⟨c,c0,c4,rfl⟩:=l
  haveI:=B.ay
  have H:=(G 6).trans (gF F);have I:=(G 8).trans fE;by_cases hc:c<3
  ·rw[i2,bO,bN,bL,aei,eA,b7];refine iv B (x 25 (by omega)) λr y l o p=>?_;obtain⟨j,X,ar,rfl⟩:=l
   haveI:=o.ay
   obtain⟨j,rfl⟩:∃n:Nat,j=n:=⟨j.toNat,by omega⟩;obtain⟨a,c,g,hd,C,e⟩:=V4 afi (i:=j) (show j<25 by omega);have a5:=d.aa0 a c;have D:=(p 8).trans I;have eO:([.s a c]:aB)[0]? =some (.s a c):=rfl;rw[eE,ch,bc,bg,DQ,av,aT,dc];refine aeb d E o.eP rfl C (gi ((p 6).trans H)) ?_;rw[e];exact gS D
  ·rw[i2,bO,bk,a6,VA,eA,b7];refine iv B (x 8 (by omega)) λr y l o p=>?_;obtain⟨j,X,ar,rfl⟩:=l
   haveI:=o.ay
   obtain⟨j,rfl⟩:∃n:Nat,j=n:=⟨j.toNat,by omega⟩;obtain⟨a,c,g,hd,C,e⟩:=V4 afb (i:=j) (show j<8 by omega);have bd:=d.rE a c;have D:=(p 8).trans I;have eO:([.s a c]:aB)[0]? =some (.s a c):=rfl;rw[eE,ch,bc,bg,DQ,av,aT,dc];refine aeb d E o.eP rfl C (gi ((p 6).trans H)) ?_;rw[e];exact gS D
end
end
end
end Go.Hf

import Derived.Test.YthiipifjdfmblaaGreatDoorBd
import Derived.Test.YthiipifjdfmblaaGreatDoorAq
set_option linter.all false
set_option maxRecDepth 1000000
namespace Go.Hf
open Go.RowKit
section
variable{M:Nat} {u:Fn} {cl:aY} {ro:List (Option fH)} {ro':List (Option fc)}
section
variable[Tok]
noncomputable def jM(m:cw):aB:=qF (ef m.U) (decide (m.U=1)) (fb m.k)
def jK(p q:bE):bE:=ei (eK fW p q)
theorem Ig(m:cw):cq (jM m):=MG z1 TZ (aqB (jk _ _) (iY _ _) (A1 m.k))
structure aBi (p q:bE):Prop where
 k:∀m∈jK p q,fT m.k
 ad:∀m∈jK p q,fV m.U
 aa:(jK p q).length<=36
theorem Hm{p q:bE}(c:jp p)(d:jp q):aBi p q:=by
 have a:=zn c d;have g:=rf (eK fW p q);refine⟨pD (K:=fT) _ (by simp) λm b=>?_,λm b=>?_,?_⟩
 ·obtain⟨x,h,y,i,rfl⟩:=KD b;exact(TX (L:=nk) (λn j=>(kK j).2.2.1) (cY nk) (nd nk) (c.k x h) (d.k y i)).2.2
 ·have e:=m7 g.g0 b;rw[tv] at e;rw[<-e];exact a.ad _
 ·have:=pP (eK fW p q) [];rw[Qh] at this;have k:p.length*q.length<=36:=s5 a.ft a.FM;simp only[kT] at this;show(hU [] _).length<=36;omega
theorem A2:bl λu=>o3 u 122/\o3 u 62:=bl.run λn=>by
 refine⟨λm a l=>?_,λm a l=>?_⟩
 ·rcases a with rfl|rfl|rfl|rfl<;>exact hE (atY n _ _ l)
 ·rcases a with rfl|rfl|rfl|rfl<;>exact hE (aiq n _ _ l)
theorem BZ:bl λu=>q0 u 185/\q0 u 59:=bl.jr.up λn _=>by refine⟨λo a b=>cI (aM 185 Fk n) (ah0 a b),λo a b=>cI (aM 59 Eh n) (Ks a b)⟩
theorem au1:bl λu=>q0 u 121:=BZ.up λn h o a b=>cI (aM 121 BY n) (avr a b (h.1 o a b))
theorem Y5:bl λu=>∀p q,jp p->jp q->∀v,cA dk v (jK p q)->aK u 120 [v] (.agg (jC dk jM (jK p q)))/\aK u 61 [v] (.agg (jC dk jM (jK p q))):=by
 have t:bl λu=>Jr u 241:=A2.up λn h l i j w=>cI (aM 241 CI n) (asZ h.1 i j w);have x:bl λu=>aeO u 240:=bl.jr.up λn _=>by
  refine⟨λb aET=>?_,λb aET l i j=>?_⟩
  ·rw[aM 240 vv];exact aCO
  ·rw[aM 240 vv];exact apq i j
 have e:bl λu=>∀m:cw,fT m.k->fV m.U->aK u 186 [.agg (dk.bd m)] (.agg (jM m))/\aK u 126 [.agg (dk.bd m)] (.agg (jM m)):=((t.and x).and ((A2.and BZ).and qx)).up λn h m I k=>by obtain⟨⟨y,z⟩,⟨g,c⟩,a⟩:=h;have eR:aK (bB bD n) 37 [ao 1] (.agg (dk.num 1)):=a.int 1 (by decide);have A:aK (bB bD n) 60 [ao 1] (.agg (dk.num 1)):=a.zh 1 (by decide);have B:aK (bB bD n) 207 [.agg (dk.num m.U),.agg (dk.num 1)] (.F (decide (m.U=1))):=a.one m.U k;have C:aK (bB bD n) 65 [.agg (dk.num m.U),.agg (dk.num 1)] (.F (decide (m.U=1))):=a.K2 m.U k;have J:=oD m.k;exact⟨cI (aM 186 AL n) (axi (E:=dk) y c.1 z (ru m.k) (by omega) (A1 m.k) eR B),cI (aM 126 xt n) (aoV (E:=dk) g.2 c.2 (ru m.k) (by omega) (A1 m.k) A C)⟩
 refine(e.and ((A2.and BZ).and qx)).up λn h p q D a v o=>?_;obtain⟨e,⟨g,c⟩,r⟩:=h;have P:=Hm D a;have G:aK (bB bD n) 37 [ao 0] (.agg (dk.num 0)):=r.int 0 (by decide);have H:aK (bB bD n) 60 [ao 0] (.agg (dk.num 0)):=r.zh 0 (by decide);have K:=P.aa;exact⟨cI (aM 120 y9 n) (avv o (by omega) g.1 (λm d=>⟨(e m (P.k m d) (P.ad m d)).1,Ig m⟩) G c.1),
  cI (aM 61 yN n) (ayR o (by omega) g.2 (λm d=>⟨(e m (P.k m d) (P.ad m d)).2,Ig m⟩) H c.2)⟩
theorem TW(k:Nat):nT (dk.di k) (fb k)/\(fb k).length<1000:=⟨ru k,by have:=oD k;omega⟩
theorem aoM:bl λu=>∀R:List fH,(∀r∈R,r.oP dk/\jp r.aq)->xT u dk fb jM jK R:=by
 have k:bl λu=>∀p q,jp p->jp q->∀v,cA dk v (jK p q)->aK u 119 [v] (.F (nI fb (jK p q))):=bl.jr.up λn _ p q o w v e=>by have i:=(Hm o w).aa;exact cI (aM 119 yK n) (akt (λm j=>TW m.k) e (by omega))
 have x:bl λu=>aK u 36 [] (.agg (dk.num 0)):=qx.up λn h=>by have y:aK (bB bD n) 37 [ao 0] (.agg (dk.num 0)):=h.int 0 (by decide);exact cI (aM 36 Da n) (ajv (dk.len 0) (dk.eU 0) y)
 have z:bl λu=>∀t,cq t->aK u 123 [.agg t] (.agg (bU bP fe [t])):=A2.up λn h t g=>cI (aM 123 Cd n) (amu g (h.1 fe (by simp) [t]));refine(((Kg.and k).and (Y5.and x)).and ((au1.and A2).and z)).imp λn h R a=>?_;obtain⟨⟨⟨j,i⟩,g,A⟩,⟨B,C⟩,D⟩:=h;exact⟨λr c=>(a r c).1,λr c s d=>(j _ _ _ _ (a r c).1.2.1 (a s d).1.2.1 (zn (a r c).2 (a s d).2)).1,λr c s d v e=>i _ _ (a r c).2 (a s d).2 v e,
  λr c s d v e=>(g _ _ (a r c).2 (a s d).2 v e).1,λr c s d=>XQ λm _=>Ig m,A,B,C.1,D⟩
theorem aDv:bl λu=>∀R:List fc,(∀r∈R,cA dk r.v r.aq/\1<=r.k/\r.k<=3/\jp r.aq)->wH u dk fb jM jK R:=by
 refine((Kg.and Y5).and (qx.and (BZ.and A2))).imp λn h R a=>?_;obtain⟨⟨d,e⟩,g,i,j⟩:=h;exact⟨λr b=>⟨(a r b).1,(a r b).2.1,(a r b).2.2.1⟩,λr b s c=>⟨(d _ _ _ _ (a r b).1 (a s c).1 (zn (a r b).2.2.2 (a s c).2.2.2)).2,by
  have o:=(Hm (a r b).2.2.2 (a s c).2.2.2).aa;omega⟩,λr b s c m _=>TW m.k,λr b s c v k=>(e _ _ (a r b).2.2.2 (a s c).2.2.2 v k).2,
  λr b s c=>XQ λm _=>Ig m,g.zh 0 (by decide),i.2,j.2⟩
theorem aaa:∀(R:List fH) (b:List fc),R.map (λr=>(r.aq,r.aM))=b.map (λr=>(r.aq,decide (r.k=1)))->m6 dk fb jM jK R=pA dk fb jM jK b
 |[],[],_=>rfl
 |[],_::_,h=>by simp at h
 |_::_,[],h=>by simp at h
 |r::R,c::b,h=>by
  have d:=h;simp only[gm,uD,io] at h;have g:∀(S:List fH) (a:List fc),S.map (λr=>(r.aq,r.aM))=a.map (λr=>(r.aq,decide (r.k=1)))->S.filterMap (oa dk fb jM jK r)=a.filterMap (nb dk fb jM jK c):=by
   intro S;induction S with
   |nil=>intro a e;cases a with
    |nil=>rfl
    |cons _ _=>simp at e
   |cons s S i=>
    intro a e;cases a with
    |nil=>simp at e
    |cons j a=>
     simp only[gm,uD,io] at e;have k:oa dk fb jM jK r s=nb dk fb jM jK c j:=by unfold oa nb;rw[h.1.1,e.1.1,h.1.2,e.1.2]
     rw[OD,OD,k,i a e.2]
  show(r::R).filterMap (oa dk fb jM jK r)++m6 dk fb jM jK R=(c::b).filterMap (nb dk fb jM jK c)++pA dk fb jM jK b;rw[g _ _ d,aaa R b h.2]
inductive q9 (M:Nat) (u:Fn):aY->List (Option fH)->List (Option fc)->Prop
 |nil:q9 M u [] [] []
 |cons (t:aB) (o:Option fH) (o':Option fc) (cl:aY) (ro:List (Option fH)) (ro':List (Option fc)) (t11:cq t) (a:xq u dk t o) (r:zq u dk t o')
  (h:(o=none/\∀r,o'=some r->(∃es,dw 8 r.v es)/\1<=r.k/\r.k<=3/\(h6 0 r.aq=true\/r.k=3))\/∃x r,o=some x/\o'=some r/\x.oP dk/\jp x.aq/\x.aq=r.aq/\cA dk r.v r.aq/\x.aM=decide (r.k=1)/\h6 0 r.aq=false/\1<=r.k/\r.k<=2)
  (c:∀r,o'=some r->∀n,M<=n->∃ol:aB,ol.length=7/\aK (bB bD n) 45 [r.v] (.a0 [.agg ol,.F (h6 0 r.aq)])) (hr:q9 M u cl ro ro'):q9 M u (t::cl) (o::ro) (o'::ro')
theorem Yi{M:Nat}{u:Fn}:∀{cl:aY},(∀t∈cl,i6 M u t)->∃ro ro',q9 M u cl ro ro'
 |[],_=>⟨[],[],.nil⟩
 |t::cl,h=>by
  obtain⟨ro,ro',j⟩:=Yi (cl:=cl) λx z=>h x (gv _ z);have A:=h t eS;cases A with
  |ax t11 a r=>refine⟨none::ro,none::ro',.cons t none none cl ro ro' t11 (.ax .aE [] 0 (.inl ⟨rfl,rfl⟩) (.inl rfl) a) (.ax .aE [] (.inl ⟨rfl,rfl⟩) r) (.inl ⟨rfl,λr h=>by cases h⟩) (λr h=>by cases h) j⟩
  |zero t11 v d es aEK p g a e r c=>refine⟨none::ro,some ⟨d,p,3⟩::ro',.cons t none _ cl ro ro' t11 (.ax v es 3 g (.inr rfl) a) (.row d p 3 aEK e (by omega) r) (.inl ⟨rfl,λr h=>by cases h;exact⟨⟨aEK,e⟩,by simp,by simp,.inr rfl⟩⟩) (λr h=>by cases h;exact c) j⟩
  |row t11 k l p v d n g e a r o c q B=>
   have w:(aK u 116 [.agg t] (.a0 [v,ao k,.F (decide (k≠0))])):=by have:decide (k≠0)=true:=dm (by omega);rw[this];exact a
   cases i:h6 0 p with
   |true=>rw[i] at c;exact⟨none::ro,some ⟨d,p,k⟩::ro',.cons t none _ cl ro ro' t11 (.iW v p k n g l w o c) (.row d p k _ e (by omega) r) (.inl ⟨rfl,λr h=>by cases h;exact⟨⟨_,e⟩,by simp only;omega,by simp only;omega,.inl i⟩⟩) (λr h=>by cases h;exact q) j⟩
   |false=>rw[i] at c;have y:jp p:=B.elim (λh=>by rw[i] at h;cases h) id;refine⟨some ⟨t,v,p,decide (k=1)⟩::ro,some ⟨d,p,k⟩::ro',.cons t _ _ cl ro ro' t11 (.row v p k n g l w o c) (.row d p k _ e (by omega) r) (.inr ⟨_,_,rfl,rfl,⟨t11,g,by have:=y.aa;simp only;omega⟩,y,rfl,e,rfl,i,by simp only;omega,by simp only;omega⟩) (λr h=>by cases h;exact q) j⟩
theorem q9.len(h:q9 M u cl ro ro'):ro.length=cl.length/\ro'.length=cl.length:=by
 induction h with
 |nil=>exact⟨rfl,rfl⟩
 |cons _ _ _ _ _ _ _ _ _ _ _ _ a=>simp[a]
theorem q9.di(h:q9 M u cl ro ro'):(∀(i:Nat) (t:aB) (o:Option fH),cl[i]? =some t->ro[i]? =some o->cq t/\xq u dk t o)/\(∀(i:Nat) (t:aB) (o:Option fc),cl[i]? =some t->ro'[i]? =some o->cq t/\zq u dk t o):=by
 induction h with
 |nil=>exact⟨λi t o h=>by simp at h,λi t o h=>by simp at h⟩
 |cons t o o' cl ro ro' t11 a r g c j e=>
  refine⟨λi s p b d=>?_,λi s p b d=>?_⟩
  ·cases i with
   |zero=>simp at b d;subst b;subst d;exact⟨t11,a⟩
   |succ i=>simp at b d;exact e.1 i s p b d
  ·cases i with
   |zero=>simp at b d;subst b;subst d;exact⟨t11,r⟩
   |succ i=>simp at b d;exact e.2 i s p b d
theorem q9.aAd(h:q9 M u cl ro ro'):
 (∀r∈ro.filterMap id,r.oP dk/\jp r.aq)/\(∀r∈ro'.filterMap id,(∃es,dw 8 r.v es)/\1<=r.k/\r.k<=3/\∀n,M<=n->∃l:aB,l.length=7/\aK (bB bD n) 45 [r.v] (.a0 [.agg l,.F (h6 0 r.aq)]))/\
 (∀r∈iV (λr=>h6 0 r.aq) (ro'.filterMap id),cA dk r.v r.aq/\1<=r.k/\r.k<=3/\jp r.aq)/\(ro.filterMap id).map (λr=>(r.aq,r.aM))=(iV (λr=>h6 0 r.aq) (ro'.filterMap id)).map (λr=>(r.aq,decide (r.k=1))):=by
 induction h with
 |nil=>exact⟨by simp,by simp,by simp[iV],rfl⟩
 |cons t o o' cl ro ro' t11 a I z c J A=>
  obtain⟨g,i,j,k⟩:=A;rcases z with⟨rfl,h⟩|⟨x,r,rfl,rfl,B,p,q,w,C,D,y,K⟩
  ·have f1:(none::ro).filterMap id=ro.filterMap (id:Option fH->_):=by simp
   rw[f1];cases o' with
   |none=>
    have f2:(none::ro').filterMap id=ro'.filterMap (id:Option fc->_):=by simp
    rw[f2];exact⟨g,i,j,k⟩
   |some r=>
    obtain⟨E,G,H,e⟩:=h r rfl;have f2:(some r::ro').filterMap id=r::ro'.filterMap (id:Option fc->_):=by simp
    have f3:iV (λr=>h6 0 r.aq) (r::ro'.filterMap id)=iV (λr=>h6 0 r.aq) (ro'.filterMap id):=by unfold iV;rw[List.filter_cons_of_neg];rcases e with e|e<;>simp[e]
    rw[f2,f3];refine⟨g,λs d=>?_,j,k⟩;rcases gy.1 d with rfl|d
    ·exact⟨E,G,H,c s rfl⟩
    ·exact i s d
  ·have f1:(some x::ro).filterMap id=x::ro.filterMap (id:Option fH->_):=by simp
   have f2:(some r::ro').filterMap id=r::ro'.filterMap (id:Option fc->_):=by simp
   have f3:iV (λr=>h6 0 r.aq) (r::ro'.filterMap id)=r::iV (λr=>h6 0 r.aq) (ro'.filterMap id):=by unfold iV;rw[List.filter_cons_of_pos];simp[D];omega
   rw[f1,f2,f3];refine⟨λs d=>?_,λs d=>?_,λs d=>?_,?_⟩
   ·rcases gy.1 d with rfl|d
    ·exact⟨B,p⟩
    ·exact g s d
   ·rcases gy.1 d with rfl|d
    ·exact⟨⟨_,w⟩,y,by omega,c s rfl⟩
    ·exact i s d
   ·rcases gy.1 d with rfl|d
    ·exact⟨w,y,by omega,q▸p⟩
    ·exact j s d
   ·simp only[gm,k,q,C]
theorem Q3{n:Nat}{m:an}{a1 c1 a2 c2:Nat}:∀{l:aY},l≠[]->(∀t∈l,GE n t)->GE (n+l.length) (mz (.s a2 c2) l)
 |[],h,_=>absurd rfl h
 |[x],_,h=>(h x (by simp)).le (by simp)
 |x::y::r,_,h=>by have a:=Q3 (m:=m) (a1:=a1) (c1:=c1) (a2:=a2) (c2:=c2) (l:=y::r) (by simp) λt b=>h t (gv _ b);have c:=(h x (by simp)).le (m:=n+(y::r).length) (by simp);exact sI c a 4 0x6c697370 a2 c2
theorem Yd(i:Nat):GE 1 (ec i):=by
 unfold ec;split
 ·exact .ij _ _ _ _ _
 ·split<;>exact .kS 0 _ _ _ _ _ (by simp) λt a=>by simp at a;rw[a];exact .ij _ _ _ _ _
theorem aDm(m:cw):GE 4 (jM m):=by
 have e:=oD m.k;have g:=avC (c:=ef m.U) (one:=decide (m.U=1)) (l:=fb m.k);have d:∀t∈mr (ef m.U) (decide (m.U=1)) (fb m.k),GE 1 t:=by
  intro t a;have b:∀t∈fb m.k,GE 1 t:=by
   intro t a;unfold fb at a;split at a
   ·cases a
   ·split at a
    ·simp at a;rw[a];exact Yd _
    ·simp at a;rcases a with rfl|rfl<;>exact Yd _
  unfold mr at a;split at a
  ·rcases gy.1 a with rfl|h
   ·exact .iW _ 0 1 _ (by omega) (.bh (Dk _ _))
   ·exact b t h
  ·exact b t a
 exact(Q3 (m:= .aE) (a1:=0) (c1:=0) (a2:=8) (c2:=0x62696e6172792d2a) TZ d).le (by omega)
theorem agL(p:bE)(b:p.length<=36):GE 40 (jC dk jM p):=by
 cases p with
 |nil=>exact .iW _ 0 1 _ (by omega) (.bh (Dk _ _))
 |cons m r=>exact(Q3 (n:=4) (m:= .aE) (a1:=0) (c1:=0) (a2:=8) (c2:=0x62696e6172792d2b) (l:=(m::r).map jM) (by simp) λt a=>by obtain⟨x,_,rfl⟩:=gp.1 a;exact aDm x).le (by rw[dS];omega)
theorem US:∀(R:List fH),(∀r∈R,jp r.aq)->∀t∈m6 dk fb jM jK R,GE 42 t
 |[],_,t,h=>by cases h
 |r::R,a,t,h=>by
  rcases fr.1 (show t∈(r::R).filterMap (oa dk fb jM jK r)++m6 dk fb jM jK R from h) with h|h
  ·obtain⟨s,d,e⟩:=List.mem_filterMap.1 h;unfold oa at e;split at e
   ·cases e
   ·simp only[dD] at e;subst e;have g:=(Hm (a r (by simp)) (a s d)).aa;have b:=agL _ g;have c:GE 40 (cW (dk.num 0)):= .iW _ 0 1 _ (by omega) (.bh (Dk _ _));unfold oY;split
    ·exact(sI c b _ _ _ _).mono
    ·exact Az (sI b c _ _ _ _) _ _ _ _
  ·exact US R (λx i=>a x (gv _ i)) t h
theorem aoH(H:∀t∈cl,Lit t)(o:cl.length<=5):∃L,∀n,L<=n->∃w w',((∀ob (f:jm),aD ob w f=f w [])/\∀ob (f:jm),aD ob w' f=f w' [])/\aK (bB bD n) 16 [.aQ 11 cl] w/\aK (bB bD n) 17 [.aQ 11 cl] w'/\aK (bB bD n) 15 [w,w'] (.F true):=by
 have O:∃M,bl λu=>∀t∈cl,i6 M u t:=by
  have I:∀{M g:Nat} {u:Fn} {t:aB},M<=g->i6 M u t->i6 g u t:=λ{M g u t} h j=>by
   cases j with
   |ax t11 a r=>exact .ax t11 a r
   |zero t11 v y es aEK p z a A r c=>exact .zero t11 v y es aEK p z a A r λn J=>c n (by omega)
   |row t11 k P p v y Q z A a r o c R j=>exact .row t11 k P p v y Q z A a r o c (λn J=>R n (by omega)) j
  clear o;induction cl with
  |nil=>exact⟨0,bl.jr.imp λn _ t B=>by cases B⟩
  |cons t r S=>
   obtain⟨M,T⟩:=S λx l=>H x (gv _ l);obtain⟨g,W⟩:=(H t eS).ak;refine⟨M+g,(T.and W).imp λn h x l=>?_⟩;rcases gy.1 l with rfl|l
   ·exact I (by omega) h.2
   ·exact I (by omega) (h.1 x l)
 obtain⟨M,m3,X⟩:=O;obtain⟨Z,a3⟩:=aoM;obtain⟨a4,a5⟩:=aDv;obtain⟨bs,bx⟩:=Wa 42;refine⟨M+m3+Z+a4+bs+5,λn J=>?_⟩;obtain⟨m,rfl⟩:∃m,n=m+2:=⟨n-2,by omega⟩;obtain⟨ro,ro',d⟩:=Yi (X m (by omega));obtain⟨l1,l2⟩:=d.len;obtain⟨a1,a2⟩:=d.di;obtain⟨r1,cc,cn,cp⟩:=d.aAd;have ge:(ro'.filterMap id).length<=ro'.length:=JE _ _;have c1:=aBz (by omega) l1 a1 (a3 m (by omega) _ r1);obtain⟨v,rs,cs,c0,K,c2⟩:=c1;have SB:aK (bB bD (m+1)) 57 [.aQ 11 cl] v:=cI (aM 57 z5 m) c2;have rl:rs.length<1000:=by have:=dt List.length K;rw[dS,ta] at this;omega
 obtain⟨w,c3,c4⟩:=arV (u:=bB bD (m+1)) (x:= .aQ 11 cl) (λob f=>mg ob 11 cl f) SB cs c0 rl;have Il:aK (bB bD (m+1+1)) 16 [.aQ 11 cl] w:=cI (aM 16 xu (m+1)) c4;have c5:∀b aET,(ro'.filterMap id=[]/\gD (bB bD (m+1) 46 [.aQ 11 cl] b aET) b aET .aE)\/ww (bB bD (m+1) 46 [.aQ 11 cl] b aET) b aET 118 3 (ro'.filterMap id).length ((ro'.filterMap id).map fc.U) false:=λb aET=>by rw[aM 46 wq];exact Zj (E:=dk) (by omega) l2 a2
 obtain⟨w',D,dq⟩:=ap6 (u:=bB bD (m+1)) (C:=λr=>h6 0 r.aq) (by omega) (a5 (m+1) (by omega) _ cn) (λr d=>by obtain⟨ee,em,en,eq⟩:=cc r d;exact⟨ee,em,en,eq (m+1) (by omega)⟩) c5
 have Ge:aK (bB bD (m+1+1)) 17 [.aQ 11 cl] w':=cI (aM 17 xR (m+1)) dq;have G:dw 11 w (rs.map rU):=c3;rw[K] at G;rw[<-aaa _ _ cp] at D;have N:∀t∈(m6 dk fb jM jK (ro.filterMap id)).take 12,GE 42 t:=λt B=>US _ (λr d=>(r1 r d).2) t (Nr B);have lt:((m6 dk fb jM jK (ro.filterMap id)).take 12).length<=12:=by rw[ta];omega
 obtain⟨e,ev,ex⟩:=amI (u:=bB bD (m+1)) G D (by omega) (by omega) λi p q j fn=>by have dB:=N p (dr j);have cT:=N q (dr fn);exact⟨dB.t11,cT.t11,bx (m+1) (by omega) 42 42 p q (by omega) dB cT⟩
 have GX:aK (bB bD (m+1+1)) 15 [w,w'] (.F true):=by rw[<-ev rfl];exact cI (aM 15 tP (m+1)) ex
 exact⟨w,w',⟨G.dU,D.dU⟩,Il,Ge,GX⟩
end
end
section
variable{w:an}
section
variable[Tok]
theorem tJ{f n N:Nat}{g:jq}{args:aB}{a:an}{R:an->Prop}(e:bB bD (n+1) f=g (bB bD n))
 (h:oi a N->∀{b:Nat} {aET:b1} {q s z:Nat},q<b->q%4096<2048->z<=N->cE b aET q= .box s [a,ao z]->ii (g (bB bD n) (.bn q s 0::args) b aET) b aET q s a N R):gN (bB bD (n+1)) f args a N R:=by
 intro c b aET q s z d i j k;rw[e];exact h c d i j k
def afG(u:Fn):Prop:=∀a N (n:Int),1<=n/\n<=100->gN u 30 [ao n] a N (pe n)
theorem vf:bl afG:=bl.jr.up λn _ h N k a=>tJ (aM 30 za n) λb _ _ _ _ _ c d e g=>aoP a b c d e g
theorem Ia:bl λu=>(∀a c l,aK u 22 [.s a c,.aQ 11 l] (.agg (bU bP (.s a c) l)))/\(∀a c l,aK u 75 [.s a c,.aQ 11 l] (.agg (bU kl (.s a c) l)))/\∀i,i<3->aK u 21 [.s 1 (0x78+i)] (.agg (dW i)):=
 bl.run λn=>⟨λa c l=>hE (aga n a c l),λa c l=>hE (aBO n a c l),λi _=>hE (amf n 1 (0x78+i))⟩
theorem aCB(n:Nat):([-4,-3,-2,-1,0,1,2,3,4].all λz:Int=>dy (bB bD (n+30) 23 [ao z] 0 .nil) (.agg (cW (b5 z 1)))&&dy (bB bD (n+30) 60 [ao z] 0 .nil) (.agg (b5 z 1)))=true:=by kernel_rfl
theorem ajx{z:Int}(h:z.natAbs<=4):z∈([-4,-3,-2,-1,0,1,2,3,4]:List Int):=by
 have:z= -4\/z= -3\/z= -2\/z= -1\/z=0\/z=1\/z=2\/z=3\/z=4:=by omega
 simpa using this
theorem M4:bl λu=>(∀z:Int,z.natAbs<=4->aK u 23 [ao z] (.agg (cW (ef z))))/\∀z:Int,z.natAbs<=4->aK u 60 [ao z] (.agg (b5 z 1)):=bl.kQ 30 λn=>by have a:=λ(z:Int) (h:z.natAbs<=4)=>cB (aCB n) (ajx h);simp only[cg] at a;exact⟨λz h=>by rw[KK];exact eN (a z h).1,λz h=>eN (a z h).2⟩
def arh(u:Fn):Prop:=∀a N,gN u 33 [] a N tT
theorem Ep:bl arh:=(vf.and Ia).up λn h a N=>tJ (aM 33 DE n) λb _ _ _ _ _ c d e g=>aAy (h.1 a N) h.2.2.2 b c d e g
theorem aDF:bl λu=>∀a N,gN u 31 [] a N E9:=((vf.and Ep).and (Ia.and M4)).up λn h a N=>tJ (aM 31 DP n) λb _ _ _ _ _ c d e g=>apM (h.1.1 a N) (h.1.2 a N) h.2.1.1 h.2.1.2.1 h.2.2.1 b c d e g
theorem adE:bl BU:=by
 have g:bl λu=>aK u 66 [] (.agg tu):=bl.run λn=>hE (anY n);have Py:bl λu=>∀a d,(a.length=7/\b8 a=true)->(d.length=7/\b8 d=true)->aK u 130 [.agg a,.agg d] (.agg (jU a d)):=bl.jr.up λn _ a d b e=>cI (aM 130 zD n) (an0 b.1 b.2 e.1 e.2);have SW:bl λu=>∀v l,dw 7 v l->l.length<=3->(∀a∈l,lA a)->aK u 129 [v] (.agg (k5 l)):=(g.and Py).up λn h v l k G j=>cI (aM 129 zA n) (amG k (by omega) (λa b=>(j a b).ak) h.1 λa b i=>h.2 a _ (j a b).ak (Ar _));have o:bl λu=>(aK u 114 [.s 1 0x31,.s 1 0x32] (.agg (b5 1 2))/\aK u 114 [.s 2 0x2d35,.s 1 0x33] (.agg (b5 (-5) 3))):=bl.kQ 20 λn=>⟨hE (axI n),hE (aso n)⟩;have q:bl λu=>(aK u 87 [] (.agg (nt 4 0x6c697370 1 0x74))/\∀a c,aK u 28 [.s a c] (.agg [kl,.s a c]))/\(∀a1 c1 a2 c2,aK u 127 [.agg [.s a1 c1,.s a2 c2]] (.agg (nt a1 c1 a2 c2)))/\∀a c,aK u 128 [.s a c] (.agg (uV a c)):=
  bl.run λn=>⟨⟨hE (ann n),λa c=>hE (Z4 n a c)⟩,λa1 c1 a2 c2=>hE (apQ n a1 c1 a2 c2),λa c=>hE (azA n a c)⟩
 refine(((g.and Py).and (SW.and M4)).and (o.and q)).imp λn h=>?_;obtain⟨⟨⟨r,t⟩,x,y⟩,⟨z,A⟩,⟨B,C⟩,D,E⟩:=h;exact⟨r,B,y.2,z,A,C,D,E,x,λa d b e=>t a d b.ak e.ak⟩
def atc(u:Fn):Prop:=∀a N,gN u 63 [ao 1] a N xa
theorem UE:bl atc:=by have z:bl λu=>∀a N,gN u 63 [ao 0] a N Aw:=(adE.and vf).up λn h a N=>tJ (aM 63 uq n) λb _ _ _ _ _ c d e g=>awi h.1 (h.2 a N) b c d e g;exact((adE.and vf).and z).up λn h a N=>tJ (aM 63 uq n) λb _ _ _ _ _ c d e g=>aoS h.1.1 (h.1.2 a N) (h.2 a N) b c d e g
structure Lv (u:Fn) (w:an):Prop where
 CC:∀h∈iu++i1++lS,aK u 153 [w,.agg [.s h.1 h.2.1,.s h.2.2.1 h.2.2.2.1]] (.a0 [ao h.2.2.2.2,.F true])
 bJ:∃n l,w= .aQ n l
theorem ahx(aR:bl λu=>Lv u w):bl λu=>A4 u w:=by
 have b:bl λu=>(aK u 150 [] (.aQ 1 (Lp.map E2))/\aK u 151 [] (.aQ 1 (Lx.map E2)))/\(∀a c,aK u 152 [.s a c] (.agg [bP,.s a c]))/\∀a c,aK u 28 [.s a c] (.agg [kl,.s a c]):=
  bl.run λn=>⟨⟨eN (ayf n),eN (ayJ n)⟩,λa c=>hE (avI n a c),λa c=>hE (Z4 n a c)⟩
 have T9:bl λu=>∀a1 c1 a2 c2 l,aK u 81 [.agg [.s a1 c1,.s a2 c2],.aQ 11 l] (.agg (bU (.s a1 c1) (.s a2 c2) l)):=bl.jr.up λn _ a1 c1 a2 c2 l=>cI (aM 81 AX n) (auY (v:= .aE) rfl);exact((aR.and BZ).and (b.and T9)).imp λn h=>⟨h.1.2.2,h.2.1.1.1,h.2.1.1.2,h.2.1.2.1,h.2.1.2.2,h.1.1.CC,h.2.2,h.1.1.bJ⟩
theorem aDY:bl P7:=by
 have W1:bl λu=>∀I t,I.length<=5->(∀t∈I,Lit t)->Lit t->∃e,aK u 97 [.aQ 11 I,.agg t] (.F e):=(Wa 8).up λn h I t g c a=>by
  obtain⟨e,d⟩:=auS (u:=bB bD n) (I:=I) (t:=t) (by omega) a.ge.t11 λp i=>by obtain⟨e,j,_⟩:=h 8 8 p t (cY _) (c p i).ge a.ge;exact⟨(c p i).ge.t11,e,j⟩
  exact⟨e,cI (aM 97 yA n) d⟩
 exact W1.up λn h x I t k g c a=>by
  obtain⟨e,d⟩:=h I t g c a;refine⟨_,cI (aM 34 E7 n) (X7 k (by omega) a.ge.t11 d),?_⟩;cases e
  ·right;rw[cU (by simp)]
  ·left;rw[cv rfl]
theorem ahv(aR:bl λu=>Lv u w):bl λu=>∀a N,gN u 9 [w,ao 5] a N Dh:=by have i:=ahx aR;have j:bl λu=>∀a N,gN u 96 [w,ao 0] a N v6:=((i.and vf).and (Ep.and UE)).up λn h a N=>tJ (aM 96 uz n) λb _ _ _ _ _ c d e g=>aje h.1.1 (h.1.2 a N) (h.2.1 a N) (h.2.2 a N) b c d e g;have k:bl λu=>∀a N,gN u 96 [w,ao 1] a N yV:=(((i.and vf).and (Ep.and UE)).and j).up λn h a N=>tJ (aM 96 uz n) λb _ _ _ _ _ c d e g=>al5 h.1.1.1 (h.1.1.2 a N) (h.1.2.1 a N) (h.1.2.2 a N) (h.2 a N) b c d e g;have VU:bl λu=>∀a N,gN u 32 [w,ao 1] a N Lq:=(((Ia.and i).and (vf.and Ep)).and (j.and k)).up λn h a N=>tJ (aM 32 yE n) λb _ _ _ _ _ c d e g=>afD h.1.1.1.1 h.1.1.2.bJ (h.1.2.1 a N) (h.1.2.2 a N) (h.2.1 a N) (h.2.2 a N) b c d e g;refine((((Ia.and M4).and (aDY.and i)).and (vf.and Ep)).and (aDF.and VU)).up λn h a N=>tJ (aM 9 At n) λb _ _ _ _ _ c d e g=>IR ⟨h.1.1.1.1.1,h.1.1.1.2.1,h.1.1.2.1,h.1.1.2.2.bJ,h.1.2.1 a N,h.1.2.2 a N,h.2.1 a N,h.2.2 a N⟩ b c d e g
end
end
section
open Go.Proofs
section
variable[Tok]
def yY(n k:Nat):aB:=[cZ,.s 0 0,.s 0 0,.s 4 0x6c697370,.s n k,.s 0 0,.aE]
def anJ(l:aY):aB:=l.foldr (λx r=>[jf,.s 0 0,.s 0 0,.s 0 0,.s 0 0,.s 0 0,.aQ 7 [x,r]]) (yY 3 0x6e696c)
def e0(n k:Nat)(s:List aY):List aY:=match n,s with
 |_+1,l::r=>((match k%256 with|48=>[aS,.s n k,.s 1 49,.s 0 0,.s 0 0,.s 0 0,.aE]|49=>[aS,.s n k,.s 1 49,.s 0 0,.s 0 0,.s 0 0,.aE]|_=>yY n k)::l)::r
 |_,_=>s
def uJ{α a:Type}(f:α->a)(x:α):a:=f x
def nS(t:Nat):Nat->Nat->Nat->Nat->List aY->List aY
 |0,_,_,_,s=>s
 |m+1,i,n,k,s=>match t/256^i%256 with
  |40=>match e0 n k s with
   |l::x::r=>uJ (nS t m (i+1) 0 0) ((anJ l::x)::r)
   |_=>[]
  |41=>uJ (nS t m (i+1) 0 0) ([]::e0 n k s)
  |32=>uJ (nS t m (i+1) 0 0) (e0 n k s)
  |10=>uJ (nS t m (i+1) 0 0) (e0 n k s)
  |c=>uJ (nS t m (i+1) (n+1) (k+c*256^n)) s
noncomputable def LQ:an:=match bB bD 9 134 [] 0 .nil with
 | .ok (.s n t) _ _ _=> .aQ 7 ((nS t n 0 0 0 [[]]).headD [])
 |_=> .aE
def vL(k:Nat)(o:aB):an:=(o.drop k).headD .aE
def bu(x:an):Nat:=match x with| .s _ c=>c|_=>0
def rZ(x:an):aY:=match x with| .aQ _ l=>l|_=>[]
def sT:Nat->aB->aY
 |0,_=>[]
 |n+1,o=>match rZ (vL 6 o) with|[h,t]=>h::sT n t|_=>[]
def g5:Nat->aB->aB
 |0,_=>[]
 |n+1,o=>
  let c:=λx l=>bU bP x l
  match sT 9 o with
  |[]=>match bu (vL 4 o) with|0=>cW o|0x74=>cW o|0x6e696c=>cW o|_=>yb bP (vL 4 o)
  |h::t=>
   let l:=t.map (g5 n);let p:=λf=>l.dropLast.foldr f (l.getLastD []);let i:=λx y z=>c (.s 2 0x6966) [x,y,z]
   match bu (vL 4 h) with
   |0x636f6e64=>t.foldr (λx r=>c (.s 2 0x6966) ((sT 3 x).map (g5 n)++[r])) (cW (yY 3 0x6e696c))
   |0x616e64=>p λx r=>i x r (cW (yY 3 0x6e696c))
   |0x6f72=>p λx r=>i x x r
   |0x2b=>p λx r=>c (.s 8 0x62696e6172792d2b) [x,r]
   |0x617070656e64=>c (.s 13 0x62696e6172792d617070656e64) l
   |0x6c697374=>l.foldr (λx r=>c (.s 4 0x636f6e73) [x,r]) (cW (yY 3 0x6e696c))
   |_=>c (vL 4 h) l
def t0:aB:=[aL,.s 0 0,.s 0 0,aL,.s 0 0,.s 0 0,.s 0 0,.s 0 0,.s 0 0,.aE,.aE]
def r2(o:aB):aB:=
 let l:=sT 9 o;let g:=λc d=>((l.filter λx=>bu (vL 4 ((sT 2 x).headD []))==c).map λx=>g5 30 ((sT 2 x).getLastD [])).headD d;let n:=vL 4 (l.getD 1 [])
 [gg,bP,n,.s 0 0,.aE,.s 0 0,.s 0 0,.aE,bG]++t0++[.aQ 37 [[bP,n,.aQ 2 ((sT 9 (l.getD 2 [])).map λp=>[bP,vL 4 p]),aS]++g 0x6775617264 (cW (yY 1 0x74))++g5 30 (l.getLastD [])++g 0x6d656173757265 t0],.aE,.aE,.aE,.s 0 0,.s 0 0,.aE,.aE,.aE,.aE,.s 0 0,.V .u64 18446744073709551616]
def Zt(w:aY):aY->List (aB×an)
 |[]=>[]
 |f::r=>([match w with|[]=> .aE|_=> .aQ 32 w,.agg f],.agg (r2 f))::Zt (w++[r2 f]) r
noncomputable def QW:List (aB×an):=[([],LQ)]
noncomputable def Dw:List (aB×an):=Zt [] (rZ LQ)
noncomputable def fJ(K:List (aB×an))(l:aB):aw:= @List.rec _ (λ_=>aw) .ax (λp _ a=> @Bool.rec (λ_=>aw) a (.ok p.2 0 .nil []) (vS (.a0 p.1.reverse) (.a0 l.reverse))) K
noncomputable def mY(K:List (aB×an)):jq:=me λ_ l _ _=>fJ K l
noncomputable def Mn:lZ:=Co (mY QW) (d70.den Tryz.prog)
noncomputable def wA(l:List (aB×an)):Bool:=l.all λp=>dy (bB Mn 300 70 p.1 0 .nil) p.2
noncomputable def EQ:lZ:=Co (mY QW) (mY Dw)
end
end
end Go.Hf

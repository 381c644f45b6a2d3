import Derived.Test.YthiipifjdfmblaaGreatDoorBc
import Derived.Test.YthiipifjdfmblaaGreatDoorAn
set_option linter.all false
set_option maxRecDepth 100000
namespace Go.Hf
open Go.RowKit
section
variable{t b a:aB} {l:aY} {n:Nat}
section
variable[Tok]
theorem av4(n:Nat):((List.range 3).all λi=>dy (bB bD (n+9) 116 [.agg (dW i)] 0 .nil) (.a0 [.aE,ao 0,.F false])&&(dy (bB bD (n+9) 40 [.agg (dW i)] 0 .nil) (.a0 [.aE,ao 0,ao 0])&&(dy (bB bD (n+9) 116 [.agg (bU bP fe [dW i])] 0 .nil) (.a0 [.aE,ao 0,.F false])&&dy (bB bD (n+9) 40 [.agg (bU bP fe [dW i])] 0 .nil) (.a0 [.aE,ao 0,ao 0]))))=true:=by kernel_rfl
theorem Xx(n:Nat):(to.all λo=>dy (bB bD (n+9) 116 [.agg (cW o)] 0 .nil) (.a0 [.aE,ao 0,.F false])&&(dy (bB bD (n+9) 40 [.agg (cW o)] 0 .nil) (.a0 [.aE,ao 0,ao 0])&&(dy (bB bD (n+9) 116 [.agg (bU bP fe [cW o])] 0 .nil) (.a0 [.aE,ao 0,.F false])&&dy (bB bD (n+9) 40 [.agg (bU bP fe [cW o])] 0 .nil) (.a0 [.aE,ao 0,ao 0]))))=true:=by kernel_rfl
theorem aEj(n:Nat)(a d:aB):(dy (bB bD (n+9) 116 [.agg (cW (jU a d))] 0 .nil) (.a0 [.aE,ao 0,.F false])&&(dy (bB bD (n+9) 40 [.agg (cW (jU a d))] 0 .nil) (.a0 [.aE,ao 0,ao 0])&&(dy (bB bD (n+9) 116 [.agg (bU bP fe [cW (jU a d)])] 0 .nil) (.a0 [.aE,ao 0,.F false])&&dy (bB bD (n+9) 40 [.agg (bU bP fe [cW (jU a d)])] 0 .nil) (.a0 [.aE,ao 0,ao 0]))))=true:=by kernel_rfl
inductive re:aB->Prop
 |tt (o:aB) (h:o∈kY):re o
 |DW (x:Int×Int) (h:x∈wZ):re (b5 x.1 x.2)
 |im (n c c':Nat) (a d:aB) (hn:n<=2) (ha:h0 n c a) (hd:h0 n c' d):re (jU a d)
inductive je:aB->Prop
 |ij (i:Nat) (hi:i<3):je (dW i)
 |iW (o:aB) (h:re o):je (cW o)
theorem OY{x:Int×Int}(h:x∈wZ):b5 x.1 x.2∈to:=yc _ (gp.2 ⟨x,List.mem_of_mem_drop h,rfl⟩)
theorem re.aj{o:aB}(h:re o):∃n c,n<=3/\h0 n c o:=by
 cases h with
 |tt o h=>exact⟨0,1,by omega,.bh (o2 _ h)⟩
 |DW x h=>exact⟨0,1,by omega,.bh (OY h)⟩
 |im n c i a d j e g=>exact⟨n+1,_,by omega,.cons e g⟩
theorem je.al(h:je t):∃w,m5 t w:=by
 cases h with
 |ij i hi=>exact⟨_,.ij i hi⟩
 |iW o h=>obtain⟨n,c,d,e⟩:=h.aj;exact⟨_,.iW n c o d e⟩
theorem je.af(h:je t)(rv:Nat->Nat):∃p,lz rv t p:=by
 cases h with
 |ij i hi=>exact⟨_,.ij i hi⟩
 |iW o h=>
  cases h with
  |tt o h=>exact⟨_,.tt o h⟩
  |DW x h=>exact⟨_,.num x h⟩
  |im n c e a d k g j=>exact⟨_,.im n c e a d g j⟩
theorem je.ge(h:je t)(n:Nat):GE n t:=by
 cases h with
 |ij i hi=>exact .ij n _ _ _ _
 |iW o h=>obtain⟨m,c,e,d⟩:=h.aj;exact .iW n m c o (by omega) d.NM
theorem NB{u:Fn}(c:cq t){a r:aw}(h:(dy (u 116 [.agg t] 0 .nil) (.a0 [.aE,ao 0,.F false])&&dy (u 40 [.agg t] 0 .nil) (.a0 [.aE,ao 0,ao 0]))=true):i6 iS u t:=by rw[cg] at h;exact .ax c (eN h.1) (eN h.2)
theorem YX(t:aB):cq (bU bP fe [t]):=⟨rfl,rfl⟩
theorem acK:bl λu=>∀t,je t->i6 iS u t/\i6 iS u (bU bP fe [t]):=bl.run λn t j=>by
 have g:∀{t:aB},cq t->(dy (bB bD (n+9) 116 [.agg t] 0 .nil) (.a0 [.aE,ao 0,.F false])&&(dy (bB bD (n+9) 40 [.agg t] 0 .nil) (.a0 [.aE,ao 0,ao 0])&&(dy (bB bD (n+9) 116 [.agg (bU bP fe [t])] 0 .nil) (.a0 [.aE,ao 0,.F false])&&dy (bB bD (n+9) 40 [.agg (bU bP fe [t])] 0 .nil) (.a0 [.aE,ao 0,ao 0]))))=true->i6 iS (bB bD (n+9)) t/\i6 iS (bB bD (n+9)) (bU bP fe [t]):=λ{t} e h=>by simp only[cg] at h;exact⟨.ax e (eN h.1) (eN h.2.1),.ax (YX t) (eN h.2.2.1) (eN h.2.2.2)⟩
 obtain⟨w,k⟩:=j.al;have e:=k.t11;cases j with
 |ij i hi=>exact g e (cB (av4 n) (mem_range hi))
 |iW o h=>
  cases h with
  |tt o h=>exact g e (cB (Xx n) (o2 _ h))
  |DW x h=>exact g e (cB (Xx n) (OY h))
  |im m c p a d q r y=>exact g e (aEj n a d)
structure Gy (h:Nat×Nat×Nat×Nat×Nat) (l:aY):Prop where
 ab:l.length=h.2.2.2.2
 ah:∀t∈l,je t
theorem JG:((iu++i1++lS).all λh=>Nat.ble 1 h.2.2.2.2&&Nat.ble h.2.2.2.2 3)=true:=by decide+kernel
theorem Gy.al{h:Nat×Nat×Nat×Nat×Nat}(k:h∈iu++i1++lS){l:aY}(H:Gy h l):∃aR,kx l aR:=by
 have g:=cB JG k;rw[cg] at g;have a1:=dp g.1;have a2:=dp g.2;have o:∀l:aY,(∀t∈l,je t)->∃aR:List (Nat×Nat×Nat),aR.length=l.length/\∀(i:Nat) (t:aB) (w:Nat×Nat×Nat),l[i]? =some t->aR[i]? =some w->m5 t w:=by
  intro l;induction l with
  |nil=>intro _;exact⟨[],rfl,λi t w h=>by simp at h⟩
  |cons t r p=>
   intro h;obtain⟨aR,e,j⟩:=p λx q=>h x (gv _ q);obtain⟨w,u⟩:=(h t eS).al;refine⟨w::aR,by simp[e],λi s v c d=>?_⟩;cases i with
   |zero=>simp at c d;subst c;subst d;exact u
   |succ i=>simp at c d;exact j i s v c d
 obtain⟨aR,e,j⟩:=o l H.ah;exact⟨aR,e,by have:=H.ab;omega,by have:=H.ab;omega,j⟩
inductive qw:aB->Prop
 |t0 (t:aB) (h:je t):qw t
 |kS (h:Nat×Nat×Nat×Nat×Nat) (l:aY) (hh:h∈iu++i1++lS) (H:Gy h l):qw (cO h l)
theorem qw.ge{t:aB}(h:qw t)(n:Nat):GE (n+1) t:=by
 cases h with
 |t0 t h=>exact h.ge _
 |kS h l c H=>refine .kS n _ _ _ _ l ?_ λt d=>(H.ah t d).ge n;have:=cB JG c;rw[cg] at this;have:=dp this.2;have:=H.ab;omega
theorem aeK(h:l.length=1):∃t,l=[t]:=List.length_eq_one_iff.1 h
theorem OW(h:l.length=2):∃t s,l=[t,s]:=by
 match l,h with
 |[t,s],_=>exact⟨t,s,rfl⟩
theorem Rt(h:Nat×Nat×Nat×Nat×Nat)(l:aY):cq (cO h l):=⟨(i4 h l).aa,(i4 h l).e5⟩
theorem aDV{h:Nat×Nat×Nat×Nat×Nat}(c:h∈iu++i1)(H:Gy h l)(w:je b):∃d,bl λu=>i6 d u (oX (cO h l) b):=by
 obtain⟨aR,o⟩:=H.al (o2 _ c);have E:=YJ c o;have x:=E.PD (rv:=wj) aEg;obtain⟨q,p⟩:=w.af wj;have y:bl λu=>∀t P,((t=cO h l/\P=[⟨dQ aR,1⟩])\/lz wj t P)->mf u (p0 h l aR) t P:=((agC c o).and x).imp λn g t P i=>by
  rcases i with⟨rfl,rfl⟩|i
  ·exact g.1
  ·exact g.2 t P i
 have z:dQ aR∈([1,8]:List Nat):=by rcases nF aR with h|h<;>rw[h]<;>simp
 have j:=cB (cB aA6 z) p.mem;rw[cg] at j;obtain⟨d,A⟩:=E.si acx;refine⟨d,?_⟩;exact(E.oX acx A _ y).imp λn g=>g _ _ _ _ (.inl ⟨rfl,rfl⟩) (.inr p) (HP XL j.1) (Gq (E:=p0 h l aR) XL (λk r=>by show k≠dQ aR;intro e;rw[e,gb] at r;cases r) j.2)
theorem ag9(w:qw a)(k:je b):∃x,bl λu=>i6 x u (oX a b):=by
 obtain⟨q,j⟩:=k.af (· +1);cases w with
 |t0 _ h=>obtain⟨p,c⟩:=h.af (· +1);exact⟨iS,Fl.imp λn g=>g _ _ _ _ (.t0 _ _ c) j⟩
 |kS h l d H=>
  rcases fr.1 d with d|d
  ·exact aDV d H k
  ·have o:∀{l:aY},l.length=2->(∀t∈l,je t)->∃t s p r,l=[t,s]/\tf t p/\tf s r:=λ{l} e g=>by obtain⟨t,s,rfl⟩:=OW e;obtain⟨p,c⟩:=(g t (by simp)).af (· +1);obtain⟨r,i⟩:=(g s (by simp)).af (· +1);exact⟨t,s,p,r,rfl,c,i⟩
   simp only[lS,gy,LZ,or_false] at d;rcases d with rfl|rfl|rfl
   ·obtain⟨t,s,p,r,rfl,c,i⟩:=o H.ab H.ah;exact⟨iS,Fl.imp λn g=>g _ _ _ _ (.plus t s p r c i) j⟩
   ·obtain⟨t,s,p,r,rfl,c,i⟩:=o H.ab H.ah;exact⟨iS,Fl.imp λn g=>g _ _ _ _ (.MU t s p r c i) j⟩
   ·obtain⟨t,rfl⟩:=aeK H.ab;obtain⟨p,c⟩:=(H.ah t (by simp)).af (· +1);exact⟨iS,Fl.imp λn g=>g _ _ _ _ (.neg t p c) j⟩
theorem abb(w:qw a):bl λu=>i6 iS u a/\i6 iS u (bU bP fe [a]):=by
 cases w with
 |t0 _ h=>exact acK.imp λn g=>g a h
 |kS h l c H=>
  have k:∀h'∈iu++lS++[(4,0x6c697370,5,0x657175616c,2)],bl λu=>i6 iS u (cO h' l):=λh' c=>bl.run λn=>by have:=cB (VT n l) c;exact NB (a:= .ax) (r:= .ax) (Rt h' l) this
  have o:∀h'∈iu++lS++[(4,0x6c697370,3,0x6e6f74,1)],bl λu=>i6 iS u (bU bP fe [cO h' l]):=λh' c=>bl.run λn=>by have:=cB (amp n l) c;exact NB (a:= .ax) (r:= .ax) (YX _) this
  rcases fr.1 c with e|e
  ·rcases fr.1 e with d|d
   ·exact(k h (o2 _ (o2 _ d))).and (o h (o2 _ (o2 _ d)))
   ·simp only[i1,gy,LZ,or_false] at d;rcases d with rfl|rfl|rfl
    ·obtain⟨t,rfl⟩:=aeK H.ab;exact(acK.imp λn g=>(g t (H.ah t (by simp))).2).and (o _ (yc _ (by simp)))
    ·obtain⟨t,s,rfl⟩:=OW H.ab;obtain⟨p,i⟩:=(H.ah t (by simp)).af (· +1);obtain⟨r,j⟩:=(H.ah s (by simp)).af (· +1);exact(k _ (yc _ (by simp))).and (Fl.imp λn g=>g _ _ _ _ (.t0 _ _ i) j)
    ·obtain⟨t,s,rfl⟩:=OW H.ab;obtain⟨p,i⟩:=(H.ah t (by simp)).af (· +1);obtain⟨r,j⟩:=(H.ah s (by simp)).af (· +1);exact UR.imp λn g=>⟨(g t s p r i j).1,(g s t r p j i).2⟩
  ·exact(k h (o2 _ (yc _ e))).and (o h (o2 _ (yc _ e)))
inductive Lit:aB->Prop
 |Lb (a b:aB) (P Q:bE) (ha:n1 a P) (hb:n1 b Q):Lit (vh a b)
 |Qw (a b:aB) (P Q:bE) (ha:n1 a P) (hb:n1 b Q):Lit (xZ a b)
 |Lh (a b:aB) (P Q:bE) (ha:n1 a P) (hb:n1 b Q):Lit (oX a b)
 |Me (a:aB) (h:qw a):Lit a
 |iR (a:aB) (h:qw a):Lit (bU bP fe [a])
 |nH (a b:aB) (h:qw a) (hb:je b):Lit (oX a b)
 |eq (a b:aB) (h:qw a) (hb:je b):Lit (bU bP iB [a,b])
 |aE (a b:aB) (h:je a) (hb:je b):Lit (xZ a b)
theorem Lit.ak{t:aB}(h:Lit t):∃e,bl λu=>i6 e u t:=by
 cases h with
 |Lb a b P Q d c=>exact⟨iS,KG.imp λn g=>(g a b P Q d c).1⟩
 |Qw a b P Q d c=>exact⟨iS,KG.imp λn g=>(g b a Q P c d).2.1⟩
 |Lh a b P Q d c=>exact⟨iS,KG.imp λn g=>(g a b P Q d c).2.2⟩
 |Me a h=>exact⟨iS,(abb h).imp λn g=>g.1⟩
 |iR a h=>exact⟨iS,(abb h).imp λn g=>g.2⟩
 |nH a b h c=>exact ag9 h c
 |eq a b h c=>refine⟨iS,bl.run λn=>?_⟩;have:=cB (VT n [a,b]) (x:=(4,0x6c697370,5,0x657175616c,2)) (yc _ (by simp));exact NB (a:= .ax) (r:= .ax) (t:=bU bP iB [a,b]) ⟨rfl,rfl⟩ this
 |aE a b h c=>obtain⟨p,i⟩:=h.af (· +1);obtain⟨r,j⟩:=c.af (· +1);exact⟨iS,UR.imp λn g=>(g b a r p j i).2⟩
theorem mL.ge{l:bE}(h:mL n t l):GE (n+4) t:=by
 induction h with
 |num z d=>exact .iW _ 0 1 _ (by omega) (.bh (Dk _ _))
 |add n z i t l d hi h e=>
  have g:GE 1 (ec i):=by
   unfold ec;split
   ·exact .ij _ _ _ _ _
   ·split<;>exact .kS 0 _ _ _ _ _ (by simp) λt c=>by simp at c;rw[c];exact .ij _ _ _ _ _
  have j:GE 2 (BF z i):= .kS 1 _ _ _ _ _ (by simp) λt c=>by
   simp at c;rcases c with rfl|rfl
   ·exact .iW _ 0 1 _ (by omega) (.bh (Dk _ _))
   ·exact g
  exact .kS (n+4) _ _ _ _ _ (by simp) λt c=>by
   simp at c;rcases c with rfl|rfl
   ·exact j.le (by omega)
   ·exact e
theorem n1.ge{t:aB}{P:bE}(h:n1 t P):GE 6 t:=by obtain⟨n,l,c,h,_⟩:=h;exact h.ge.le (by omega)
theorem sI(d:GE n a)(e:GE n b)(c1 c2 d1 d2:Nat):GE (n+1) (bU (.s c1 c2) (.s d1 d2) [a,b]):= .kS n _ _ _ _ _ (by simp) λt c=>by
 simp at c;rcases c with rfl|rfl
 ·exact d
 ·exact e
theorem Az(d:GE n a)(c1 c2 d1 d2:Nat):GE (n+1) (bU (.s c1 c2) (.s d1 d2) [a]):= .kS n _ _ _ _ _ (by simp) λt c=>by simp at c;rw[c];exact d
theorem Lit.ge{t:aB}(h:Lit t):GE 8 t:=by
 cases h with
 |Lb a b P Q d c=>exact(sI d.ge c.ge _ _ _ _).mono
 |Qw a b P Q d c=>exact Az (sI d.ge c.ge _ _ _ _) _ _ _ _
 |Lh a b P Q d c=>exact Az (sI d.ge c.ge _ _ _ _) _ _ _ _
 |Me a h=>exact h.ge 7
 |iR a h=>exact Az (h.ge 6) _ _ _ _
 |nH a b h c=>exact Az (sI (h.ge 5) (c.ge 6) _ _ _ _) _ _ _ _
 |eq a b h c=>exact sI (h.ge 6) (c.ge 7) _ _ _ _
 |aE a b h c=>exact Az (sI (h.ge 6) (c.ge 6) _ _ _ _) _ _ _ _
end
end
section
variable{aET:b1} {q s N d e sz f:Nat} {BX:an} {h:aI} {cs args:aB} {es:aY} {aEQ:Bool} {R:an->Prop}
section
variable[Tok] {u:Fn} {b:Nat}
def oi(BX:an)(N:Nat):Prop:=N<=1000/\((BX= .aE/\N=0)\/∃l,BX= .aQ 1 l/\l.length=N/\∀r∈l,∃c:Nat,c<256/\r=[.V .u8 (18446744073709551616+c)])
structure fu (b:Nat) (aET:b1) (q s:Nat) (BX:an) (N:Nat) (h:aI):Prop where
 lt:q<b
 dn:q%4096<2048
 ar:b+4096<=h.ar
 aj:∃z:Nat,z<=N/\h.aj q= .box s [BX,ao z]
 bQ:∀k∈h.bQ,k=q
 ag:∀k,k<b->k≠q->h.aj k=cE b aET k
 tI:oi BX N
theorem fu.ay(H:fu b aET q s BX N h):b4 h b:=⟨H.ar⟩
def ii(a:aw)(b:Nat)(aET:b1)(q s:Nat)(BX:an)(N:Nat)(R:an->Prop):Prop:=
 ∃r c d,∃z:Nat,a= .ok r b c d/\R r/\z<=N/\cE b c q= .box s [BX,ao z]/\(∀k,k≠q->cE b c k=cE b aET k)/\∀k∈d,k=q
def gN(u:Fn)(f:Nat)(args:aB)(BX:an)(N:Nat)(R:an->Prop):Prop:=oi BX N->∀{b:Nat} {aET:b1} {q s z:Nat},q<b->q%4096<2048->z<=N->cE b aET q= .box s [BX,ao z]->ii (u f (.bn q s 0::args) b aET) b aET q s BX N R
theorem fu.start{z:Nat}(c:q<b)(g:q%4096<2048)(i:z<=N)(j:cE b aET q= .box s [BX,ao z])(l:oi BX N):fu b aET q s BX N (ba b aET):=
 ⟨c,g,cY _,⟨z,i,by rw[kz aET c];exact j⟩,(λk a=>by cases a),λk a _=>kz aET a,l⟩
theorem fu.g4{aET:b1}{q s N:Nat}{BX:an}{h:aI}(H:fu b aET q s BX N h){d:Nat}{o:e9}(a:d<4096:=by decide):fu b aET q s BX N (h.g4 b d o):=by
 haveI:=H.ay
 refine⟨H.lt,H.dn,by rw[Kf];exact H.ar,?_,?_,λk i j=>?_,H.tI⟩
 ·obtain⟨z,l,n⟩:=H.aj;refine⟨z,l,?_⟩;rw[(ng (b4.lt a)).aj _ λc g=>by simp at g;have:=H.lt;omega];exact n
 ·have e:(h.g4 b d o).bQ=h.bQ:=(ng (o:=o) (b4.lt a)).bQ;rw[e];exact H.bQ
 ·rw[(ng (b4.lt a)).aj _ λc g=>by simp at g;omega];exact H.ag k i j
theorem fu.fz{t:Nat}(H:fu b aET q s BX N h)(a:d<4096:=by decide):fu b aET q s BX N (h.fz b d t cs):=H.g4 a
theorem fu.eP(H:fu b aET q s BX N h)(a:d<4096:=by decide):fu b aET q s BX N (h.eP b d cs):=H.g4 a
theorem fu.fm(H:fu b aET q s BX N h)(a:d<4096:=by decide):fu b aET q s BX N (h.fm b d e sz es aEQ):=H.g4 a
theorem fu.ow{a:Nat}(H:fu b aET q s BX N h)(c:d<4096:=by decide):fu b aET q s BX N (h.ow b d a e sz es aEQ):=H.g4 c
theorem agp(H:fu b aET q s BX N h)(C:gN u f args BX N R):∃r h',R r/\fu b aET q s BX N h'/\(∀k,k≠q->h'.aj k=h.aj k)/\∀k:dg,dd u b f (.bn q s 0::args) [] h k=k r h':=by
 obtain⟨z,l,n⟩:=H.aj;obtain⟨ub,a8,a⟩:=h;have o:b+4096<=ub:=H.ar;obtain⟨r,g,d,p,t,w,x,y,i,fD⟩:= @C H.tI ub a8 q s z (by have:=H.lt;omega) H.dn l n;have A:∀k∈aA (gZ b d) a,k=q:=λk c=>by rw[mJ,fr] at c;exact c.elim (λh=>fD k (uC h)) (H.bQ k)
 refine⟨r,.mk ub g (aA (gZ b d) a),w,⟨H.lt,H.dn,o,⟨p,x,y⟩,A,λk c j=>(i k j).trans (H.ag k c j),H.tI⟩,i,λk=>?_⟩;have fD:dd u b f (.bn q s 0::args) [] (.mk ub a8 a) k=jT b ub a k (u f (.bn q s 0::args) ub a8):=rfl;rw[fD,t];have B:jT b ub a k (.ok r ub g d)=bf (Nat.ble ub ub) (k r (.mk ub g (aA (gZ b d) a))) .ax:=rfl;rw[B,ek,dm (cY ub),cM]
theorem Wb{q:Nat}(a:eb [4096,4098] (iD b q)=true):∀(d:List Nat),(∀k∈d,k=q)->sS b [4096,4098] d=true
 |[],_=>rfl
 |k::d,h=>by have e:sS b [4096,4098] (k::d)=cS (eb [4096,4098] (iD b k)) (sS b [4096,4098] d):=rfl;rw[e,h k eS,a,Wb a d λj c=>h j (gv _ c)];rfl
theorem avp{xs:aB}(H:fu b aET q s BX N h)(C:gN u f args BX N R):∃r h',R r/\fu b aET q s BX N h'/\(∀k,k≠q->h'.aj k=h.aj k)/\∀k:dg,o7 u b [4097] [4096,4098] xs f (.bn q s 0::args) [] h k=k r h':=by
 obtain⟨z,l,n⟩:=H.aj;obtain⟨ub,a8,a⟩:=h;have o:b+4096<=ub:=H.ar;obtain⟨r,g,d,p,t,w,x,y,i,fD⟩:= @C H.tI ub a8 q s z (by have:=H.lt;omega) H.dn l n;have A:∀k∈aA (gZ b d) a,k=q:=λk c=>by rw[mJ,fr] at c;exact c.elim (λh=>fD k (uC h)) (H.bQ k)
 refine⟨r,.mk ub g (aA (gZ b d) a),w,⟨H.lt,H.dn,o,⟨p,x,y⟩,A,λk c j=>(i k j).trans (H.ag k c j),H.tI⟩,i,λk=>?_⟩;have B:o7 u b [4097] [4096,4098] xs f (.bn q s 0::args) [] (.mk ub a8 a) k=xH b [4097] [4096,4098] [] (aA xs (.bn q s 0::args)) ub a8 a k (u f (.bn q s 0::args) ub a8):=rfl;rw[B,t];have D:xH b [4097] [4096,4098] [] (aA xs (.bn q s 0::args)) ub a8 a k (.ok r ub g d)=
  bf (Nat.ble ub ub) (bf (sS b [4096,4098] d) (bf (rn [4096,4098] ub ub) (bf true (k r (.mk ub g (aA (gZ b d) a))) .ax) .ax) .ax) .ax:=rfl
 have E:rn [4096,4098] ub ub=true:=by unfold rn;rw[Nat.beq_refl]
 have G:eb [4096,4098] (iD b q)=true:=by rw[wb];unfold fl;have J:=H.lt;have I:=H.dn;rw[cz,cv I];rfl
 rw[D,E,ek,dm (cY ub),cM,Wb G d fD,cM,cM,cM]
theorem Sa{q s N:Nat}{BX:an}{a8:b1}(a:n8 b [BX]=true){z:Nat}(c:(a8.get q).ag= .box s [BX,ao z]):∀d:List Nat,(∀k∈d,k=q)->kE b a8 d=true
 |[],_=>rfl
 |k::d,h=>by
  have g:kE b a8 (k::d)=cS (xF b (a8.get k).ag) (kE b a8 d):=rfl;have i:xF b (.box s [BX,ao z])=true:=by show n8 b [BX,ao z]=true;rw[cX];cases BX<;>first|exact a|rfl|cases a
  rw[g,h k eS,c,i,Sa (N:=N) a c d λj l=>h j (gv _ l)];rfl
theorem PU{r:an}(H:fu b aET q s BX N h)(i:R r):ii (dJ b r [] h) b aET q s BX N R:=by
 have j:n8 b [BX]=true:=by rcases H.tI.2 with⟨rfl,_⟩|⟨l,rfl,_⟩<;>rfl
 have n:=H.ag;obtain⟨z,p,t⟩:=H.aj;obtain⟨ub,a8,d⟩:=h;have y:b+4096<=ub:=H.ar;have c:=H.lt;have g:(a8.get q).ag= .box s [BX,ao z]:=by have:cE ub a8 q= .box s [BX,ao z]:=t;rw[ic] at this;exact this
 have w:dJ b r [] (.mk ub a8 d)= @Bool.rec (λ_=>aw) (.ok r ub a8 d) (.ok r b (a8.drop b) d) (kE b a8 d):=rfl;rw[w,Sa (N:=N) j g d H.bQ];refine⟨r,a8.drop b,d,z,rfl,i,p,?_,λk x=>?_,H.bQ⟩
 ·rw[ic c,b1.rB b a8 q c];exact g
 ·by_cases a:k<b
  ·rw[ic a,b1.rB b a8 k a,<-n k a x];show _=cE ub a8 k;rw[ic]
  ·rw[jz,jz]
end
end
section
variable{aET:b1} {q s N:Nat} {BX:an}
section
variable[Tok] {u:Fn} {b:Nat}
theorem vF(q s o:Nat)(k:an->aw):hY (.bn q s o) k=k (.bn q s o):=jL rfl
theorem A3{h:aI}(H:fu b aET q s BX N h)(o:Nat)(z:aw):met b [4096] [.bn q s o] z=z:=by
 have a:jP b [4096] (.bn q s o)=true:=by show eb [4096] (iD b q)=true;rw[wb];unfold fl;have d:=H.lt;have c:=H.dn;rw[cz,cv c];rfl
 rw[aV a,aN]
theorem ayE{c:Nat}(g:c<256)(k:an->aw):c8 (hs .i64 (.V .u8 (18446744073709551616+c))) k=k (ao c):=by
 have e:hs .i64 (.V .u8 (18446744073709551616+c))=bif lr .i64 (18446744073709551616+c) then some (.V .i64 (18446744073709551616+c)) else tr (.int .i64 (IntKind.i64.wrap (intOf (18446744073709551616+c)))):=rfl;have a:lr .i64 (18446744073709551616+c)=true:=by
  rw[<-zZ];have:=Bn (c:=(c:Int)) (by omega) (by omega);have d:((c:Int)+18446744073709551616).toNat=18446744073709551616+c:=by omega
  rw[d] at this;exact this
 rw[e,a,dN,tH,cX];congr 2;omega
theorem aeo{a c:Int}(d:0<=a/\a<=1000:=by omega)(j:1<=c/\c<=1000:=by omega)(k:an->aw):c8 (fA .rem (ao a) (ao c)) k=k (ao (a%c)):=by
 have g:a.tmod c=a%c:=Int.tmod_eq_emod_of_nonneg d.1;have l:0<=a%c:=Int.emod_nonneg _ (by omega);have n:a%c<c:=Int.emod_lt_of_pos _ (by omega);have h:intOf (a+18446744073709551616).toNat=a:=by unfold intOf;omega
 have i:intOf (c+18446744073709551616).toNat=c:=by unfold intOf;omega
 have e:fA .rem (ao a) (ao c)=some (ao (a%c)):=by rw[cX,cX,cX];simp only[fA,vY,dN,sJ,AP,A7,h,i,jW,fP,cU (show c≠0 by omega),tL,g,tr];rw[fS]
 rw[e,tH]
def pe(n:Int)(r:an):Prop:=∃k:Int,0<=k/\k<n/\r=ao k
theorem aoP{n:Int}(R:1<=n/\n<=100)(d:oi BX N){z:Nat}(j:q<b)(A:q%4096<2048)(G:z<=N)(B:cE b aET q= .box s [BX,ao z]):ii (za u [.bn q s 0,ao n] b aET) b aET q s BX N (pe n):=by
 have S:=fu.start j A G B d;have T:=d.1
 haveI:=S.ay
 have a:(ba b aET).aj q= .box s [BX,ao z]:=by rw[kz aET j];exact B
 have eO:([BX,ao z]:aB)[0+0]? =some BX:=rfl;have dB:([BX,ao z]:aB)[0+1]? =some (ao z):=rfl;have C:∀k:an->aw,bq false BX k=k (ao N):=λk=>by
  rcases d.2 with⟨rfl,rfl⟩|⟨l,rfl,D,_⟩
  ·exact hy k
  ·rw[<-D];exact eA _ _ k
 by_cases H:z<N
 ·obtain⟨l,rfl,D,I⟩:∃l,BX= .aQ 1 l/\l.length=N/\∀r∈l,∃c:Nat,c<256/\r=[.V .u8 (18446744073709551616+c)]:=by
   rcases d.2 with⟨_,h⟩|h
   ·omega
   ·exact h
  obtain⟨p,J⟩:∃p,l[z]? =some p:=⟨l[z]'(by omega),dC _⟩;obtain⟨c,K,L⟩:=I p (dr J);subst L;have t:q<(ba b aET).ar:=by have:=S.ar;have:=S.lt;omega
  have E:∀k:dg,aX b none 1 (.bn q s (0+1)) (ao ((z:Int)+1)) (ba b aET) k=k .undef ((ba b aET).eW b q (.ae (.box s [.aQ 1 l,ao ((z+1:Nat):Int)]))):=λk=>by rw[QO,tD (n:=1) (off:=0+1) (cs:=[.aQ 1 l,ao z]) (new:=[ao ((z:Int)+1)]) a rfl (by simp) (λo=>gs b _) t];rfl
  generalize e:(ba b aET).eW b q (.ae (.box s [.aQ 1 l,ao ((z+1:Nat):Int)]))=h' at E;have w:h'.aj q= .box s [.aQ 1 l,ao ((z+1:Nat):Int)]:=by rw[<-e];exact kB t
  have M:fu b aET q s (.aQ 1 l) N h':=by
   refine⟨j,A,by rw[<-e,aI.qv];exact S.ar,⟨z+1,H,w⟩,λk g=>?_,λk g O=>?_,d⟩
   ·rw[<-e] at g;exact(aI.aaC k g).elim (λh=>by cases h) id
   ·rw[<-e,aI.tS t];simp[Go.Hf.dl,O];exact kz aET g
  have f0:([.aQ 1 l,ao ((z+1:Nat):Int)]:aB)[0+0]? =some (.aQ 1 l):=rfl;have f1:([.aQ 1 l,ao ((z+1:Nat):Int)]:aB)[0+1]? =some (ao ((z+1:Nat):Int)):=rfl;have P:((z+1:Nat):Int)-1=(z:Int):=by omega
  have Q:∀y:aw,met b [4098] [.aQ 1 l,ao z] y=y:=λy=>by rw[aV,aV,aN]
  have W:∀(ob:ej) (f:jm) (c:Int),aD ob (ao c) f=f (ao c) []:=λob f c=>b7 _ _ _;rw[za,dE,Mk,vF,bb,aJ,A3 S,aH a,bc dB,K8,vF,bb,aJ,A3 S,aH a,bc eO,C,bK,ix,bk,fZ,bO,I5,gE,dO,bk,a6,vF,bb,S0,aH a,bc dB,bK,cK,vF,bb,E,vF,bb,aJ,A3 S,aH w,bc f0,vF,acI,bb,aJ,A3 S,aH w,bc f1,bK,e1,P,bZ,Q,eE,aJ,aV,aN,ch,bc (by rfl),ayE K,aeo,FH,bj,b7];rw[av];exact PU M ⟨_,Int.emod_nonneg _ (by omega),Int.emod_lt_of_pos _ (by omega),rfl⟩
 ·rw[za,dE,Mk,vF,bb,aJ,A3 S,aH a,bc dB,K8,vF,bb,aJ,A3 S,aH a,bc eO,C,bK,ix,bN,lL,I5,dR,gE,bL,FH,bF,bj,b7];rw[av];exact PU S ⟨0,by omega,by omega,rfl⟩
end
end
section
variable{f z s2 s3:Nat} {args Z:aB} {R R':an->Prop} {h:aI} {K:dg}
section
variable[Tok] {u:Fn} {b:Nat}
theorem awr:(v2:an)=ao 6:=by rw[cX];rfl
theorem iv{aET:b1}{q s N:Nat}{BX:an}(S:fu b aET q s BX N h)(C:gN u f args BX N R)
 (H:∀r h',R r->fu b aET q s BX N h'->(∀d,h'.aj (b+d)=h.aj (b+d))->ii (K r h') b aET q s BX N R'):ii (dd u b f (.bn q s 0::args) [] h K) b aET q s BX N R':=by
 obtain⟨r,h',a,c,g,e⟩:=agp S C;rw[e];exact H r h' a c λd=>g _ (by have:=S.lt;omega)
theorem He{aET:b1}{q s N:Nat}{BX:an}{xs:aB}(S:fu b aET q s BX N h)(C:gN u f args BX N R)
 (H:∀r h',R r->fu b aET q s BX N h'->(∀d,h'.aj (b+d)=h.aj (b+d))->ii (K r h') b aET q s BX N R'):ii (o7 u b [4097] [4096,4098] xs f (.bn q s 0::args) [] h K) b aET q s BX N R':=by
 obtain⟨r,h',a,c,g,e⟩:=avp (xs:=xs) S C;rw[e];exact H r h' a c λd=>g _ (by have:=S.lt;omega)
theorem qO{aET:b1}{q s N:Nat}{BX:an}{r:an}(S:fu b aET q s BX N h)(a:R r):ii (dJ b r [] h) b aET q s BX N R:=PU S a
def tT(r:an):Prop:=∃i,i<3/\r= .agg (dW i)
theorem aAy{BX:an}{N:Nat}(c:∀n:Int,1<=n/\n<=100->gN u 30 [ao n] BX N (pe n))(d:∀i,i<3->aK u 21 [.s 1 (0x78+i)] (.agg (dW i)))(g:oi BX N){aET:b1}{q s:Nat}(j:q<b)(l:q%4096<2048)(o:z<=N)(p:cE b aET q= .box s [BX,ao z]):ii (DE u [.bn q s 0] b aET) b aET q s BX N tT:=by
 have S:=fu.start j l o p g
 haveI:=S.ay
 rw[DE,dK,aen,de];rw[i2];refine iv S.fz (c 3 (by omega)) λr h' t a w=>?_;obtain⟨k,y,A,rfl⟩:=t
 haveI:=a.ay
 have B:=(w 2).trans fE;have x:∀i:Nat,i<3->k=(i:Int)->(∀f:an->aw,kw (.s 3 0x78797a) (some (ao k)) none f=f (.s (3-i) (0x78797a%256^(3-i))))/\(∀f:an->aw,kw (.s (3-i) (0x78797a%256^(3-i))) none (some aS) f=f (.s 1 (0x78+i))):=by
  intro i hi e;have:i=0\/i=1\/i=2:=by omega
  rcases this with rfl|rfl|rfl
  ·rw[e];exact⟨λf=>by rw[cX];rfl,λf=>rfl⟩
  ·rw[e];exact⟨λf=>by rw[cX];rfl,λf=>rfl⟩
  ·rw[e];exact⟨λf=>by rw[cX];rfl,λf=>rfl⟩
 obtain⟨s1,s2⟩:=x k.toNat (by omega) (by omega);have ev:=d k.toNat (by omega);have C:(dW k.toNat).length=11:=rfl;have pv:b8 (dW k.toNat)=true:=rfl;rw[s1,s2,bg,DQ,av,aT,dc,YV,gh,be,bj,bm];rw[av];exact qO a.eP ⟨_,by omega,rfl⟩
def E9(r:an):Prop:=∃t P,n1 t P/\r= .agg t
section
variable{BX:an} {N:Nat} {aET:b1} {q s:Nat}
theorem L0(B:∀n:Int,1<=n/\n<=100->gN u 30 [ao n] BX N (pe n))(e:∀a c l,aK u 22 [.s a c,.aQ 11 l] (.agg (bU bP (.s a c) l)))(C:∀z:Int,z.natAbs<=4->aK u 23 [ao z] (.agg (cW (ef z))))(S:fu b aET q s BX N h){g a i:Nat}{t:aB}{l:bE}(D:h.aj (b+2)= .box s2 Z)(E:h.aj (b+3)= .box s3 t)(G:h.aj (b+6)= .box g (ec a))(H:a<9)(j:mL i t l){o p:an}{w:kb}
 (I:∀h' x J,fu b aET q s BX N h'->h'.aj (b+2)= .box s2 Z->h'.aj (b+3)= .box s3 x->mL (i+1) x J->ii (w (.bn q s 0) (.bn (b+2) s2 0) (.bn (b+3) s3 0) o p h') b aET q s BX N R):
 ii (o7 u b [4097] [4096,4098] [.bn q s 0,pQ] 30 [.bn q s 0,pQ] [] h λL M=>cP L jf λO=>I1 u b w O (.bn (b+6) g 0) (.bn (b+3) s3 0) (.bn q s 0) (.bn (b+2) s2 0) o p M) b aET q s BX N R:=by
 rw[Fu];refine He S (B 9 (by omega)) λr h' P y d=>?_;obtain⟨k,X,a1,rfl⟩:=P
 haveI:=y.ay
 have Q:=(d 2).trans D;have T:=(d 3).trans E;have a2:=(d 6).trans G;have a3:=C (k-4) (by omega);have A:=iA (jk ((k-4:Int):Rat).num ((k-4:Int):Rat).den) (iY ((k-4:Int):Rat).num ((k-4:Int):Rat).den);have a4:(cW (ef ((k-4:Int):Rat))).length=11:=A.aa;have cp:b8 (cW (ef ((k-4:Int):Rat)))=true:=A.e5;obtain⟨a5,uJ⟩:=rM a;have W:=j.ge.t11;obtain⟨tl,tp⟩:=W;have mt:(bU bP eM [cW (ef ((k-4:Int):Rat)),ec a]).length=11:=rfl;have mp:b8 (bU bP eM [cW (ef ((k-4:Int):Rat)),ec a])=true:=rfl;have bs:=e 8 0x62696e6172792d2a [cW (ef ((k-4:Int):Rat)),ec a];have bx:=e 8 0x62696e6172792d2b [bU bP eM [cW (ef ((k-4:Int):Rat)),ec a],t];have cc:(bU bP fv [bU bP eM [cW (ef ((k-4:Int):Rat)),ec a],t]).length=11:=rfl;rw[p7,e1,I1,aV,aN,b7,av,aT,aJ,cH,aN,aH,be,aV,aV,aN,lb,lw,av,av,n5,hO,aN,gX,av,aT,UH,aJ,cH,aN,aH,be,aV,aV,aN,lb,lw,av,av,n5,hO,aN,gX,av,aT,cH,aN,hD];exact I _ _ _ (((y.fm).fm).eP) (gi (ga (ga Q))) (gS (ga (ga T))) (.add i (k-4) a t l (by omega) H j)
theorem ark(C:∀n:Int,1<=n/\n<=100->gN u 30 [ao n] BX N (pe n))(bs:gN u 33 [] BX N tT)(D:∀a c l,aK u 22 [.s a c,.aQ 11 l] (.agg (bU bP (.s a c) l)))(bx:∀a c l,aK u 75 [.s a c,.aQ 11 l] (.agg (bU kl (.s a c) l)))(G:∀z:Int,z.natAbs<=4->aK u 23 [ao z] (.agg (cW (ef z))))(en:Z.length=11){cc:Nat}(eq:cc<=2):∀(m i d:Nat) (h:aI) (t:aB) (l:bE),m+i=cc->m<d->fu b aET q s BX N h->h.aj (b+2)= .box s2 Z->h.aj (b+3)= .box s3 t->mL i t l->
 ii (fs 0 2 3 4 5 d (y0 u b (λj w o=>aW o.aj true 11 w λx=>aX b none 11 j x o λ_ y=>B3 b j y)) (.bn q s 0) (.bn (b+2) s2 0) (.bn (b+3) s3 0) (ao cc) (ao i) h) b aET q s BX N E9:=by
 intro m;induction m with
 |zero=>
  intro i d h t l hm cl S Q T p;obtain⟨d,rfl⟩:=cN d
  haveI:=S.ay
  obtain⟨tl,tp⟩:=p.ge.t11;rw[gI];generalize fs 0 2 3 4 5 d (y0 u b (λj w o=>aW o.aj true 11 w λx=>aX b none 11 j x o λ_ y=>B3 b j y))=W;rw[y0,bO,bk,a6,aH,be,dc,B3,gh,be,bj,bm];rw[av];exact qO S.eP ⟨t,_,⟨i,l,by omega,p,rfl⟩,rfl⟩
 |succ m cn=>
  intro i d h t l hm cl S Q T p;obtain⟨d,rfl⟩:=cN d
  haveI:=S.ay
  have cp:((i+1:Nat):Int)=(i:Int)+1:=by omega
  have H:=λh' e g=>cn (i+1) d h' e g (by omega) (by omega);rw[cp] at H;rw[gI];generalize fs 0 2 3 4 5 d (y0 u b (λj w o=>aW o.aj true 11 w λx=>aX b none 11 j x o λ_ y=>B3 b j y))=W at H;rw[y0,bO,bN,bL,ZH];refine iv S bs λr h' I X a5=>?_;obtain⟨v,hv,rfl⟩:=I
  haveI:=X.ay
  have cs:=(a5 2).trans Q;have c0:=(a5 3).trans T;have es:(dW v).length=11:=rfl;have pv:b8 (dW v)=true:=rfl;rw[U6,de,dc];rw[awr];refine iv (X.fz.eP) (C 6 (by omega)) λr ev I E J=>?_;obtain⟨k,k0,ex,rfl⟩:=I
  haveI:=E.ay
  have L:=(J 2).trans (gi (gF cs));have M:=(J 3).trans (gi (gF c0));have O:=(J 6).trans (gS fE);have P:∀h' e g,fu b aET q s BX N h'->h'.aj (b+2)= .box s2 Z->h'.aj (b+3)= .box s3 e->mL (i+1) e g->ii ((λc1 c2 c3 c4 c5 dq=>bR c5 aS λee=>W c1 c2 c3 c4 ee dq) (.bn q s 0) (.bn (b+2) s2 0) (.bn (b+3) s3 0) (ao cc) (ao i) h') b aET q s BX N E9:=λh' e g a1 a2 A a4=>by dsimp only;rw[bK,cK];exact H h' e g a1 a2 A a4
  by_cases fn:k=0
  ·have em:(bU bP Ii [dW v]).length=11:=rfl;have uJ:b8 (bU bP Ii [dW v])=true:=rfl;have ge:=D 3 0x6c656e [dW v];rw[bF,dj,bN,bL,X8,aH,be,hX,av,gW,gX,av,aT,dc];refine L0 (a:=3+v) C D G (E.fm.eP) (gi (ga L)) (gi (ga M)) ?_ (by omega) p P;have B:ec (3+v)=bU bP Ii [dW v]:=by unfold ec;rw[cz,fS,show 3+v-3=v by omega]
   rw[B];exact gS (ga O)
  ·by_cases gl:k=1
   ·have em:(bU kl Hp [dW v]).length=11:=rfl;have uJ:b8 (bU kl Hp [dW v])=true:=rfl;have go:=bx 4 0x74726565 [dW v];rw[bF,dj,bk,a6,KU,bK,dj,bN,bL,SJ,aH,be,hX,av,gW,gX,av,aT,dc];refine L0 (a:=6+v) C D G (E.fm.eP) (gi (ga L)) (gi (ga M)) ?_ (by omega) p (λh' e g a1 a2 A a4=>by rw[<-bK];exact P h' e g a1 a2 A a4);have B:ec (6+v)=bU kl Hp [dW v]:=by unfold ec;rw[cz,cz,show 6+v-6=v by omega]
    rw[B];exact gS (ga O)
   ·rw[bF,dj,bk,a6,KU,bK,dj,bk,a6];refine L0 (a:=v) C D G E L M ?_ (by omega) p (λh' e g a1 a2 A a4=>by rw[<-bK];exact P h' e g a1 a2 A a4);have B:ec v=dW v:=(tc hv).symm;rw[B];exact O
theorem apM(d:∀n:Int,1<=n/\n<=100->gN u 30 [ao n] BX N (pe n))(p:gN u 33 [] BX N tT)(t:∀a c l,aK u 22 [.s a c,.aQ 11 l] (.agg (bU bP (.s a c) l)))(w:∀a c l,aK u 75 [.s a c,.aQ 11 l] (.agg (bU kl (.s a c) l)))(g:∀z:Int,z.natAbs<=4->aK u 23 [ao z] (.agg (cW (ef z))))(x:oi BX N)(y:q<b)(A:q%4096<2048)(B:z<=N)(C:cE b aET q= .box s [BX,ao z]):ii (DP u [.bn q s 0] b aET) b aET q s BX N E9:=by
 have S:=fu.start y A B C x
 haveI:=S.ay
 rw[DP,dK,SZ,de];rw[Fu];refine iv S.fz (d 9 (by omega)) λr h' e i D=>?_;obtain⟨k,M,O,rfl⟩:=e
 haveI:=i.ay
 have E:=(D 2).trans fE;have P:=g (k-4) (by omega);have j:=iA (jk ((k-4:Int):Rat).num ((k-4:Int):Rat).den) (iY ((k-4:Int):Rat).num ((k-4:Int):Rat).den);have Q:(cW (ef ((k-4:Int):Rat))).length=11:=j.aa;have T:b8 (cW (ef ((k-4:Int):Rat)))=true:=j.e5;rw[p7,e1,UV,bg,b7,av,aT,de,dc];rw[i2];refine iv (i.fz.eP) (d 3 (by omega)) λr G e H o=>?_;obtain⟨c,c0,W,rfl⟩:=e;have I:=(o 2).trans (gi (gF E));have J:=(o 3).trans (gS fE);obtain⟨cc,rfl⟩:∃n:Nat,c=n:=⟨c.toNat,by omega⟩;have L:=ark (s2:=qk (ba b aET) b 2 56) d p t w g (Z:=ca) rfl (cc:=cc) (by omega) cc 0 1000000 G _ _ (by omega) (by omega) H I J (.num (k-4) (by omega));rw[bF,show(0:Int)=((0:Nat):Int) from rfl];exact L
end
end
end
section
variable{o d:aB} {v:an} {l:aY}
section
variable[Tok] {u:Fn} {b:Nat}
def tu:aB:=nt 4 0x6c697370 3 0x6e696c
def k5:aY->aB
 |[]=>tu
 |a::l=>jU a (k5 l)
theorem Ar:∀l:aY,(k5 l).length=7/\b8 (k5 l)=true
 |[]=>by rw[k5,tu,nt,<-ff];exact⟨rfl,rfl⟩
 |a::l=>by rw[k5,jU,<-p7];exact⟨rfl,rfl⟩
theorem akI{ob:ej}{q s e a n:Nat}{pre:aB}{es:aY}(c:b8 pre=true)(i:ob q= .az s e a es false)(j:n=es.length)(f:jm):
 aD ob (.agg (pre++[.az q s 0 n])) f=f (.agg (pre++[.aQ a es])) []:=by
 subst j;have k:∀g,aD ob (.agg (pre++[.az q s 0 es.length])) g=bf (b8 (pre++[.az q s 0 es.length])) (g (.agg (pre++[.az q s 0 es.length])) []) (k3 ob (pre++[.az q s 0 es.length]) λp us=>g (.agg p) us):=λ_=>rfl;have r:∀g:aB->eH->aw,k3 ob [.az q s 0 es.length] g=jQ (ob q) λh e sz aEK aEQ=>bf (Nat.beq s h) (bf (Nat.ble (Nat.add 0 es.length) (ea aEK)) (g [.aQ sz (l3 aEK 0 es.length)] (@Bool.rec (λ_=>eH) [] ((q,.az h e sz aEK false)::[]) aEQ)) .ax) .ax:=λ_=>rfl;rw[k,Hl c,Kh,I6 ob _ _ c,r,i,qC,gb,cM,gr,ek,dm (by rw[hZ];omega),cM,zj]
theorem Py(u:Fn)(a c:an)(b:Nat)(aET:b1):zD u [a,c] b aET=PV u b a c (ba b aET):=rfl
theorem an0(g:o.length=7)(h:b8 o=true)(i:d.length=7)(j:b8 d=true):∃s d',zD u [.agg o,.agg d] 0 .nil= .ok (.agg (jU o d)) 0 s d':=by
 have a:∀f:aB->aw,cC 0 1 jf dx f=f [jf,(.s 0 0),(.s 0 0),(.s 0 0),(.s 0 0),(.s 0 0),.aE]:=λf=>rfl;have c:∀(q s o l:Nat) (f:aB->aw),cC 6 1 (.az q s o l) [jf,(.s 0 0),(.s 0 0),(.s 0 0),(.s 0 0),(.s 0 0),.aE] f=f ([jf,(.s 0 0),(.s 0 0),(.s 0 0),(.s 0 0),(.s 0 0)]++[.az q s o l]):=λq s o l f=>rfl;have e:jU o d=[jf,(.s 0 0),(.s 0 0),(.s 0 0),(.s 0 0),(.s 0 0)]++[.aQ 7 [o,d]]:=by rw[jU,p7];rfl
 rw[e];rw[zD,dE,PV,cy,cy,aae,de,aH,be,aH,be,lb,lw,av,av,gW,a,c,hL,dc,Z6,gh,be,bj,akI (by rfl) (gi i9) (by rfl),av];exact b9
theorem SW(u:Fn)(a:an)(b:Nat)(aET:b1):zA u [a] b aET=OM u b a (ba b aET):=rfl
theorem aCJ(y:v= .aQ 7 l\/l=[])(K:l.length<1000)(z:∀a∈l,a.length=7/\b8 a=true)(A:∀a∈l,∀i,aK u 130 [.agg a,.agg (k5 (l.drop i))] (.agg (jU a (k5 (l.drop i))))){s2 s3:Nat}{Z:aB}(L:Z.length=7):∀(m c:Nat) (h:aI),m<c->m<=l.length->b4 h 0->da h->h.aj (0+2)= .box s2 Z->h.aj (0+3)= .box s3 (k5 (l.drop m))->
 ∃s d,du 0 2 3 4 c (AH u 0 (λg k j=>aW j.aj true 7 k λn=>aX 0 none 7 g n j λ_ p=>Cv 0 g p)) v (.bn (0+2) s2 0) (.bn (0+3) s3 0) (ao ((m:Int)-1)) h= .ok (.agg (k5 l)) 0 s d:=by
 intro m;induction m with
 |zero=>intro c h B q ub C r t;obtain⟨c,rfl⟩:=cN c;obtain⟨D,E⟩:=Ar l;rw[u7] at t;rw[fj];generalize du 0 2 3 4 c (AH u 0 (λg k j=>aW j.aj true 7 k λn=>aX 0 none 7 g n j λ_ p=>Cv 0 g p))=j4;rw[show(((0:Nat):Int)-1)= -1 from rfl];rw[AH,bF,ix,bk,a6,aH,be,dc,Cv,gh (gS r),be,bj,bm,av];exact b9
 |succ m G=>
  intro c h B q ub C r t;obtain⟨c,rfl⟩:=cN c;obtain rfl:v= .aQ 7 l:=y.elim id λe=>by rw[e] at q;simp at q
  obtain⟨D,E⟩:=Ar (l.drop (m+1));obtain⟨M,N⟩:=Ar (l.drop m);have H:l[m]? =some (l[m]'(by omega)):=dC _;have I:k5 (l.drop m)=jU (l[m]'(by omega)) (k5 (l.drop (m+1))):=by rw[iK (by omega),k5]
  have w:=A _ (CY (show m<l.length by omega)) (m+1);obtain⟨a1,a2⟩:=z _ (CY (show m<l.length by omega));rw[<-I] at w;generalize (l[m]'(by omega))=a at H w a1 a2;have x:=λh'=>G c h' (by omega) (by omega);have J:(((m+1:Nat):Int)-1)=(m:Int):=by omega
  rw[J,fj];generalize du 0 2 3 4 c (AH u 0 (λg k j=>aW j.aj true 7 k λn=>aX 0 none 7 g n j λ_ p=>Cv 0 g p))=j4 at x;rw[AH,bF,ix,bN,bL,aal,bZ,aV,aV,aN,bK,eE,ab9,aJ,aV,aN,ch,be,aJ,cH,aN,aH,be,aV,aV,aN,bm,bm,av,av,aT,cH,aN,hD,e1];exact x _ inferInstance inferInstance (gi r) (gS t)
theorem amG(c:dw 7 v l)(e:l.length<1000)(g:∀a∈l,a.length=7/\b8 a=true)(k:aK u 66 [] (.agg tu))(j:∀a∈l,∀i,aK u 130 [.agg a,.agg (k5 (l.drop i))] (.agg (jU a (k5 (l.drop i))))):∃s d,zA u [v] 0 .nil= .ok (.agg (k5 l)) 0 s d:=by
 have n:tu.length=7:=rfl;rw[zA,dK,OM,de,RT,aT,de,dc,c.len,bK,e1];refine aCJ ?_ e g j rfl _ _ _ (by omega) (cY _) inferInstance inferInstance (gi (gF (fE (h:=ba 0 .nil) (d:=2) (t:=54) (cs:=dx)))) ?_
 ·exact c.elim (λh=> .inr h.2) .inl
 ·rw[List.drop_length];exact gS (fE (h:=(ba 0 .nil).fz 0 2 54 _))
def lA(o:aB):Prop:=o∈kY\/∃x∈wZ,o=b5 x.1 x.2
theorem lA.aj(h:lA o):re o:=by
 rcases h with h|⟨x,a,rfl⟩
 ·exact .tt _ h
 ·exact .DW x a
theorem lA.eR(h:lA o):h0 0 1 o:=by
 rcases h with h|⟨x,a,rfl⟩
 ·exact .bh (o2 _ h)
 ·exact .bh (OY a)
theorem lA.ak{o:aB}(h:lA o):o.length=7/\b8 o=true:=h.eR.ak
theorem ZF:∀{l:aY},(∀a∈l,lA a)->∃c,h0 l.length c (k5 l)
 |[],_=>⟨1,.bh (o2 _ (by simp[kY,k5,tu]))⟩
 |a::l,h=>by obtain⟨c,e⟩:=ZF (l:=l) λx g=>h x (gv _ g);exact⟨_,.cons ((h a eS).eR.le (ik _)) e⟩
theorem ap0(e:l.length<=3)(h:∀a∈l,lA a):re (k5 l):=by
 match l,e,h with
 |[],_,_=>exact .tt _ (by simp[kY,k5,tu])
 |a::l,e,h=>
  obtain⟨c,g⟩:=ZF (l:=l) λx i=>h x (gv _ i);have:l.length<=2:=by simp at e;omega
  exact .im 2 _ _ _ _ (cY _) ((h a eS).eR.le (ik _)) (g.le this)
theorem Zk{a:aB}(c:lA a)(e:lA d):re (jU a d):= .im 0 _ _ _ _ (by omega) c.eR e.eR
end
end
section
variable{h:aI} {s4:Nat} {Z:aB} {R:an->Prop}
section
variable[Tok] {u:Fn} {b:Nat}
theorem au0:(rz:an)=ao 5:=by rw[cX];rfl
theorem ao6:(EP:an)=ao 7:=by rw[cX];rfl
theorem aeM:(n14:an)=ao 14:=by rw[cX];rfl
def Aw(r:an):Prop:=∃o,r= .agg o/\lA o
def xa(r:an):Prop:=∃o,r= .agg o/\re o
structure BU (u:Fn):Prop where
 ZY:aK u 66 [] (.agg tu)
 ala:aK u 87 [] (.agg (nt 4 0x6c697370 1 0x74))
 Nl:∀z:Int,z.natAbs<=4->aK u 60 [ao z] (.agg (b5 z 1))
 ayv:aK u 114 [.s 1 0x31,.s 1 0x32] (.agg (b5 1 2))
 ak0:aK u 114 [.s 2 0x2d35,.s 1 0x33] (.agg (b5 (-5) 3))
 rE:∀a c,aK u 28 [.s a c] (.agg [kl,.s a c])
 ats:∀a1 c1 a2 c2,aK u 127 [.agg [.s a1 c1,.s a2 c2]] (.agg (nt a1 c1 a2 c2))
 aEf:∀a c,aK u 128 [.s a c] (.agg (uV a c))
 adG:∀v l,dw 7 v l->l.length<=3->(∀a∈l,lA a)->aK u 129 [v] (.agg (k5 l))
 yD:∀a d,lA a->lA d->aK u 130 [.agg a,.agg d] (.agg (jU a d))
section
variable{BX:an} {N:Nat} {aET:b1} {q s:Nat}
theorem t63(k:Nat)(H:k<14:=by omega)(c d a:an)(h:aI):Gw u b c d a (ao k) h=
 if k=0 then bH u b none 66 [] [] h λe g=>aX b none 7 a e g λ_ j=>kN b a j
 else if k=1 then bH u b none 87 [] [] h λl n=>aX b none 7 a l n λ_ o=>kN b a o
 else if k<=3 then Hz u b c a h
 else if k=4 then bH u b none 114 [(.s 1 0x31),(.s 1 0x32)] [] h λp r=>aX b none 7 a p r λ_ t=>kN b a t
 else if k=5 then bH u b none 114 [(.s 2 0x2d35),(.s 1 0x33)] [] h λw x=>aX b none 7 a w x λ_ y=>kN b a y
 else if k=6 then Ot u b c a h
 else if k=7 then Ku u b c a h
 else if k=8 then bH u b none 60 [aL] [] h λz A=>aX b none 7 a z A λ_ B=>kN b a B
 else if k=9 then bH u b none 60 [aS] [] h λC D=>aX b none 7 a C D λ_ E=>kN b a E
 else if k<=12 then It u b c d a h
 else Ol u b c d a h:=by
 have G:∀k:Nat,ao (k:Int)= .V .i64 (18446744073709551616+k):=λk=>by rw[cX];congr 1;omega
 rw[G];have:k=0\/k=1\/k=2\/k=3\/k=4\/k=5\/k=6\/k=7\/k=8\/k=9\/k=10\/k=11\/k=12\/k=13:=by omega
 rcases this with rfl|rfl|rfl|rfl|rfl|rfl|rfl|rfl|rfl|rfl|rfl|rfl|rfl|rfl<;>rfl
theorem ad9{o:aB}(S:fu b aET q s BX N h)(d:h.aj (b+4)= .box s4 Z)(e:Z.length=7)(a:o.length=7/\b8 o=true)(c:R (.agg o)):ii (aX b none 7 (.bn (b+4) s4 0) (.agg o) h λ_ h'=>kN b (.bn (b+4) s4 0) h') b aET q s BX N R:=by
 haveI:=S.ay
 obtain⟨g,i⟩:=a;rw[dc,kN,gh,be,bj,bm];rw[av];exact qO S.eP c
theorem K1(d:BU u)(t:∀n:Int,1<=n/\n<=100->gN u 30 [ao n] BX N (pe n))(S:fu b aET q s BX N h)(e:h.aj (b+4)= .box s4 Z)(A:Z.length=7)(B:∀o,lA o->R (.agg o))(C:an){k:Nat}(G:k<10):ii (Gw u b (.bn q s 0) C (.bn (b+4) s4 0) (ao k) h) b aET q s BX N R:=by
 have g:∀{h':aI} {o:aB},fu b aET q s BX N h'->h'.aj (b+4)= .box s4 Z->lA o->ii (aX b none 7 (.bn (b+4) s4 0) (.agg o) h' λ_ h'=>kN b (.bn (b+4) s4 0) h') b aET q s BX N R:=λj o' x=>ad9 j o' A x.ak (B _ x);have L:∀{o:aB},o∈kY->lA o:=λh=> .inl h;have num:∀z:Int,(z,1)∈wZ->lA (b5 z 1):=λz D=> .inr ⟨_,D,rfl⟩;rw[t63 k];split
 ·rw[aT d.ZY];exact g S e (L (by simp[kY,tu]))
 split
 ·rw[aT d.ala];exact g S e (L (by simp[kY]))
 split
 ·rw[Hz,ao6];refine iv S (t 7 (by omega)) λr h' l j p=>?_;obtain⟨z,y,dx,rfl⟩:=l;rw[i2,e1,bg,b7,av,aT (d.Nl (z-3) (by omega))];have:z=0\/z=1\/z=2\/z=3\/z=4\/z=5\/z=6:=by omega
  exact g j ((p 4).trans e) (num _ (by rcases this with rfl|rfl|rfl|rfl|rfl|rfl|rfl<;>decide))
 split
 ·rw[aT d.ayv];exact g S e (.inr ⟨(1,2),by decide,rfl⟩)
 split
 ·rw[aT d.ak0];exact g S e (.inr ⟨(-5,3),by decide,rfl⟩)
 split
 ·rw[Ot,i2];refine iv S (t 3 (by omega)) λr h' l j p=>?_;obtain⟨z,y,dx,rfl⟩:=l;have:z=0\/z=1\/z=2:=by omega
  obtain⟨i,hi,w⟩:∃i:Nat,nt 4 0x75736572 1 i∈kY/\∀f:an->aw,(kw (.s 3 0x616263) (some (ao z)) none λE=>kw E none (some aS) f)=f (.s 1 i):=by
   rcases this with rfl|rfl|rfl
   ·exact⟨0x61,by simp[kY],λf=>by rw[cX];rfl⟩
   ·exact⟨0x62,by simp[kY],λf=>by rw[cX];rfl⟩
   ·exact⟨0x63,by simp[kY],λf=>by rw[cX];rfl⟩
  rw[w,bg,DQ,av,aT (d.rE _ _),bg,bm,av,kl,aT (d.ats _ _ _ _)];exact g j ((p 4).trans e) (L hi)
 split
 ·rw[Ku,i2];refine iv S (t 3 (by omega)) λr h' l j p=>?_;obtain⟨z,y,dx,rfl⟩:=l;have:z=0\/z=1\/z=2:=by omega
  obtain⟨a,c,hi,w⟩:∃a c:Nat,uV a c∈kY/\∀f:an->aw,kw (.s 2 0x7071) none (some (ao z)) f=f (.s a c):=by
   rcases this with rfl|rfl|rfl
   ·exact⟨0,0,by simp[kY],λf=>by rw[cX];rfl⟩
   ·exact⟨1,0x70,by simp[kY],λf=>by rw[cX];rfl⟩
   ·exact⟨2,0x7071,by simp[kY],λf=>by rw[cX];rfl⟩
  rw[w,bg,DQ,av,aT (d.aEf _ _)];exact g j ((p 4).trans e) (L hi)
 split
 ·rw[bF,aT (d.Nl 0 (by omega))];exact g S e (num _ (by decide))
 ·rw[fS,bK,aT (d.Nl 1 (by omega))];exact g S e (num _ (by decide))
theorem awi(d:BU u)(a:∀n:Int,1<=n/\n<=100->gN u 30 [ao n] BX N (pe n))(i:oi BX N){z:Nat}(j:q<b)(l:q%4096<2048)(p:z<=N)(t:cE b aET q= .box s [BX,ao z]):ii (uq u [.bn q s 0,ao 0] b aET) b aET q s BX N Aw:=by
 have S:=fu.start j l p t i
 haveI:=S.ay
 rw[uq,dE,Pm,de];rw[aeM];refine iv S.fz (a 14 (by omega)) λr h' w e x=>?_;obtain⟨z,y,dx,rfl⟩:=w;have g:=(x 4).trans fE;by_cases A:9<z
 ·rw[bK,bO,bN,fi,Fu,hH,EC,dR,bN,bL,AK,e1];have:=K1 d a e g rfl (R:=Aw) (λo c=>⟨o,rfl,c⟩) (ao 0) (k:=(z-8).toNat) (by omega);rw[show(((z-8).toNat:Nat):Int)=z-8 by omega] at this;exact this
 ·rw[bK,bO,bN,fi,Fu,hH,EC,dR,bk,a6];have:=K1 d a e g rfl (R:=Aw) (λo c=>⟨o,rfl,c⟩) (ao 0) (k:=z.toNat) (by omega);rw[show((z.toNat:Nat):Int)=z by omega] at this;exact this
end
end
end
section
variable{d e sz:Nat} {h:aI} {x:an} {es:aY}
section
variable[Tok] {u:Fn} {b:Nat}
def pd(b d e sz:Nat)(h:aI)(x:an)(es:aY):Prop:=(x= .aE/\es=[])\/∃s,x= .az (b+d) s 0 es.length/\h.aj (b+d)= .az s e sz es false
theorem pd.aj{h':aI}(H:pd b d e sz h x es)(a:h'.aj (b+d)=h.aj (b+d)):pd b d e sz h' x es:=by
 rcases H with H|⟨s,c,g⟩
 ·exact .inl H
 ·exact .inr ⟨s,c,a.trans g⟩
theorem pd.kS{bytes:Nat}[b4 h b]{y:an}{r:aB}(H:pd b d e sz h x es)(a:∀f:aY->aw,ke h.aj sz y f=f [r])(i:es.length<1000)(j:bytes<1000)(c:d<4096:=by decide):
 ∃s,∀k:dg,eC b d none e sz bytes x y false h k=k (.az (b+d) s 0 (es++[r]).length) (h.ow b d s e sz (es++[r]) false):=by
 have l:(es.length+1)*bytes<=1000*1000:=s5 (by omega) (by omega);rcases H with⟨rfl,rfl⟩|⟨s,rfl,g⟩
 ·exact⟨_,λk=>ak5 a (by simp) (λo=>gs b _) (by simp;omega) (by simp) k c⟩
 ·refine⟨Nat.add s 1,λk=>?_⟩;rw[Gm (d:=d) g a rfl (λo=>gs b _) (by simp;omega) (by simp;omega) k c,lh]
theorem pd.dU(H:pd b d e sz h x es):∃v,dw sz v es/\∀f:an->eH->aw,aD h.aj x f=f v []:=by
 rcases H with⟨rfl,rfl⟩|⟨s,rfl,a⟩
 ·exact⟨.aE,.inl ⟨rfl,rfl⟩,λf=>yg _ f⟩
 ·exact⟨_,.inr rfl,λf=>gX a rfl f⟩
theorem pd.new{s:Nat}[b4 h b](a:d<4096:=by decide):pd b d e sz (h.ow b d s e sz es false) (.az (b+d) s 0 es.length) es:= .inr ⟨s,rfl,pi a⟩
section
variable{BX:an} {N:Nat} {aET:b1} {q s:Nat}
theorem ap9(w:BU u)(z:gN u 63 [ao 0] BX N Aw){s4:Nat}{Z:aB}(A:Z.length=7){cc:Nat}(P:cc<=3):∀(m i c:Nat) (h:aI) (x:an) (es:aY),m+i=cc->m<c->fu b aET q s BX N h->h.aj (b+4)= .box s4 Z->pd b 2125 54 7 h x es->es.length=i->(∀a∈es,lA a)->
 ii (ih 0 1 4 6 7 8 c (Ac u b (C1 u b)) (.bn q s 0) (ao 1) (.bn (b+4) s4 0) x (ao cc) (ao i) h) b aET q s BX N xa:=by
 intro m;induction m with
 |zero=>intro i c h x es B C S j L l g;obtain⟨c,rfl⟩:=cN c;obtain⟨v,D,E⟩:=L.dU;have Q:=w.adG v es D (by omega) g;rw[mb];generalize ih 0 1 4 6 7 8 c (Ac u b (C1 u b))=j6;rw[Ac,bO,bk,a6,C1,bg,E,av,aT];exact ad9 S j A (Ar es) ⟨_,rfl,ap0 (by omega) g⟩
 |succ m G=>
  intro i c h x es B C S j L l g;obtain⟨c,rfl⟩:=cN c
  haveI:=S.ay
  have H:((i+1:Nat):Int)=(i:Int)+1:=by omega
  have k:=λh' I aEK=>G (i+1) c h' I aEK (by omega) (by omega);rw[H] at k;rw[mb];generalize ih 0 1 4 6 7 8 c (Ac u b (C1 u b))=j6 at k;rw[Ac,bO,bN,bL,Uv,bK,e1,b7];refine iv S z λr h' J n p=>?_;obtain⟨o,rfl,t⟩:=J
  haveI:=n.ay
  obtain⟨R,T⟩:=t.ak;have K:=(L.aj (p 2125)).aj (h':=h'.fm b 2124 54 7 [o] false) (ga rfl);obtain⟨W,M⟩:=K.kS (bytes:=112) (y:= .az (b+2124) (ri h' b 2124) 0 1) (r:=o) (λf=>LL i9 (by rfl) f) (by omega) (by omega);rw[hX,av,gW,M,cK];exact k _ _ _ (n.fm.ow) (l5 (ga ((p 4).trans j))) pd.new (by simp[l]) λa O=>(fr.1 O).elim (g a) λh=>by simp at h;rw[h];exact t
theorem aoS(p:BU u)(t:∀n:Int,1<=n/\n<=100->gN u 30 [ao n] BX N (pe n))(w:gN u 63 [ao 0] BX N Aw)(E:oi BX N){z:Nat}(G:q<b)(H:q%4096<2048)(B:z<=N)(I:cE b aET q= .box s [BX,ao z]):ii (uq u [.bn q s 0,ao 1] b aET) b aET q s BX N xa:=by
 have S:=fu.start G H B I E
 haveI:=S.ay
 rw[uq,dE,Pm,de];rw[aeM];refine iv S.fz (t 14 (by omega)) λr h' g j J=>?_;obtain⟨z,P,dx,rfl⟩:=g
 haveI:=j.ay
 have y:=(J 4).trans fE;obtain⟨z,rfl⟩:∃n:Nat,z=n:=⟨z.toNat,by omega⟩;rw[bK,bO,bk,iE,EC,dO,fQ,a6];by_cases K:z<10
 ·exact K1 p t j y rfl (R:=xa) (λo i=>⟨o,rfl,i.aj⟩) (ao 1) K
 ·rw[t63 z,cz,cz,cz,cz,cz,cz,cz,cz,cz];split
  ·rw[It,p7];refine iv j (t 4 (by omega)) λr C g k A=>?_;obtain⟨c,c0,Q,rfl⟩:=g;obtain⟨cc,rfl⟩:∃n:Nat,c=n:=⟨c.toNat,by omega⟩;rw[bF,show(0:Int)=((0:Nat):Int) from rfl];exact ap9 p w (s4:=qk (ba b aET) b 4 54) rfl (cc:=cc) (by omega) cc 0 1000000 C .aE [] (by omega) (by omega) k ((A 4).trans y) (.inl ⟨rfl,rfl⟩) rfl (λa L=>by simp at L)
  ·rw[Ol,bK,e1,b7];refine iv j w λr C g k A=>?_;obtain⟨o,rfl,i⟩:=g
   haveI:=k.ay
   obtain⟨T,W⟩:=i.ak;rw[de,dc,VR,aJ,cH,aN,aH,be,bK,e1,b7];refine He (k.fz.eP) w λr B g D M=>?_;obtain⟨d,rfl,l⟩:=g
   haveI:=D.ay
   obtain⟨d1,d2⟩:=l.ak;have X:=p.yD o d i l;have Z:(jU o d).length=7:=(Ar [o]).1.trans rfl;have a1:b8 (jU o d)=true:=by obtain⟨n,c,_,O⟩:=(Zk i l).aj;exact O.ak.2
   have a2:=(M 4).trans (gi (gF ((A 4).trans y)));rw[aV,aV,aN,bm,bm,av,av,aT,cH,aN,hD,kN,gh,be,bj,bm];rw[av];exact qO D.eP ⟨_,rfl,Zk i l⟩
end
end
end
section
variable{t Z:aB} {s6 s8 z:Nat} {hd:Nat×Nat×Nat×Nat×Nat} {h:aI} {R:an->Prop}
section
variable[Tok] {u:Fn} {b:Nat}
def Lp:List (Nat×Nat):=[(3,0x636172),(3,0x636472),(4,0x636f6e73),(5,0x636f6e7370),(3,0x6e6f74),(5,0x657175616c),(2,0x6966),(8,0x62696e6172792d2b),(1,0x3c),(8,0x696e746567657270),(3,0x6c656e),(13,0x62696e6172792d617070656e64),(3,0x726576),(10,0x747275652d6c69737470),(4,0x6e617470),(4,0x706f7370),(7,0x756e6172792d2d),(8,0x62696e6172792d2a),(7,0x696d706c696573),(7,0x73796d626f6c70),(9,0x726174696f6e616c70),(3,0x666978),(3,0x696666),(4,0x6e666978),(2,0x7a70)]
def Lx:List (Nat×Nat):=[(3,0x647562),(8,0x73616d652d6c656e),(5,0x7061697273),(4,0x64756273),(4,0x74726565),(5,0x6576656e73),(4,0x6f646473),(4,0x786f7232)]
def E2(x:Nat×Nat):aB:=[.s x.1 x.2]
theorem afi:(Lp.all λx=>(iu++i1++lS).any λh=>h.1==4&&(h.2.1==0x6c697370&&(h.2.2.1==x.1&&h.2.2.2.1==x.2)))=true:=by decide+kernel
theorem afb:(Lx.all λx=>(iu++i1++lS).any λh=>h.1==4&&(h.2.1==0x75736572&&(h.2.2.1==x.1&&h.2.2.2.1==x.2)))=true:=by decide+kernel
theorem V4{L:List (Nat×Nat)}{c0:Nat}(H:(L.all λx=>(iu++i1++lS).any λh=>h.1==4&&(h.2.1==c0&&(h.2.2.1==x.1&&h.2.2.2.1==x.2)))=true){i:Nat}(hi:i<L.length):∃a c,(L.map E2)[i]? =some [.s a c]/\∃h∈iu++i1++lS,([.s h.1 h.2.1,.s h.2.2.1 h.2.2.2.1]:aB)=[.s 4 c0,.s a c]:=by have d:=jl.1 H _ (CY hi);obtain⟨h,g,e⟩:=vc.1 d;simp only[cg,w6] at e;refine⟨(L[i]'hi).1,(L[i]'hi).2,by rw[fo,dC hi];rfl,h,g,?_⟩;rw[e.1,e.2.1,e.2.2.1,e.2.2.2]
def v6(r:an):Prop:=∃t,r= .agg t/\je t
def yV(r:an):Prop:=∃t,r= .agg t/\qw t
theorem je.ak(h:je t):cq t:=(h.ge 0).t11
structure A4 (u:Fn) (w:an):Prop where
 N9:q0 u 59
 Sq:aK u 150 [] (.aQ 1 (Lp.map E2))
 UD:aK u 151 [] (.aQ 1 (Lx.map E2))
 aa0:∀a c,aK u 152 [.s a c] (.agg [bP,.s a c])
 rE:∀a c,aK u 28 [.s a c] (.agg [kl,.s a c])
 CC:∀h∈iu++i1++lS,aK u 153 [w,.agg [.s h.1 h.2.1,.s h.2.2.1 h.2.2.2.1]] (.a0 [ao h.2.2.2.2,.F true])
 W0:∀a1 c1 a2 c2 l,aK u 81 [.agg [.s a1 c1,.s a2 c2],.aQ 11 l] (.agg (bU (.s a1 c1) (.s a2 c2) l))
 bJ:∃n l,w= .aQ n l
section
variable{w:an} {BX:an} {N:Nat} {aET:b1} {q s:Nat}
theorem afB(l:A4 u w)(E:gN u 96 [w,ao 0] BX N v6)(a1:Z.length=11)(n:hd∈iu++i1++lS):∀(m i c:Nat) (h:aI) (x:an) (es:aY),m+i=hd.2.2.2.2->m<c->fu b aET q s BX N h->h.aj (b+6)= .box s6 Z->h.aj (b+8)= .box s8 [.s hd.1 hd.2.1,.s hd.2.2.1 hd.2.2.2.1]->pd b 2123 56 11 h x es->es.length=i->(∀t∈es,je t)->
 ii (yJ 0 1 2 6 8 11 13 14 c (zy u b (EO u b)) (.bn q s 0) w (ao 1) (.bn (b+6) s6 0) (.bn (b+8) s8 0) (ao hd.2.2.2.2) x (ao i) h) b aET q s BX N yV:=by
 have g:=cB JG n;rw[cg] at g;have a2:=dp g.1;have a3:=dp g.2;obtain⟨a4,a5,o⟩:=l.bJ;intro m;induction m with
 |zero=>
  intro i c h x es G H S p A L d j;obtain⟨c,rfl⟩:=cN c
  haveI:=S.ay
  obtain⟨v,I,J⟩:=L.dU;obtain rfl:v= .aQ 11 es:=I.elim (λh=>by rw[h.2] at d;simp at d;omega) id;have bs:=l.W0 hd.1 hd.2.1 hd.2.2.1 hd.2.2.2.1 es;obtain⟨t1,t2⟩:=Rt hd es;rw[cO] at t1 t2;rw[X3];generalize yJ 0 1 2 6 8 11 13 14 c (zy u b (EO u b))=K;rw[zy,bO,bk,a6,EO,aH,be,ce,bm,J,av,av,aT,dc,yx,gh,be,bj,bm];rw[av];exact qO S.eP ⟨_,rfl,.kS hd es n ⟨by omega,j⟩⟩
 |succ m M=>
  intro i c h x es G H S p A L d j;obtain⟨c,rfl⟩:=cN c
  haveI:=S.ay
  have O:((i+1:Nat):Int)=(i:Int)+1:=by omega
  have e:=λh' P aEK=>M (i+1) c h' P aEK (by omega) (by omega);have B:=E;rw[o] at e B;rw[O] at e;rw[X3,o];generalize yJ 0 1 2 6 8 11 13 14 c (zy u b (EO u b))=K at e;rw[zy,bO,bN,bL,X6,bK,e1,mg,b7];refine iv S B λr h' Q C k=>?_;obtain⟨t,rfl,D⟩:=Q
  haveI:=C.ay
  obtain⟨bx,cc⟩:=D.ak;have T:=(L.aj (k 2123)).aj (h':=h'.fm b 2122 56 11 [t] false) (ga rfl);obtain⟨s',W⟩:=T.kS (bytes:=176) (y:= .az (b+2122) (ri h' b 2122) 0 1) (r:=t) (λf=>LL i9 (by rfl) f) (by omega) (by omega);rw[hX,av,gW,W,cK];exact e _ _ _ (C.fm.ow) (l5 (ga ((k 6).trans p))) (l5 (ga ((k 8).trans A))) pd.new (by simp[d]) λa X=>(fr.1 X).elim (j a) λh=>by simp at h;rw[h];exact D
theorem aeb(a:A4 u w)(i:gN u 96 [w,ao 0] BX N v6)(S:fu b aET q s BX N h)(j:Z.length=11)(c:hd∈iu++i1++lS)(k:h.aj (b+6)= .box s6 Z)(l:h.aj (b+8)= .box s8 [.s hd.1 hd.2.1,.s hd.2.2.1 hd.2.2.2.1]):
 ii (J0 u b (.bn q s 0) w (ao 1) (.bn (b+6) s6 0) (.bn (b+8) s8 0) h) b aET q s BX N yV:=by
 obtain⟨p,r,d⟩:=a.bJ;have n:=a.CC hd c;have e:=afB a i j c hd.2.2.2.2 0 1000000 h .aE [] (by omega) (by have g:=cB JG c;rw[cg] at g;have:=dp g.2;omega) S k l (.inl ⟨rfl,rfl⟩) rfl (λt o=>by simp at o);rw[d] at n e;rw[d];have x:ao hd.2.2.2.2≠ .undef:=by rw[cX];simp
 have y:an.F true≠ .undef:=by simp
 rw[J0,aH,be,ce,mg,bm,av,av,aT,e2 _ _,e3 _ _];rw[bF,show(0:Int)=((0:Nat):Int) from rfl];exact e
theorem Ty(S:fu b aET q s BX N h)(d:h.aj (b+6)= .box s6 Z)(e:Z.length=11)(a:cq t)(c:R (.agg t)):ii (aX b none 11 (.bn (b+6) s6 0) (.agg t) h λ_ h'=>yx b (.bn (b+6) s6 0) h') b aET q s BX N R:=by
 haveI:=S.ay
 obtain⟨g,i⟩:=a;rw[dc,yx,gh,be,bj,bm];rw[av];exact qO S.eP c
theorem ML(y:A4 u w)(A:gN u 33 [] BX N tT)(B:gN u 63 [ao 1] BX N xa)(S:fu b aET q s BX N h)(j:h.aj (b+6)= .box s6 Z)(l:Z.length=11)(x:∀t,je t->R (.agg t))(C:an){k:Nat}(H:k<4):ii (AJ u b (.bn q s 0) w C (.bn (b+6) s6 0) (ao k) h) b aET q s BX N R:=by
 haveI:=S.ay
 by_cases I:k<3
 ·rw[AJ,i2,bO,bN,bL];refine iv S A λr h' a d e=>?_;obtain⟨i,hi,rfl⟩:=a;exact Ty d ((e 6).trans j) l (je.ij i hi).ak (x _ (.ij i hi))
 ·rw[AJ,i2,bO,bk,a6,PY,i2,dj,bN,bL,adb];rw[bK];refine iv S B λr h' a d e=>?_;obtain⟨o,rfl,g⟩:=a;obtain⟨n,c,_,D⟩:=g.aj;obtain⟨E,G⟩:=D.ak;have J:=y.N9 o E G;rw[bg,bm,av,aT];exact Ty d ((e 6).trans j) l (je.iW o g).ak (x _ (.iW o g))
theorem aje(c:A4 u w)(j:∀n:Int,1<=n/\n<=100->gN u 30 [ao n] BX N (pe n))(d:gN u 33 [] BX N tT)(e:gN u 63 [ao 1] BX N xa)(l:oi BX N)(o:q<b)(p:q%4096<2048)(x:z<=N)(y:cE b aET q= .box s [BX,ao z]):ii (uz u [.bn q s 0,w,ao 0] b aET) b aET q s BX N v6:=by
 have S:=fu.start o p x y l
 haveI:=S.ay
 rw[uz,vE,KM,de];rw[xf];refine iv S.fz (j 12 (by omega)) λr h' A g B=>?_;obtain⟨k,D,E,rfl⟩:=A;have i:=(B 6).trans fE;obtain⟨k,rfl⟩:∃n:Nat,k=n:=⟨k.toNat,by omega⟩;by_cases C:(3:Int)<(k:Int)
 ·rw[bK,i2,bO,bN,fi,hH,BE,dm C,dR,bL,p7,aeo];rw[show((k:Int) %4)=((k%4:Nat):Int) by omega];exact ML c d e g i rfl (R:=v6) (λt a=>⟨t,rfl,a⟩) (ao 0) (by omega)
 ·rw[bK,i2,bO,bN,fi,hH,BE,dR,bk,a6];exact ML c d e g i rfl (R:=v6) (λt a=>⟨t,rfl,a⟩) (ao 0) (by omega)
theorem al5(d:A4 u w)(x:∀n:Int,1<=n/\n<=100->gN u 30 [ao n] BX N (pe n))(K:gN u 33 [] BX N tT)(L:gN u 63 [ao 1] BX N xa)(E:gN u 96 [w,ao 0] BX N v6)(M:oi BX N)(O:q<b)(P:q%4096<2048)(y:z<=N)(Q:cE b aET q= .box s [BX,ao z]):ii (uz u [.bn q s 0,w,ao 1] b aET) b aET q s BX N yV:=by
 have S:=fu.start O P y Q M
 haveI:=S.ay
 rw[uz,vE,KM,de];rw[xf];refine iv S.fz (x 12 (by omega)) λr h' l A T=>?_;obtain⟨k,k0,a2,rfl⟩:=l;have G:=(T 6).trans fE;obtain⟨k,rfl⟩:∃n:Nat,k=n:=⟨k.toNat,by omega⟩
 haveI:=A.ay
 rw[bK,i2,bO,bk,iE,BE,dO,fQ,a6];by_cases W:k<4
 ·exact ML d K L A G rfl (R:=yV) (λt X=>⟨t,rfl,.t0 t X⟩) (ao 1) W
 ·have a3:=d.Sq;have a4:=d.UD;rw[AJ,i2,bO,bk,a6,PY,i2,dj,bk,a6,RV,de,aT,aT];rw[p7];refine iv A.fz (x 4 (by omega)) λr a5 l B H=>?_;obtain⟨c,c0,c4,rfl⟩:=l
  haveI:=B.ay
  have I:=(H 6).trans (gF G);have J:=(H 8).trans fE;by_cases hc:c<3
  ·rw[i2,bO,bN,bL,aei,eA,b7];refine iv B (x 25 (by omega)) λr y l o p=>?_;obtain⟨j,j0,a1,rfl⟩:=l
   haveI:=o.ay
   obtain⟨j,rfl⟩:∃n:Nat,j=n:=⟨j.toNat,by omega⟩;obtain⟨a,c,g,hd,C,e⟩:=V4 afi (i:=j) (show j<25 by omega);have bs:=d.aa0 a c;have D:=(p 8).trans J;have eO:([.s a c]:aB)[0]? =some (.s a c):=rfl;rw[eE,ch,bc,bg,DQ,av,aT,dc];refine aeb d E o.eP rfl C (gi ((p 6).trans I)) ?_;rw[e];exact gS D
  ·rw[i2,bO,bk,a6,VA,eA,b7];refine iv B (x 8 (by omega)) λr y l o p=>?_;obtain⟨j,j0,a1,rfl⟩:=l
   haveI:=o.ay
   obtain⟨j,rfl⟩:∃n:Nat,j=n:=⟨j.toNat,by omega⟩;obtain⟨a,c,g,hd,C,e⟩:=V4 afb (i:=j) (show j<8 by omega);have bx:=d.rE a c;have D:=(p 8).trans J;have eO:([.s a c]:aB)[0]? =some (.s a c):=rfl;rw[eE,ch,bc,bg,DQ,av,aT,dc];refine aeb d E o.eP rfl C (gi ((p 6).trans I)) ?_;rw[e];exact gS D
end
end
end
section
variable[Tok] {u:Fn} {b:Nat}
def Lq(r:an):Prop:=∃t,r= .agg t/\Lit t
theorem VU(u:Fn)(a c d:an)(b:Nat)(aET:b1):yE u [a,c,d] b aET=Nu u b c d a (ba b aET):=rfl
section
variable{w:an} {BX:an} {N:Nat} {aET:b1} {q s:Nat}
theorem t32(k:Nat)(y:k<8)(d a g h e:an)(c:aI):(bY (ao k) aL λr=>aP r ((aP r (Ay u b d a c) (Hu u b (λj p l=>aW l.aj true 11 p λn=>aX b none 11 j n l λ_ o=>nL b j o) (ao k) d g h e a c))) (bY (ao k) aS λt=>(aP t (Ay u b d a c) (Hu u b (λj p l=>aW l.aj true 11 p λn=>aX b none 11 j n l λ_ o=>nL b j o) (ao k) d g h e a c))))=
 if k<=1 then Ay u b d a c
 else if k=2 then LI u b d g h e a c
 else if k=3 then KX u b e a c
 else if k=4 then Ml u b d g h e a c
 else if k=5 then OQ u b e g h a c
 else aW c.aj true 11 d λn=>aX b none 11 a n c λ_ o=>nL b a o:=by
 have x:∀k:Nat,ao (k:Int)= .V .i64 (18446744073709551616+k):=λk=>by rw[cX];congr 1;omega
 rw[x];have:k=0\/k=1\/k=2\/k=3\/k=4\/k=5\/k=6\/k=7:=by omega
 rcases this with rfl|rfl|rfl|rfl|rfl|rfl|rfl|rfl<;>rfl
theorem Oz{h:aI}{a p n:Nat}{Z:aB}{l:aY}{R:an->Prop}(S:fu b aET q s BX N h)(d:h.aj (b+6)= .box a Z)(e:Z.length=11)(c:R (.agg (bU bP (.s p n) l))):ii (aX b none 11 (.bn (b+6) a 0) (.agg (bU bP (.s p n) l)) h λ_ h'=>nL b (.bn (b+6) a 0) h') b aET q s BX N R:=by
 haveI:=S.ay
 have g:(bU bP (.s p n) l).length=11:=rfl;have i:b8 (bU bP (.s p n) l)=true:=rfl;rw[dc,nL,gh,be,bj,bm];rw[av];exact qO S.eP c
theorem afD(g:∀a c l,aK u 22 [.s a c,.aQ 11 l] (.agg (bU bP (.s a c) l)))(Q:∃n l,w= .aQ n l)(R:∀n:Int,1<=n/\n<=100->gN u 30 [ao n] BX N (pe n))(H:gN u 33 [] BX N tT)(D:gN u 96 [w,ao 0] BX N v6)(T:gN u 96 [w,ao 1] BX N yV)(W:oi BX N){z:Nat}(X:q<b)(Z:q%4096<2048)(x:z<=N)(I:cE b aET q= .box s [BX,ao z]):ii (yE u [.bn q s 0,w,ao 1] b aET) b aET q s BX N Lq:=by
 have S:=fu.start X Z x I W
 haveI:=S.ay
 obtain⟨bx,cc,a1⟩:=Q;subst a1;rw[yE,vE,Nu,de,mg,b7];refine iv S.fz T λr h' d J a2=>?_;obtain⟨t,rfl,h⟩:=d
 haveI:=J.ay
 obtain⟨t1,t2⟩:=(h.ge 0).t11;have a3:=(a2 6).trans fE;rw[de,dc,abZ];rw[AK];refine iv (J.fz.eP) (R 8 (by omega)) λr cl d o K=>?_;obtain⟨k,k0,cn,rfl⟩:=d
 haveI:=o.ay
 have A:=(K 6).trans (gi (gF a3));have cp:=(K 7).trans (gS fE);obtain⟨k,rfl⟩:∃n:Nat,k=n:=⟨k.toNat,by omega⟩;rw[t32 k (by omega)];split
 ·have C:=g 3 0x6e6f74 [t];rw[Ay,aH,be,hX,av,gW,gX,av,aT];exact Oz o.fm (ga A) rfl ⟨_,rfl,.iR t h⟩
 split
 ·rw[LI,aJ,cH,aN,aH,be,bK,e1,mg,b7];refine He o D λr x d e p=>?_;obtain⟨y,rfl,j⟩:=d
  haveI:=e.ay
  obtain⟨L,M⟩:=j.ak;have C:=g 5 0x657175616c [t,y];have O:=g 3 0x6e6f74 [bU bP iB [t,y]];have E:(bU bP iB [t,y]).length=11:=rfl;have G:b8 (bU bP iB [t,y])=true:=rfl;have cs:(bU bP fe [bU bP iB [t,y]]).length=11:=rfl;have c0:b8 (bU bP fe [bU bP iB [t,y]])=true:=rfl;have B:=(p 6).trans A;rw[aV,aV,aN,lb,lw,av,av,n5,R0,hO,aN,gX,av,aT,aV,aN,hX,av,n5,hO,aN,gX,av,aT,cH,aN,hD,nL,gh,be,bj,bm];rw[av];exact qO (e.fm.fm.eP) ⟨_,rfl,.nH t y h j⟩
 split
 ·rw[KX];refine iv o H λr x d e p=>?_;obtain⟨i,hi,rfl⟩:=d
  haveI:=e.ay
  have C:=g 5 0x636f6e7370 [dW i];have O:=g 3 0x6e6f74 [bU bP (.s 5 0x636f6e7370) [dW i]];have a4:(dW i).length=11:=rfl;have a5:b8 (dW i)=true:=rfl;have E:(bU bP (.s 5 0x636f6e7370) [dW i]).length=11:=rfl;have G:b8 (bU bP (.s 5 0x636f6e7370) [dW i])=true:=rfl;have B:=(p 6).trans A;rw[hX,av,gW,gX,av,aT,hX,av,gW,gX,av,aT];exact Oz e.fm.fm (ga (ga B)) rfl ⟨_,rfl,.iR _ (.kS (4,0x6c697370,5,0x636f6e7370,1) [dW i] (by simp[iu]) ⟨rfl,λt h=>by simp at h;rw[h];exact .ij i hi⟩)⟩
 split
 ·rw[Ml,aJ,cH,aN,aH,be,bK,e1,UQ,mg,b7];refine He o D λr x d e p=>?_;obtain⟨y,rfl,j⟩:=d
  haveI:=e.ay
  obtain⟨L,M⟩:=j.ak;have C:=g 5 0x657175616c [t,y];have E:(bU bP iB [t,y]).length=11:=rfl;have G:b8 (bU bP iB [t,y])=true:=rfl;have B:=(p 6).trans A;rw[aV,aV,aN,lb,lw,av,av,n5,hO,aN,gX,av,aT,cH,aN,hD,nL,gh,be,bj,bm];rw[av];exact qO (e.fm.eP) ⟨_,rfl,.eq t y h j⟩
 split
 ·rw[OQ];refine iv o H λr x d e p=>?_;obtain⟨i,hi,rfl⟩:=d
  haveI:=e.ay
  rw[bK,e1,mg,b7];refine iv e D λr I d P bs=>?_;obtain⟨y,rfl,j⟩:=d
  haveI:=P.ay
  obtain⟨L,M⟩:=j.ak;have C:=g 1 0x3c [dW i,y];have O:=g 3 0x6e6f74 [bU bP eu [dW i,y]];have a4:(dW i).length=11:=rfl;have a5:b8 (dW i)=true:=rfl;have E:(bU bP eu [dW i,y]).length=11:=rfl;have G:b8 (bU bP eu [dW i,y])=true:=rfl;have B:=(bs 6).trans ((p 6).trans A);rw[Rk,lb,lw,av,av,gW,gX,av,aT,hX,av,gW,gX,av,aT];exact Oz P.fm.fm (ga (ga B)) rfl ⟨_,rfl,.aE _ y (.ij i hi) j⟩
 ·rw[aH,be,dc,nL,gh,be,bj,bm];rw[av];exact qO (o.eP) ⟨_,rfl,.Me t h⟩
end
end
section
variable{cc:Nat}
section
variable[Tok] {u:Fn} {b:Nat}
def Dh(r:an):Prop:=∃cl,r= .aQ 11 cl/\cl.length<=5/\∀t∈cl,Lit t
theorem zI(u:Fn)(a c d:an)(b:Nat)(aET:b1):At u [a,c,d] b aET=Rc u b d a c (ba b aET):=rfl
section
variable{w:an} {BX:an} {N:Nat} {aET:b1} {q s:Nat}
theorem t9(k:Nat)(P:k<8)(c:kb)(d e g h j n o l:an)(a:aI):(bY (ao k) aL λp=>aP p ((aP p (zT u b (nO u b c) l d e g h j a) (Gj u b (nO u b c) (ao k) n o l d e g h j a))) (Rj u b (λr t x y z C D A E G B=>aP G (zT u b (nO u b c) A r t x y z B) (Gj u b (nO u b c) E C D A r t x y z B)) (ao k) d e g h j n o l a))=
 if k<=2 then zT u b (nO u b c) l d e g h j a
 else if k=3 then aW a.aj true 11 n λH=>aW a.aj true 11 o λI=>Od u b (nO u b c) H I l d e g h j a
 else if k=4 then PO u b (nO u b c) e d l g h j a
 else if k=5 then bH u b none 23 [aL] [] a λJ K=>dd u b 33 [d] [] K λL M=>LK u b (nO u b c) J L l d e g h j M
 else nO u b c d e g h j l a:=by
 have O:∀k:Nat,ao (k:Int)= .V .i64 (18446744073709551616+k):=λk=>by rw[cX];congr 1;omega
 rw[O];have:k=0\/k=1\/k=2\/k=3\/k=4\/k=5\/k=6\/k=7:=by omega
 rcases this with rfl|rfl|rfl|rfl|rfl|rfl|rfl|rfl<;>rfl
def P7(u:Fn):Prop:=∀x I t,dw 11 x I->I.length<=5->(∀t∈I,Lit t)->Lit t->∃a,aK u 34 [x,.aQ 11 [t]] (.aQ 11 a)/\(a=I\/a=I++[t])
structure F8 (i:Nat) (x:an) (I:aY):Prop where
 v:dw 11 x I
 aa:I.length<=i
 ab:0<i->x= .aQ 11 I
 t:∀t∈I,Lit t
theorem apT(n:P7 u){h:aI}{g i:Nat}{t:aB}{x:an}{I:aY}(S:fu b aET q s BX N h)(y:h.aj (b+12)= .box g t)(d:Lit t)(c:F8 i x I)(hi:i<5){j:kb}{R:an->Prop}
 (o:∀h' k e,fu b aET q s BX N h'->F8 (i+1) k e->ii (j (.bn q s 0) w k (ao cc) (ao i) h') b aET q s BX N R):ii (nO u b j (.bn q s 0) w x (ao cc) (ao i) (.bn (b+12) g 0) h) b aET q s BX N R:=by
 haveI:=S.ay
 obtain⟨t1,t2⟩:=d.ge.t11;obtain⟨e,z,l⟩:=n x I t c.v (by have:=c.aa;omega) c.t d;have p:∀ob (f:jm),aD ob x f=f x []:=λob f=>by rcases c.v with⟨rfl,_⟩|rfl<;>rfl
 have A:=c.aa;rw[nO,aH,be,hX,av,gW,ce,p,gX,av,av,aT];refine o _ _ e S.fm ⟨.inr rfl,?_,λ_=>rfl,?_⟩
 ·rcases l with rfl|rfl
  ·omega
  ·rw[lh];simp;omega
 ·rcases l with rfl|rfl
  ·exact c.t
  ·exactλa r=>(fr.1 r).elim (c.t a) λh=>by simp at h;rw[h];exact d
structure ad6 (u:Fn) (w:an) (BX:an) (N:Nat):Prop where
 iI:∀a c l,aK u 22 [.s a c,.aQ 11 l] (.agg (bU bP (.s a c) l))
 mc:∀z:Int,z.natAbs<=4->aK u 23 [ao z] (.agg (cW (ef z)))
 aU:P7 u
 bJ:∃n l,w= .aQ n l
 hC:∀n:Int,1<=n/\n<=100->gN u 30 [ao n] BX N (pe n)
 m0:gN u 33 [] BX N tT
 HS:gN u 31 [] BX N E9
 Hd:gN u 32 [w,ao 1] BX N Lq
theorem apN(D:ad6 u w BX N)(hi:cc<=5)(hk:1<=cc):∀(m i d:Nat) (h:aI) (x:an) (I:aY),m+i=cc->m<d->fu b aET q s BX N h->F8 i x I->
 ii (fs 0 1 7 8 9 d (AI u b (λp y=>EK b p y)) (.bn q s 0) w x (ao cc) (ao i) h) b aET q s BX N Dh:=by
 obtain⟨ee,em,cn⟩:=D.bJ;have en:=D.hC;have cs:=D.HS;have c3:=D.Hd;have eq:=D.m0;have j:=D.iI;intro m;induction m with
 |zero=>intro i d h x I hm es S z;obtain⟨d,rfl⟩:=cN d;obtain rfl:=z.ab (by omega);have hl:=z.aa;rw[gI,cn];generalize fs 0 1 7 8 9 d (AI u b (λp y=>EK b p y))=L;rw[AI,bO,bk,a6,EK,bj,mg];rw[av];exact qO S ⟨I,rfl,by omega,z.t⟩
 |succ m ev=>
  intro i d h x I hm es S z;obtain⟨d,rfl⟩:=cN d
  haveI:=S.ay
  have ex:((i+1:Nat):Int)=(i:Int)+1:=by omega
  have G:=λh' l A=>ev (i+1) d h' l A (by omega) (by omega);rw[ex] at G;rw[gI];generalize fs 0 1 7 8 9 d (AI u b (λp y=>EK b p y))=L at G;have M:∀h' l A,fu b aET q s BX N h'->F8 (i+1) l A->ii ((λO T W X Z a3=>bR Z aS λa4=>L O T W X a4 a3) (.bn q s 0) w l (ao cc) (ao i) h') b aET q s BX N Dh:=λh' l A a1 a2=>by dsimp only;rw[bK,cK];exact G h' l A a1 a2
  rw[cn] at G M c3 ⊢;rw[AI,bO,bN,bL,aej];generalize (λO T W X Z a3=>bR Z aS λa4=>L O T W X a4 a3:kb)=hn at M ⊢;refine iv S cs λr h1 g ka ho=>?_;obtain⟨a,P,H,rfl⟩:=g;obtain⟨a1,a2⟩:=H.ge.t11;refine iv ka cs λr h2 g c4 hp=>?_;obtain⟨c,Q,J,rfl⟩:=g;obtain⟨c1,c2⟩:=J.ge.t11
  haveI:=c4.ay
  have hw:=j 1 0x3c [a,c];have hx:(bU bP eu [a,c]).length=11:=rfl;have hz:b8 (bU bP eu [a,c])=true:=rfl;rw[de,de,dc,U9,dc,aH,be,aH,be,lb,lw,av,av,gW,gX,av,aT,de,dc,UW];rw[AK];refine iv (c4.fz.fz.eP.eP.fm.fz.eP) (en 8 (by omega)) λr h3 g o a5=>?_;obtain⟨k,k0,hA,rfl⟩:=g
  haveI:=o.ay
  obtain⟨k,rfl⟩:∃n:Nat,k=n:=⟨k.toNat,by omega⟩;have h5:=(a5 10).trans (gi (gF (ga (gi (gS (gF fE))))));have i8:=(a5 11).trans (gi (gF (ga (gS (gi fE)))));have B:=(a5 12).trans (gS fE);rw[t9 k (by omega)];have C:=λ{h':aI} {t:aB} {fn:Nat} (S':fu b aET q s BX N h') (o':h'.aj (b+12)= .box fn t) K=>apT (R:=Dh) (cc:=cc) (t:=t) (h:=h') (w:= .aQ ee em) D.aU S' o' K z (by omega) M;have jn:(vh a c).length=11:=rfl;have j0:b8 (vh a c)=true:=rfl;split
  ·have bs:=j 3 0x6e6f74 [bU bP eu [a,c]];have c5:(bU bP fe [bU bP eu [a,c]]).length=11:=rfl;rw[zT,aH,be,hX,av,gW,gX,av,aT,dc];exact C (by exact o.fm.eP) (by exact(gS (ga B))) (.Qw a c P Q H J)
  split
  ·have bs:=j 5 0x657175616c [a,c];have ge:=j 3 0x6e6f74 [bU bP iB [a,c]];have c5:(bU bP iB [a,c]).length=11:=rfl;have gl:b8 (bU bP iB [a,c])=true:=rfl;have go:(bU bP fe [bU bP iB [a,c]]).length=11:=rfl;rw[aH,be,aH,be,Od,lb,lw,av,av,gW,gX,av,aT,hX,av,gW,gX,av,aT,dc];exact C (by exact(o.fm.fm.eP)) (by exact(gS (ga (ga B)))) (.Lh a c P Q H J)
  split
  ·rw[PO,mg];rw[bK];refine iv o c3 λr h4 g E bx=>?_;obtain⟨t,rfl,K⟩:=g
   haveI:=E.ay
   obtain⟨t1,t2⟩:=K.ge.t11;have cl:=(bx 12).trans B;rw[dc];exact C (by exact E.eP) (by exact(gS cl)) K
  split
  ·obtain⟨c0,gt,hd,cp,he⟩:∃c0,je c0/\c0.length=11/\b8 c0=true/\aK u 23 [ao 0] (.agg c0):=by have e:ef ((0:Int):Rat)=b5 0 1:=rfl;have h:=D.mc 0 (by omega);rw[e] at h;have dq:=iA (jk 0 1) (iY 0 1);exact⟨_,.iW _ (.DW (0,1) (by decide)),dq.aa,dq.e5,h⟩
   rw[<-bF] at he;rw[aT];refine iv o eq λr h4 g E bx=>?_;obtain⟨v,hv,rfl⟩:=g
   haveI:=E.ay
   have cl:=(bx 12).trans B;have hf:(dW v).length=11:=rfl;have hh:b8 (dW v)=true:=rfl;have bs:=j 1 0x3c [c0,dW v];have ge:=j 3 0x6e6f74 [bU bP eu [c0,dW v]];have c5:(bU bP eu [c0,dW v]).length=11:=rfl;have gl:b8 (bU bP eu [c0,dW v])=true:=rfl;have go:(bU bP fe [bU bP eu [c0,dW v]]).length=11:=rfl;rw[LK,lb cp hd,lw hh hf,av,av,gW,gX,av,aT bs,hX,av,gW,gX,av,aT,dc];exact C (by exact(E.fm.fm.eP)) (by exact(gS (ga (ga cl)))) (.aE _ _ gt (.ij v hv))
  ·exact C (by exact o) (by exact B) (.Lb a c P Q H J)
theorem IR(D:ad6 u w BX N)(a:oi BX N){z:Nat}(c:q<b)(d:q%4096<2048)(e:z<=N)(g:cE b aET q= .box s [BX,ao z]):ii (At u [.bn q s 0,w,ao 5] b aET) b aET q s BX N Dh:=by
 have S:=fu.start c d e g a
 haveI:=S.ay
 rw[At,vE,Rc,b7,av];refine iv S (D.hC 5 (by omega)) λr h' i j o=>?_;obtain⟨k,p,x,rfl⟩:=i;obtain⟨k,rfl⟩:∃n:Nat,k=n:=⟨k.toNat,by omega⟩;rw[bK,cK,bF,show(1:Int)+k=((k+1:Nat):Int) by omega,show(0:Int)=((0:Nat):Int) from rfl];exact apN D (by omega) (by omega) (k+1) 0 1000000 h' .aE [] (by omega) (by omega) j ⟨.inl ⟨rfl,rfl⟩,cY _,λh=>absurd h (by omega),λt l=>by simp at l⟩
end
end
end
end Go.Hf

import Derived.Test.YteehpeajjbkjnaaGreatDoorAe
set_option linter.all false
noncomputable section
namespace Go.Hf
open Go.RowKit
section
variable[Tok]
def iX(a:ay)(x:Option ao)(k:ao->ay):Prop:=a≠ .aF->∃v,x=some v/\a=k v
def dj(x:Option ao)(k:ao->ay):ay:= @Option.rec ao (λ_=>ay) .aF k x
theorem uD(x:Option ao)(k:ao->ay):iX (dj x k) x k:=by
 intro h;cases x with
 |none=>exact absurd rfl h
 |some v=>exact⟨v,rfl,rfl⟩
def cS(c a b:ao)(k:ao->ay):ay:=yj c λt=>bB t (k a) (k b)
theorem apY(c a b:ao)(k:ao->ay):iX (cS c a b k) (TF c a b) k:=by intro h;obtain⟨t,rfl,e⟩:=He h;cases t;exact⟨b,rfl,rfl⟩;exact⟨a,rfl,rfl⟩
def me(isAgg:Bool)(n:Nat)(cs:az)(off:Nat)(k:ao->ay):ay:=
 @Bool.rec (λ_=>ay) (qb off cs k)
  (bB (c7 (Nat.beq off 0) (Nat.beq n (eJ cs))) (k (.agg cs)) (bB (Nat.ble (Nat.add off n) (eJ cs)) (k (.agg (wl n (mb off cs)))) .aF)) isAgg
theorem GU(isAgg:Bool)(n:Nat)(cs:az)(off:Nat)(k:ao->ay):iX (me isAgg n cs off k) (ty isAgg n cs off) k:=by
 intro h;cases isAgg with
 |false=>change qb off cs k≠ .aF at h;obtain⟨x,a,c⟩:=LR h;exact⟨x,a,c⟩
 |true=>
  change bB (c7 (Nat.beq off 0) (Nat.beq n (eJ cs))) (k (.agg cs)) (bB (Nat.ble (Nat.add off n) (eJ cs)) (k (.agg (wl n (mb off cs)))) .aF)≠ .aF at h;show∃v,ty true n cs off=some v/\bB (c7 (Nat.beq off 0) (Nat.beq n (eJ cs))) (k (.agg cs)) (bB (Nat.ble (Nat.add off n) (eJ cs)) (k (.agg (wl n (mb off cs)))) .aF)=k v;rw[hY,gV]at h ⊢;cases b:(Nat.beq off 0&&Nat.beq n cs.length) with
  |true=>simp only[cC,k9]at b;obtain⟨rfl,rfl⟩:=b;have d:=tF (dn cs.length);refine⟨_,?_,rfl⟩;simp[ty,d]
  |false=>rw[b]at h;change bB (Nat.ble (Nat.add off n) cs.length) _ .aF≠ .aF at h;obtain⟨a,_⟩:=fa h;refine⟨_,?_,(fa h).2⟩;simp only[ty,e6,a,MK,xE]
def bh(ob:dE)(isAgg:Bool)(n:Nat)(a:ao)(k:ao->ay):ay:=
 pE a (λcs off=>me isAgg n cs off k)
  (λb s off=>mS (ob b) λc cs=>bB (Nat.beq s c) (me isAgg n cs off k) .aF)
  (λb s i off=>lq (ob b) λc _ _ es _=>bB (Nat.beq s c) (qb i es λcs=>me isAgg n cs off k) .aF)
theorem apO(ob:dE)(isAgg:Bool)(n:Nat)(a:ao)(k:ao->ay):iX (bh ob isAgg n a k) (DC ob isAgg n a) k:=by intro h;unfold bh at h ⊢;rcases Df h with⟨cs,off,rfl,e⟩|⟨o,s,off,rfl,e⟩|⟨o,s,i,off,rfl,e⟩;rw[e]at h ⊢;obtain⟨v,b,c⟩:=GU _ _ _ _ _ h;exact⟨v,b,c⟩;rw[e]at h ⊢;obtain⟨p,cs,b,c⟩:=L1 h;rw[c]at h ⊢;obtain⟨d,g⟩:=fa h;rw[g]at h ⊢;obtain⟨v,j,l⟩:=GU _ _ _ _ _ h;exact⟨v,by simp only[DC,b,d,e6];exact j,l⟩;rw[e]at h ⊢;obtain⟨p,_,_,es,_,b,c⟩:=Ae h;rw[c]at h ⊢;obtain⟨d,g⟩:=fa h;rw[g]at h ⊢;obtain⟨cs,q,r⟩:=LR h;rw[r]at h ⊢;obtain⟨v,j,l⟩:=GU _ _ _ _ _ h;exact⟨v,by simp only[DC,b,d,e6,q];exact j,l⟩
def lS(x:ao)(k:ao->ay):ay:=pE x (λ_ _=>k x) (λ_ _ _=>k x) (λ_ _ _ _=>k x)
theorem apW(x:ao)(k:ao->ay):iX (lS x k) (TE x) k:=by intro h;unfold lS at h ⊢;rcases Df h with⟨cs,off,rfl,e⟩|⟨a,s,off,rfl,e⟩|⟨a,s,i,off,rfl,e⟩<;>exact⟨_,rfl,rfl⟩
def eN(l n l' a:Nat):Bool:=c7 (Nat.beq l l') (Nat.beq (Nat.mod n (Nat.pow 256 l)) (Nat.mod a (Nat.pow 256 l)))
theorem KA(l n l' a:Nat):eN l n l' a=qP l n l' a:=by unfold eN qP;rw[hY,Nat.pow_eq];rfl
def cj(x y:ao)(k:ao->ay):ay:=
 yk x (λq a=>mT y λc b=>bB (pn q c) (k (.U (Nat.beq a b))) .aF) (λl n=>lU y λl' d=>k (.U (eN l n l' d)))
theorem aps(x y:ao)(k:ao->ay):iX (cj x y k) (gR .eql x y) k:=by intro h;unfold cj at h ⊢;rcases L3 h with⟨q,a,rfl,e⟩|⟨l,n,rfl,e⟩;rw[e]at h ⊢;obtain⟨i,b,rfl,c⟩:=tn h;rw[c]at h ⊢;obtain⟨d,g⟩:=fa h;refine⟨_,?_,g⟩;simp only[gR,(zG d).2,e6,tb];rw[e]at h ⊢;obtain⟨l',j,rfl,c⟩:=tp h;exact⟨_,by simp only[gR,<-KA],c⟩
def gJ(x y:ao)(k:ao->ay):ay:=
 yk x (λq a=>mT y λc b=>bB (pn q c) (k (.U (gu (Nat.beq a b)))) .aF) (λl n=>lU y λl' d=>k (.U (gu (eN l n l' d))))
theorem apU(x y:ao)(k:ao->ay):iX (gJ x y k) (gR .neq x y) k:=by intro h;unfold gJ at h ⊢;rcases L3 h with⟨q,a,rfl,e⟩|⟨l,n,rfl,e⟩;rw[e]at h ⊢;obtain⟨i,b,rfl,c⟩:=tn h;rw[c]at h ⊢;obtain⟨d,g⟩:=fa h;refine⟨_,?_,g⟩;simp only[gR,(zG d).2,e6,tb,Da];rw[e]at h ⊢;obtain⟨l',j,rfl,c⟩:=tp h;exact⟨_,by simp only[gR,<-KA,Da],c⟩
def uv(f:Nat->Nat->Bool)(g:Nat->Nat->Nat->Nat->Bool)(x y:ao)(k:ao->ay):ay:=yk x (λq a=>mT y λc b=>bB (pn q c) (k (.U (f a b))) .aF) (λl n=>lU y λl' d=>k (.U (g l n l' d)))
theorem Lg{f:Nat->Nat->Bool}{g:Nat->Nat->Nat->Nat->Bool}{c:BinOp}(j:∀q a b,tb c q a b=some (.U (f a b)))(o:∀l n l' d,gR c (.s l n) (.s l' d)=some (.U (g l n l' d)))(x y:ao)(k:ao->ay):iX (uv f g x y k) (gR c x y) k:=by intro h;unfold uv at h ⊢;rcases L3 h with⟨q,a,rfl,e⟩|⟨l,n,rfl,e⟩;rw[e]at h ⊢;obtain⟨t,b,rfl,i⟩:=tn h;rw[i]at h ⊢;obtain⟨p,r⟩:=fa h;refine⟨_,?_,r⟩;simp only[gR,(zG p).2,e6,j];rw[e]at h ⊢;obtain⟨l',d,rfl,i⟩:=tp h;exact⟨_,o _ _ _ _,i⟩
def fi(x y:ao)(k:ao->ay):ay:=uv (λa b=>Nat.ble (Nat.succ a) b) uc x y k
theorem apQ(x y:ao)(k:ao->ay):iX (fi x y k) (gR .lss x y) k:=Lg (λ_ _ _=>rfl) (λ_ _ _ _=>rfl) x y k
def tc(x y:ao)(k:ao->ay):ay:=uv Nat.ble (λl n l' a=>uc l n l' a||qP l n l' a) x y k
theorem apN(x y:ao)(k:ao->ay):iX (tc x y k) (gR .leq x y) k:=Lg (λ_ _ _=>rfl) (λ_ _ _ _=>rfl) x y k
def mQ(x y:ao)(k:ao->ay):ay:=uv (λa b=>Nat.ble (Nat.succ b) a) (λl n l' c=> !(uc l n l' c||qP l n l' c)) x y k
theorem apF(x y:ao)(k:ao->ay):iX (mQ x y k) (gR .gtr x y) k:=Lg (λ_ _ _=>rfl) (λ_ _ _ _=>rfl) x y k
def p0(x y:ao)(k:ao->ay):ay:=uv (λa b=>Nat.ble b a) (λl n l' c=> !uc l n l' c) x y k
theorem apA(x y:ao)(k:ao->ay):iX (p0 x y k) (gR .geq x y) k:=Lg (λ_ _ _=>rfl) (λ_ _ _ _=>rfl) x y k
def dT(x y:ao)(k:ao->ay):ay:=
 yk x (λq a=>mT y λd b=>bB (pn q d) (gc (Nat.sub (Nat.add a b) 18446744073709551616) λc=>bB (zR q c) (k (.ag q c)) .aF) .aF)
  (λl n=>lU y λl' e=>bB (Nat.ble (Nat.add l l') 9223372036854775807) (gc (Nat.add l l') λg=>gc (Nat.add (Nat.mul n (Nat.pow 256 l')) (Nat.mod e (Nat.pow 256 l'))) λdM=>k (.s g dM)) .aF)
theorem apd(x y:ao)(k:ao->ay):iX (dT x y k) (gR .add x y) k:=by intro h;unfold dT at h ⊢;rcases L3 h with⟨q,a,rfl,e⟩|⟨l,n,rfl,e⟩;rw[e]at h ⊢;obtain⟨o,b,rfl,c⟩:=tn h;rw[c]at h ⊢;obtain⟨d,g⟩:=fa h;rw[g,fN]at h ⊢;obtain⟨i,j⟩:=fa h;rw[xV]at i;exact⟨_,by simp only[gR,(zG d).2,e6,tb,i],j⟩;rw[e]at h ⊢;obtain⟨l',p,rfl,c⟩:=tp h;rw[c]at h ⊢;obtain⟨d,g⟩:=fa h;rw[g,fN,fN];exact⟨_,by simp only[gR,d,e6],rfl⟩
def gU(x y:ao)(k:ao->ay):ay:=
 mT x λq a=>mT y λd b=>bB (pn q d) (bB (Nat.ble b (Nat.add a 18446744073709551616)) (gc (Nat.sub (Nat.add a 18446744073709551616) b) λc=>bB (zR q c) (k (.ag q c)) .aF) .aF) .aF
theorem ap7(x y:ao)(k:ao->ay):iX (gU x y k) (gR .sub x y) k:=by intro h;unfold gU at h ⊢;obtain⟨q,a,rfl,e⟩:=tn h;rw[e]at h ⊢;obtain⟨o,b,rfl,d⟩:=tn h;rw[d]at h ⊢;obtain⟨g,i⟩:=fa h;rw[i]at h ⊢;obtain⟨j,l⟩:=fa h;rw[l,fN]at h ⊢;obtain⟨c,n⟩:=fa h;rw[xV]at c;exact⟨_,by simp only[gR,(zG g).2,e6,tb,j,c,m0],n⟩
def RD(a:BinOp)(x y:ao)(k:ao->ay):ay:=
 @BinOp.casesOn (λ_=>ay) a (dT x y k) (gU x y k) (dj (gR a x y) k) (dj (gR a x y) k) (dj (gR a x y) k) (dj (gR a x y) k) (dj (gR a x y) k) (dj (gR a x y) k) (dj (gR a x y) k) (dj (gR a x y) k) (dj (gR a x y) k)
  (cj x y k) (gJ x y k) (fi x y k) (tc x y k) (mQ x y k) (p0 x y k)
theorem apf(a:BinOp)(x y:ao)(k:ao->ay):iX (RD a x y k) (gR a x y) k:=by
 cases a
 case add=>exact apd x y k
 case sub=>exact ap7 x y k
 case eql=>exact aps x y k
 case neq=>exact apU x y k
 case lss=>exact apQ x y k
 case leq=>exact apN x y k
 case gtr=>exact apF x y k
 case geq=>exact apA x y k
 all_goals exact uD _ _
def xY(neg:Bool)(x y:ao)(k:ao->ay):ay:=yj x λa=>yj y λb=>k (.U (@Bool.rec (λ_=>Bool) (@Bool.rec (λ_=>Bool) (gu b) b a) (@Bool.rec (λ_=>Bool) b (gu b) a) neg))
theorem apg(neg:Bool)(x y:ao)(k:ao->ay):iX (xY neg x y k) (TA neg x y) k:=by intro h;unfold xY at h ⊢;obtain⟨a,rfl,e⟩:=He h;rw[e]at h ⊢;obtain⟨b,rfl,c⟩:=He h;refine⟨_,?_,c⟩;cases neg<;>cases a<;>cases b<;>rfl
def Hd(x:ao)(f:Nat->Nat->Nat->Nat->ay):ay:=
 LZ x λcs=> @List.rec ao (λ_=>ay) .aF (λa r _=>lU a λl n=> @List.rec ao (λ_=>ay) .aF (λb c _=>lU b λl' d=> @List.rec ao (λ_=>ay) (f l n l' d) (λ_ _ _=> .aF) c) r) cs
theorem acP{x:ao}{f:Nat->Nat->Nat->Nat->ay}(h:Hd x f≠ .aF):∃l n l' c,x= .agg [.s l n,.s l' c]/\Hd x f=f l n l' c:=by
 unfold Hd at h ⊢;obtain⟨cs,rfl,e⟩:=acQ h;rw[e]at h ⊢
 match cs with
 |[]=>exact absurd rfl h
 |a::r=>
  change lU a _≠ .aF at h;obtain⟨l,n,rfl,e⟩:=tp h;rw[e]at h
  match r with
  |[]=>exact absurd rfl h
  |b::d=>
   change lU b _≠ .aF at h;obtain⟨l',c,rfl,e⟩:=tp h;rw[e]at h
   match d with
   |[]=>exact⟨l,n,l',c,rfl,rfl⟩
   |_::_=>exact absurd rfl h
def iP(neg:Bool)(x y:ao)(k:ao->ay):ay:=
 Hd x λa n b m=>Hd y λc d b' e=>k (.U (@Bool.rec (λ_=>Bool) (c7 (eN b m b' e) (eN a n c d)) (gu (c7 (eN b m b' e) (eN a n c d))) neg))
theorem apv(neg:Bool)(x y:ao)(k:ao->ay):iX (iP neg x y k) (M2 neg x y) k:=by intro h;unfold iP at h ⊢;obtain⟨a,n,b,m,rfl,e⟩:=acP h;rw[e]at h ⊢;obtain⟨g,i,b',c,rfl,d⟩:=acP h;refine⟨_,?_,d⟩;simp only[M2,<-KA,hY,Bool.and_comm (eN b m b' c)];cases neg<;>simp[Da]
def Lm(neg:Bool)(x:ao)(k:ao->ay):ay:=to x (k (.U (gu neg))) (λ_ _=>k (.U neg)) (λ_ _ _ _=>k (.U neg))
theorem apK(neg:Bool)(x:ao)(k:ao->ay):iX (Lm neg x k) (M4 neg x) k:=by intro h;unfold Lm at h ⊢;rcases Hh h with⟨rfl,e⟩|⟨sz,es,rfl,e⟩|⟨_,s,o,l,rfl,e⟩;exact⟨_,by simp only[M4,Da],e⟩;exact⟨_,rfl,e⟩;exact⟨_,rfl,e⟩
def gr(x:ao)(k:ao->ay):ay:=yj x λa=>k (.U (gu a))
def Lq(a:UnOp)(x:ao)(k:ao->ay):ay:=match a with
 | .not=>gr x k
 |a=>dj (H3 a x) k
theorem ap8(b:UnOp)(x:ao)(k:ao->ay):iX (Lq b x k) (H3 b x) k:=by unfold Lq;split;intro h;unfold gr at h ⊢;obtain⟨a,rfl,e⟩:=He h;exact⟨_,by simp only[H3,Da],e⟩;exact uD _ _
def bz(o:Nat)(x:ao)(k:ao->ay):ay:=
 pE x (λcs off=>k (.gk cs (Nat.add off o))) (λq s off=>k (.aQ q s (Nat.add off o))) (λq s i off=>k (.eP q s i (Nat.add off o)))
theorem apx(o:Nat)(x:ao)(k:ao->ay):iX (bz o x k) (TB o x) k:=by intro h;unfold bz at h ⊢;rcases Df h with⟨cs,off,rfl,e⟩|⟨a,s,off,rfl,e⟩|⟨a,s,i,off,rfl,e⟩<;>exact⟨_,rfl,e⟩
def Li(isAgg:Bool)(off n:Nat)(x:ao)(k:ao->ay):ay:=LZ x λcs=>me isAgg n cs off k
theorem apy(isAgg:Bool)(off n:Nat)(x:ao)(k:ao->ay):iX (Li isAgg off n x k) (TC isAgg off n x) k:=by intro h;unfold Li at h ⊢;obtain⟨cs,rfl,e⟩:=acQ h;rw[e]at h ⊢;exact GU _ _ _ _ _ h
def de(ob:dE)(sz:Nat)(x i:ao)(k:ao->ay):ay:=
 to x .aF (λa es=>mT i λ_ n=>bB (Nat.beq a sz) (bB (Nat.ble 18446744073709551616 n) (qb (Nat.sub n 18446744073709551616) es λcs=>k (.gk cs 0)) .aF) .aF)
  (λq s off len=>mT i λ_ n=>lq (ob q) λb _ a _ _=>bB (Nat.beq s b) (bB (Nat.beq a sz) (bB (Nat.ble 18446744073709551616 n) (bB (Nat.blt (Nat.sub n 18446744073709551616) len)
   (gc (Nat.add off (Nat.sub n 18446744073709551616)) λj=>k (.eP q s j 0)) .aF) .aF) .aF) .aF)
theorem apJ(ob:dE)(sz:Nat)(x i:ao)(k:ao->ay):iX (de ob sz x i k) (H1 ob sz x i) k:=by intro h;unfold de at h ⊢;rcases Hh h with⟨rfl,e⟩|⟨d,es,rfl,e⟩|⟨q,s,off,len,rfl,e⟩;rw[e]at h;exact absurd rfl h;rw[e]at h ⊢;obtain⟨_,n,rfl,e⟩:=tn h;rw[e]at h ⊢;obtain⟨a,e⟩:=fa h;rw[e]at h ⊢;obtain⟨b,e⟩:=fa h;rw[e]at h ⊢;obtain⟨cs,c,e⟩:=LR h;exact⟨_,by simp only[H1,a,b,m0,e6,c],e⟩;rw[e]at h ⊢;obtain⟨_,n,rfl,e⟩:=tn h;rw[e]at h ⊢;obtain⟨l,_,d,_,_,g,e⟩:=Ae h;rw[e]at h ⊢;obtain⟨a,e⟩:=fa h;rw[e]at h ⊢;obtain⟨b,e⟩:=fa h;rw[e]at h ⊢;obtain⟨c,e⟩:=fa h;rw[e]at h ⊢;obtain⟨j,e⟩:=fa h;rw[e,fN]at h ⊢;exact⟨_,by simp only[H1,g,a,b,c,j,m0,e6],rfl⟩
def ne(x i:ao)(k:ao->ay):ay:=
 lU x λl n=>mT i λ_ m=>bB (Nat.ble 18446744073709551616 m) (bB (Nat.blt (Nat.sub m 18446744073709551616) l)
  (gc (Nat.add 18446744073709551616 (Nat.mod (Nat.shiftRight n (Nat.mul 8 (Nat.sub (Nat.sub l 1) (Nat.sub m 18446744073709551616)))) 256)) λc=>k (.ag .u8 c)) .aF) .aF
theorem Tg(n j:Nat):Nat.shiftRight n (Nat.mul 8 j)=Nat.div n (Nat.pow 256 j):=by
 have a:Nat.shiftRight n (8*j)=n/2^(8*j):=Nat.shiftRight_eq_div_pow n (8*j);have b:(2:Nat)^(8*j)=256^j:=by rw[Nat.pow_mul]
 rw[b]at a;exact a
theorem ap1(x i:ao)(k:ao->ay):iX (ne x i k) (M5 x i) k:=by intro h;unfold ne at h ⊢;obtain⟨l,n,rfl,e⟩:=tp h;rw[e]at h ⊢;obtain⟨_,m,rfl,e⟩:=tn h;rw[e]at h ⊢;obtain⟨a,e⟩:=fa h;rw[e]at h ⊢;obtain⟨b,e⟩:=fa h;rw[e,fN]at h ⊢;exact⟨_,by simp only[M5,a,b,m0,e6,Tg],rfl⟩
def cP(x:ao)(i:Nat)(k:ao->ay):ay:=SD x λvs=>LO vs (qb i vs k)
theorem apw(x:ao)(i:Nat)(k:ao->ay):iX (cP x i k) (M3 x i) k:=by intro h;unfold cP at h ⊢;obtain⟨vs,rfl,e⟩:=atN h;rw[e]at h ⊢;obtain⟨b,e⟩:=arM h;rw[e]at h ⊢;obtain⟨v,c,d⟩:=LR h;refine⟨v,?_,d⟩;unfold M3;split;rename_i a;cases a;exact absurd rfl (b _);rename_i a;cases a;exact c;rename_i a;exact absurd rfl (a _)
def cv(kq:Bool)(x:ao)(k:ao->ay):ay:=
 @Bool.rec (λ_=>ay) (to x (k (.ag .i64 18446744073709551616)) (λ_ es=>gc (Nat.add 18446744073709551616 (eJ es)) λn=>k (.ag .i64 n)) (λ_ _ _ len=>k (.ag .i64 (Nat.add 18446744073709551616 len))))
  (lU x λl _=>k (.ag .i64 (Nat.add 18446744073709551616 l))) kq
theorem apM(kq:Bool)(x:ao)(k:ao->ay):iX (cv kq x k) (TD kq x) k:=by
 intro h;cases kq with
 |true=>change lU x _≠ .aF at h;obtain⟨l,n,rfl,e⟩:=tp h;exact⟨_,rfl,e⟩
 |false=>change to x _ _ _≠ .aF at h;rcases Hh h with⟨rfl,e⟩|⟨sz,es,rfl,e⟩|⟨_,s,o,l,rfl,e⟩;exact⟨_,rfl,e⟩;rw[fN,gV]at e;exact⟨_,rfl,e⟩;exact⟨_,rfl,e⟩
end
section
variable{x:ao}
section
variable[Tok]
def nN(ju:Nat)(x:Option ao)(f:Nat->ay):ay:=
 @Option.rec ao (λ_=>ay) (f ju) (λv=>mT v λ_ n=>bB (Nat.ble 18446744073709551616 n) (gc (Nat.sub n 18446744073709551616) f) .aF) x
theorem xZ{ju:Nat}{x:Option ao}{f:Nat->ay}(h:nN ju x f≠ .aF):∃a,rT ju x=some a/\nN ju x f=f a:=by
 cases x with
 |none=>exact⟨ju,rfl,rfl⟩
 |some v=>change mT v (λ_ n=>bB (Nat.ble 18446744073709551616 n) (gc (Nat.sub n 18446744073709551616) f) .aF)≠ .aF at h;show∃a,_/\mT v (λ_ n=>bB (Nat.ble 18446744073709551616 n) (gc (Nat.sub n 18446744073709551616) f) .aF)=f a;obtain⟨_,n,rfl,e⟩:=tn h;rw[e]at h ⊢;obtain⟨b,e⟩:=fa h;rw[e,fN];exact⟨_,by simp only[rT,b,e6],rfl⟩
def p2(x:ao)(lo hi:Option ao)(k:ao->ay):ay:=
 lU x λl n=>nN 0 lo λa=>nN l hi λb=>bB (Nat.ble a b) (bB (Nat.ble b l) (gc (Nat.sub b a) λm=>gc (Nat.mod (Nat.shiftRight n (Nat.mul 8 (Nat.sub l b))) (Nat.pow 256 m)) λc=>k (.s m c)) .aF) .aF
theorem ap3(x:ao)(lo hi:Option ao)(k:ao->ay):iX (p2 x lo hi k) (M6 x lo hi) k:=by intro h;unfold p2 at h ⊢;obtain⟨l,n,rfl,e⟩:=tp h;rw[e]at h ⊢;obtain⟨a,c,e⟩:=xZ h;rw[e]at h ⊢;obtain⟨b,d,e⟩:=xZ h;rw[e]at h ⊢;obtain⟨g,e⟩:=fa h;rw[e]at h ⊢;obtain⟨i,e⟩:=fa h;rw[e,fN,fN]at h ⊢;exact⟨_,by simp only[M6,c,d,g,i,m0,e6,Tg],rfl⟩
def mU(es:bg)(off len:Nat):bg:=
 @Bool.rec (λ_=>bg) (wl len (mb off es)) (mb off es) (Nat.beq (Nat.add off len) (eJ es))
theorem Di(es:bg)(off len:Nat):mU es off len=part es off len:=by
 rw[L9];unfold mU;cases h:Nat.beq (Nat.add off len) (eJ es) with
 |false=>show wl len (mb off es)=_;rw[MK,xE]
 |true=>show mb off es=_;have a:=e8 h;rw[gV]at a;have b:off+len=es.length:=a;rw[xE,TX];rw[List.length_drop];omega
def td(ob:dE)(sz:Nat)(x:ao)(lo hi:Option ao)(k:ao->ay):ay:=
 to x (nN 0 lo λa=>nN 0 hi λb=>bB (Nat.beq a 0) (bB (Nat.beq b 0) (k .ba) .aF) .aF)
  (λc es=>nN 0 lo λl=>nN (eJ es) hi λh=>bB (Nat.beq c sz) (bB (Nat.ble l h) (bB (Nat.ble h (eJ es)) (k (.aN sz (mU es l (Nat.sub h l)))) .aF) .aF) .aF)
  (λq s off len=>nN 0 lo λl=>nN len hi λh=>lq (ob q) λd _ c _ _=>bB (Nat.beq s d) (bB (Nat.beq c sz) (bB (Nat.ble l h) (bB (Nat.ble h len) (k (.aV q s (Nat.add off l) (Nat.sub h l))) .aF) .aF) .aF) .aF)
theorem ap2(ob:dE)(sz:Nat)(x:ao)(lo hi:Option ao)(k:ao->ay):iX (td ob sz x lo hi k) (DE ob sz x lo hi) k:=by intro c;unfold td at c ⊢;rcases Hh c with⟨rfl,e⟩|⟨n,es,rfl,e⟩|⟨q,s,off,len,rfl,e⟩;rw[e]at c ⊢;obtain⟨a,d,e⟩:=xZ c;rw[e]at c ⊢;obtain⟨b,g,e⟩:=xZ c;rw[e]at c ⊢;obtain⟨h,e⟩:=fa c;rw[e]at c ⊢;obtain⟨i,e⟩:=fa c;have j:=e8 h;have l:=e8 i;subst j;subst l;exact⟨_,by simp only[DE,d,g],e⟩;rw[e,gV]at c ⊢;obtain⟨a,d,e⟩:=xZ c;rw[e]at c ⊢;obtain⟨b,g,e⟩:=xZ c;rw[e]at c ⊢;obtain⟨h,e⟩:=fa c;rw[e]at c ⊢;obtain⟨i,e⟩:=fa c;rw[e]at c ⊢;obtain⟨j,e⟩:=fa c;rw[e,Di];exact⟨_,by simp only[DE,d,g,h,i,j,m0,e6],rfl⟩;rw[e]at c ⊢;obtain⟨a,d,e⟩:=xZ c;rw[e]at c ⊢;obtain⟨b,g,e⟩:=xZ c;rw[e]at c ⊢;obtain⟨p,_,n,_,_,o,e⟩:=Ae c;rw[e]at c ⊢;obtain⟨h,e⟩:=fa c;rw[e]at c ⊢;obtain⟨i,e⟩:=fa c;rw[e]at c ⊢;obtain⟨j,e⟩:=fa c;rw[e]at c ⊢;obtain⟨l,e⟩:=fa c;exact⟨_,by simp only[DE,o,d,g,h,i,j,l,m0,e6],e⟩
def oh(x:ao)(f:az->ay):ay:=
 @ao.rec (λ_=>ay) (λ_=>PUnit) (λ_=>PUnit) .aF (λ_=>f [x]) (λ_ _=>f [x]) (λ_ _=>f [x]) (f [x]) (λ_=>f [x]) (λa _=>f a) (λ_ _=> .aF) (λ_ _ _=>f [x]) (λ_ _ _=>f [x]) (λ_ _ _=>f [x]) (λ_ _ _ _=>f [x]) (λ_ _ _ _=>f [x]) (λ_ _=>f [x]) (λ_ _ _=>f [x]) (λ_=>f [x]) PUnit.unit (λ_ _ _ _=>PUnit.unit) PUnit.unit (λ_ _ _ _=>PUnit.unit) x
theorem Ld{f:az->ay}(h:oh x f≠ .aF):∃cs,x.cells=some cs/\oh x f=f cs:=by cases x<;>first|exact absurd rfl h|exact⟨_,rfl,rfl⟩
def cg(cs:az):Bool:=
 @List.rec ao (λ_=>Bool) true (λc _ a=> @ao.rec (λ_=>Bool) (λ_=>PUnit) (λ_=>PUnit) false (λ_=>a) (λ_ _=>a) (λ_ _=>a) a (λ_=>a) (λ_ _=>false) (λ_ _=>false) (λ_ _ _=>a) (λ_ _ _=>a) (λ_ _ _=>false) (λ_ _ _ _=>false) (λ_ _ _ _=>false) (λ_ _=>false) (λ_ _ _=>false) (λ_=>a) PUnit.unit (λ_ _ _ _=>PUnit.unit) PUnit.unit (λ_ _ _ _=>PUnit.unit) c) cs
theorem SM{ob:dE}:∀{cs:az},cg cs=true->sj ob cs=some cs/\cs.flatMap (rh ob)=[]
 |[],_=>⟨rfl,rfl⟩
 |c::r,h=>by
  have a:cg r=true/\nn ob c=some c/\rh ob c=[]:=by cases c<;>first|exact⟨h,rfl,rfl⟩|exact absurd h (by intro h;cases h)
  obtain⟨b,d,e⟩:=a;obtain⟨g,i⟩:=SM (ob:=ob) b;refine⟨by simp only[sj,d,g],by rw[lb,e,i];rfl⟩
def jV(ob:dE)(cs:az):(az->fk->ay)->ay:=
 @List.rec ao (λ_=>(az->fk->ay)->ay) (λf=>f [] []) (λc _ b f=>
  @ao.rec (λ_=>ay) (λ_=>PUnit) (λ_=>PUnit) .aF (λ_=>b λa us=>f (c::a) us) (λ_ _=>b λa us=>f (c::a) us) (λ_ _=>b λa us=>f (c::a) us) (b λa us=>f (c::a) us) (λ_=>b λa us=>f (c::a) us) (λ_ _=> .aF) (λ_ _=> .aF) (λ_ _ _=>b λa us=>f (c::a) us) (λ_ _ _=>b λa us=>f (c::a) us)
   (λ_ _ _=> .aF) (λq s off len=>lq (ob q) λd e sz es bL=>bB (Nat.beq s d) (bB (Nat.ble (Nat.add off len) (eJ es)) (b λa us=>f (.aN sz (mU es off len)::a) (@Bool.rec (λ_=>fk) us ((q,.aV d e sz es false)::us) bL)) .aF) .aF)
   (λ_ _ _ _=> .aF) (λ_ _=> .aF) (λ_ _ _=> .aF) (λ_=>b λa us=>f (c::a) us) PUnit.unit (λ_ _ _ _=>PUnit.unit) PUnit.unit (λ_ _ _ _=>PUnit.unit) c) cs
theorem Ra{ob:dE}:∀{cs:az}{f:az->fk->ay},jV ob cs f≠ .aF->∃a,sj ob cs=some a/\jV ob cs f=f a (cs.flatMap (rh ob))
 |[],f,_=>⟨[],rfl,rfl⟩
 |c::r,f,h=>by
  have d:nn ob c=some c->rh ob c=[]->jV ob (c::r) f=jV ob r (λa us=>f (c::a) us)->∃a,sj ob (c::r)=some a/\jV ob (c::r) f=f a ((c::r).flatMap (rh ob)):=by intro k j e;rw[e]at h ⊢;obtain⟨a,p,t⟩:=Ra h;exact⟨c::a,by simp only[sj,k,p],by rw[t,lb,j];rfl⟩
  cases c with
  |aV q s off len=>have e:jV ob (.aV q s off len::r) f=lq (ob q) λu e sz es bL=>bB (Nat.beq s u) (bB (Nat.ble (Nat.add off len) (eJ es)) (jV ob r λa us=>f (.aN sz (mU es off len)::a) (@Bool.rec (λ_=>fk) us ((q,.aV u e sz es false)::us) bL)) .aF) .aF:=rfl;rw[e]at h ⊢;obtain⟨u,el,sz,es,bL,w,g⟩:=Ae h;rw[g]at h ⊢;obtain⟨k,g⟩:=fa h;rw[g]at h ⊢;obtain⟨j,g⟩:=fa h;rw[g]at h ⊢;obtain⟨a,p,t⟩:=Ra h;rw[gV]at j;refine⟨.aN sz (part es off len)::a,by simp only[sj,nn,w,k,j,p,m0,e6],?_⟩;rw[t,Di,lb];simp only[rh,w];cases bL<;>rfl
  |U x=>exact d rfl rfl rfl
  |ag q n=>exact d rfl rfl rfl
  |s l n=>exact d rfl rfl rfl
  |ba=>exact d rfl rfl rfl
  |bo v=>exact d rfl rfl rfl
  |aN sz es=>exact d rfl rfl rfl
  |gk cs o=>exact d rfl rfl rfl
  |tok i=>exact d rfl rfl rfl
  |_=>exact absurd rfl h
def bi(ob:dE)(x:ao)(f:gI):ay:=
 @ao.rec (λ_=>ay) (λ_=>PUnit) (λ_=>PUnit) .aF (λ_=>f x []) (λ_ _=>f x []) (λ_ _=>f x []) (f x []) (λ_=>f x []) (λcs _=>bB (cg cs) (f x []) (jV ob cs λb us=>f (.agg b) us)) (λ_ _=> .aF) (λ_ _ _=>f x []) (λ_ _ _=>f x []) (λ_ _ _=> .aF) (λq s off len=>lq (ob q) λa e sz es bL=>bB (Nat.beq s a) (bB (Nat.ble (Nat.add off len) (eJ es)) (f (.aN sz (mU es off len)) (@Bool.rec (λ_=>fk) [] [(q,.aV a e sz es false)] bL)) .aF) .aF) (λ_ _ _ _=> .aF) (λ_ _=> .aF) (λ_ _ _=> .aF) (λ_=>f x []) PUnit.unit (λ_ _ _ _=>PUnit.unit) PUnit.unit (λ_ _ _ _=>PUnit.unit) x
theorem Ll{ob:dE}{f:gI}(h:bi ob x f≠ .aF):∃q,mV ob x=some q/\bi ob x f=f q (pI ob x):=by
 cases x with
 |agg cs=>
  change bB (cg cs) (f (.agg cs) []) (jV ob cs λa us=>f (.agg a) us)≠ .aF at h;show∃q,_/\bB (cg cs) (f (.agg cs) []) (jV ob cs λa us=>f (.agg a) us)=_;cases i:cg cs with
  |true=>obtain⟨d,b⟩:=SM (ob:=ob) i;refine⟨.agg cs,by simp only[mV,d],?_⟩;show f (.agg cs) []=_;simp only[pI,b]
  |false=>rw[i]at h;obtain⟨a,d,b⟩:=Ra (f:=λa us=>f (.agg a) us) h;exact⟨.agg a,by simp only[mV,d],b⟩
 |aV q s off len=>change lq (ob q) (λc e sz es bL=>bB (Nat.beq s c) (bB (Nat.ble (Nat.add off len) (eJ es)) (f (.aN sz (mU es off len)) (@Bool.rec (λ_=>fk) [] [(q,.aV c e sz es false)] bL)) .aF) .aF)≠ .aF at h;show∃v,_/\lq (ob q) (λc e sz es bL=>bB (Nat.beq s c) (bB (Nat.ble (Nat.add off len) (eJ es)) (f (.aN sz (mU es off len)) (@Bool.rec (λ_=>fk) [] [(q,.aV c e sz es false)] bL)) .aF) .aF)=_;obtain⟨c,e,sz,es,bL,j,g⟩:=Ae h;rw[g]at h ⊢;obtain⟨d,g⟩:=fa h;rw[g]at h ⊢;obtain⟨b,g⟩:=fa h;rw[g,Di];rw[gV]at b;refine⟨.aN sz (part es off len),by simp only[mV,nn,j,d,b,m0,e6],?_⟩;congr 1;simp only[pI,rh,j];cases bL<;>rfl
 |_=>first|exact absurd rfl h|exact⟨_,rfl,rfl⟩
def si(ob:dE):List Bool->az->Option (az×fk)
 |_,[]=>some ([],[])
 |[],x::xs=>match mV ob x,si ob [] xs with
  |some q,some (a,us)=>some (q::a,pI ob x++us)
  |_,_=>none
 |true::bs,x::xs=>match mV ob x,si ob bs xs with
  |some q,some (a,us)=>some (q::a,pI ob x++us)
  |_,_=>none
 |false::bs,x::xs=>match si ob bs xs with
  |some (a,us)=>some (x::a,us)
  |none=>none
theorem Hl{α:Type}{ev:α->ao}{ob:dE}:∀{c:List Bool}{xs:List α}{ps:az}{us:fk},si ob c (xs.map ev)=some (ps,us)->jE (λx=>bk (ev x)) (λk=>fz (ob k)) c xs=some (ps.map bk,us.map iy)
 |[],[],ps,us,h=>by cases h;rfl
 |_::_,[],ps,us,h=>by cases h;rfl
 |[],x::xs,ps,us,h=>by simp only[hN,si]at h;split at h;rename_i q d e b a;cases h;simp only[jE,md,mq,gF,Hn b,HH,Hl a,hN,oz];cases h
 |true::bs,x::xs,ps,us,h=>by simp only[hN,si]at h;split at h;rename_i q d e b a;cases h;simp only[jE,md,mq,gF,Hn b,HH,Hl a,hN,oz];cases h
 |false::bs,x::xs,ps,us,h=>by simp only[hN,si]at h;split at h;rename_i d e a;cases h;simp only[jE,md,mq,io,hV,Hl a,hN,yO];cases h
def oV(ob:dE)(f:az->fk->ay):List Bool->az->ay
 |_,[]=>(λ(_:Nat)=>f [] []) xK
 |[],x::xs=>bi ob x λq gE=>oV ob (λa us=>f (q::a) (aZ gE us)) [] xs
 |true::bs,x::xs=>bi ob x λq gE=>oV ob (λa us=>f (q::a) (aZ gE us)) bs xs
 |false::bs,x::xs=>oV ob (λa us=>f (x::a) us) bs xs
theorem CW{ob:dE}:∀{c:List Bool}{xs:az}{f:az->fk->ay},oV ob f c xs≠ .aF->∃ps us,si ob c xs=some (ps,us)/\oV ob f c xs=f ps us
 |[],[],f,h=>⟨[],[],rfl,rfl⟩
 |_::_,[],f,h=>⟨[],[],rfl,rfl⟩
 |[],x::xs,f,h=>by change bi ob x (λq gE=>oV ob (λa us=>f (q::a) (aZ gE us)) [] xs)≠ .aF at h;show∃ps us,_/\bi ob x (λq gE=>oV ob (λa us=>f (q::a) (aZ gE us)) [] xs)=_;obtain⟨q,d,e⟩:=Ll h;rw[e]at h ⊢;obtain⟨ps,us,b,e⟩:=CW h;exact⟨q::ps,pI ob x++us,by simp only[si,d,b],by rw[e,kU]⟩
 |true::bs,x::xs,f,h=>by change bi ob x (λq gE=>oV ob (λa us=>f (q::a) (aZ gE us)) bs xs)≠ .aF at h;show∃ps us,_/\bi ob x (λq gE=>oV ob (λa us=>f (q::a) (aZ gE us)) bs xs)=_;obtain⟨q,d,e⟩:=Ll h;rw[e]at h ⊢;obtain⟨ps,us,b,e⟩:=CW h;exact⟨q::ps,pI ob x++us,by simp only[si,d,b],by rw[e,kU]⟩
 |false::bs,x::xs,f,h=>by change oV ob (λa us=>f (x::a) us) bs xs≠ .aF at h;obtain⟨ps,us,b,e⟩:=CW h;exact⟨x::ps,us,by simp only[si,b],e⟩
end
end
section
variable{b:Nat}{o:fb}{us:fk}{wk:Option (List Nat)}{a:ay}{x:ao}{h:aO}{k:aO->ay}
section
variable[Tok]
abbrev dv:=ao->aO->ay
def Kl(k:Nat):Nat:= @Bool.rec (λ_=>Nat) 4098 4096 (Nat.ble (Nat.succ (Nat.mod k 4096)) 2048)
def ir(b k:Nat):Nat:= @Bool.rec (λ_=>Nat) (Kl k) (@Bool.rec (λ_=>Nat) (Kl k) (Nat.sub k b) (Nat.ble (Nat.succ k) (Nat.add b 4096))) (Nat.ble b k)
theorem alN(k:Nat):Kl k=if k%4096<2048 then 4096 else 4098:=by
 unfold Kl;cases h:Nat.ble (Nat.succ (Nat.mod k 4096)) 2048 with
 |true=>have:k%4096<2048:=dX h;rw[dr this]
 |false=>
  have:¬k%4096<2048:=λc=>by have:=tF (show Nat.succ (Nat.mod k 4096)<=2048 from c);rw[h]at this;cases this
  rw[dU this]
theorem uf(b k:Nat):ir b k=gj b k:=by
 unfold ir gj;rw[alN];cases g:Nat.ble b k with
 |false=>
  have:¬b<=k:=by intro d;have:=tF d;rw[g]at this;cases this
  rw[dU (c:=b<=k/\_) (λd=>this d.1)]
 |true=>
  have j:=dX g;cases i:Nat.ble (Nat.succ k) (Nat.add b 4096) with
  |true=>have e:k<b+4096:=dX i;rw[dr (c:=b<=k/\_) ⟨j,e⟩];rfl
  |false=>
   have e:¬k<b+4096:=by intro d;have:=tF (show Nat.succ k<=Nat.add b 4096 from d);rw[i]at this;cases this
   rw[dU (c:=b<=k/\_) (λd=>e d.2)]
def e3(l:List Nat)(x:Nat):Bool:= @List.rec Nat (λ_=>Bool) false (λy _ c=> @Bool.rec (λ_=>Bool) c true (Nat.beq x y)) l
theorem vZ:∀{l:List Nat}{x:Nat},e3 l x=true->x∈l
 |y::r,x,h=>by
  have h': @Bool.rec (λ_=>Bool) (e3 r x) true (Nat.beq x y)=true:=h;cases c:Nat.beq x y with
  |true=>rw[e8 c];exact fQ
  |false=>rw[c]at h';exact ii _ (vZ h')
def ke(b:Nat)(wk:Option (List Nat))(us:fk):Bool:=
 @Option.rec (List Nat) (λ_=>Bool) true (λl=> @List.rec (Nat×eQ) (λ_=>Bool) true (λu _ c=>c7 (e3 l (ir b u.1)) c) us) wk
theorem Tu{bu:Bool}{o:dg}(h:ke b (@Bool.rec (λ_=>Option (List Nat)) none (some o.bG) bu) us=true):HW b bu o (us.map iy):=by
 intro hd u e;subst hd;obtain⟨q,c,rfl⟩:=ia.1 e;have g:∀(us:fk), @List.rec (Nat×eQ) (λ_=>Bool) true (λu _ d=>c7 (e3 o.bG (ir b u.1)) d) us=true->∀q∈us,gj b q.1∈o.bG:=by
  intro us;induction us with
  |nil=>intro _ q c;cases c
  |cons u r d=>intro h q c;have h':c7 (e3 o.bG (ir b u.1)) (@List.rec (Nat×eQ) (λ_=>Bool) true (λu _ d=>c7 (e3 o.bG (ir b u.1)) d) r)=true:=h;rw[hY,cC]at h';rcases e9.1 c with rfl|c;have:=vZ h'.1;rw[uf]at this;exact this;exact d h'.2 q c
 exact g us h q c
theorem aeC(b:Nat)(wk:Option (List Nat)):ke b wk []=true:=by cases wk<;>rfl
def nQ(b:Nat)(us:fk)(h:aO)(k:aO->ay):ay:=
 @List.rec (Nat×eQ) (λ_=>aO->ay) (λh=>k h) (λu _ c h=>bB (Nat.ble (Nat.succ u.1) h.ax) (c (h.g1 b u.1 (.ae u.2))) .aF) us h
theorem x2{b:Nat}:∀{us:fk}{h:aO}{k:aO->ay},nQ b us h k≠ .aF->∃h',wK b us h h'/\nQ b us h k=k h'
 |[],h,k,_=>⟨h,⟨ij.refl,rfl,rfl⟩,rfl⟩
 |u::r,h,k,c=>by change bB (Nat.ble (Nat.succ u.1) h.ax) (nQ b r (h.g1 b u.1 (.ae u.2)) k) .aF≠ .aF at c;obtain⟨g,e⟩:=fa c;rw[e]at c;obtain⟨h',⟨br,dM,eB⟩,i⟩:=x2 c;have d:u.1<h.ax:=dX g;refine⟨h',⟨(aO.aeN d).trans br,?_,eB.trans aO.lY⟩,?_⟩;rw[dM,aO.aeM d];rfl;show bB (Nat.ble (Nat.succ u.1) h.ax) (nQ b r (h.g1 b u.1 (.ae u.2)) k) .aF=_;rw[e,i]
def oG(b:Nat)(wk:Option (List Nat))(a:ay)(x:pS)(h:aO)(k:dv):Prop:=
 a≠ .aF->∃v us h',x=some (v,us)/\ke b wk us=true/\wK b us h h'/\a=k v h'
theorem iX.ai{x:Option ao}{k:dv}(s:iX a x λv=>k v h):oG b wk a (fP x) h k:=by intro c;obtain⟨v,d,e⟩:=s c;exact⟨v,[],h,by rw[d];rfl,aeC b wk,⟨ij.refl,rfl,rfl⟩,e⟩
def nP(b:Nat)(wk:Option (List Nat))(q:Nat)(o:fb)(h:aO)(k:aO->ay):ay:=
 bB (ke b wk [(q,o.aj)]) (bB (Nat.ble (Nat.succ q) h.ax) (k (h.g1 b q o)) .aF) .aF
theorem GV{q:Nat}(c:nP b wk q o h k≠ .aF):∃h',ke b wk [(q,o.aj)]=true/\wK b [(q,o.aj)] h h'/\nP b wk q o h k=k h':=by unfold nP at c ⊢;obtain⟨g,e⟩:=fa c;rw[e]at c ⊢;obtain⟨i,e⟩:=fa c;have d:q<h.ax:=dX i;exact⟨h.g1 b q o,g,⟨aO.aeN d,aO.aeM d,aO.lY⟩,e⟩
def px(b:Nat)(wk:Option (List Nat))(us:fk)(h:aO)(k:aO->ay):ay:=bB (ke b wk us) (nQ b us h k) .aF
theorem Lr(c:px b wk us h k≠ .aF):∃h',ke b wk us=true/\wK b us h h'/\px b wk us h k=k h':=by unfold px at c ⊢;obtain⟨d,e⟩:=fa c;rw[e]at c ⊢;obtain⟨h',g,i⟩:=x2 c;exact⟨h',d,g,i⟩
def lJ(b:Nat)(wk:Option (List Nat))(x:pS)(h:aO)(k:dv):ay:=
 @Option.rec (ao×fk) (λ_=>ay) .aF (λp=>px b wk p.2 h λh'=>k p.1 h') x
theorem GY(b:Nat)(wk:Option (List Nat))(x:pS)(h:aO)(k:dv):oG b wk (lJ b wk x h k) x h k:=by
 intro c;cases x with
 |none=>exact absurd rfl c
 |some p=>obtain⟨v,us⟩:=p;change px b wk us h (λh'=>k v h')≠ .aF at c;obtain⟨h',d,e,g⟩:=Lr c;exact⟨v,us,h',rfl,d,e,g⟩
def ns(o:eQ):Nat:= @eQ.rec (λ_=>Nat) (λs=>s) (λs _=>s) (λs _ _ _ _=>s) (λs _=>s) o
theorem MF(o:eQ):ns o=o.cH:=by cases o<;>rfl
def dw(t b d:Nat)(wk:Option (List Nat))(cs:az)(h:aO)(k:dv):ay:=
 gc (Nat.add b d) λq=>gc (kP (ns (h.am q)) t) λs=>nP b wk q (.ae (.box s cs)) h λh'=>k (.aQ q s 0) h'
theorem abf(t b d:Nat)(wk:Option (List Nat))(cs:az)(h:aO)(k:dv):
 oG b wk (dw t b d wk cs h k) (some (.aQ (Nat.add b d) (kP (h.am (Nat.add b d)).cH t) 0,[(Nat.add b d,.box (kP (h.am (Nat.add b d)).cH t) cs)])) h k:=by
 intro c;unfold dw at c ⊢;rw[fN,fN,MF]at c ⊢;obtain⟨h',e,g,i⟩:=GV c;exact⟨_,_,h',rfl,e,g,i⟩
def eR(t b d:Nat)(wk:Option (List Nat))(x:ao)(h:aO)(k:dv):ay:=oh x λcs=>mr cs λcs=>dw t b d wk cs h k
theorem api(t b d:Nat)(wk:Option (List Nat))(x:ao)(h:aO)(k:dv):
 oG b wk (eR t b d wk x h k) (match x.cells with|some cs=>some (.aQ (Nat.add b d) (kP (h.am (Nat.add b d)).cH t) 0,[(Nat.add b d,.box (kP (h.am (Nat.add b d)).cH t) cs)])|none=>none) h k:=by
 intro c;unfold eR at c ⊢;obtain⟨cs,g,e⟩:=Ld c;rw[e,ms]at c ⊢;rw[g];exact abf t b d wk cs h k c
def bl(b:Nat)(wk:Option (List Nat))(n:Nat)(a v:ao)(h:aO)(k:dv):ay:=
 pE a (λ_ _=> .aF)
  (λq s off=>mS (h.am q) λc cs=>bB (Nat.beq s c) (oh v λnew=>bB (Nat.beq (eJ new) n) (bB (Nat.ble (Nat.add off n) (eJ cs)) (mr (yo off cs new) λhu=>nP b wk q (.ae (.box s hu)) h λh'=>k .undef h') .aF) .aF) .aF)
  (λ_ _ _ _=>lJ b wk (pN h.am n a v) h k)
theorem ap5(b:Nat)(wk:Option (List Nat))(n:Nat)(a v:ao)(h:aO)(k:dv):oG b wk (bl b wk n a v h k) (pN h.am n a v) h k:=by intro c;unfold bl at c ⊢;rcases Df c with⟨cs,off,rfl,e⟩|⟨q,s,off,rfl,e⟩|⟨q,s,i,off,rfl,e⟩;rw[e]at c;exact absurd rfl c;rw[e]at c ⊢;obtain⟨u,cs,j,e⟩:=L1 c;rw[e]at c ⊢;obtain⟨l,e⟩:=fa c;rw[e]at c ⊢;obtain⟨new,p,e⟩:=Ld c;rw[e]at c ⊢;obtain⟨d,e⟩:=fa c;rw[e]at c ⊢;obtain⟨g,e⟩:=fa c;rw[e,ms]at c ⊢;obtain⟨h',r,t,e⟩:=GV c;rw[gV]at d g;refine⟨.undef,[(q,.box s (yo off cs new))],h',?_,r,t,e⟩;simp only[pN,j,l,p,d,g,m0,e6,uS,Dk];rw[e]at c ⊢;exact GY _ _ _ _ _ c
def eu(off n:Nat)(x:ao)(cs:az)(f:az->ay):ay:=
 oh x λnew=>bB (Nat.beq (eJ new) n) (bB (Nat.ble (Nat.add off n) (eJ cs)) (f (yo off cs new)) .aF) .aF
def GP(f:az->ay):az->List (Nat×Nat×ao)->ay
 |cs,[]=>(λ(_:Nat)=>f cs) xK
 |cs,(off,n,x)::r=>eu off n x cs λcs=>GP f cs r
theorem abp{f:az->ay}:∀{ps:List (Nat×Nat×ao)}{cs:az},GP f cs ps≠ .aF->∃hu,xH cs ps=some hu/\GP f cs ps=f hu
 |[],cs,_=>⟨cs,rfl,rfl⟩
 |(off,n,x)::r,cs,c=>by simp only[GP,eu]at c ⊢;obtain⟨new,i,e⟩:=Ld c;rw[e]at c ⊢;obtain⟨d,e⟩:=fa c;rw[e]at c ⊢;obtain⟨g,e⟩:=fa c;rw[e]at c ⊢;obtain⟨hu,j,e⟩:=abp c;rw[gV]at d g;refine⟨hu,?_,e⟩;simp only[xH,i,d,g,m0,e6,uS,<-Dk,j]
def fO(cs:az)(k:ao->ay):ay:=mr cs λcs=>k (.agg cs)
def Lb(z:az)(ps:List (Nat×Nat×ao))(k:ao->ay):ay:=GP (λcs=>fO cs k) z ps
theorem apl(z:az)(ps:List (Nat×Nat×ao))(k:ao->ay):iX (Lb z ps k) (match xH z ps with|some cs=>some (.agg cs)|none=>none) k:=by intro c;unfold Lb at c ⊢;obtain⟨cs,d,e⟩:=abp c;rw[e,fO,ms,d];exact⟨_,rfl,rfl⟩
def eo(ob:dE)(sz i:Nat)(x:ao)(es:bg)(f:bg->fk->ay):ay:=
 bi ob x λq gE=>oh q λnew=>bB (Nat.beq (eJ new) sz) (bB (Nat.blt i (eJ es)) (f (wh es i new) gE) .aF) .aF
def CS(ob:dE)(sz:Nat)(f:bg->fk->ay):bg->List (Nat×ao)->ay
 |es,[]=>(λ(_:Nat)=>f es []) xK
 |es,(i,x)::r=>eo ob sz i x es λes gE=>CS ob sz (λes us=>f es (aZ gE us)) es r
theorem RG{ob:dE}{sz:Nat}:∀{ps:List (Nat×ao)}{f:bg->fk->ay}{es:bg},CS ob sz f es ps≠ .aF->∃ea,xG ob sz es ps=some ea/\CS ob sz f es ps=f ea (ps.flatMap λp=>pI ob p.2)
 |[],f,es,_=>⟨es,rfl,rfl⟩
 |(i,x)::r,f,es,c=>by simp only[CS,eo]at c ⊢;obtain⟨q,j,e⟩:=Ll c;rw[e]at c ⊢;obtain⟨new,l,e⟩:=Ld c;rw[e]at c ⊢;obtain⟨d,e⟩:=fa c;rw[e]at c ⊢;obtain⟨g,e⟩:=fa c;rw[e]at c ⊢;obtain⟨ea,n,e⟩:=RG c;rw[gV]at d g;refine⟨ea,?_,by rw[e,kU];rfl⟩;simp only[xG,j,l,d,g,m0,e6,<-Te,n]
def fB(b d:Nat)(wk:Option (List Nat))(e sz len:Nat)(bL:Bool)(es:bg)(us:fk)(h:aO)(k:dv):ay:=
 gc (Nat.add b d) λq=>gc (Nat.add (ns (h.am q)) 1) λs=>mr es λes=>px b wk (aZ us [(q,.aV s e sz es bL)]) h λh'=>k (.aV q s 0 len) h'
def La(b d:Nat)(wk:Option (List Nat))(e sz:Nat)(z:az)(len:Nat)(ps:List (Nat×ao))(bL:Bool)(h:aO)(k:dv):ay:=
 CS h.am sz (λes us=>fB b d wk e sz len bL es us h k) (eF len z) ps
def Tw(ob:dE)(d e sz:Nat)(z:az)(len:Nat)(ps:List (Nat×ao))(bL:Bool):pS:=
 match xG ob sz (List.replicate len z) ps with
  |some es=>some (.aV d (Nat.add (ob d).cH 1) 0 len,ps.flatMap (λp=>pI ob p.2)++[(d,.aV (Nat.add (ob d).cH 1) e sz es bL)])
  |none=>none
theorem apk(b d:Nat)(wk:Option (List Nat))(e sz:Nat)(z:az)(len:Nat)(ps:List (Nat×ao))(bL:Bool)(h:aO)(k:dv):
 oG b wk (La b d wk e sz z len ps bL h k) (Tw h.am (Nat.add b d) e sz z len ps bL) h k:=by
 intro c;unfold La at c ⊢;obtain⟨es,g,i⟩:=RG c;rw[i,fB,fN,fN,ms,kU,MF]at c ⊢;obtain⟨h',j,l,n⟩:=Lr c;rw[Dt]at g;exact⟨_,_,h',by simp only[Tw,g],j,l,n⟩
def abq(b sz:Nat)(wk:Option (List Nat))(es:bg)(us:fk)(h:aO)(k:dv):ay:=
 mr es λes=>px b wk us h λh'=>k (.aN sz es) h'
def Lj(b:Nat)(wk:Option (List Nat))(sz:Nat)(z:az)(len:Nat)(ps:List (Nat×ao))(h:aO)(k:dv):ay:=
 CS h.am sz (λes us=>abq b sz wk es us h k) (eF len z) ps
theorem apz(b:Nat)(wk:Option (List Nat))(sz:Nat)(z:az)(len:Nat)(ps:List (Nat×ao))(h:aO)(k:dv):
 oG b wk (Lj b wk sz z len ps h k) (MW h.am sz z len ps) h k:=by
 intro c;unfold Lj at c ⊢;obtain⟨es,d,e⟩:=RG c;rw[e,abq,ms]at c ⊢;obtain⟨h',g,i,j⟩:=Lr c;rw[Dt]at d;exact⟨_,_,h',by simp only[MW,d],g,i,j⟩
def i0(ob:dE)(sz:Nat)(x:ao)(f:bg->ay):ay:=
 to x (f []) (λc es=>bB (Nat.beq c sz) (f es) .aF)
  (λq s off len=>lq (ob q) λd _ c es _=>bB (Nat.beq s d) (bB (Nat.beq c sz) (bB (Nat.ble (Nat.add off len) (eJ es)) (f (mU es off len)) .aF) .aF) .aF)
theorem apr{ob:dE}{sz:Nat}{f:bg->ay}(c:i0 ob sz x f≠ .aF):∃es,rY ob sz x=some es/\i0 ob sz x f=f es:=by unfold i0 at c ⊢;rcases Hh c with⟨rfl,e⟩|⟨i,es,rfl,e⟩|⟨q,s,off,len,rfl,e⟩;exact⟨[],rfl,e⟩;rw[e]at c ⊢;obtain⟨d,e⟩:=fa c;exact⟨es,by simp only[rY,d,e6],e⟩;rw[e]at c ⊢;obtain⟨n,_,i,es,_,j,e⟩:=Ae c;rw[e]at c ⊢;obtain⟨d,e⟩:=fa c;rw[e]at c ⊢;obtain⟨l,e⟩:=fa c;rw[e]at c ⊢;obtain⟨g,e⟩:=fa c;rw[gV]at g;exact⟨part es off len,by simp only[rY,j,d,l,g,m0,e6],by rw[e,Di]⟩
def uP(o:fb)(f:Nat->Nat->Nat->bg->Bool->ay):ay:=
 @fb.rec (λ_=>ay) (λo=>lq o λs e sz es r=>f s e sz (rd es) r) f o
theorem atM{f:Nat->Nat->Nat->bg->Bool->ay}(h:uP o f≠ .aF):∃s e sz rs r,o.aj= .aV s e sz rs.reverse r/\uP o f=f s e sz rs r:=by
 cases o with
 |ae o=>change lq o (λs e sz es r=>f s e sz (rd es) r)≠ .aF at h;obtain⟨s,e,sz,es,r,c,d⟩:=Ae h;refine⟨s,e,sz,rd es,r,?_,d⟩;rw[yw,yN];exact c
 |o6 s e sz rs r=>exact⟨s,e,sz,rs,r,by show eQ.aV s e sz (rd rs) r=_;rw[yw],rfl⟩
def tv(ys:bg):bg->(bg->ay)->ay:=
 @List.rec az (λ_=>bg->(bg->ay)->ay) (λrs f=>f rs) (λy _ c rs f=>c (y::rs) f) ys
theorem sp:∀(ys rs:bg) (f:bg->ay),tv ys rs f=f (ys.reverse++rs)
 |[],_,_=>rfl
 |y::r,rs,f=>by show tv r (y::rs) f=_;rw[sp r];simp
def jr(b:Nat)(wk:Option (List Nat))(bytes q bZ e sz:Nat)(rs:bg)(n:Nat)(ys:bg)(r:Bool)(len:Nat)(h:aO)(k:dv):ay:=
 gc (Nat.add len n) λm=>bB (Nat.ble (Nat.mul m bytes) 1099511627776) (bB (Nat.ble m 1099511627776) (gc (Nat.add bZ 1) λbZ=>tv ys rs λrs=>nP b wk q (.o6 bZ e sz rs r) h λh'=>k (.aV q bZ 0 m) h') .aF) .aF
def fW(b d:Nat)(wk:Option (List Nat))(e sz bytes:Nat)(s x:ao)(bL:Bool)(h:aO)(k:dv):ay:=
 i0 h.am sz x λys=>mr ys λys=>gc (eJ ys) λn=>
  De s
   (bB (Nat.ble (Nat.mul n bytes) 1099511627776) (bB (Nat.ble n 1099511627776)
    (@List.rec az (λ_=>ay) (px b wk [] h λh'=>k .ba h') (λ_ _ _=>gc (Nat.add b d) λq=>gc (Nat.add (ns (h.am q)) 1) λbZ=>tv ys [] λrs=>nP b wk q (.o6 bZ e sz rs bL) h λh'=>k (.aV q bZ 0 n) h') ys) .aF) .aF)
   (λ_ _=> .aF)
   (λq bZ off len=>bB (Nat.beq off 0) (uP (h.yA q) λg e' c rs r=>bB (Nat.beq bZ g) (bB (Nat.beq e' e) (bB (Nat.beq c sz)
    (@Bool.rec (λ_=>ay) (bB r (bB (Nat.ble len (eJ rs)) (jr b wk bytes q bZ e sz (mb (Nat.sub (eJ rs) len) rs) n ys r len h k) .aF) .aF) (jr b wk bytes q bZ e sz rs n ys r len h k) (Nat.beq len (eJ rs))) .aF) .aF) .aF) .aF)
   (λvs=>SE vs λc es=>bB (Nat.beq c sz) (bB (Nat.ble 1 n) (gc (Nat.add (eJ es) n) λm=>bB (Nat.ble (Nat.mul m bytes) 1099511627776) (bB (Nat.ble m 1099511627776)
    (gc (Nat.add b d) λq=>gc (Nat.add (ns (h.am q)) 1) λbZ=>tv es [] λrs=>tv ys rs λrs=>nP b wk q (.o6 bZ e sz rs bL) h λh'=>k (.aV q bZ 0 m) h') .aF) .aF) .aF) .aF)
theorem abh(b d:Nat)(wk:Option (List Nat))(e sz bytes:Nat)(s x:ao)(bL:Bool)(h:aO)(k:dv):
 oG b wk (fW b d wk e sz bytes s x bL h k) (ss h.am (Nat.add b d) e sz bytes s x bL) h k:=by
 intro c;unfold fW at c ⊢;obtain⟨ys,C,e0⟩:=apr c;rw[e0,ms,fN,gV]at c ⊢;rcases atL c with⟨rfl,j⟩|⟨F,es,rfl,j⟩|⟨q,bZ,off,len,rfl,j⟩|⟨vs,rfl,j⟩;rw[j]at c ⊢;obtain⟨t,g⟩:=fa c;rw[g]at c ⊢;obtain⟨p,g⟩:=fa c;rw[g]at c ⊢;cases ys with
 |nil=>change px b wk [] h (λh'=>k .ba h')≠ .aF at c;obtain⟨h',l,n,i⟩:=Lr c;exact⟨.ba,[],h',by simp only[ss,C,t,p,m0,e6],l,n,i⟩
 |cons y r=>
  change (gc (Nat.add b d) λq=>gc (Nat.add (ns (h.am q)) 1) λbZ=>tv (y::r) [] λrs=>nP b wk q (.o6 bZ e sz rs bL) h λh'=>k (.aV q bZ 0 (y::r).length) h')≠ .aF at c;show∃v us h',_/\_/\_/\(gc (Nat.add b d) λq=>gc (Nat.add (ns (h.am q)) 1) λbZ=>tv (y::r) [] λrs=>nP b wk q (.o6 bZ e sz rs bL) h λh'=>k (.aV q bZ 0 (y::r).length) h')=_;rw[fN,fN,MF,sp]at c ⊢;obtain⟨h',l,n,i⟩:=GV c;have u:(fb.o6 (Nat.add (h.am (Nat.add b d)).cH 1) e sz ((y::r).reverse++[]) bL).aj= .aV (Nat.add (h.am (Nat.add b d)).cH 1) e sz (y::r) bL:=by show eQ.aV _ e sz (rd _) bL=_;rw[yw,qy,yN]
  rw[u]at l n;exact⟨_,_,h',by simp only[ss,C,t,p,m0,e6],l,n,i⟩
 rw[j]at c;exact absurd rfl c;rw[j]at c ⊢;obtain⟨t,g⟩:=fa c;have H:=e8 t;subst H;rw[g]at c ⊢;obtain⟨N,e',F,rs,r,p,g⟩:=atM c;rw[aO.AB]at p;rw[g]at c ⊢;obtain⟨l,g⟩:=fa c;rw[g]at c ⊢;obtain⟨n,g⟩:=fa c;rw[g]at c ⊢;obtain⟨I,g⟩:=fa c;rw[g]at c ⊢;rw[gV]at c ⊢;have G:∀{w:bg},w.reverse=rs.reverse.take len->(Nat.beq len rs.reverse.length||(r&&Nat.ble len rs.reverse.length))=true->jr b wk bytes q bZ e sz w ys.length ys r len h k≠ .aF->
  ∃v us h',ss h.am (Nat.add b d) e sz bytes (.aV q bZ 0 len) x bL=some (v,us)/\ke b wk us=true/\wK b us h h'/\jr b wk bytes q bZ e sz w ys.length ys r len h k=k v h':=by
  intro w J K c;unfold jr at c ⊢;rw[fN]at c ⊢;obtain⟨E,i⟩:=fa c;rw[i]at c ⊢;obtain⟨D,i⟩:=fa c;rw[i,fN,sp]at c ⊢;obtain⟨h',z,A,L⟩:=GV c;have u:(fb.o6 (Nat.add bZ 1) e sz (ys.reverse++w) r).aj= .aV (Nat.add bZ 1) e sz (rs.reverse.take len++ys) r:=by show eQ.aV _ e sz (rd _) r=_;rw[yw,List.reverse_append,yN,J]
  rw[u]at z A;exact⟨_,_,h',by simp only[ss,C,p,l,n,I,K,E,D,m0,e6],z,A,L⟩
 cases B:Nat.beq len rs.length with
 |true=>rw[B]at c;have M:=e8 B;refine G ?_ (by rw[u6,B];rfl) c;rw[M,<-u6,vd]
 |false=>rw[B]at c;change bB r (bB (Nat.ble len rs.length) (jr b wk bytes q bZ e sz (mb (Nat.sub rs.length len) rs) ys.length ys r len h k) .aF) .aF≠ .aF at c;show∃v us h',_/\_/\_/\bB r (bB (Nat.ble len rs.length) (jr b wk bytes q bZ e sz (mb (Nat.sub rs.length len) rs) ys.length ys r len h k) .aF) .aF=_;obtain⟨E,i⟩:=fa c;rw[i]at c ⊢;obtain⟨D,i⟩:=fa c;rw[i]at c ⊢;have O:len<=rs.length:=dX D;refine G ?_ (by rw[u6,B,E,D];rfl) c;rw[xE,List.reverse_drop];congr 1;show rs.length-(rs.length-len)=len;omega
 rw[j]at c ⊢;obtain⟨F,es,rfl,j⟩:=atO c;rw[j]at c ⊢;obtain⟨t,g⟩:=fa c;rw[g]at c ⊢;obtain⟨p,g⟩:=fa c;rw[g,fN,gV]at c ⊢;obtain⟨l,g⟩:=fa c;rw[g]at c ⊢;obtain⟨n,g⟩:=fa c;rw[g,fN,fN,MF,sp,sp]at c ⊢;obtain⟨h',z,A,i⟩:=GV c;have u:(fb.o6 (Nat.add (h.am (Nat.add b d)).cH 1) e sz (ys.reverse++(es.reverse++[])) bL).aj= .aV (Nat.add (h.am (Nat.add b d)).cH 1) e sz (es++ys) bL:=by show eQ.aV _ e sz (rd _) bL=_;rw[yw,qy,List.reverse_append,yN,yN]
 rw[u]at z A;exact⟨_,_,h',by simp only[ss,C,t,p,l,n,m0,e6],z,A,i⟩
def LQ(x:ao)(a:ay):ay:=
 @ao.rec (λ_=>ay) (λ_=>PUnit) (λ_=>PUnit) a (λ_=>a) (λ_ _=>a) (λ_ _=>a) a (λ_=>a) (λ_ _=>a) (λ_ _=> .aF) (λ_ _ _=>a) (λ_ _ _=>a) (λ_ _ _=>a) (λ_ _ _ _=>a) (λ_ _ _ _=>a) (λ_ _=>a) (λ_ _ _=>a) (λ_=>a) PUnit.unit (λ_ _ _ _=>PUnit.unit) PUnit.unit (λ_ _ _ _=>PUnit.unit) x
theorem arV(h:LQ x a≠ .aF):CO x=false/\LQ x a=a:=by cases x<;>first|exact absurd rfl h|exact⟨rfl,rfl⟩
def CP(b d:Nat)(wk:Option (List Nat))(e bytes:Nat)(s x:ao)(bL:Bool)(h:aO)(k:dv):ay:=
 lU x λl n=>LQ s (fW b d wk e 1 bytes s (.aN 1 (pJ l n)) bL h k)
theorem ape(b d:Nat)(wk:Option (List Nat))(e bytes:Nat)(s x:ao)(bL:Bool)(h:aO)(k:dv):
 oG b wk (CP b d wk e bytes s x bL h k) (match x with
  | .s l n=>bif CO s then none else ss h.am (Nat.add b d) e 1 bytes s (.aN 1 (pJ l n)) bL
  |_=>none) h k:=by
 intro c;unfold CP at c ⊢;obtain⟨l,n,rfl,g⟩:=tp c;rw[g]at c ⊢;obtain⟨i,j⟩:=arV c;rw[j]at c ⊢;rw[i];exact abh b d wk e 1 bytes s (.aN 1 (pJ l n)) bL h k c
end
end
section
variable{b:List Nat}{x:ao}{o:fb}{s:cD}
section
variable[Tok]
theorem ab3:∀{l:List Nat}{x:Nat},x∈l->e3 l x=true
 |a::r,x,h=>by
  show @Bool.rec (λ_=>Bool) (e3 r x) true (Nat.beq x a)=true;cases c:Nat.beq x a with
  |true=>rfl
  |false=>rcases e9.1 h with rfl|h;rw[fI]at c;cases c;exact ab3 h
theorem yf{k:Nat}(h:gu (e3 b k)=true):k∉b:=by intro a;rw[ab3 a]at h;cases h
def rP(b:List Nat)(cs:az):Bool:=
 @List.rec ao (λ_=>Bool) true (λc _ a=> @ao.rec (λ_=>Bool) (λ_=>PUnit) (λ_=>PUnit) a (λ_=>a) (λ_ _=>a) (λ_ _=>a) a (λ_=>a) (λ_ _=>false) (λ_ _=>false) (λ_ _ _=>a) (λ_ _ _=>a) (λk _ _=>c7 (gu (e3 b k)) a) (λk _ _ _=>c7 (gu (e3 b k)) a) (λk _ _ _=>c7 (gu (e3 b k)) a) (λk _=>c7 (gu (e3 b k)) a) (λ_ _ _=>false) (λ_=>a) PUnit.unit (λ_ _ _ _=>PUnit.unit) PUnit.unit (λ_ _ _ _=>PUnit.unit) c) cs
def NM(b:List Nat)(x:ao)(r:Bool):Bool:=
 @ao.rec (λ_=>Bool) (λ_=>PUnit) (λ_=>PUnit) r (λ_=>r) (λ_ _=>r) (λ_ _=>r) r (λ_=>r) (λcs _=>c7 (rP b cs) r) (λ_ _=>false) (λ_ _ _=>r) (λ_ _ _=>r) (λk _ _=>c7 (gu (e3 b k)) r) (λk _ _ _=>c7 (gu (e3 b k)) r) (λk _ _ _=>c7 (gu (e3 b k)) r) (λk _=>c7 (gu (e3 b k)) r) (λ_ cs _=>c7 (rP b cs) r) (λ_=>r) PUnit.unit (λ_ _ _ _=>PUnit.unit) PUnit.unit (λ_ _ _ _=>PUnit.unit) x
def NN(b:List Nat)(cs:az):Bool:= @List.rec ao (λ_=>Bool) true (λc _ a=>NM b c a) cs
def Ep(b:List Nat)(x:ao):Bool:=
 @ao.rec (λ_=>Bool) (λ_=>PUnit) (λ_=>PUnit) true (λ_=>true) (λ_ _=>true) (λ_ _=>true) true (λ_=>true) (λcs _=>rP b cs) (λcs _=>NN b cs) (λ_ _ _=>true) (λ_ _ _=>true) (λk _ _=>gu (e3 b k)) (λk _ _ _=>gu (e3 b k)) (λk _ _ _=>gu (e3 b k)) (λk _=>gu (e3 b k)) (λ_ cs _=>rP b cs) (λ_=>true) PUnit.unit (λ_ _ _ _=>PUnit.unit) PUnit.unit (λ_ _ _ _=>PUnit.unit) x
theorem Bj{b:List Nat}:∀{cs:az},rP b cs=true->(∀k∈cs.flatMap ao.key,k∉b)/\(∀k∈cs.flatMap ao.cJ,k∉b)
 |[],_=>⟨by simp,by simp⟩
 |c::r,h=>by
  have p:rP b r=true/\(∀k∈c.key,k∉b)/\(∀k∈c.cJ,k∉b):=by
   have n:∀{k:Nat},c7 (gu (e3 b k)) (rP b r)=true->rP b r=true/\k∉b:=by intro k h;rw[hY,cC]at h;exact⟨h.2,yf h.1⟩
   cases c with
   |aQ k s o=>obtain⟨e,d⟩:=n h;exact⟨e,by intro j a;simp[ao.key,ao.cJ]at a;subst a;exact d,by intro j a;simp[ao.cJ]at a;subst a;exact d⟩
   |aV k s o l=>obtain⟨e,d⟩:=n h;exact⟨e,by intro j a;simp[ao.key,ao.cJ]at a;subst a;exact d,by intro j a;simp[ao.cJ]at a;subst a;exact d⟩
   |eP k s i o=>obtain⟨e,d⟩:=n h;exact⟨e,by intro j a;simp[ao.key,ao.cJ]at a;subst a;exact d,by intro j a;simp[ao.cJ]at a;subst a;exact d⟩
   |fX k s=>obtain⟨e,d⟩:=n h;exact⟨e,by intro j a;simp[ao.key,ao.cJ]at a;subst a;exact d,by intro j a;simp[ao.cJ]at a;subst a;exact d⟩
   |_=>first|exact⟨h,by simp[ao.key,ao.cJ],by simp[ao.cJ]⟩|exact absurd h (by intro h;cases h)
  obtain⟨e,d⟩:=Bj p.1;constructor;intro k g;rw[lb,fq]at g;exact g.elim (p.2.1 k) (e k);intro k g;rw[lb,fq]at g;exact g.elim (p.2.2 k) (d k)
theorem aga{r:Bool}(h:NM b x r=true):r=true/\∀k∈x.fe,k∉b:=by
 have e:∀{k:Nat},c7 (gu (e3 b k)) r=true->r=true/\k∉b:=by intro k h;rw[hY,cC]at h;exact⟨h.2,yf h.1⟩
 cases x with
 |agg cs=>have h':c7 (rP b cs) r=true:=h;rw[hY,cC]at h';exact⟨h'.2,(Bj h'.1).1⟩
 |ey f cs=>have h':c7 (rP b cs) r=true:=h;rw[hY,cC]at h';exact⟨h'.2,(Bj h'.1).2⟩
 |aQ k s o=>obtain⟨c,d⟩:=e h;exact⟨c,by intro j a;simp[ao.fe,ao.key,ao.cJ]at a;subst a;exact d⟩
 |aV k s o l=>obtain⟨c,d⟩:=e h;exact⟨c,by intro j a;simp[ao.fe,ao.key,ao.cJ]at a;subst a;exact d⟩
 |eP k s i o=>obtain⟨c,d⟩:=e h;exact⟨c,by intro j a;simp[ao.fe,ao.key,ao.cJ]at a;subst a;exact d⟩
 |fX k s=>obtain⟨c,d⟩:=e h;exact⟨c,by intro j a;simp[ao.fe,ao.key,ao.cJ]at a;subst a;exact d⟩
 |bD cs=>cases h
 |_=>exact⟨h,by simp[ao.fe,ao.key,ao.cJ]⟩
theorem UD{b:List Nat}:∀{cs:az},NN b cs=true->∀k∈cs.flatMap ao.fe,k∉b
 |[],_=>by simp
 |c::r,h=>by have h':NM b c (NN b r)=true:=h;obtain⟨d,e⟩:=aga h';intro k a;rw[lb,fq]at a;exact a.elim (e k) (UD d k)
theorem UE(h:Ep b x=true):∀k∈x.dl,k∉b:=by
 cases x with
 |agg cs=>exact(Bj h).1
 |ey f cs=>exact(Bj h).2
 |bD cs=>exact UD h
 |aQ k s o=>intro j a;simp[ao.dl,ao.fe,ao.key,ao.cJ]at a;subst a;exact yf h
 |aV k s o l=>intro j a;simp[ao.dl,ao.fe,ao.key,ao.cJ]at a;subst a;exact yf h
 |eP k s i o=>intro j a;simp[ao.dl,ao.fe,ao.key,ao.cJ]at a;subst a;exact yf h
 |fX k s=>intro j a;simp[ao.dl,ao.fe,ao.key,ao.cJ]at a;subst a;exact yf h
 |_=>simp[ao.dl,ao.fe,ao.key,ao.cJ]
def y4(b:List Nat)(o:fb):Bool:= @fb.rec (λ_=>Bool) (λo=> @eQ.rec (λ_=>Bool) (λ_=>true) (λ_ cs=>rP b cs) (λ_ _ _ _ _=>true) (λ_ _=>true) o) (λ_ _ _ _ _=>true) o
theorem agb(h:y4 b o=true):∀k∈(fz o.aj).r8,k∉b:=by
 cases o with
 |ae o=>
  cases o with
  |box s cs=>
   have:=(Bj (show rP b cs=true from h)).1;intro k a;refine this k ?_;have e:(g0 cs).flatMap aT.key=cs.flatMap ao.key:=by rw[ma,sx];congr 1;funext y;exact GX y
   rw[<-e];exact a
  |_=>simp[fb.aj,fz,Obj.r8]
 |o6 s e sz rs bL=>simp[fb.aj,fz,Obj.r8]
def I1(b:List Nat)(l:kR):Bool:= @kR.rec (λ_=>Bool) true (λ_ o _ a=>c7 (y4 b o) a) l
def y5(b:List Nat)(s:cD):Bool:= @cD.rec (λ_=>Bool) true (λ_ l _ a=>c7 (I1 b l) a) s
theorem UB{b:List Nat}:∀{l:kR},I1 b l=true->∀k,y4 b (l.get k)=true
 | .nil,_,_=>rfl
 | .cons a o r,h,k=>by
   have h':c7 (y4 b o) (I1 b r)=true:=h;rw[hY,cC]at h';show y4 b (@Bool.rec (λ_=>fb) (kR.get r k) o (Nat.beq a k))=true;cases Nat.beq a k with
   |true=>exact h'.1
   |false=>exact UB h'.2 k
theorem UC{b:List Nat}:∀{s:cD},y5 b s=true->∀k,y4 b (s.get k)=true
 | .nil,_,_=>rfl
 | .cons c l r,h,k=>by
   have h':c7 (I1 b l) (y5 b r)=true:=h;rw[hY,cC]at h';show y4 b (@Bool.rec (λ_=>fb) (cD.get r k) (l.get k) (Nat.ble c k))=true;cases Nat.ble c k with
   |true=>exact UB h'.1 k
   |false=>exact UC h'.2 k
theorem UF{ub:Nat}(h:y5 b s=true)(k:Nat):∀q∈b,q∉(fz (b9 ub s k)).r8:=by intro q c a;by_cases d:k<ub;rw[h7 d]at a;exact agb (UC h k) q a c;rw[mh (by omega)]at a;simp[fz,Obj.r8]at a
def IX(b:List Nat)(xs:az):Bool:= @List.rec ao (λ_=>Bool) true (λx _ a=>c7 (Ep b x) a) xs
theorem Uu{b:List Nat}:∀{xs:az},IX b xs=true->∀x∈xs,∀k∈x.dl,k∉b
 |[],_,x,a=>by cases a
 |y::r,h,x,a=>by have h':c7 (Ep b y) (IX b r)=true:=h;rw[hY,cC]at h';rcases e9.1 a with rfl|a;exact UE h'.1;exact Uu h'.2 x a
def IW(b:List Nat)(us:fk):Bool:= @List.rec (Nat×eQ) (λ_=>Bool) true (λu _ a=>c7 (gu (e3 b u.1)) a) us
theorem Ut{b:List Nat}:∀{us:fk},IW b us=true->∀u∈us,u.1∉b
 |[],_,x,a=>by cases a
 |y::r,h,x,a=>by have h':c7 (gu (e3 b y.1)) (IW b r)=true:=h;rw[hY,cC]at h';rcases e9.1 a with rfl|a;exact yf h'.1;exact Ut h'.2 x a
def QD(o:fb):Bool:= @fb.rec (λ_=>Bool) (λo=> @eQ.rec (λ_=>Bool) (λ_=>true) (λ_ _=>false) (λ_ _ _ _ _=>false) (λ_ _=>false) o) (λ_ _ _ _ _=>false) o
theorem al8(h:QD o=true):¬(fz o.aj).gg:=by
 cases o with
 |ae o=>cases o with
  |aF s=>simp[fb.aj,fz,Obj.gg]
  |_=>cases h
 |o6=>cases h
def Kp(b:Nat)(wk:List Nat)(s:cD)(cs:List Nat):Bool:=
 @List.rec Nat (λ_=>Bool) true (λc _ a=>c7 (c7 (Nat.ble (Nat.succ c) 4096) (gu (e3 wk c))) (c7 (QD (s.get (Nat.add b c))) a)) cs
theorem Y7{b:Nat}{wk:List Nat}{s:cD}:∀{cs:List Nat},Kp b wk s cs=true->∀c∈cs,c<4096/\c∉wk/\¬(fz (s.get (b+c)).aj).gg
 |[],_,x,a=>by cases a
 |y::r,h,x,a=>by have h':c7 (c7 (Nat.ble (Nat.succ y) 4096) (gu (e3 wk y))) (c7 (QD (s.get (Nat.add b y))) (Kp b wk s r))=true:=h;simp only[hY,cC]at h';rcases e9.1 a with rfl|a;exact⟨dX h'.1.1,yf h'.1.2,al8 h'.2.1⟩;exact Y7 h'.2.2 x a
def s7(b:Nat)(cs:List Nat):List Nat:= @List.rec Nat (λ_=>List Nat) [] (λc _ a=>(Nat.add b c)::a) cs
theorem ZY{b c:Nat}:∀{cs:List Nat},c∈cs->b+c∈s7 b cs
 |y::r,h=>by rcases e9.1 h with rfl|h;exact fQ;exact ii _ (ZY h)
def s9(rk:List Nat):List Nat:= @List.rec Nat (λ_=>List Nat) [] (λc _ a=> @Bool.rec (λ_=>List Nat) a ((Nat.sub c 8192)::a) (Nat.ble 8192 c)) rk
theorem ZZ:∀(rk:List Nat),s9 rk=nb rk
 |[]=>rfl
 |c::r=>by
  show @Bool.rec (λ_=>List Nat) (s9 r) ((Nat.sub c 8192)::s9 r) (Nat.ble 8192 c)=_;rw[ZZ r];unfold nb;rw[List.filterMap_cons];cases h:Nat.ble 8192 c with
  |true=>rw[dr (dX h)];rfl
  |false=>rw[dU (λa=>by rw[tF a]at h;cases h)]
def Bg(b:Nat)(rk wk:List Nat)(us:fk)(xs:az)(s a:cD)(c:ao):Bool:=
 @List.rec Nat (λ_=>Bool) true (λ_ _ _=>c7 (Kp b wk s (s9 rk)) (c7 (IW (s7 b (s9 rk)) us) (c7 (y5 (s7 b (s9 rk)) s) (c7 (y5 (s7 b (s9 rk)) a) (c7 (IX (s7 b (s9 rk)) xs) (Ep (s7 b (s9 rk)) c)))))) (s9 rk)
theorem af3{b:Nat}{rk wk:List Nat}{us:fk}{xs:az}{g:cD}{i:ao}(h:Bg b rk wk us xs s g i=true):∀c∈nb rk,c<4096/\c∉wk/\¬(fz (s.get (b+c)).aj).gg/\(∀u∈us,u.1≠b+c)/\
 (∀ub k,b+c∉(fz (b9 ub s k)).r8)/\(∀ub k,b+c∉(fz (b9 ub g k)).r8)/\(∀x∈xs,b+c∉x.dl)/\b+c∉i.dl:=by
 intro c a;rw[<-ZZ]at a;unfold Bg at h;cases j:s9 rk with
 |nil=>rw[j]at a;cases a
 |cons y r=>rw[j]at h;have h':c7 (Kp b wk s (y::r)) (c7 (IW (s7 b (y::r)) us) (c7 (y5 (s7 b (y::r)) s) (c7 (y5 (s7 b (y::r)) g) (c7 (IX (s7 b (y::r)) xs) (Ep (s7 b (y::r)) i)))))=true:=h;rw[<-j]at h';simp only[hY,cC]at h';obtain⟨n,p,q,t,w,z⟩:=h';obtain⟨d1,d2,d3⟩:=Y7 n c a;have d:=ZY (b:=b) a;exact⟨d1,d2,d3,λu A e=>Ut p u A (e▸d),λub k=>UF q k _ d,λub k=>UF t k _ d,λx B l=>Uu w x B _ l d,λl=>UE z _ l d⟩
end
end
section
variable[Tok]
abbrev Fn:=Nat->az->Nat->cD->ay
abbrev cO:=Nat->ao
def tB(aR:cO)(i:Nat)(v:ao):cO:=λj=> @Bool.rec (λ_=>ao) (aR j) v (Nat.beq j i)
def nq(aR:cO)(d:Option Nat)(v:ao):cO:= @Option.rec Nat (λ_=>cO) aR (λt=>tB aR t v) d
def lT:cO:=λ_=> .undef
def e7(aR:cO):Operand->ao
 | .tmp t=>aR t
 | .const v=>Gn v
 | .func f=> .bo (.func (.func f) #[] #[])
 | .global _=> .undef
def v1(b:Nat)(rk:List Nat)(cs:az):Bool:=
 @List.rec ao (λ_=>Bool) true (λc _ a=> @ao.rec (λ_=>Bool) (λ_=>PUnit) (λ_=>PUnit) a (λ_=>a) (λ_ _=>a) (λ_ _=>a) a (λ_=>a) (λ_ _=>false) (λ_ _=>false) (λ_ _ _=>a) (λ_ _ _=>a) (λk _ _=>c7 (e3 rk (ir b k)) a) (λk _ _ _=>c7 (e3 rk (ir b k)) a) (λk _ _ _=>c7 (e3 rk (ir b k)) a) (λk _=>c7 (e3 rk (ir b k)) a) (λ_ _ _=>false) (λ_=>a) PUnit.unit (λ_ _ _ _=>PUnit.unit) PUnit.unit (λ_ _ _ _=>PUnit.unit) c) cs
def k3(b:Nat)(rk:List Nat)(x:ao):Bool:=
 @ao.rec (λ_=>Bool) (λ_=>PUnit) (λ_=>PUnit) true (λ_=>true) (λ_ _=>true) (λ_ _=>true) true (λ_=>true) (λcs _=>v1 b rk cs) (λ_ _=>false) (λ_ _ _=>true) (λ_ _ _=>true) (λk _ _=>e3 rk (ir b k)) (λk _ _ _=>e3 rk (ir b k)) (λk _ _ _=>e3 rk (ir b k)) (λk _=>e3 rk (ir b k)) (λ_ cs _=>v1 b rk cs) (λ_=>true) PUnit.unit (λ_ _ _ _=>PUnit.unit) PUnit.unit (λ_ _ _ _=>PUnit.unit) x
def met(b:Nat)(rk:List Nat)(xs:az)(a:ay):ay:=(λ(_:Nat)=> @List.rec ao (λ_=>ay) a (λx _ c=>bB (k3 b rk x) c .aF) xs) xK
def Hg(x:ao)(f:Nat->az->ay):ay:=
 @Option.rec (Nat×az) (λ_=>ay) .aF (λp=>f p.1 p.2) (match x with
  | .bo (.func (.func f) ⟨[]⟩ ⟨[]⟩)=>some (f,[])
  | .ey f cR=>some (f,cR)
  |_=>none)
def zY(b:Nat)(us:fk)(h:aO)(k:dv)(a:ay):ay:=
 @ay.rec (λ_=>ay) .aF (λc ub _ _=>bB (Nat.beq ub 0) (nQ b us h λh'=>k c h') .aF) a
def cm(u:Fn)(b:Nat)(wk:Option (List Nat))(f:Nat)(ps:az)(us:fk)(h:aO)(k:dv):ay:=bB (ke b wk us) (zY b us h k (u f ps 0 .nil)) .aF
def CQ(u:Fn)(b:Nat)(wk:Option (List Nat))(f:Nat)(args:az)(h:aO)(k:dv):ay:=
 oV h.am (λps us=>cm u b wk f ps us h k) [] args
def L2(x:ao)(f:Nat->ay):ay:=
 @Option.rec Nat (λ_=>ay) .aF f (match x with
  | .bo (.func (.func f) ⟨[]⟩ ⟨[]⟩)=>some f
  |_=>none)
def zX(u:Fn)(b:Nat)(wk:Option (List Nat))(f:ao)(args:az)(h:aO)(k:dv):ay:=
 L2 f λf=>CQ u b wk f args h k
def fA(b:Nat)(l:List Nat):List Nat:= @List.rec Nat (λ_=>List Nat) [] (λj _ a=> @Bool.rec (λ_=>List Nat) a (j::a) (Nat.ble (Nat.succ j) b)) l
def js(b ub:Nat)(d:List Nat)(k:dv)(a:ay):ay:=
 @ay.rec (λ_=>ay) .aF (λe c g h=>bB (Nat.ble ub c) (k e (.mk c g (aZ (fA b h) d))) .aF) a
def dC(u:Fn)(b:Nat)(f:Nat)(ps:az)(us:fk)(h:aO)(k:dv):ay:=
 nQ b us h λa=> @aO.rec (λ_=>ay) (λub s d=>js b ub d k (u f ps ub s)) a
def CU(u:Fn)(b:Nat)(f:Nat)(cR:az)(args:az)(a:List Bool)(h:aO)(k:dv):ay:=
 oV h.am (λps us=>dC u b f (aZ ps cR) us h k) a args
def nd(u:Fn)(b:Nat)(f:ao)(args:az)(a:List Bool)(h:aO)(k:dv):ay:=
 Hg f λf cR=>CU u b f cR args a h k
def wm(b:Nat)(wk:List Nat)(l:List Nat):Bool:= @List.rec Nat (λ_=>Bool) true (λj _ a=>c7 (e3 wk (ir b j)) a) l
def Ab(wk:List Nat)(ub a:Nat):Bool:= @Bool.rec (λ_=>Bool) (c7 (e3 wk 4096) (e3 wk 4098)) true (Nat.beq ub a)
def GQ(b:Nat)(rk wk:List Nat)(us:fk)(xs:az)(ub:Nat)(s:cD)(d:List Nat)(k:dv)(a:ay):ay:=
 @ay.rec (λ_=>ay) .aF (λe c g h=>bB (Nat.ble ub c) (bB (wm b wk h) (bB (Ab wk ub c) (bB (Bg b rk wk us xs s g e) (k e (.mk c g (aZ (fA b h) d))) .aF) .aF) .aF) .aF) a
def vV(u:Fn)(b:Nat)(rk wk:List Nat)(xs:az)(f:Nat)(ps:az)(us:fk)(h:aO)(k:dv):ay:=
 bB (ke b (some wk) us) (nQ b us h λa=> @aO.rec (λ_=>ay) (λub s d=>GQ b rk wk us (aZ xs ps) ub s d k (u f ps ub s)) a) .aF
def CV(u:Fn)(b:Nat)(rk wk:List Nat)(f:Nat)(cR:az)(args:az)(a:List Bool)(h:aO)(k:dv):ay:=
 oV h.am (λps us=>vV u b rk wk args f (aZ ps cR) us h k) a args
def x0(u:Fn)(b:Nat)(rk wk:List Nat)(f:ao)(args:az)(a:List Bool)(h:aO)(k:dv):ay:=
 Hg f λf cR=>CV u b rk wk f cR args a h k
def cZ(x:ao)(a:Bool)(f g:ay):ay:=
 @ao.rec (λ_=>ay) (λ_=>PUnit) (λ_=>PUnit) .aF (λc=> @Bool.rec (λ_=>ay) (bB c g f) (bB c f g) a) (λ_ _=> .aF) (λ_ _=> .aF) .aF (λ_=> .aF) (λ_ _=> .aF)
  (λl _=> @List.rec ao (λ_=>ay) g (λ_ _ _=> .aF) l) (λ_ _ _=> .aF) (λ_ _ _=> .aF) (λ_ _ _=> .aF) (λ_ _ _ _=> .aF) (λ_ _ _ _=> .aF) (λ_ _=> .aF) (λ_ _ _=> .aF) (λ_=> .aF) PUnit.unit (λ_ _ _ _=>PUnit.unit) PUnit.unit (λ_ _ _ _=>PUnit.unit) x
theorem aaJ{x:ao}{a:Bool}{f g:ay}(h:cZ x a f g≠ .aF):(x= .U a/\cZ x a f g=f)\/((x= .U (!a)\/x= .bD [])/\cZ x a f g=g):=by
 cases x with
 |U c=>cases c<;>cases a<;>first|exact .inl ⟨rfl,rfl⟩|exact .inr ⟨.inl rfl,rfl⟩
 |bD l=>cases l with
  |nil=>exact .inr ⟨.inr rfl,rfl⟩
  |cons _ _=>exact absurd rfl h
 |_=>exact absurd rfl h
def Kr(b d:Nat)(wk:Option (List Nat))(ev:Operand->ao)(h:aO)(k:dv):mA->ay
 | .qa x=>k (ev x) h
 | .pick c x y=>cS (ev c) (ev x) (ev y) λv=>k v h
 | .alloc t zero=>dw t b d wk (zero.map kY) h k
 | .box t x=>eR t b d wk (ev x) h k
 | .build zero ps=>Lb (zero.map kY) (ps.map λq=>(q.1,q.2.1,ev q.2.2)) λv=>k v h
 | .oN e sz zero len ps bL=>La b d wk e sz (zero.map kY) len (ps.map λq=>(q.1,ev q.2)) bL h k
 | .p9 m x _=>lJ b wk (MX h.am (ev m) (ev x)) h k
 | .pY _ sz zero len ps=>Lj b wk sz (zero.map kY) len (ps.map λq=>(q.1,ev q.2)) h k
 | .load isAgg n a=>bh h.am isAgg n (ev a) λv=>k v h
 | .store n a v=>bl b wk n (ev a) (ev v) h k
 | .sg x=>lS (ev x) λv=>k v h
 | .rR g x y=>RD g (ev x) (ev y) λv=>k v h
 | .rS neg x y=>xY neg (ev x) (ev y) λv=>k v h
 | .rZ neg x y=>iP neg (ev x) (ev y) λv=>k v h
 | .r5 neg x=>Lm neg (ev x) λv=>k v h
 | .pd g x=>Lq g (ev x) λv=>k v h
 | .rU p x=>dj (qp p (ev x)) λv=>k v h
 | .qI x=>dj (tC h.am (ev x)) λv=>k v h
 | .p8 e sz bytes zero l c=>lJ b wk (rj (Nat.add b d) e sz bytes (h.am (Nat.add b d)).cH (zero.map kY) (ev l) (ev c)) h k
 | .sr x lo hi=>p2 (ev x) (lo.map ev) (hi.map ev) λv=>k v h
 | .ri sz x lo hi=>td h.am sz (ev x) (lo.map ev) (hi.map ev) λv=>k v h
 | .pW o x=>bz o (ev x) λv=>k v h
 | .r0 isAgg off n x=>Li isAgg off n (ev x) λv=>k v h
 | .qU sz x i=>de h.am sz (ev x) (ev i) λv=>k v h
 | .sq x i=>ne (ev x) (ev i) λv=>k v h
 | .ext x i=>cP (ev x) i λv=>k v h
 | .len kq x=>cv kq (ev x) λv=>k v h
 | .append e sz bytes s x bL=>fW b d wk e sz bytes (ev s) (ev x) bL h k
 | .n7 e bytes s x bL=>CP b d wk e bytes (ev s) (ev x) bL h k
 | .q0 r x y=>dj (rm r (ev x) (ev y)) λv=>k v h
 | .rO n sz x i=>dj (M1 n sz (ev x) (ev i)) λv=>k v h
 | .gE g x y=>dj (yF g (ev x) (ev y)) λv=>k v h
 | .bits g x y=>dj (lZ g (ev x) (ev y)) λv=>k v h
 | .sf f cR=>dj (AH f (cR.map ev)) λv=>k v h
 | .qZ=>lJ b wk (some (.fX (Nat.add b d) (Nat.add (h.am (Nat.add b d)).cH 1),[(Nat.add b d,.map (Nat.add (h.am (Nat.add b d)).cH 1) [])])) h k
 | .pD j m x v=>lJ b wk (yD h.am j (ev m) (ev x) (ev v)) h k
 | .pC j u zero m x=>dj (u0 h.am j u zero (ev m) (ev x)) λv=>k v h
 |_=> .aF
def lw(bu:Bool)(o:dg):Option (List Nat):= @Bool.rec (λ_=>Option (List Nat)) none (some o.bG) bu
def iG(u:Fn)(b:Nat)(bu:Bool)(o:dg)(ev:Operand->ao)(h:aO)(k:dv):ay:=
 match o.ak with
 | .call (.func f) args=>CQ u b (lw bu o) f (args.map ev) h k
 | .call f args=>zX u b (lw bu o) (ev f) (args.map ev) h k
 | .hK (.func f) args a=> @Bool.rec (λ_=>ay) (CU u b f [] (args.map ev) a h k) (@Bool.rec (λ_=>ay) .aF (CV u b o.cb o.bG f [] (args.map ev) a h k) (e3 o.cb 4097)) bu
 | .hK f args a=> @Bool.rec (λ_=>ay) (nd u b (ev f) (args.map ev) a h k) (@Bool.rec (λ_=>ay) .aF (x0 u b o.cb o.bG (ev f) (args.map ev) a h k) (e3 o.cb 4097)) bu
 |r=>Kr b (Nat.add o.ak.off (o.dst.getD 0)) (lw bu o) ev h k r
def HS:List Operand->List Operand
 |[]=>[]
 | .tmp t::r=> .tmp t::HS r
 |_::r=>HS r
def C5:mA->List Operand
 | .hK _ _ _=>[]
 |r=>HS r.mR
def rX(u:Fn)(b:Nat)(bu:Bool)(o:dg)(ev:Operand->ao)(h:aO)(k:dv):ay:=
 @Bool.rec (λ_=>ay) (iG u b bu o ev h k) (met b o.cb ((C5 o.ak).map ev) (iG u b bu o ev h k)) (bu&&o.ak.looks)
def rC:List Nat->Type
 |[]=>aO->ay
 |_::l=>ao->rC l
def kZ:(l:List Nat)->(cO->aO->ay)->cO->rC l
 |[],f,e=>f e
 |s::l,f,e=>λv=>kZ l f (tB e s v)
def jg:(l:List Nat)->rC l->cO->aO->ay
 |[],j,_=>(λ(_:Nat)=>j) xK
 |s::l,j,e=>jg l (j (e s)) e
def Qh:(l:List Nat)->rC l
 |[]=>λ_=> .aF
 |_::l=>λ_=>Qh l
def dy{α:Type}(x:α)(f:α->ay):ay:=f x
def oa(u:Fn)(b:Nat)(bu:Bool)(os:List dg):cO->aO->(cO->aO->ay)->ay:=
 @List.rec dg (λ_=>cO->aO->(cO->aO->ay)->ay) (λaR h k=>k aR h) (λo _ a aR h k=>rX u b bu o (e7 aR) h λv h'=>a (nq aR o.dst v) h' k) os
def kl:List dg->List Nat
 |[]=>[]
 |o::r=>match o.dst with|some d=>d::kl r|none=>kl r
def qY:List dg->cO->cO
 |[],aR=>aR
 |o::r,aR=>qY r (nq aR o.dst (.bD []))
def MA:Option (Nat×Bool)->Option (Nat×Bool)->Bool
 |none,none=>true
 |some (t,w),some (a,w')=>Nat.beq t a&&(w==w')
 |_,_=>false
def adZ:Option Nat->Nat->Bool
 |some d,t=>Nat.beq d t
 |none,_=>false
def under(g:Option (Nat×Bool))(o:dg):Bool:=MA o.guard g&&match g with|some (t,_)=> !adZ o.dst t|none=>true
def yy:List dg->List (Option (Nat×Bool)×List dg)
 |[]=>[]
 |o::r=>match yy r with
  |[]=>[(o.guard,[o])]
  |(g,os)::l=>if MA o.guard g&&under g o then(g,o::os)::l else(o.guard,[o])::(g,os)::l
theorem adV:∀(l:List dg),(yy l).flatMap (·.2)=l
 |[]=>rfl
 |o::r=>by
  have a:=adV r;unfold yy;cases b:yy r with
  |nil=>rw[b]at a;simp at a;subst a;rfl
  |cons p l=>obtain⟨g,os⟩:=p;rw[b]at a;simp only[];split;rw[lb]at a ⊢;show o::os++_=_;rw[wx,a];rw[lb,a];rfl
def uh(u:Fn)(b:Nat)(bu:Bool)(g:Option (Nat×Bool))(os:List dg)(aR:cO)(h:aO)(k:cO->aO->ay):ay:=
 @Bool.rec (λ_=>ay) .aF
  (@Option.rec (Nat×Bool) (λ_=>ay) (oa u b bu os aR h k)
   (λp=>dy (kZ (kl os) k aR) λj=>cZ (aR p.1) p.2 (oa u b bu os aR h λaR h=>jg (kl os) j aR h) (jg (kl os) j (qY os aR) h)) g) (os.all (under g))
def Cr(u:Fn)(b:Nat)(bu:Bool)(rs:List (Option (Nat×Bool)×List dg)):cO->aO->(cO->aO->ay)->ay:=
 @List.rec (Option (Nat×Bool)×List dg) (λ_=>cO->aO->(cO->aO->ay)->ay) (λaR h k=>k aR h) (λp _ a aR h k=>uh u b bu p.1 p.2 aR h λc h'=>a c h' k) rs
def sX(u:Fn)(b:Nat)(bu:Bool)(os:List dg):cO->aO->(cO->aO->ay)->ay:=Cr u b bu (yy os)
inductive hH where
 |skip
 |region (bu:Bool) (bS:List dg)
 |seq (a b:hH)
 |xX (l:List Nat) (a b:hH)
 |cond (c:Operand) (a b:hH)
 |block (id:Nat) (b:hH)
 |loop (l:List Nat) (b:hH)
 |exit (id:Nat)
 |ret
 |mI (k:Nat) (d:Nat->cO->aO->(cO->aO->ay)->ay)
def hH.gP:hH->hJ
 | .skip=> .skip
 | .region bu bS=> .region bu bS
 | .seq a b=> .seq a.gP b.gP
 | .xX _ a b=> .seq a.gP b.gP
 | .cond c a b=> .cond c a.gP b.gP
 | .block id b=> .block id b.gP
 | .loop _ b=> .loop b.gP
 | .exit id=> .exit id
 | .ret=> .ret
 | .mI k _=> .mI k
def awN{α:Type}(f:α->α)(x:α):α:=f x
def lj(l:List Nat)(n:Nat)(f:rC l->rC l):rC l:= @Nat.rec (λ_=>rC l) (Qh l) (λ_ x=>awN f x) n
def bp(c:ao)(x y:ay):ay:=yj c λt=>bB t x y
def den(u:Fn)(b n:Nat)(c:hH):cO->aO->(cO->aO->ay)->(Nat->cO->aO->ay)->(cO->aO->ay)->ay:=
 @hH.rec (λ_=>cO->aO->(cO->aO->ay)->(Nat->cO->aO->ay)->(cO->aO->ay)->ay)
  (λaR h dA _ _=>dA aR h)
  (λbu bS aR h dA _ _=>sX u b bu bS aR h dA)
  (λ_ _ k g aR h dA a e=>k aR h (λaR h=>g aR h dA a e) a e)
  (λl _ _ k g aR h dA a e=>dy (kZ l (λaR h=>g aR h dA a e) lT) λj=>k aR h (λaR h=>jg l j aR h) a e)
  (λc _ _ k g aR h dA a e=>bp (e7 aR c) (k aR h dA a e) (g aR h dA a e))
  (λid _ g aR h dA a e=>g aR h dA (λi=> @Bool.rec (λ_=>cO->aO->ay) (a i) dA (Nat.beq i id)) e)
  (λl _ g aR h _ a e=>jg l (lj l n λj=>kZ l (λaR h=>g aR h (λaR h=>jg l j aR h) a e) lT) aR h)
  (λid aR h _ a _=>a id aR h)
  (λaR h _ _ e=>e aR h)
  (λ_ d aR h dA _ _=>d b aR h dA) c
end
end Go.Hf

import Derived.Test.YthiipifjdfmblaaGreatDoorAe
set_option linter.all false
namespace Go.Hf
open Go.RowKit
section
variable[Tok]
def h7(a:aw)(x:Option an)(k:an->aw):Prop:=a≠ .ax->∃v,x=some v/\a=k v
noncomputable def c8(x:Option an)(k:an->aw):aw:= @Option.rec an (λ_=>aw) .ax k x
theorem se(x:Option an)(k:an->aw):h7 (c8 x k) x k:=by
 intro h;cases x with
 |none=>exact absurd rfl h
 |some v=>exact⟨v,rfl,rfl⟩
noncomputable def bX(c a b:an)(k:an->aw):aw:=vN c λt=>bf t (k a) (k b)
theorem aDr(c a b:an)(k:an->aw):h7 (bX c a b k) (Ma c a b) k:=by
 intro h;obtain⟨t,rfl,e⟩:=Cc h;cases t
 ·exact⟨b,rfl,rfl⟩
 ·exact⟨a,rfl,rfl⟩
noncomputable def kJ(isAgg:Bool)(n:Nat)(cs:aB)(off:Nat)(k:an->aw):aw:=
 @Bool.rec (λ_=>aw) (wr off cs k)
  (bf (cS (Nat.beq off 0) (Nat.beq n (ea cs))) (k (.agg cs)) (bf (Nat.ble (Nat.add off n) (ea cs)) (k (.agg (sP n (lK off cs)))) .ax)) isAgg
theorem DH(isAgg:Bool)(n:Nat)(cs:aB)(off:Nat)(k:an->aw):h7 (kJ isAgg n cs off k) (qr isAgg n cs off) k:=by
 intro h;cases isAgg with
 |false=>change wr off cs k≠ .ax at h;obtain⟨x,a,c⟩:=Gc h;exact⟨x,a,c⟩
 |true=>
  change bf (cS (Nat.beq off 0) (Nat.beq n (ea cs))) (k (.agg cs)) (bf (Nat.ble (Nat.add off n) (ea cs)) (k (.agg (sP n (lK off cs)))) .ax)≠ .ax at h;show∃v,qr true n cs off=some v/\bf (cS (Nat.beq off 0) (Nat.beq n (ea cs))) (k (.agg cs)) (bf (Nat.ble (Nat.add off n) (ea cs)) (k (.agg (sP n (lK off cs)))) .ax)=k v;rw[jg,gr] at h ⊢;cases b:(Nat.beq off 0&&Nat.beq n cs.length) with
  |true=>simp only[Hi,IY] at b;obtain⟨rfl,rfl⟩:=b;have d:=gz (sm cs.length);refine⟨_,?_,rfl⟩;simp[qr,d]
  |false=>rw[b] at h;change bf (Nat.ble (Nat.add off n) cs.length) _ .ax≠ .ax at h;obtain⟨a,_⟩:=dV h;refine⟨_,?_,(dV h).2⟩;simp only[qr,lR,a,Jn,tB]
noncomputable def aW(ob:ej)(isAgg:Bool)(n:Nat)(a:an)(k:an->aw):aw:=
 nE a (λcs off=>kJ isAgg n cs off k)
  (λb s off=>nA (ob b) λc cs=>bf (Nat.beq s c) (kJ isAgg n cs off k) .ax)
  (λb s i off=>jQ (ob b) λc _ _ es _=>bf (Nat.beq s c) (wr i es λcs=>kJ isAgg n cs off k) .ax)
theorem aeY(ob:ej)(isAgg:Bool)(n:Nat)(a:an)(k:an->aw):h7 (aW ob isAgg n a k) (Aa ob isAgg n a) k:=by
 intro h;unfold aW at h ⊢;rcases yI h with⟨cs,off,rfl,e⟩|⟨o,s,off,rfl,e⟩|⟨o,s,i,off,rfl,e⟩
 ·rw[e] at h ⊢;obtain⟨v,b,c⟩:=DH _ _ _ _ _ h;exact⟨v,b,c⟩
 ·rw[e] at h ⊢;obtain⟨p,cs,b,c⟩:=JA h;rw[c] at h ⊢;obtain⟨d,g⟩:=dV h;rw[g] at h ⊢;obtain⟨v,j,l⟩:=DH _ _ _ _ _ h;exact⟨v,by simp only[Aa,b,d,lR];exact j,l⟩
 ·rw[e] at h ⊢;obtain⟨p,_,_,es,_,b,c⟩:=w4 h;rw[c] at h ⊢;obtain⟨d,g⟩:=dV h;rw[g] at h ⊢;obtain⟨cs,q,r⟩:=Gc h;rw[r] at h ⊢;obtain⟨v,j,l⟩:=DH _ _ _ _ _ h;exact⟨v,by simp only[Aa,b,d,lR,q];exact j,l⟩
noncomputable def hY(x:an)(k:an->aw):aw:=nE x (λ_ _=>k x) (λ_ _ _=>k x) (λ_ _ _ _=>k x)
theorem aAR(x:an)(k:an->aw):h7 (hY x k) (KO x) k:=by intro h;unfold hY at h ⊢;rcases yI h with⟨cs,off,rfl,e⟩|⟨a,s,off,rfl,e⟩|⟨a,s,i,off,rfl,e⟩<;>exact⟨_,rfl,rfl⟩
noncomputable def jH(l n a b:Nat):Bool:=cS (Nat.beq l a) (Nat.beq (Nat.mod n (Nat.pow 256 l)) (Nat.mod b (Nat.pow 256 l)))
theorem MK(l n a b:Nat):jH l n a b=px l n a b:=by unfold jH px;rw[jg,Nat.pow_eq];rfl
noncomputable def bY(x y:an)(k:an->aw):aw:=
 vd x (λq a=>jR y λc b=>bf (lQ q c) (k (.a9 (Nat.beq a b))) .ax) (λl n=>k6 y λd e=>k (.a9 (jH l n d e)))
theorem ase(x y:an)(k:an->aw):h7 (bY x y k) (fA .eql x y) k:=by
 intro h;unfold bY at h ⊢;rcases H5 h with⟨q,a,rfl,e⟩|⟨l,n,rfl,e⟩
 ·rw[e] at h ⊢;obtain⟨i,b,rfl,c⟩:=qB h;rw[c] at h ⊢;obtain⟨d,g⟩:=dV h;refine⟨_,?_,g⟩;simp only[fA,(pH d).2,lR,sJ]
 ·rw[e] at h ⊢;obtain⟨j,o,rfl,c⟩:=qE h;exact⟨_,by simp only[fA,<-MK],c⟩
noncomputable def eQ(x y:an)(k:an->aw):aw:=
 vd x (λq a=>jR y λc b=>bf (lQ q c) (k (.a9 (hM (Nat.beq a b)))) .ax) (λl n=>k6 y λd e=>k (.a9 (hM (jH l n d e))))
theorem anj(x y:an)(k:an->aw):h7 (eQ x y k) (fA .neq x y) k:=by
 intro h;unfold eQ at h ⊢;rcases H5 h with⟨q,a,rfl,e⟩|⟨l,n,rfl,e⟩
 ·rw[e] at h ⊢;obtain⟨i,b,rfl,c⟩:=qB h;rw[c] at h ⊢;obtain⟨d,g⟩:=dV h;refine⟨_,?_,g⟩;simp only[fA,(pH d).2,lR,sJ,zu]
 ·rw[e] at h ⊢;obtain⟨j,o,rfl,c⟩:=qE h;exact⟨_,by simp only[fA,<-MK,zu],c⟩
noncomputable def vK(f:Nat->Nat->Bool)(g:Nat->Nat->Nat->Nat->Bool)(x y:an)(k:an->aw):aw:=vd x (λq a=>jR y λc b=>bf (lQ q c) (k (.a9 (f a b))) .ax) (λl n=>k6 y λd e=>k (.a9 (g l n d e)))
theorem GO{f:Nat->Nat->Bool}{g:Nat->Nat->Nat->Nat->Bool}{c:BinOp}(o:∀q a b,sJ c q a b=some (.a9 (f a b)))(p:∀l n d i,fA c (.s l n) (.s d i)=some (.a9 (g l n d i)))(x y:an)(k:an->aw):h7 (vK f g x y k) (fA c x y) k:=by
 intro h;unfold vK at h ⊢;rcases H5 h with⟨q,a,rfl,e⟩|⟨l,n,rfl,e⟩
 ·rw[e] at h ⊢;obtain⟨u,b,rfl,j⟩:=qB h;rw[j] at h ⊢;obtain⟨r,t⟩:=dV h;refine⟨_,?_,t⟩;simp only[fA,(pH r).2,lR,o]
 ·rw[e] at h ⊢;obtain⟨d,i,rfl,j⟩:=qE h;exact⟨_,p _ _ _ _,j⟩
noncomputable def cm(x y:an)(k:an->aw):aw:=vK (λa b=>Nat.ble (Nat.succ a) b) r3 x y k
theorem axb(x y:an)(k:an->aw):h7 (cm x y k) (fA .lss x y) k:=GO (λ_ _ _=>rfl) (λ_ _ _ _=>rfl) x y k
noncomputable def kt(x y:an)(k:an->aw):aw:=vK Nat.ble (λl n a b=>r3 l n a b||px l n a b) x y k
theorem au5(x y:an)(k:an->aw):h7 (kt x y k) (fA .leq x y) k:=GO (λ_ _ _=>rfl) (λ_ _ _ _=>rfl) x y k
noncomputable def fw(x y:an)(k:an->aw):aw:=vK (λa b=>Nat.ble (Nat.succ b) a) (λl n c d=> !(r3 l n c d||px l n c d)) x y k
theorem aAL(x y:an)(k:an->aw):h7 (fw x y k) (fA .gtr x y) k:=GO (λ_ _ _=>rfl) (λ_ _ _ _=>rfl) x y k
noncomputable def il(x y:an)(k:an->aw):aw:=vK (λa b=>Nat.ble b a) (λl n c d=> !r3 l n c d) x y k
theorem awz(x y:an)(k:an->aw):h7 (il x y k) (fA .geq x y) k:=GO (λ_ _ _=>rfl) (λ_ _ _ _=>rfl) x y k
noncomputable def bR(x y:an)(k:an->aw):aw:=
 vd x (λq a=>jR y λe b=>bf (lQ q e) (eF (Nat.sub (Nat.add a b) 18446744073709551616) λc=>bf (qX q c) (k (.V q c)) .ax) .ax)
  (λl n=>k6 y λd g=>bf (Nat.ble (Nat.add l d) 9223372036854775807) (eF (Nat.add l d) λh=>eF (Nat.add (Nat.mul n (Nat.pow 256 d)) (Nat.mod g (Nat.pow 256 d))) λcZ=>k (.s h cZ)) .ax)
theorem avF(x y:an)(k:an->aw):h7 (bR x y k) (fA .add x y) k:=by
 intro h;unfold bR at h ⊢;rcases H5 h with⟨q,a,rfl,e⟩|⟨l,n,rfl,e⟩
 ·rw[e] at h ⊢;obtain⟨o,b,rfl,c⟩:=qB h;rw[c] at h ⊢;obtain⟨d,g⟩:=dV h;rw[g,fd] at h ⊢;obtain⟨i,j⟩:=dV h;rw[zZ] at i;exact⟨_,by simp only[fA,(pH d).2,lR,sJ,i],j⟩
 ·rw[e] at h ⊢;obtain⟨p,r,rfl,c⟩:=qE h;rw[c] at h ⊢;obtain⟨d,g⟩:=dV h;rw[g,fd,fd];exact⟨_,by simp only[fA,d,lR],rfl⟩
noncomputable def cP(x y:an)(k:an->aw):aw:=
 jR x λq a=>jR y λd b=>bf (lQ q d) (bf (Nat.ble b (Nat.add a 18446744073709551616)) (eF (Nat.sub (Nat.add a 18446744073709551616) b) λc=>bf (qX q c) (k (.V q c)) .ax) .ax) .ax
theorem aAY(x y:an)(k:an->aw):h7 (cP x y k) (fA .sub x y) k:=by intro h;unfold cP at h ⊢;obtain⟨q,a,rfl,e⟩:=qB h;rw[e] at h ⊢;obtain⟨o,b,rfl,d⟩:=qB h;rw[d] at h ⊢;obtain⟨g,i⟩:=dV h;rw[i] at h ⊢;obtain⟨j,l⟩:=dV h;rw[l,fd] at h ⊢;obtain⟨c,n⟩:=dV h;rw[zZ] at c;exact⟨_,by simp only[fA,(pH g).2,lR,sJ,j,c,u7],n⟩
noncomputable def Wr(a:BinOp)(x y:an)(k:an->aw):aw:=
 @BinOp.casesOn (λ_=>aw) a (bR x y k) (cP x y k) (c8 (fA a x y) k) (c8 (fA a x y) k) (c8 (fA a x y) k) (c8 (fA a x y) k) (c8 (fA a x y) k) (c8 (fA a x y) k) (c8 (fA a x y) k) (c8 (fA a x y) k) (c8 (fA a x y) k)
  (bY x y k) (eQ x y k) (cm x y k) (kt x y k) (fw x y k) (il x y k)
theorem akL(a:BinOp)(x y:an)(k:an->aw):h7 (Wr a x y k) (fA a x y) k:=by
 cases a
 case add=>exact avF x y k
 case sub=>exact aAY x y k
 case eql=>exact ase x y k
 case neq=>exact anj x y k
 case lss=>exact axb x y k
 case leq=>exact au5 x y k
 case gtr=>exact aAL x y k
 case geq=>exact awz x y k
 all_goals exact se _ _
noncomputable def sy(neg:Bool)(x y:an)(k:an->aw):aw:=vN x λa=>vN y λb=>k (.a9 (@Bool.rec (λ_=>Bool) (@Bool.rec (λ_=>Bool) (hM b) b a) (@Bool.rec (λ_=>Bool) b (hM b) a) neg))
theorem ard(neg:Bool)(x y:an)(k:an->aw):h7 (sy neg x y k) (Q4 neg x y) k:=by intro h;unfold sy at h ⊢;obtain⟨a,rfl,e⟩:=Cc h;rw[e] at h ⊢;obtain⟨b,rfl,c⟩:=Cc h;refine⟨_,?_,c⟩;cases neg<;>cases a<;>cases b<;>rfl
noncomputable def Cs(x:an)(f:Nat->Nat->Nat->Nat->aw):aw:=
 I3 x λcs=> @List.rec an (λ_=>aw) .ax (λa r _=>k6 a λl n=> @List.rec an (λ_=>aw) .ax (λb c _=>k6 b λd e=> @List.rec an (λ_=>aw) (f l n d e) (λ_ _ _=> .ax) c) r) cs
theorem Xr{x:an}{f:Nat->Nat->Nat->Nat->aw}(h:Cs x f≠ .ax):∃l n c d,x= .agg [.s l n,.s c d]/\Cs x f=f l n c d:=by
 unfold Cs at h ⊢;obtain⟨cs,rfl,e⟩:=Wf h;rw[e] at h ⊢
 match cs with
 |[]=>exact absurd rfl h
 |a::r=>
  change k6 a _≠ .ax at h;obtain⟨l,n,rfl,e⟩:=qE h;rw[e] at h
  match r with
  |[]=>exact absurd rfl h
  |b::g=>
   change k6 b _≠ .ax at h;obtain⟨c,d,rfl,e⟩:=qE h;rw[e] at h
   match g with
   |[]=>exact⟨l,n,c,d,rfl,rfl⟩
   |_::_=>exact absurd rfl h
noncomputable def mV(neg:Bool)(x y:an)(k:an->aw):aw:=
 Cs x λa n b m=>Cs y λc d e g=>k (.a9 (@Bool.rec (λ_=>Bool) (cS (jH b m e g) (jH a n c d)) (hM (cS (jH b m e g) (jH a n c d))) neg))
theorem aEs(neg:Bool)(x y:an)(k:an->aw):h7 (mV neg x y k) (HH neg x y) k:=by intro h;unfold mV at h ⊢;obtain⟨a,n,b,m,rfl,e⟩:=Xr h;rw[e] at h ⊢;obtain⟨i,j,c,d,rfl,g⟩:=Xr h;refine⟨_,?_,g⟩;simp only[HH,<-MK,jg,Bool.and_comm (jH b m c d)];cases neg<;>simp[zu]
noncomputable def Fc(neg:Bool)(x:an)(k:an->aw):aw:=qW x (k (.a9 (hM neg))) (λ_ _=>k (.a9 neg)) (λ_ _ _ _=>k (.a9 neg))
theorem al6(neg:Bool)(x:an)(k:an->aw):h7 (Fc neg x k) (Kj neg x) k:=by
 intro h;unfold Fc at h ⊢;rcases DB h with⟨rfl,e⟩|⟨sz,es,rfl,e⟩|⟨_,s,o,l,rfl,e⟩
 ·exact⟨_,by simp only[Kj,zu],e⟩
 ·exact⟨_,rfl,e⟩
 ·exact⟨_,rfl,e⟩
noncomputable def ni(x:an)(k:an->aw):aw:=vN x λa=>k (.a9 (hM a))
noncomputable def PW(a:UnOp)(x:an)(k:an->aw):aw:=match a with
 | .not=>ni x k
 |a=>c8 (Ee a x) k
theorem afP(b:UnOp)(x:an)(k:an->aw):h7 (PW b x k) (Ee b x) k:=by
 unfold PW;split
 ·intro h;unfold ni at h ⊢;obtain⟨a,rfl,e⟩:=Cc h;exact⟨_,by simp only[Ee,zu],e⟩
 ·exact se _ _
noncomputable def bt(o:Nat)(x:an)(k:an->aw):aw:=
 nE x (λcs off=>k (.ep cs (Nat.add off o))) (λq s off=>k (.bn q s (Nat.add off o))) (λq s i off=>k (.dH q s i (Nat.add off o)))
theorem auX(o:Nat)(x:an)(k:an->aw):h7 (bt o x k) (Q2 o x) k:=by intro h;unfold bt at h ⊢;rcases yI h with⟨cs,off,rfl,e⟩|⟨a,s,off,rfl,e⟩|⟨a,s,i,off,rfl,e⟩<;>exact⟨_,rfl,e⟩
noncomputable def Eb(isAgg:Bool)(off n:Nat)(x:an)(k:an->aw):aw:=I3 x λcs=>kJ isAgg n cs off k
theorem aoQ(isAgg:Bool)(off n:Nat)(x:an)(k:an->aw):h7 (Eb isAgg off n x k) (Mf isAgg off n x) k:=by intro h;unfold Eb at h ⊢;obtain⟨cs,rfl,e⟩:=Wf h;rw[e] at h ⊢;exact DH _ _ _ _ _ h
noncomputable def cb(ob:ej)(sz:Nat)(x i:an)(k:an->aw):aw:=
 qW x .ax (λa es=>jR i λ_ n=>bf (Nat.beq a sz) (bf (Nat.ble 18446744073709551616 n) (wr (Nat.sub n 18446744073709551616) es λcs=>k (.ep cs 0)) .ax) .ax)
  (λq s off len=>jR i λ_ n=>jQ (ob q) λb _ a _ _=>bf (Nat.beq s b) (bf (Nat.beq a sz) (bf (Nat.ble 18446744073709551616 n) (bf (Nat.blt (Nat.sub n 18446744073709551616) len)
   (eF (Nat.add off (Nat.sub n 18446744073709551616)) λj=>k (.dH q s j 0)) .ax) .ax) .ax) .ax)
theorem aAT(ob:ej)(sz:Nat)(x i:an)(k:an->aw):h7 (cb ob sz x i k) (BD ob sz x i) k:=by
 intro h;unfold cb at h ⊢;rcases DB h with⟨rfl,e⟩|⟨d,es,rfl,e⟩|⟨q,s,off,len,rfl,e⟩
 ·rw[e] at h;exact absurd rfl h
 ·rw[e] at h ⊢;obtain⟨_,n,rfl,e⟩:=qB h;rw[e] at h ⊢;obtain⟨a,e⟩:=dV h;rw[e] at h ⊢;obtain⟨b,e⟩:=dV h;rw[e] at h ⊢;obtain⟨cs,c,e⟩:=Gc h;exact⟨_,by simp only[BD,a,b,u7,lR,c],e⟩
 ·rw[e] at h ⊢;obtain⟨_,n,rfl,e⟩:=qB h;rw[e] at h ⊢;obtain⟨l,_,d,_,_,g,e⟩:=w4 h;rw[e] at h ⊢;obtain⟨a,e⟩:=dV h;rw[e] at h ⊢;obtain⟨b,e⟩:=dV h;rw[e] at h ⊢;obtain⟨c,e⟩:=dV h;rw[e] at h ⊢;obtain⟨j,e⟩:=dV h;rw[e,fd] at h ⊢;exact⟨_,by simp only[BD,g,a,b,c,j,u7,lR],rfl⟩
noncomputable def iN(x i:an)(k:an->aw):aw:=
 k6 x λl n=>jR i λ_ m=>bf (Nat.ble 18446744073709551616 m) (bf (Nat.blt (Nat.sub m 18446744073709551616) l)
  (eF (Nat.add 18446744073709551616 (Nat.mod (Nat.shiftRight n (Nat.mul 8 (Nat.sub (Nat.sub l 1) (Nat.sub m 18446744073709551616)))) 256)) λc=>k (.V .u8 c)) .ax) .ax
theorem Vi(n j:Nat):Nat.shiftRight n (Nat.mul 8 j)=Nat.div n (Nat.pow 256 j):=by
 have a:Nat.shiftRight n (8*j)=n/2^(8*j):=Nat.shiftRight_eq_div_pow n (8*j);have b:(2:Nat)^(8*j)=256^j:=by rw[Nat.pow_mul]
 rw[b] at a;exact a
theorem anr(x i:an)(k:an->aw):h7 (iN x i k) (HT x i) k:=by intro h;unfold iN at h ⊢;obtain⟨l,n,rfl,e⟩:=qE h;rw[e] at h ⊢;obtain⟨_,m,rfl,e⟩:=qB h;rw[e] at h ⊢;obtain⟨a,e⟩:=dV h;rw[e] at h ⊢;obtain⟨b,e⟩:=dV h;rw[e,fd] at h ⊢;exact⟨_,by simp only[HT,a,b,u7,lR,Vi],rfl⟩
noncomputable def bS(x:an)(i:Nat)(k:an->aw):aw:=Px x λvs=>Jx vs (wr i vs k)
theorem anQ(x:an)(i:Nat)(k:an->aw):h7 (bS x i k) (G5 x i) k:=by
 intro h;unfold bS at h ⊢;obtain⟨vs,rfl,e⟩:=ap1 h;rw[e] at h ⊢;obtain⟨b,e⟩:=aqF h;rw[e] at h ⊢;obtain⟨v,c,d⟩:=Gc h;refine⟨v,?_,d⟩;unfold G5;split
 ·rename_i a;cases a;exact absurd rfl (b _)
 ·rename_i a;cases a;exact c
 ·rename_i a;exact absurd rfl (a _)
noncomputable def bq(a:Bool)(x:an)(k:an->aw):aw:=
 @Bool.rec (λ_=>aw) (qW x (k (.V .i64 18446744073709551616)) (λ_ es=>eF (Nat.add 18446744073709551616 (ea es)) λn=>k (.V .i64 n)) (λ_ _ _ len=>k (.V .i64 (Nat.add 18446744073709551616 len))))
  (k6 x λl _=>k (.V .i64 (Nat.add 18446744073709551616 l))) a
theorem azM(a:Bool)(x:an)(k:an->aw):h7 (bq a x k) (Qd a x) k:=by
 intro h;cases a with
 |true=>change k6 x _≠ .ax at h;obtain⟨l,n,rfl,e⟩:=qE h;exact⟨_,rfl,e⟩
 |false=>
  change qW x _ _ _≠ .ax at h;rcases DB h with⟨rfl,e⟩|⟨sz,es,rfl,e⟩|⟨_,s,o,l,rfl,e⟩
  ·exact⟨_,rfl,e⟩
  ·rw[fd,gr] at e;exact⟨_,rfl,e⟩
  ·exact⟨_,rfl,e⟩
end
section
variable{x:an}
section
variable[Tok]
noncomputable def jY(asy:Nat)(x:Option an)(f:Nat->aw):aw:=
 @Option.rec an (λ_=>aw) (f asy) (λv=>jR v λ_ n=>bf (Nat.ble 18446744073709551616 n) (eF (Nat.sub n 18446744073709551616) f) .ax) x
theorem uo{asy:Nat}{x:Option an}{f:Nat->aw}(h:jY asy x f≠ .ax):∃a,p3 asy x=some a/\jY asy x f=f a:=by
 cases x with
 |none=>exact⟨asy,rfl,rfl⟩
 |some v=>change jR v (λ_ n=>bf (Nat.ble 18446744073709551616 n) (eF (Nat.sub n 18446744073709551616) f) .ax)≠ .ax at h;show∃a,_/\jR v (λ_ n=>bf (Nat.ble 18446744073709551616 n) (eF (Nat.sub n 18446744073709551616) f) .ax)=f a;obtain⟨_,n,rfl,e⟩:=qB h;rw[e] at h ⊢;obtain⟨b,e⟩:=dV h;rw[e,fd];exact⟨_,by simp only[p3,b,lR],rfl⟩
noncomputable def kw(x:an)(lo hi:Option an)(k:an->aw):aw:=
 k6 x λl n=>jY 0 lo λa=>jY l hi λb=>bf (Nat.ble a b) (bf (Nat.ble b l) (eF (Nat.sub b a) λm=>eF (Nat.mod (Nat.shiftRight n (Nat.mul 8 (Nat.sub l b))) (Nat.pow 256 m)) λc=>k (.s m c)) .ax) .ax
theorem aAq(x:an)(lo hi:Option an)(k:an->aw):h7 (kw x lo hi k) (Jj x lo hi) k:=by intro h;unfold kw at h ⊢;obtain⟨l,n,rfl,e⟩:=qE h;rw[e] at h ⊢;obtain⟨a,c,e⟩:=uo h;rw[e] at h ⊢;obtain⟨b,d,e⟩:=uo h;rw[e] at h ⊢;obtain⟨g,e⟩:=dV h;rw[e] at h ⊢;obtain⟨i,e⟩:=dV h;rw[e,fd,fd] at h ⊢;exact⟨_,by simp only[Jj,c,d,g,i,u7,lR,Vi],rfl⟩
noncomputable def l3(es:aY)(off len:Nat):aY:=
 @Bool.rec (λ_=>aY) (sP len (lK off es)) (lK off es) (Nat.beq (Nat.add off len) (ea es))
theorem yk(es:aY)(off len:Nat):l3 es off len=part es off len:=by
 rw[Ir];unfold l3;cases h:Nat.beq (Nat.add off len) (ea es) with
 |false=>show sP len (lK off es)=_;rw[Jn,tB]
 |true=>show lK off es=_;have a:=dp h;rw[gr] at a;have b:off+len=es.length:=a;rw[tB,lH];rw[List.length_drop];omega
noncomputable def k7(ob:ej)(sz:Nat)(x:an)(lo hi:Option an)(k:an->aw):aw:=
 qW x (jY 0 lo λa=>jY 0 hi λb=>bf (Nat.beq a 0) (bf (Nat.beq b 0) (k .aE) .ax) .ax)
  (λc es=>jY 0 lo λl=>jY (ea es) hi λh=>bf (Nat.beq c sz) (bf (Nat.ble l h) (bf (Nat.ble h (ea es)) (k (.aQ sz (l3 es l (Nat.sub h l)))) .ax) .ax) .ax)
  (λq s off len=>jY 0 lo λl=>jY len hi λh=>jQ (ob q) λd _ c _ _=>bf (Nat.beq s d) (bf (Nat.beq c sz) (bf (Nat.ble l h) (bf (Nat.ble h len) (k (.az q s (Nat.add off l) (Nat.sub h l))) .ax) .ax) .ax) .ax)
theorem amn(ob:ej)(sz:Nat)(x:an)(lo hi:Option an)(k:an->aw):h7 (k7 ob sz x lo hi k) (z0 ob sz x lo hi) k:=by
 intro c;unfold k7 at c ⊢;rcases DB c with⟨rfl,e⟩|⟨n,es,rfl,e⟩|⟨q,s,off,len,rfl,e⟩
 ·rw[e] at c ⊢;obtain⟨a,d,e⟩:=uo c;rw[e] at c ⊢;obtain⟨b,g,e⟩:=uo c;rw[e] at c ⊢;obtain⟨h,e⟩:=dV c;rw[e] at c ⊢;obtain⟨i,e⟩:=dV c;have j:=dp h;have l:=dp i;subst j;subst l;exact⟨_,by simp only[z0,d,g],e⟩
 ·rw[e,gr] at c ⊢;obtain⟨a,d,e⟩:=uo c;rw[e] at c ⊢;obtain⟨b,g,e⟩:=uo c;rw[e] at c ⊢;obtain⟨h,e⟩:=dV c;rw[e] at c ⊢;obtain⟨i,e⟩:=dV c;rw[e] at c ⊢;obtain⟨j,e⟩:=dV c;rw[e,yk];exact⟨_,by simp only[z0,d,g,h,i,j,u7,lR],rfl⟩
 ·rw[e] at c ⊢;obtain⟨a,d,e⟩:=uo c;rw[e] at c ⊢;obtain⟨b,g,e⟩:=uo c;rw[e] at c ⊢;obtain⟨p,_,n,_,_,o,e⟩:=w4 c;rw[e] at c ⊢;obtain⟨h,e⟩:=dV c;rw[e] at c ⊢;obtain⟨i,e⟩:=dV c;rw[e] at c ⊢;obtain⟨j,e⟩:=dV c;rw[e] at c ⊢;obtain⟨l,e⟩:=dV c;exact⟨_,by simp only[z0,o,d,g,h,i,j,l,u7,lR],e⟩
noncomputable def lp(x:an)(f:aB->aw):aw:=
 @an.rec (λ_=>aw) (λ_=>PUnit) (λ_=>PUnit) .ax (λ_=>f [x]) (λ_ _=>f [x]) (λ_ _=>f [x]) (f [x]) (λ_=>f [x]) (λa _=>f a) (λ_ _=> .ax) (λ_ _ _=>f [x]) (λ_ _ _=>f [x]) (λ_ _ _=>f [x]) (λ_ _ _ _=>f [x]) (λ_ _ _ _=>f [x]) (λ_ _=>f [x]) (λ_ _ _=>f [x]) (λ_=>f [x]) PUnit.unit (λ_ _ _ _=>PUnit.unit) PUnit.unit (λ_ _ _ _=>PUnit.unit) x
theorem FR{f:aB->aw}(h:lp x f≠ .ax):∃cs,x.cells=some cs/\lp x f=f cs:=by cases x<;>first|exact absurd rfl h|exact⟨_,rfl,rfl⟩
noncomputable def b8(cs:aB):Bool:=
 @List.rec an (λ_=>Bool) true (λc _ a=> @an.rec (λ_=>Bool) (λ_=>PUnit) (λ_=>PUnit) false (λ_=>a) (λ_ _=>a) (λ_ _=>a) a (λ_=>a) (λ_ _=>false) (λ_ _=>false) (λ_ _ _=>a) (λ_ _ _=>a) (λ_ _ _=>false) (λ_ _ _ _=>false) (λ_ _ _ _=>false) (λ_ _=>false) (λ_ _ _=>false) (λ_=>a) PUnit.unit (λ_ _ _ _=>PUnit.unit) PUnit.unit (λ_ _ _ _=>PUnit.unit) c) cs
theorem N8{ob:ej}:∀{cs:aB},b8 cs=true->pS ob cs=some cs/\cs.flatMap (pq ob)=[]
 |[],_=>⟨rfl,rfl⟩
 |c::r,h=>by
  have a:b8 r=true/\lE ob c=some c/\pq ob c=[]:=by cases c<;>first|exact⟨h,rfl,rfl⟩|exact absurd h (by intro h;cases h)
  obtain⟨b,d,e⟩:=a;obtain⟨g,i⟩:=N8 (ob:=ob) b;refine⟨by simp only[pS,d,g],by rw[Ph,e,i];rfl⟩
noncomputable def k3(ob:ej)(cs:aB):(aB->eH->aw)->aw:=
 @List.rec an (λ_=>(aB->eH->aw)->aw) (λf=>f [] []) (λc _ b f=>
  @an.rec (λ_=>aw) (λ_=>PUnit) (λ_=>PUnit) .ax (λ_=>b λa us=>f (c::a) us) (λ_ _=>b λa us=>f (c::a) us) (λ_ _=>b λa us=>f (c::a) us) (b λa us=>f (c::a) us) (λ_=>b λa us=>f (c::a) us) (λ_ _=> .ax) (λ_ _=> .ax) (λ_ _ _=>b λa us=>f (c::a) us) (λ_ _ _=>b λa us=>f (c::a) us)
   (λ_ _ _=> .ax) (λq s off len=>jQ (ob q) λd e sz es as0=>bf (Nat.beq s d) (bf (Nat.ble (Nat.add off len) (ea es)) (b λa us=>f (.aQ sz (l3 es off len)::a) (@Bool.rec (λ_=>eH) us ((q,.az d e sz es false)::us) as0)) .ax) .ax)
   (λ_ _ _ _=> .ax) (λ_ _=> .ax) (λ_ _ _=> .ax) (λ_=>b λa us=>f (c::a) us) PUnit.unit (λ_ _ _ _=>PUnit.unit) PUnit.unit (λ_ _ _ _=>PUnit.unit) c) cs
theorem Qv{ob:ej}:∀{cs:aB} {f:aB->eH->aw},k3 ob cs f≠ .ax->∃a,pS ob cs=some a/\k3 ob cs f=f a (cs.flatMap (pq ob))
 |[],f,_=>⟨[],rfl,rfl⟩
 |c::r,f,h=>by
  have d:lE ob c=some c->pq ob c=[]->k3 ob (c::r) f=k3 ob r (λa us=>f (c::a) us)->∃a,pS ob (c::r)=some a/\k3 ob (c::r) f=f a ((c::r).flatMap (pq ob)):=by intro k j e;rw[e] at h ⊢;obtain⟨a,p,t⟩:=Qv h;exact⟨c::a,by simp only[pS,k,p],by rw[t,Ph,j];rfl⟩
  cases c with
  |az q s off len=>have e:k3 ob (.az q s off len::r) f=jQ (ob q) λu e sz es as0=>bf (Nat.beq s u) (bf (Nat.ble (Nat.add off len) (ea es)) (k3 ob r λa us=>f (.aQ sz (l3 es off len)::a) (@Bool.rec (λ_=>eH) us ((q,.az u e sz es false)::us) as0)) .ax) .ax:=rfl;rw[e] at h ⊢;obtain⟨u,el,sz,es,as0,w,g⟩:=w4 h;rw[g] at h ⊢;obtain⟨k,g⟩:=dV h;rw[g] at h ⊢;obtain⟨j,g⟩:=dV h;rw[g] at h ⊢;obtain⟨a,p,t⟩:=Qv h;rw[gr] at j;refine⟨.aQ sz (part es off len)::a,by simp only[pS,lE,w,k,j,p,u7,lR],?_⟩;rw[t,yk,Ph];simp only[pq,w];cases as0<;>rfl
  |a9 x=>exact d rfl rfl rfl
  |V q n=>exact d rfl rfl rfl
  |s l n=>exact d rfl rfl rfl
  |aE=>exact d rfl rfl rfl
  |bu v=>exact d rfl rfl rfl
  |aQ sz es=>exact d rfl rfl rfl
  |ep cs o=>exact d rfl rfl rfl
  |tok i=>exact d rfl rfl rfl
  |_=>exact absurd rfl h
noncomputable def aD(ob:ej)(x:an)(f:jm):aw:=
 @an.rec (λ_=>aw) (λ_=>PUnit) (λ_=>PUnit) .ax (λ_=>f x []) (λ_ _=>f x []) (λ_ _=>f x []) (f x []) (λ_=>f x []) (λcs _=>bf (b8 cs) (f x []) (k3 ob cs λb us=>f (.agg b) us)) (λ_ _=> .ax) (λ_ _ _=>f x []) (λ_ _ _=>f x []) (λ_ _ _=> .ax) (λq s off len=>jQ (ob q) λa e sz es as0=>bf (Nat.beq s a) (bf (Nat.ble (Nat.add off len) (ea es)) (f (.aQ sz (l3 es off len)) (@Bool.rec (λ_=>eH) [] [(q,.az a e sz es false)] as0)) .ax) .ax) (λ_ _ _ _=> .ax) (λ_ _=> .ax) (λ_ _ _=> .ax) (λ_=>f x []) PUnit.unit (λ_ _ _ _=>PUnit.unit) PUnit.unit (λ_ _ _ _=>PUnit.unit) x
theorem FI{ob:ej}{f:jm}(h:aD ob x f≠ .ax):∃q,l8 ob x=some q/\aD ob x f=f q (oh ob x):=by
 cases x with
 |agg cs=>
  change bf (b8 cs) (f (.agg cs) []) (k3 ob cs λa us=>f (.agg a) us)≠ .ax at h;show∃q,_/\bf (b8 cs) (f (.agg cs) []) (k3 ob cs λa us=>f (.agg a) us)=_;cases i:b8 cs with
  |true=>obtain⟨d,b⟩:=N8 (ob:=ob) i;refine⟨.agg cs,by simp only[l8,d],?_⟩;show f (.agg cs) []=_;simp only[oh,b]
  |false=>rw[i] at h;obtain⟨a,d,b⟩:=Qv (f:=λa us=>f (.agg a) us) h;exact⟨.agg a,by simp only[l8,d],b⟩
 |az q s off len=>change jQ (ob q) (λc e sz es as0=>bf (Nat.beq s c) (bf (Nat.ble (Nat.add off len) (ea es)) (f (.aQ sz (l3 es off len)) (@Bool.rec (λ_=>eH) [] [(q,.az c e sz es false)] as0)) .ax) .ax)≠ .ax at h;show∃v,_/\jQ (ob q) (λc e sz es as0=>bf (Nat.beq s c) (bf (Nat.ble (Nat.add off len) (ea es)) (f (.aQ sz (l3 es off len)) (@Bool.rec (λ_=>eH) [] [(q,.az c e sz es false)] as0)) .ax) .ax)=_;obtain⟨c,e,sz,es,as0,j,g⟩:=w4 h;rw[g] at h ⊢;obtain⟨d,g⟩:=dV h;rw[g] at h ⊢;obtain⟨b,g⟩:=dV h;rw[g,yk];rw[gr] at b;refine⟨.aQ sz (part es off len),by simp only[l8,lE,j,d,b,u7,lR],?_⟩;congr 1;simp only[oh,pq,j];cases as0<;>rfl
 |_=>first|exact absurd rfl h|exact⟨_,rfl,rfl⟩
def pN(ob:ej):List Bool->aB->Option (aB×eH)
 |_,[]=>some ([],[])
 |[],x::xs=>match l8 ob x,pN ob [] xs with
  |some q,some (a,us)=>some (q::a,oh ob x++us)
  |_,_=>none
 |true::bs,x::xs=>match l8 ob x,pN ob bs xs with
  |some q,some (a,us)=>some (q::a,oh ob x++us)
  |_,_=>none
 |false::bs,x::xs=>match pN ob bs xs with
  |some (a,us)=>some (x::a,us)
  |none=>none
theorem B9{α:Type}{ev:α->an}{ob:ej}:∀{d:List Bool} {xs:List α} {a:aB} {us:eH},pN ob d (xs.map ev)=some (a,us)->iU (λx=>bi (ev x)) (λk=>eJ (ob k)) d xs=some (a.map bi,us.map hR)
 |[],[],a,us,h=>by cases h;rfl
 |_::_,[],a,us,h=>by cases h;rfl
 |[],x::xs,a,us,h=>by
  simp only[mG,pN] at h;split at h
  ·rename_i q e g c b;cases h;simp only[iU,lj,lC,w6,Dy c,J9,B9 b,mG,LZ]
  ·cases h
 |true::bs,x::xs,a,us,h=>by
  simp only[mG,pN] at h;split at h
  ·rename_i q e g c b;cases h;simp only[iU,lj,lC,w6,Dy c,J9,B9 b,mG,LZ]
  ·cases h
 |false::bs,x::xs,a,us,h=>by
  simp only[mG,pN] at h;split at h
  ·rename_i e g b;cases h;simp only[iU,lj,lC,Nn,st,B9 b,mG,Pt]
  ·cases h
noncomputable def o5(ob:ej)(f:aB->eH->aw):List Bool->aB->aw
 |_,[]=>(λ(_:Nat)=>f [] []) vI
 |[],x::xs=>aD ob x λq e0=>o5 ob (λa us=>f (q::a) (aA e0 us)) [] xs
 |true::bs,x::xs=>aD ob x λq e0=>o5 ob (λa us=>f (q::a) (aA e0 us)) bs xs
 |false::bs,x::xs=>o5 ob (λa us=>f (x::a) us) bs xs
theorem zb{ob:ej}:∀{d:List Bool} {xs:aB} {f:aB->eH->aw},o5 ob f d xs≠ .ax->∃a us,pN ob d xs=some (a,us)/\o5 ob f d xs=f a us
 |[],[],f,h=>⟨[],[],rfl,rfl⟩
 |_::_,[],f,h=>⟨[],[],rfl,rfl⟩
 |[],x::xs,f,h=>by change aD ob x (λq e0=>o5 ob (λb us=>f (q::b) (aA e0 us)) [] xs)≠ .ax at h;show∃a us,_/\aD ob x (λq e0=>o5 ob (λb us=>f (q::b) (aA e0 us)) [] xs)=_;obtain⟨q,g,e⟩:=FI h;rw[e] at h ⊢;obtain⟨a,us,c,e⟩:=zb h;exact⟨q::a,oh ob x++us,by simp only[pN,g,c],by rw[e,mJ]⟩
 |true::bs,x::xs,f,h=>by change aD ob x (λq e0=>o5 ob (λb us=>f (q::b) (aA e0 us)) bs xs)≠ .ax at h;show∃a us,_/\aD ob x (λq e0=>o5 ob (λb us=>f (q::b) (aA e0 us)) bs xs)=_;obtain⟨q,g,e⟩:=FI h;rw[e] at h ⊢;obtain⟨a,us,c,e⟩:=zb h;exact⟨q::a,oh ob x++us,by simp only[pN,g,c],by rw[e,mJ]⟩
 |false::bs,x::xs,f,h=>by change o5 ob (λb us=>f (x::b) us) bs xs≠ .ax at h;obtain⟨a,us,c,e⟩:=zb h;exact⟨x::a,us,by simp only[pN,c],e⟩
end
end
section
variable{b:Nat} {o:e9} {us:eH} {wk:Option (List Nat)} {a:aw} {x:an} {h:aI} {k:aI->aw}
section
variable[Tok]
abbrev dg:=an->aI->aw
noncomputable def JZ(k:Nat):Nat:= @Bool.rec (λ_=>Nat) 4098 4096 (Nat.ble (Nat.succ (Nat.mod k 4096)) 2048)
noncomputable def iD(b k:Nat):Nat:= @Bool.rec (λ_=>Nat) (JZ k) (@Bool.rec (λ_=>Nat) (JZ k) (Nat.sub k b) (Nat.ble (Nat.succ k) (Nat.add b 4096))) (Nat.ble b k)
theorem agx(k:Nat):JZ k=if k%4096<2048 then 4096 else 4098:=by
 unfold JZ;cases h:Nat.ble (Nat.succ (Nat.mod k 4096)) 2048 with
 |true=>have:k%4096<2048:=pn h;rw[y1 this]
 |false=>
  have:¬k%4096<2048:=λc=>by have:=gz (show Nat.succ (Nat.mod k 4096)<=2048 from c);rw[h] at this;cases this
  rw[Ca this]
theorem wb(b k:Nat):iD b k=fl b k:=by
 unfold iD fl;rw[agx];cases g:Nat.ble b k with
 |false=>
  have:¬b<=k:=by intro d;have:=gz d;rw[g] at this;cases this
  rw[Ca (c:=b<=k/\_) (λd=>this d.1)]
 |true=>
  have j:=pn g;cases i:Nat.ble (Nat.succ k) (Nat.add b 4096) with
  |true=>have e:k<b+4096:=pn i;rw[y1 (c:=b<=k/\_) ⟨j,e⟩];rfl
  |false=>
   have e:¬k<b+4096:=by intro d;have:=gz (show Nat.succ k<=Nat.add b 4096 from d);rw[i] at this;cases this
   rw[Ca (c:=b<=k/\_) (λd=>e d.2)]
noncomputable def eb(l:List Nat)(x:Nat):Bool:= @List.rec Nat (λ_=>Bool) false (λy _ c=> @Bool.rec (λ_=>Bool) c true (Nat.beq x y)) l
theorem sK:∀{l:List Nat} {x:Nat},eb l x=true->x∈l
 |y::r,x,h=>by
  have h': @Bool.rec (λ_=>Bool) (eb r x) true (Nat.beq x y)=true:=h;cases c:Nat.beq x y with
  |true=>rw[dp c];exact HO
  |false=>rw[c] at h';exact OJ _ (sK h')
noncomputable def gO(b:Nat)(wk:Option (List Nat))(us:eH):Bool:=
 @Option.rec (List Nat) (λ_=>Bool) true (λl=> @List.rec (Nat×dM) (λ_=>Bool) true (λu _ c=>cS (eb l (iD b u.1)) c) us) wk
theorem Kw{asB:Bool}{o:ey}(h:gO b (@Bool.rec (λ_=>Option (List Nat)) none (some o.a7) asB) us=true):Hv b asB o (us.map hR):=by
 intro hd u e;subst hd;obtain⟨q,c,rfl⟩:=yd.1 e;have g:∀(us:eH), @List.rec (Nat×dM) (λ_=>Bool) true (λu _ d=>cS (eb o.a7 (iD b u.1)) d) us=true->∀q∈us,fl b q.1∈o.a7:=by
  intro us;induction us with
  |nil=>intro _ q c;cases c
  |cons u r d=>
   intro h q c;have h':cS (eb o.a7 (iD b u.1)) (@List.rec (Nat×dM) (λ_=>Bool) true (λu _ d=>cS (eb o.a7 (iD b u.1)) d) r)=true:=h;rw[jg,Hi] at h';rcases pG.1 c with rfl|c
   ·have:=sK h'.1;rw[wb] at this;exact this
   ·exact d h'.2 q c
 exact g us h q c
theorem WX(b:Nat)(wk:Option (List Nat)):gO b wk []=true:=by cases wk<;>rfl
noncomputable def ws(b:Nat)(us:eH)(h:aI)(k:aI->aw):aw:=
 @List.rec (Nat×dM) (λ_=>aI->aw) (λh=>k h) (λu _ c h=>bf (Nat.ble (Nat.succ u.1) h.bh) (c (h.eW b u.1 (.ae u.2))) .ax) us h
theorem xG{b:Nat}:∀{us:eH} {h:aI} {k:aI->aw},ws b us h k≠ .ax->∃h',xI b us h h'/\ws b us h k=k h'
 |[],h,k,_=>⟨h,⟨hT.refl,rfl,rfl⟩,rfl⟩
 |u::r,h,k,c=>by
  change bf (Nat.ble (Nat.succ u.1) h.bh) (ws b r (h.eW b u.1 (.ae u.2)) k) .ax≠ .ax at c;obtain⟨g,e⟩:=dV c;rw[e] at c;obtain⟨h',⟨aS,cZ,gg⟩,i⟩:=xG c;have d:u.1<h.bh:=pn g;refine⟨h',⟨(aI.adn d).trans aS,?_,gg.trans aI.qv⟩,?_⟩
  ·rw[cZ,aI.Tn d];rfl
  ·show bf (Nat.ble (Nat.succ u.1) h.bh) (ws b r (h.eW b u.1 (.ae u.2)) k) .ax=_;rw[e,i]
def nX(b:Nat)(wk:Option (List Nat))(a:aw)(x:n0)(h:aI)(k:dg):Prop:=
 a≠ .ax->∃v us h',x=some (v,us)/\gO b wk us=true/\xI b us h h'/\a=k v h'
theorem h7.Y{x:Option an}{k:dg}(s:h7 a x λv=>k v h):nX b wk a (eR x) h k:=by intro c;obtain⟨v,d,e⟩:=s c;exact⟨v,[],h,by rw[d];rfl,WX b wk,⟨hT.refl,rfl,rfl⟩,e⟩
noncomputable def ky(b:Nat)(wk:Option (List Nat))(q:Nat)(o:e9)(h:aI)(k:aI->aw):aw:=
 bf (gO b wk [(q,o.ag)]) (bf (Nat.ble (Nat.succ q) h.bh) (k (h.eW b q o)) .ax) .ax
theorem B0{q:Nat}(c:ky b wk q o h k≠ .ax):∃h',gO b wk [(q,o.ag)]=true/\xI b [(q,o.ag)] h h'/\ky b wk q o h k=k h':=by unfold ky at c ⊢;obtain⟨g,e⟩:=dV c;rw[e] at c ⊢;obtain⟨i,e⟩:=dV c;have d:q<h.bh:=pn i;exact⟨h.eW b q o,g,⟨aI.adn d,aI.Tn d,aI.qv⟩,e⟩
noncomputable def lk(b:Nat)(wk:Option (List Nat))(us:eH)(h:aI)(k:aI->aw):aw:=bf (gO b wk us) (ws b us h k) .ax
theorem OP(c:lk b wk us h k≠ .ax):∃h',gO b wk us=true/\xI b us h h'/\lk b wk us h k=k h':=by unfold lk at c ⊢;obtain⟨d,e⟩:=dV c;rw[e] at c ⊢;obtain⟨h',g,i⟩:=xG c;exact⟨h',d,g,i⟩
noncomputable def i3(b:Nat)(wk:Option (List Nat))(x:n0)(h:aI)(k:dg):aw:=
 @Option.rec (an×eH) (λ_=>aw) .ax (λp=>lk b wk p.2 h λh'=>k p.1 h') x
theorem Bu(b:Nat)(wk:Option (List Nat))(x:n0)(h:aI)(k:dg):nX b wk (i3 b wk x h k) x h k:=by
 intro c;cases x with
 |none=>exact absurd rfl c
 |some p=>obtain⟨v,us⟩:=p;change lk b wk us h (λh'=>k v h')≠ .ax at c;obtain⟨h',d,e,g⟩:=OP c;exact⟨v,us,h',rfl,d,e,g⟩
noncomputable def iH(o:dM):Nat:= @dM.rec (λ_=>Nat) (λs=>s) (λs _=>s) (λs _ _ _ _=>s) (λs _=>s) o
theorem H2(o:dM):iH o=o.cd:=by cases o<;>rfl
noncomputable def ci(t b d:Nat)(wk:Option (List Nat))(cs:aB)(h:aI)(k:dg):aw:=
 eF (Nat.add b d) λq=>eF (jG (iH (h.aj q)) t) λs=>ky b wk q (.ae (.box s cs)) h λh'=>k (.bn q s 0) h'
theorem VS(t b d:Nat)(wk:Option (List Nat))(cs:aB)(h:aI)(k:dg):
 nX b wk (ci t b d wk cs h k) (some (.bn (Nat.add b d) (jG (h.aj (Nat.add b d)).cd t) 0,[(Nat.add b d,.box (jG (h.aj (Nat.add b d)).cd t) cs)])) h k:=by
 intro c;unfold ci at c ⊢;rw[fd,fd,H2] at c ⊢;obtain⟨h',e,g,i⟩:=B0 c;exact⟨_,_,h',rfl,e,g,i⟩
noncomputable def ip(t b d:Nat)(wk:Option (List Nat))(x:an)(h:aI)(k:dg):aw:=lp x λcs=>lG cs λcs=>ci t b d wk cs h k
theorem akw(t b d:Nat)(wk:Option (List Nat))(x:an)(h:aI)(k:dg):
 nX b wk (ip t b d wk x h k) (match x.cells with|some cs=>some (.bn (Nat.add b d) (jG (h.aj (Nat.add b d)).cd t) 0,[(Nat.add b d,.box (jG (h.aj (Nat.add b d)).cd t) cs)])|none=>none) h k:=by
 intro c;unfold ip at c ⊢;obtain⟨cs,g,e⟩:=FR c;rw[e,lu] at c ⊢;rw[g];exact VS t b d wk cs h k c
noncomputable def aX(b:Nat)(wk:Option (List Nat))(n:Nat)(a v:an)(h:aI)(k:dg):aw:=
 nE a (λ_ _=> .ax)
  (λq s off=>nA (h.aj q) λc cs=>bf (Nat.beq s c) (lp v λnew=>bf (Nat.beq (ea new) n) (bf (Nat.ble (Nat.add off n) (ea cs)) (lG (ug off cs new) λasq=>ky b wk q (.ae (.box s asq)) h λh'=>k .undef h') .ax) .ax) .ax)
  (λ_ _ _ _=>i3 b wk (qh h.aj n a v) h k)
theorem aiY(b:Nat)(wk:Option (List Nat))(n:Nat)(a v:an)(h:aI)(k:dg):nX b wk (aX b wk n a v h k) (qh h.aj n a v) h k:=by
 intro c;unfold aX at c ⊢;rcases yI c with⟨cs,off,rfl,e⟩|⟨q,s,off,rfl,e⟩|⟨q,s,i,off,rfl,e⟩
 ·rw[e] at c;exact absurd rfl c
 ·rw[e] at c ⊢;obtain⟨u,cs,j,e⟩:=JA c;rw[e] at c ⊢;obtain⟨l,e⟩:=dV c;rw[e] at c ⊢;obtain⟨new,p,e⟩:=FR c;rw[e] at c ⊢;obtain⟨d,e⟩:=dV c;rw[e] at c ⊢;obtain⟨g,e⟩:=dV c;rw[e,lu] at c ⊢;obtain⟨h',r,t,e⟩:=B0 c;rw[gr] at d g;refine⟨.undef,[(q,.box s (ug off cs new))],h',?_,r,t,e⟩;simp only[qh,j,l,p,d,g,u7,lR,rI,Ah]
 ·rw[e] at c ⊢;exact Bu _ _ _ _ _ c
noncomputable def cC(off n:Nat)(x:an)(cs:aB)(f:aB->aw):aw:=
 lp x λnew=>bf (Nat.beq (ea new) n) (bf (Nat.ble (Nat.add off n) (ea cs)) (f (ug off cs new)) .ax) .ax
noncomputable def EL(f:aB->aw):aB->List (Nat×Nat×an)->aw
 |cs,[]=>(λ(_:Nat)=>f cs) vI
 |cs,(off,n,x)::r=>cC off n x cs λcs=>EL f cs r
theorem VO{f:aB->aw}:∀{d:List (Nat×Nat×an)} {cs:aB},EL f cs d≠ .ax->∃asq,uv cs d=some asq/\EL f cs d=f asq
 |[],cs,_=>⟨cs,rfl,rfl⟩
 |(off,n,x)::r,cs,c=>by simp only[EL,cC] at c ⊢;obtain⟨new,j,e⟩:=FR c;rw[e] at c ⊢;obtain⟨g,e⟩:=dV c;rw[e] at c ⊢;obtain⟨i,e⟩:=dV c;rw[e] at c ⊢;obtain⟨asq,l,e⟩:=VO c;rw[gr] at g i;refine⟨asq,?_,e⟩;simp only[uv,j,g,i,u7,lR,rI,<-Ah,l]
noncomputable def eT(cs:aB)(k:an->aw):aw:=lG cs λcs=>k (.agg cs)
noncomputable def Lj(z:aB)(c:List (Nat×Nat×an))(k:an->aw):aw:=EL (λcs=>eT cs k) z c
theorem afp(z:aB)(c:List (Nat×Nat×an))(k:an->aw):h7 (Lj z c k) (match uv z c with|some cs=>some (.agg cs)|none=>none) k:=by intro d;unfold Lj at d ⊢;obtain⟨cs,g,e⟩:=VO d;rw[e,eT,lu,g];exact⟨_,rfl,rfl⟩
noncomputable def cj(ob:ej)(sz i:Nat)(x:an)(es:aY)(f:aY->eH->aw):aw:=
 aD ob x λq e0=>lp q λnew=>bf (Nat.beq (ea new) sz) (bf (Nat.blt i (ea es)) (f (tO es i new) e0) .ax) .ax
noncomputable def EI(ob:ej)(sz:Nat)(f:aY->eH->aw):aY->List (Nat×an)->aw
 |es,[]=>(λ(_:Nat)=>f es []) vI
 |es,(i,x)::r=>cj ob sz i x es λes e0=>EI ob sz (λes us=>f es (aA e0 us)) es r
theorem TP{ob:ej}{sz:Nat}:∀{d:List (Nat×an)} {f:aY->eH->aw} {es:aY},EI ob sz f es d≠ .ax->∃asH,x7 ob sz es d=some asH/\EI ob sz f es d=f asH (d.flatMap λp=>oh ob p.2)
 |[],f,es,_=>⟨es,rfl,rfl⟩
 |(i,x)::r,f,es,c=>by simp only[EI,cj] at c ⊢;obtain⟨q,l,e⟩:=FI c;rw[e] at c ⊢;obtain⟨new,n,e⟩:=FR c;rw[e] at c ⊢;obtain⟨g,e⟩:=dV c;rw[e] at c ⊢;obtain⟨j,e⟩:=dV c;rw[e] at c ⊢;obtain⟨asH,t,e⟩:=TP c;rw[gr] at g j;refine⟨asH,?_,by rw[e,mJ];rfl⟩;simp only[x7,l,n,g,j,u7,lR,<-OZ,t]
noncomputable def c6(b d:Nat)(wk:Option (List Nat))(e sz len:Nat)(as0:Bool)(es:aY)(us:eH)(h:aI)(k:dg):aw:=
 eF (Nat.add b d) λq=>eF (Nat.add (iH (h.aj q)) 1) λs=>lG es λes=>lk b wk (aA us [(q,.az s e sz es as0)]) h λh'=>k (.az q s 0 len) h'
noncomputable def QK(b d:Nat)(wk:Option (List Nat))(e sz:Nat)(z:aB)(len:Nat)(c:List (Nat×an))(as0:Bool)(h:aI)(k:dg):aw:=
 EI h.aj sz (λes us=>c6 b d wk e sz len as0 es us h k) (cG len z) c
def Mq(ob:ej)(d e sz:Nat)(z:aB)(len:Nat)(c:List (Nat×an))(as0:Bool):n0:=
 match x7 ob sz (List.replicate len z) c with
  |some es=>some (.az d (Nat.add (ob d).cd 1) 0 len,c.flatMap (λp=>oh ob p.2)++[(d,.az (Nat.add (ob d).cd 1) e sz es as0)])
  |none=>none
theorem arJ(b d:Nat)(wk:Option (List Nat))(e sz:Nat)(z:aB)(len:Nat)(g:List (Nat×an))(as0:Bool)(h:aI)(k:dg):
 nX b wk (QK b d wk e sz z len g as0 h k) (Mq h.aj (Nat.add b d) e sz z len g as0) h k:=by
 intro c;unfold QK at c ⊢;obtain⟨es,i,j⟩:=TP c;rw[j,c6,fd,fd,lu,mJ,H2] at c ⊢;obtain⟨h',l,n,p⟩:=OP c;rw[x3] at i;exact⟨_,_,h',by simp only[Mq,i],l,n,p⟩
noncomputable def ke(ob:ej)(sz:Nat)(x:an)(f:aY->aw):aw:=
 qW x (f []) (λc es=>bf (Nat.beq c sz) (f es) .ax)
  (λq s off len=>jQ (ob q) λd _ c es _=>bf (Nat.beq s d) (bf (Nat.beq c sz) (bf (Nat.ble (Nat.add off len) (ea es)) (f (l3 es off len)) .ax) .ax) .ax)
theorem amj{ob:ej}{sz:Nat}{f:aY->aw}(c:ke ob sz x f≠ .ax):∃es,rC ob sz x=some es/\ke ob sz x f=f es:=by
 unfold ke at c ⊢;rcases DB c with⟨rfl,e⟩|⟨i,es,rfl,e⟩|⟨q,s,off,len,rfl,e⟩
 ·exact⟨[],rfl,e⟩
 ·rw[e] at c ⊢;obtain⟨d,e⟩:=dV c;exact⟨es,by simp only[rC,d,lR],e⟩
 ·rw[e] at c ⊢;obtain⟨n,_,i,es,_,j,e⟩:=w4 c;rw[e] at c ⊢;obtain⟨d,e⟩:=dV c;rw[e] at c ⊢;obtain⟨l,e⟩:=dV c;rw[e] at c ⊢;obtain⟨g,e⟩:=dV c;rw[gr] at g;exact⟨part es off len,by simp only[rC,j,d,l,g,u7,lR],by rw[e,yk]⟩
noncomputable def wm(o:e9)(f:Nat->Nat->Nat->aY->Bool->aw):aw:=
 @e9.rec (λ_=>aw) (λo=>jQ o λs e sz es r=>f s e sz (nx es) r) f o
theorem ahI{f:Nat->Nat->Nat->aY->Bool->aw}(h:wm o f≠ .ax):∃s e sz rs r,o.ag= .az s e sz rs.reverse r/\wm o f=f s e sz rs r:=by
 cases o with
 |ae o=>change jQ o (λs e sz es r=>f s e sz (nx es) r)≠ .ax at h;obtain⟨s,e,sz,es,r,c,d⟩:=w4 h;refine⟨s,e,sz,nx es,r,?_,d⟩;rw[qL,o2];exact c
 |kr s e sz rs r=>exact⟨s,e,sz,rs,r,by show dM.az s e sz (nx rs) r=_;rw[qL],rfl⟩
noncomputable def nQ(ys:aY):aY->(aY->aw)->aw:=
 @List.rec aB (λ_=>aY->(aY->aw)->aw) (λrs f=>f rs) (λy _ c rs f=>c (y::rs) f) ys
theorem sf:∀(ys rs:aY) (f:aY->aw),nQ ys rs f=f (ys.reverse++rs)
 |[],_,_=>rfl
 |y::r,rs,f=>by show nQ r (y::rs) f=_;rw[sf r];simp
noncomputable def lB(b:Nat)(wk:Option (List Nat))(bytes q aM e sz:Nat)(rs:aY)(n:Nat)(ys:aY)(r:Bool)(len:Nat)(h:aI)(k:dg):aw:=
 eF (Nat.add len n) λm=>bf (Nat.ble (Nat.mul m bytes) 1099511627776) (bf (Nat.ble m 1099511627776) (eF (Nat.add aM 1) λaM=>nQ ys rs λrs=>ky b wk q (.kr aM e sz rs r) h λh'=>k (.az q aM 0 m) h') .ax) .ax
noncomputable def eC(b d:Nat)(wk:Option (List Nat))(e sz bytes:Nat)(s x:an)(as0:Bool)(h:aI)(k:dg):aw:=
 ke h.aj sz x λys=>lG ys λys=>eF (ea ys) λn=>
  ty s
   (bf (Nat.ble (Nat.mul n bytes) 1099511627776) (bf (Nat.ble n 1099511627776)
    (@List.rec aB (λ_=>aw) (lk b wk [] h λh'=>k .aE h') (λ_ _ _=>eF (Nat.add b d) λq=>eF (Nat.add (iH (h.aj q)) 1) λaM=>nQ ys [] λrs=>ky b wk q (.kr aM e sz rs as0) h λh'=>k (.az q aM 0 n) h') ys) .ax) .ax)
   (λ_ _=> .ax)
   (λq aM off len=>bf (Nat.beq off 0) (wm (h.Bo q) λg i c rs r=>bf (Nat.beq aM g) (bf (Nat.beq i e) (bf (Nat.beq c sz)
    (@Bool.rec (λ_=>aw) (bf r (bf (Nat.ble len (ea rs)) (lB b wk bytes q aM e sz (lK (Nat.sub (ea rs) len) rs) n ys r len h k) .ax) .ax) (lB b wk bytes q aM e sz rs n ys r len h k) (Nat.beq len (ea rs))) .ax) .ax) .ax) .ax)
   (λvs=>FN vs λc es=>bf (Nat.beq c sz) (bf (Nat.ble 1 n) (eF (Nat.add (ea es) n) λm=>bf (Nat.ble (Nat.mul m bytes) 1099511627776) (bf (Nat.ble m 1099511627776)
    (eF (Nat.add b d) λq=>eF (Nat.add (iH (h.aj q)) 1) λaM=>nQ es [] λrs=>nQ ys rs λrs=>ky b wk q (.kr aM e sz rs as0) h λh'=>k (.az q aM 0 m) h') .ax) .ax) .ax) .ax)
theorem Wq(b d:Nat)(wk:Option (List Nat))(e sz bytes:Nat)(s x:an)(as0:Bool)(h:aI)(k:dg):
 nX b wk (eC b d wk e sz bytes s x as0 h k) (p8 h.aj (Nat.add b d) e sz bytes s x as0) h k:=by
 intro c;unfold eC at c ⊢;obtain⟨ys,C,H⟩:=amj c;rw[H,lu,fd,gr] at c ⊢;rcases awW c with⟨rfl,j⟩|⟨F,es,rfl,j⟩|⟨q,aM,off,len,rfl,j⟩|⟨vs,rfl,j⟩
 ·rw[j] at c ⊢;obtain⟨t,g⟩:=dV c;rw[g] at c ⊢;obtain⟨p,g⟩:=dV c;rw[g] at c ⊢;cases ys with
  |nil=>change lk b wk [] h (λh'=>k .aE h')≠ .ax at c;obtain⟨h',l,n,i⟩:=OP c;exact⟨.aE,[],h',by simp only[p8,C,t,p,u7,lR],l,n,i⟩
  |cons y r=>
   change (eF (Nat.add b d) λq=>eF (Nat.add (iH (h.aj q)) 1) λaM=>nQ (y::r) [] λrs=>ky b wk q (.kr aM e sz rs as0) h λh'=>k (.az q aM 0 (y::r).length) h')≠ .ax at c;show∃v us h',_/\_/\_/\(eF (Nat.add b d) λq=>eF (Nat.add (iH (h.aj q)) 1) λaM=>nQ (y::r) [] λrs=>ky b wk q (.kr aM e sz rs as0) h λh'=>k (.az q aM 0 (y::r).length) h')=_;rw[fd,fd,H2,sf] at c ⊢;obtain⟨h',l,n,i⟩:=B0 c;have u:(e9.kr (Nat.add (h.aj (Nat.add b d)).cd 1) e sz ((y::r).reverse++[]) as0).ag= .az (Nat.add (h.aj (Nat.add b d)).cd 1) e sz (y::r) as0:=by show dM.az _ e sz (nx _) as0=_;rw[qL,fr,o2]
   rw[u] at l n;exact⟨_,_,h',by simp only[p8,C,t,p,u7,lR],l,n,i⟩
 ·rw[j] at c;exact absurd rfl c
 ·rw[j] at c ⊢;obtain⟨t,g⟩:=dV c;have I:=dp t;subst I;rw[g] at c ⊢;obtain⟨O,P,F,rs,r,p,g⟩:=ahI c;rw[aI.Hb] at p;rw[g] at c ⊢;obtain⟨l,g⟩:=dV c;rw[g] at c ⊢;obtain⟨n,g⟩:=dV c;rw[g] at c ⊢;obtain⟨J,g⟩:=dV c;rw[g] at c ⊢;rw[gr] at c ⊢;have G:∀{w:aY},w.reverse=rs.reverse.take len->(Nat.beq len rs.reverse.length||(r&&Nat.ble len rs.reverse.length))=true->lB b wk bytes q aM e sz w ys.length ys r len h k≠ .ax->
   ∃v us h',p8 h.aj (Nat.add b d) e sz bytes (.az q aM 0 len) x as0=some (v,us)/\gO b wk us=true/\xI b us h h'/\lB b wk bytes q aM e sz w ys.length ys r len h k=k v h':=by
   intro w K L c;unfold lB at c ⊢;rw[fd] at c ⊢;obtain⟨E,i⟩:=dV c;rw[i] at c ⊢;obtain⟨D,i⟩:=dV c;rw[i,fd,sf] at c ⊢;obtain⟨h',z,A,M⟩:=B0 c;have u:(e9.kr (Nat.add aM 1) e sz (ys.reverse++w) r).ag= .az (Nat.add aM 1) e sz (rs.reverse.take len++ys) r:=by show dM.az _ e sz (nx _) r=_;rw[qL,oc,o2,K]
   rw[u] at z A;exact⟨_,_,h',by simp only[p8,C,p,l,n,J,L,E,D,u7,lR],z,A,M⟩
  cases B:Nat.beq len rs.length with
  |true=>rw[B] at c;have N:=dp B;refine G ?_ (by rw[oM,B];rfl) c;rw[N,<-oM,nG]
  |false=>rw[B] at c;change bf r (bf (Nat.ble len rs.length) (lB b wk bytes q aM e sz (lK (Nat.sub rs.length len) rs) ys.length ys r len h k) .ax) .ax≠ .ax at c;show∃v us h',_/\_/\_/\bf r (bf (Nat.ble len rs.length) (lB b wk bytes q aM e sz (lK (Nat.sub rs.length len) rs) ys.length ys r len h k) .ax) .ax=_;obtain⟨E,i⟩:=dV c;rw[i] at c ⊢;obtain⟨D,i⟩:=dV c;rw[i] at c ⊢;have Q:len<=rs.length:=pn D;refine G ?_ (by rw[oM,B,E,D];rfl) c;rw[tB,List.reverse_drop];congr 1;show rs.length-(rs.length-len)=len;omega
 ·rw[j] at c ⊢;obtain⟨F,es,rfl,j⟩:=ao5 c;rw[j] at c ⊢;obtain⟨t,g⟩:=dV c;rw[g] at c ⊢;obtain⟨p,g⟩:=dV c;rw[g,fd,gr] at c ⊢;obtain⟨l,g⟩:=dV c;rw[g] at c ⊢;obtain⟨n,g⟩:=dV c;rw[g,fd,fd,H2,sf,sf] at c ⊢;obtain⟨h',z,A,i⟩:=B0 c;have u:(e9.kr (Nat.add (h.aj (Nat.add b d)).cd 1) e sz (ys.reverse++(es.reverse++[])) as0).ag= .az (Nat.add (h.aj (Nat.add b d)).cd 1) e sz (es++ys) as0:=by show dM.az _ e sz (nx _) as0=_;rw[qL,fr,oc,o2,o2]
  rw[u] at z A;exact⟨_,_,h',by simp only[p8,C,t,p,l,n,u7,lR],z,A,i⟩
noncomputable def M9(x:an)(a:aw):aw:=
 @an.rec (λ_=>aw) (λ_=>PUnit) (λ_=>PUnit) a (λ_=>a) (λ_ _=>a) (λ_ _=>a) a (λ_=>a) (λ_ _=>a) (λ_ _=> .ax) (λ_ _ _=>a) (λ_ _ _=>a) (λ_ _ _=>a) (λ_ _ _ _=>a) (λ_ _ _ _=>a) (λ_ _=>a) (λ_ _ _=>a) (λ_=>a) PUnit.unit (λ_ _ _ _=>PUnit.unit) PUnit.unit (λ_ _ _ _=>PUnit.unit) x
theorem aiI(h:M9 x a≠ .ax):Ae x=false/\M9 x a=a:=by cases x<;>first|exact absurd rfl h|exact⟨rfl,rfl⟩
noncomputable def GK(b d:Nat)(wk:Option (List Nat))(e bytes:Nat)(s x:an)(as0:Bool)(h:aI)(k:dg):aw:=
 k6 x λl n=>M9 s (eC b d wk e 1 bytes s (.aQ 1 (uK l n)) as0 h k)
theorem aCX(b d:Nat)(wk:Option (List Nat))(e bytes:Nat)(s x:an)(as0:Bool)(h:aI)(k:dg):
 nX b wk (GK b d wk e bytes s x as0 h k) (match x with
  | .s l n=>bif Ae s then none else p8 h.aj (Nat.add b d) e 1 bytes s (.aQ 1 (uK l n)) as0
  |_=>none) h k:=by
 intro c;unfold GK at c ⊢;obtain⟨l,n,rfl,g⟩:=qE c;rw[g] at c ⊢;obtain⟨i,j⟩:=aiI c;rw[j] at c ⊢;rw[i];exact Wq b d wk e 1 bytes s (.aQ 1 (uK l n)) as0 h k c
end
end
section
variable{b:List Nat} {x:an} {o:e9} {s:b1}
section
variable[Tok]
theorem WM:∀{l:List Nat} {x:Nat},x∈l->eb l x=true
 |a::r,x,h=>by
  show @Bool.rec (λ_=>Bool) (eb r x) true (Nat.beq x a)=true;cases c:Nat.beq x a with
  |true=>rfl
  |false=>
   rcases pG.1 h with rfl|h
   ·rw[wT] at c;cases c
   ·exact WM h
theorem uc{k:Nat}(h:hM (eb b k)=true):k∉b:=by intro a;rw[WM a] at h;cases h
noncomputable def pM(b:List Nat)(cs:aB):Bool:=
 @List.rec an (λ_=>Bool) true (λc _ a=> @an.rec (λ_=>Bool) (λ_=>PUnit) (λ_=>PUnit) a (λ_=>a) (λ_ _=>a) (λ_ _=>a) a (λ_=>a) (λ_ _=>false) (λ_ _=>false) (λ_ _ _=>a) (λ_ _ _=>a) (λk _ _=>cS (hM (eb b k)) a) (λk _ _ _=>cS (hM (eb b k)) a) (λk _ _ _=>cS (hM (eb b k)) a) (λk _=>cS (hM (eb b k)) a) (λ_ _ _=>false) (λ_=>a) PUnit.unit (λ_ _ _ _=>PUnit.unit) PUnit.unit (λ_ _ _ _=>PUnit.unit) c) cs
noncomputable def Lz(b:List Nat)(x:an)(r:Bool):Bool:=
 @an.rec (λ_=>Bool) (λ_=>PUnit) (λ_=>PUnit) r (λ_=>r) (λ_ _=>r) (λ_ _=>r) r (λ_=>r) (λcs _=>cS (pM b cs) r) (λ_ _=>false) (λ_ _ _=>r) (λ_ _ _=>r) (λk _ _=>cS (hM (eb b k)) r) (λk _ _ _=>cS (hM (eb b k)) r) (λk _ _ _=>cS (hM (eb b k)) r) (λk _=>cS (hM (eb b k)) r) (λ_ cs _=>cS (pM b cs) r) (λ_=>r) PUnit.unit (λ_ _ _ _=>PUnit.unit) PUnit.unit (λ_ _ _ _=>PUnit.unit) x
noncomputable def P2(b:List Nat)(cs:aB):Bool:= @List.rec an (λ_=>Bool) true (λc _ a=>Lz b c a) cs
noncomputable def BS(b:List Nat)(x:an):Bool:=
 @an.rec (λ_=>Bool) (λ_=>PUnit) (λ_=>PUnit) true (λ_=>true) (λ_ _=>true) (λ_ _=>true) true (λ_=>true) (λcs _=>pM b cs) (λcs _=>P2 b cs) (λ_ _ _=>true) (λ_ _ _=>true) (λk _ _=>hM (eb b k)) (λk _ _ _=>hM (eb b k)) (λk _ _ _=>hM (eb b k)) (λk _=>hM (eb b k)) (λ_ cs _=>pM b cs) (λ_=>true) PUnit.unit (λ_ _ _ _=>PUnit.unit) PUnit.unit (λ_ _ _ _=>PUnit.unit) x
theorem AW{b:List Nat}:∀{cs:aB},pM b cs=true->(∀k∈cs.flatMap an.key,k∉b)/\(∀k∈cs.flatMap an.cf,k∉b)
 |[],_=>⟨by simp,by simp⟩
 |c::r,h=>by
  have n:pM b r=true/\(∀k∈c.key,k∉b)/\(∀k∈c.cf,k∉b):=by
   have asT:∀{k:Nat},cS (hM (eb b k)) (pM b r)=true->pM b r=true/\k∉b:=by intro k h;rw[jg,Hi] at h;exact⟨h.2,uc h.1⟩
   cases c with
   |bn k s o=>obtain⟨e,d⟩:=asT h;exact⟨e,by intro j a;simp[an.key,an.cf] at a;subst a;exact d,by intro j a;simp[an.cf] at a;subst a;exact d⟩
   |az k s o l=>obtain⟨e,d⟩:=asT h;exact⟨e,by intro j a;simp[an.key,an.cf] at a;subst a;exact d,by intro j a;simp[an.cf] at a;subst a;exact d⟩
   |dH k s i o=>obtain⟨e,d⟩:=asT h;exact⟨e,by intro j a;simp[an.key,an.cf] at a;subst a;exact d,by intro j a;simp[an.cf] at a;subst a;exact d⟩
   |hG k s=>obtain⟨e,d⟩:=asT h;exact⟨e,by intro j a;simp[an.key,an.cf] at a;subst a;exact d,by intro j a;simp[an.cf] at a;subst a;exact d⟩
   |_=>first|exact⟨h,by simp[an.key,an.cf],by simp[an.cf]⟩|exact absurd h (by intro h;cases h)
  obtain⟨e,d⟩:=AW n.1;constructor
  ·intro k g;rw[Ph,Ic] at g;exact g.elim (n.2.1 k) (e k)
  ·intro k g;rw[Ph,Ic] at g;exact g.elim (n.2.2 k) (d k)
theorem az2{r:Bool}(h:Lz b x r=true):r=true/\∀k∈x.eg,k∉b:=by
 have asT:∀{k:Nat},cS (hM (eb b k)) r=true->r=true/\k∉b:=by intro k h;rw[jg,Hi] at h;exact⟨h.2,uc h.1⟩
 cases x with
 |agg cs=>have h':cS (pM b cs) r=true:=h;rw[jg,Hi] at h';exact⟨h'.2,(AW h'.1).1⟩
 |gJ f cs=>have h':cS (pM b cs) r=true:=h;rw[jg,Hi] at h';exact⟨h'.2,(AW h'.1).2⟩
 |bn k s o=>obtain⟨c,d⟩:=asT h;exact⟨c,by intro j a;simp[an.eg,an.key,an.cf] at a;subst a;exact d⟩
 |az k s o l=>obtain⟨c,d⟩:=asT h;exact⟨c,by intro j a;simp[an.eg,an.key,an.cf] at a;subst a;exact d⟩
 |dH k s i o=>obtain⟨c,d⟩:=asT h;exact⟨c,by intro j a;simp[an.eg,an.key,an.cf] at a;subst a;exact d⟩
 |hG k s=>obtain⟨c,d⟩:=asT h;exact⟨c,by intro j a;simp[an.eg,an.key,an.cf] at a;subst a;exact d⟩
 |a0 cs=>cases h
 |_=>exact⟨h,by simp[an.eg,an.key,an.cf]⟩
theorem XV{b:List Nat}:∀{cs:aB},P2 b cs=true->∀k∈cs.flatMap an.eg,k∉b
 |[],_=>by simp
 |c::r,h=>by have h':Lz b c (P2 b r)=true:=h;obtain⟨d,e⟩:=az2 h';intro k a;rw[Ph,Ic] at a;exact a.elim (e k) (XV d k)
theorem Zz(h:BS b x=true):∀k∈x.cR,k∉b:=by
 cases x with
 |agg cs=>exact(AW h).1
 |gJ f cs=>exact(AW h).2
 |a0 cs=>exact XV h
 |bn k s o=>intro j a;simp[an.cR,an.eg,an.key,an.cf] at a;subst a;exact uc h
 |az k s o l=>intro j a;simp[an.cR,an.eg,an.key,an.cf] at a;subst a;exact uc h
 |dH k s i o=>intro j a;simp[an.cR,an.eg,an.key,an.cf] at a;subst a;exact uc h
 |hG k s=>intro j a;simp[an.cR,an.eg,an.key,an.cf] at a;subst a;exact uc h
 |_=>simp[an.cR,an.eg,an.key,an.cf]
noncomputable def xS(b:List Nat)(o:e9):Bool:= @e9.rec (λ_=>Bool) (λo=> @dM.rec (λ_=>Bool) (λ_=>true) (λ_ cs=>pM b cs) (λ_ _ _ _ _=>true) (λ_ _=>true) o) (λ_ _ _ _ _=>true) o
theorem as7(h:xS b o=true):∀k∈(eJ o.ag).qb,k∉b:=by
 cases o with
 |ae o=>
  cases o with
  |box s cs=>
   have:=(AW (show pM b cs=true from h)).1;intro k a;refine this k ?_;have e:(gG cs).flatMap aG.key=cs.flatMap an.key:=by rw[lm,cg];congr 1;funext y;exact E8 y
   rw[<-e];exact a
  |_=>simp[e9.ag,eJ,Obj.qb]
 |kr s e sz rs as0=>simp[e9.ag,eJ,Obj.qb]
noncomputable def GF(b:List Nat)(l:jO):Bool:= @jO.rec (λ_=>Bool) true (λ_ o _ a=>cS (xS b o) a) l
noncomputable def xg(b:List Nat)(s:b1):Bool:= @b1.rec (λ_=>Bool) true (λ_ l _ a=>cS (GF b l) a) s
theorem ZW{b:List Nat}:∀{l:jO},GF b l=true->∀k,xS b (l.get k)=true
 | .nil,_,_=>rfl
 | .cons a o r,h,k=>by
   have h':cS (xS b o) (GF b r)=true:=h;rw[jg,Hi] at h';show xS b (@Bool.rec (λ_=>e9) (jO.get r k) o (Nat.beq a k))=true;cases Nat.beq a k with
   |true=>exact h'.1
   |false=>exact ZW h'.2 k
theorem Xm{b:List Nat}:∀{s:b1},xg b s=true->∀k,xS b (s.get k)=true
 | .nil,_,_=>rfl
 | .cons c l r,h,k=>by
   have h':cS (GF b l) (xg b r)=true:=h;rw[jg,Hi] at h';show xS b (@Bool.rec (λ_=>e9) (b1.get r k) (l.get k) (Nat.ble c k))=true;cases Nat.ble c k with
   |true=>exact ZW h'.1 k
   |false=>exact Xm h'.2 k
theorem Yt{ub:Nat}(h:xg b s=true)(k:Nat):∀q∈b,q∉(eJ (cE ub s k)).qb:=by
 intro q c a;by_cases d:k<ub
 ·rw[ic d] at a;exact as7 (Xm h k) q a c
 ·rw[jz] at a;simp[eJ,Obj.qb] at a
noncomputable def Kl(b:List Nat)(xs:aB):Bool:= @List.rec an (λ_=>Bool) true (λx _ a=>cS (BS b x) a) xs
theorem T1{b:List Nat}:∀{xs:aB},Kl b xs=true->∀x∈xs,∀k∈x.cR,k∉b
 |[],_,x,a=>by cases a
 |y::r,h,x,a=>by
  have h':cS (BS b y) (Kl b r)=true:=h;rw[jg,Hi] at h';rcases pG.1 a with rfl|a
  ·exact Zz h'.1
  ·exact T1 h'.2 x a
noncomputable def Gv(b:List Nat)(us:eH):Bool:= @List.rec (Nat×dM) (λ_=>Bool) true (λu _ a=>cS (hM (eb b u.1)) a) us
theorem WZ{b:List Nat}:∀{us:eH},Gv b us=true->∀u∈us,u.1∉b
 |[],_,x,a=>by cases a
 |y::r,h,x,a=>by
  have h':cS (hM (eb b y.1)) (Gv b r)=true:=h;rw[jg,Hi] at h';rcases pG.1 a with rfl|a
  ·exact uc h'.1
  ·exact WZ h'.2 x a
noncomputable def KY(o:e9):Bool:= @e9.rec (λ_=>Bool) (λo=> @dM.rec (λ_=>Bool) (λ_=>true) (λ_ _=>false) (λ_ _ _ _ _=>false) (λ_ _=>false) o) (λ_ _ _ _ _=>false) o
theorem amd(h:KY o=true):¬(eJ o.ag).fx:=by
 cases o with
 |ae o=>cases o with
  |ax s=>simp[e9.ag,eJ,Obj.fx]
  |_=>cases h
 |kr=>cases h
noncomputable def HV(b:Nat)(wk:List Nat)(s:b1)(cs:List Nat):Bool:=
 @List.rec Nat (λ_=>Bool) true (λc _ a=>cS (cS (Nat.ble (Nat.succ c) 4096) (hM (eb wk c))) (cS (KY (s.get (Nat.add b c))) a)) cs
theorem TT{b:Nat}{wk:List Nat}{s:b1}:∀{cs:List Nat},HV b wk s cs=true->∀c∈cs,c<4096/\c∉wk/\¬(eJ (s.get (b+c)).ag).fx
 |[],_,x,a=>by cases a
 |y::r,h,x,a=>by
  have h':cS (cS (Nat.ble (Nat.succ y) 4096) (hM (eb wk y))) (cS (KY (s.get (Nat.add b y))) (HV b wk s r))=true:=h;simp only[jg,Hi] at h';rcases pG.1 a with rfl|a
  ·exact⟨pn h'.1.1,uc h'.1.2,amd h'.2.1⟩
  ·exact TT h'.2.2 x a
noncomputable def qy(b:Nat)(cs:List Nat):List Nat:= @List.rec Nat (λ_=>List Nat) [] (λc _ a=>(Nat.add b c)::a) cs
theorem acv{b c:Nat}:∀{cs:List Nat},c∈cs->b+c∈qy b cs
 |y::r,h=>by
  rcases pG.1 h with rfl|h
  ·exact HO
  ·exact OJ _ (acv h)
noncomputable def qt(rk:List Nat):List Nat:= @List.rec Nat (λ_=>List Nat) [] (λc _ a=> @Bool.rec (λ_=>List Nat) a ((Nat.sub c 8192)::a) (Nat.ble 8192 c)) rk
theorem adC:∀(rk:List Nat),qt rk=mK rk
 |[]=>rfl
 |c::r=>by
  show @Bool.rec (λ_=>List Nat) (qt r) ((Nat.sub c 8192)::qt r) (Nat.ble 8192 c)=_;rw[adC r];unfold mK;rw[List.filterMap_cons];cases h:Nat.ble 8192 c with
  |true=>rw[y1 (pn h)];rfl
  |false=>rw[Ca (λa=>by rw[gz a] at h;cases h)]
noncomputable def AS(b:Nat)(rk wk:List Nat)(us:eH)(xs:aB)(s a:b1)(c:an):Bool:=
 @List.rec Nat (λ_=>Bool) true (λ_ _ _=>cS (HV b wk s (qt rk)) (cS (Gv (qy b (qt rk)) us) (cS (xg (qy b (qt rk)) s) (cS (xg (qy b (qt rk)) a) (cS (Kl (qy b (qt rk)) xs) (BS (qy b (qt rk)) c)))))) (qt rk)
theorem aul{b:Nat}{rk wk:List Nat}{us:eH}{xs:aB}{g:b1}{i:an}(h:AS b rk wk us xs s g i=true):∀c∈mK rk,c<4096/\c∉wk/\¬(eJ (s.get (b+c)).ag).fx/\(∀u∈us,u.1≠b+c)/\
 (∀ub k,b+c∉(eJ (cE ub s k)).qb)/\(∀ub k,b+c∉(eJ (cE ub g k)).qb)/\(∀x∈xs,b+c∉x.cR)/\b+c∉i.cR:=by
 intro c a;rw[<-adC] at a;unfold AS at h;cases j:qt rk with
 |nil=>rw[j] at a;cases a
 |cons y r=>rw[j] at h;have h':cS (HV b wk s (y::r)) (cS (Gv (qy b (y::r)) us) (cS (xg (qy b (y::r)) s) (cS (xg (qy b (y::r)) g) (cS (Kl (qy b (y::r)) xs) (BS (qy b (y::r)) i)))))=true:=h;rw[<-j] at h';simp only[jg,Hi] at h';obtain⟨n,p,q,t,w,z⟩:=h';obtain⟨d1,d2,d3⟩:=TT n c a;have d:=acv (b:=b) a;exact⟨d1,d2,d3,λu A e=>WZ p u A (e▸d),λub k=>Yt q k _ d,λub k=>Yt t k _ d,λx B l=>T1 w x B _ l d,λl=>Zz z _ l d⟩
end
end
section
variable[Tok]
abbrev Fn:=Nat->aB->Nat->b1->aw
abbrev dG:=Nat->an
noncomputable def xe(asC:dG)(i:Nat)(v:an):dG:=λj=> @Bool.rec (λ_=>an) (asC j) v (Nat.beq j i)
noncomputable def rT(asC:dG)(d:Option Nat)(v:an):dG:= @Option.rec Nat (λ_=>dG) asC (λt=>xe asC t v) d
def ma:dG:=λ_=> .undef
def et(asC:dG):Operand->an
 | .tmp t=>asC t
 | .const v=>Ld v
 | .func f=> .bu (.func (.func f) #[] #[])
 | .global _=> .undef
noncomputable def nU(b:Nat)(rk:List Nat)(cs:aB):Bool:=
 @List.rec an (λ_=>Bool) true (λc _ a=> @an.rec (λ_=>Bool) (λ_=>PUnit) (λ_=>PUnit) a (λ_=>a) (λ_ _=>a) (λ_ _=>a) a (λ_=>a) (λ_ _=>false) (λ_ _=>false) (λ_ _ _=>a) (λ_ _ _=>a) (λk _ _=>cS (eb rk (iD b k)) a) (λk _ _ _=>cS (eb rk (iD b k)) a) (λk _ _ _=>cS (eb rk (iD b k)) a) (λk _=>cS (eb rk (iD b k)) a) (λ_ _ _=>false) (λ_=>a) PUnit.unit (λ_ _ _ _=>PUnit.unit) PUnit.unit (λ_ _ _ _=>PUnit.unit) c) cs
noncomputable def jP(b:Nat)(rk:List Nat)(x:an):Bool:=
 @an.rec (λ_=>Bool) (λ_=>PUnit) (λ_=>PUnit) true (λ_=>true) (λ_ _=>true) (λ_ _=>true) true (λ_=>true) (λcs _=>nU b rk cs) (λ_ _=>false) (λ_ _ _=>true) (λ_ _ _=>true) (λk _ _=>eb rk (iD b k)) (λk _ _ _=>eb rk (iD b k)) (λk _ _ _=>eb rk (iD b k)) (λk _=>eb rk (iD b k)) (λ_ cs _=>nU b rk cs) (λ_=>true) PUnit.unit (λ_ _ _ _=>PUnit.unit) PUnit.unit (λ_ _ _ _=>PUnit.unit) x
noncomputable def met(b:Nat)(rk:List Nat)(xs:aB)(a:aw):aw:=(λ(_:Nat)=> @List.rec an (λ_=>aw) a (λx _ c=>bf (jP b rk x) c .ax) xs) vI
noncomputable def EZ(x:an)(f:Nat->aB->aw):aw:=
 @Option.rec (Nat×aB) (λ_=>aw) .ax (λp=>f p.1 p.2) (match x with
  | .bu (.func (.func f) ⟨[]⟩ ⟨[]⟩)=>some (f,[])
  | .gJ f ar9=>some (f,ar9)
  |_=>none)
noncomputable def EN(b:Nat)(us:eH)(h:aI)(k:dg)(a:aw):aw:=
 @aw.rec (λ_=>aw) .ax (λc ub _ _=>bf (Nat.beq ub 0) (ws b us h λh'=>k c h') .ax) a
noncomputable def bH(u:Fn)(b:Nat)(wk:Option (List Nat))(f:Nat)(a:aB)(us:eH)(h:aI)(k:dg):aw:=bf (gO b wk us) (EN b us h k (u f a 0 .nil)) .ax
noncomputable def Cn(u:Fn)(b:Nat)(wk:Option (List Nat))(f:Nat)(args:aB)(h:aI)(k:dg):aw:=
 o5 h.aj (λa us=>bH u b wk f a us h k) [] args
noncomputable def H4(x:an)(f:Nat->aw):aw:=
 @Option.rec Nat (λ_=>aw) .ax f (match x with
  | .bu (.func (.func f) ⟨[]⟩ ⟨[]⟩)=>some f
  |_=>none)
noncomputable def Bb(u:Fn)(b:Nat)(wk:Option (List Nat))(f:an)(args:aB)(h:aI)(k:dg):aw:=
 H4 f λf=>Cn u b wk f args h k
noncomputable def gZ(b:Nat)(l:List Nat):List Nat:= @List.rec Nat (λ_=>List Nat) [] (λj _ a=> @Bool.rec (λ_=>List Nat) a (j::a) (Nat.ble (Nat.succ j) b)) l
noncomputable def jT(b ub:Nat)(d:List Nat)(k:dg)(a:aw):aw:=
 @aw.rec (λ_=>aw) .ax (λe c g h=>bf (Nat.ble ub c) (k e (.mk c g (aA (gZ b h) d))) .ax) a
noncomputable def fD(u:Fn)(b:Nat)(f:Nat)(a:aB)(us:eH)(h:aI)(k:dg):aw:=
 ws b us h λc=> @aI.rec (λ_=>aw) (λub s d=>jT b ub d k (u f a ub s)) c
noncomputable def Ex(u:Fn)(b:Nat)(f:Nat)(ar9:aB)(args:aB)(a:List Bool)(h:aI)(k:dg):aw:=
 o5 h.aj (λc us=>fD u b f (aA c ar9) us h k) a args
noncomputable def nN(u:Fn)(b:Nat)(f:an)(args:aB)(a:List Bool)(h:aI)(k:dg):aw:=
 EZ f λf ar9=>Ex u b f ar9 args a h k
noncomputable def sS(b:Nat)(wk:List Nat)(l:List Nat):Bool:= @List.rec Nat (λ_=>Bool) true (λj _ a=>cS (eb wk (iD b j)) a) l
noncomputable def rn(wk:List Nat)(ub a:Nat):Bool:= @Bool.rec (λ_=>Bool) (cS (eb wk 4096) (eb wk 4098)) true (Nat.beq ub a)
noncomputable def xH(b:Nat)(rk wk:List Nat)(us:eH)(xs:aB)(ub:Nat)(s:b1)(d:List Nat)(k:dg)(a:aw):aw:=
 @aw.rec (λ_=>aw) .ax (λe c g h=>bf (Nat.ble ub c) (bf (sS b wk h) (bf (rn wk ub c) (bf (AS b rk wk us xs s g e) (k e (.mk c g (aA (gZ b h) d))) .ax) .ax) .ax) .ax) a
noncomputable def o7(u:Fn)(b:Nat)(rk wk:List Nat)(xs:aB)(f:Nat)(a:aB)(us:eH)(h:aI)(k:dg):aw:=
 bf (gO b (some wk) us) (ws b us h λc=> @aI.rec (λ_=>aw) (λub s d=>xH b rk wk us (aA xs a) ub s d k (u f a ub s)) c) .ax
noncomputable def CL(u:Fn)(b:Nat)(rk wk:List Nat)(f:Nat)(ar9:aB)(args:aB)(a:List Bool)(h:aI)(k:dg):aw:=
 o5 h.aj (λc us=>o7 u b rk wk args f (aA c ar9) us h k) a args
noncomputable def n6(u:Fn)(b:Nat)(rk wk:List Nat)(f:an)(args:aB)(a:List Bool)(h:aI)(k:dg):aw:=
 EZ f λf ar9=>CL u b rk wk f ar9 args a h k
noncomputable def b0(x:an)(a:Bool)(f g:aw):aw:=
 @an.rec (λ_=>aw) (λ_=>PUnit) (λ_=>PUnit) .ax (λc=> @Bool.rec (λ_=>aw) (bf c g f) (bf c f g) a) (λ_ _=> .ax) (λ_ _=> .ax) .ax (λ_=> .ax) (λ_ _=> .ax)
  (λl _=> @List.rec an (λ_=>aw) g (λ_ _ _=> .ax) l) (λ_ _ _=> .ax) (λ_ _ _=> .ax) (λ_ _ _=> .ax) (λ_ _ _ _=> .ax) (λ_ _ _ _=> .ax) (λ_ _=> .ax) (λ_ _ _=> .ax) (λ_=> .ax) PUnit.unit (λ_ _ _ _=>PUnit.unit) PUnit.unit (λ_ _ _ _=>PUnit.unit) x
theorem afS{x:an}{a:Bool}{f g:aw}(h:b0 x a f g≠ .ax):(x= .a9 a/\b0 x a f g=f)\/((x= .a9 (!a)\/x= .a0 [])/\b0 x a f g=g):=by
 cases x with
 |a9 c=>cases c<;>cases a<;>first|exact .inl ⟨rfl,rfl⟩|exact .inr ⟨.inl rfl,rfl⟩
 |a0 l=>cases l with
  |nil=>exact .inr ⟨.inr rfl,rfl⟩
  |cons _ _=>exact absurd rfl h
 |_=>exact absurd rfl h
noncomputable def Hy(b d:Nat)(wk:Option (List Nat))(ev:Operand->an)(h:aI)(k:dg):nw->aw
 | .qg x=>k (ev x) h
 | .pick c x y=>bX (ev c) (ev x) (ev y) λv=>k v h
 | .alloc t zero=>ci t b d wk (zero.map mm) h k
 | .box t x=>ip t b d wk (ev x) h k
 | .build zero j=>Lj (zero.map mm) (j.map λq=>(q.1,q.2.1,ev q.2.2)) λv=>k v h
 | .m4 e sz zero len j as0=>QK b d wk e sz (zero.map mm) len (j.map λq=>(q.1,ev q.2)) as0 h k
 | .load isAgg n a=>aW h.aj isAgg n (ev a) λv=>k v h
 | .store n a v=>aX b wk n (ev a) (ev v) h k
 | .qj x=>hY (ev x) λv=>k v h
 | .qo g x y=>Wr g (ev x) (ev y) λv=>k v h
 | .p1 neg x y=>sy neg (ev x) (ev y) λv=>k v h
 | .qn neg x y=>mV neg (ev x) (ev y) λv=>k v h
 | .pK neg x=>Fc neg (ev x) λv=>k v h
 | .nC g x=>PW g (ev x) λv=>k v h
 | .p4 p x=>c8 (hs p (ev x)) λv=>k v h
 | .oQ x=>c8 (In h.aj (ev x)) λv=>k v h
 | .oJ e sz bytes zero l c=>i3 b wk (nf (Nat.add b d) e sz bytes (h.aj (Nat.add b d)).cd (zero.map mm) (ev l) (ev c)) h k
 | .p9 x lo hi=>kw (ev x) (lo.map ev) (hi.map ev) λv=>k v h
 | .o9 sz x lo hi=>k7 h.aj sz (ev x) (lo.map ev) (hi.map ev) λv=>k v h
 | .p6 o x=>bt o (ev x) λv=>k v h
 | .p5 isAgg off n x=>Eb isAgg off n (ev x) λv=>k v h
 | .ji sz x i=>cb h.aj sz (ev x) (ev i) λv=>k v h
 | .pJ x i=>iN (ev x) (ev i) λv=>k v h
 | .ext x i=>bS (ev x) i λv=>k v h
 | .len r x=>bq r (ev x) λv=>k v h
 | .append e sz bytes s x as0=>eC b d wk e sz bytes (ev s) (ev x) as0 h k
 | .mM e bytes s x as0=>GK b d wk e bytes (ev s) (ev x) as0 h k
 | .kV u x y=>c8 (pR u (ev x) (ev y)) λv=>k v h
 | .pB n sz x i=>c8 (ov n sz (ev x) (ev i)) λv=>k v h
 | .e0 g x y=>c8 (pt g (ev x) (ev y)) λv=>k v h
 | .bits g x y=>c8 (Qy g (ev x) (ev y)) λv=>k v h
 | .qa f ar9=>c8 (FF f (ar9.map ev)) λv=>k v h
 | .pF x=>c8 (vo (ev x)) λv=>k v h
 | .oy e sz bytes zero s x as0=>i3 b wk (ua (Nat.add b d) e sz bytes (h.aj (Nat.add b d)).cd (zero.map mm) (ev s) (ev x) as0) h k
 | .oO e sz zero x=>i3 b wk (zF h.aj e sz (zero.map mm) (ev x)) h k
 | .oF n x=>i3 b wk (v7 h.aj n (ev x)) h k
 |_=> .ax
noncomputable def qT(asB:Bool)(o:ey):Option (List Nat):= @Bool.rec (λ_=>Option (List Nat)) none (some o.a7) asB
noncomputable def hS(u:Fn)(b:Nat)(asB:Bool)(o:ey)(ev:Operand->an)(h:aI)(k:dg):aw:=
 match o.ai with
 | .call (.func f) args=>Cn u b (qT asB o) f (args.map ev) h k
 | .call f args=>Bb u b (qT asB o) (ev f) (args.map ev) h k
 | .hV (.func f) args a=> @Bool.rec (λ_=>aw) (Ex u b f [] (args.map ev) a h k) (@Bool.rec (λ_=>aw) .ax (CL u b o.bT o.a7 f [] (args.map ev) a h k) (eb o.bT 4097)) asB
 | .hV f args a=> @Bool.rec (λ_=>aw) (nN u b (ev f) (args.map ev) a h k) (@Bool.rec (λ_=>aw) .ax (n6 u b o.bT o.a7 (ev f) (args.map ev) a h k) (eb o.bT 4097)) asB
 |r=>Hy b (Nat.add o.ai.off (o.dst.getD 0)) (qT asB o) ev h k r
def Cb:List Operand->List Operand
 |[]=>[]
 | .tmp t::r=> .tmp t::Cb r
 |_::r=>Cb r
def G2:nw->List Operand
 | .hV _ _ _=>[]
 |r=>Cb r.mh
noncomputable def yw(u:Fn)(b:Nat)(asB:Bool)(o:ey)(ev:Operand->an)(h:aI)(k:dg):aw:=
 @Bool.rec (λ_=>aw) (hS u b asB o ev h k) (met b o.bT ((G2 o.ai).map ev) (hS u b asB o ev h k)) (asB&&o.ai.looks)
def vX:List Nat->Type
 |[]=>aI->aw
 |_::l=>an->vX l
noncomputable def lg:(l:List Nat)->(dG->aI->aw)->dG->vX l
 |[],f,e=>f e
 |s::l,f,e=>λv=>lg l f (xe e s v)
def jj:(l:List Nat)->vX l->dG->aI->aw
 |[],j,_=>(λ(_:Nat)=>j) vI
 |s::l,j,e=>jj l (j (e s)) e
def Qp:(l:List Nat)->vX l
 |[]=>λ_=> .ax
 |_::l=>λ_=>Qp l
def bC{α:Type}(x:α)(f:α->aw):aw:=f x
noncomputable def sa(u:Fn)(b:Nat)(asB:Bool)(os:List ey):dG->aI->(dG->aI->aw)->aw:=
 @List.rec ey (λ_=>dG->aI->(dG->aI->aw)->aw) (λasC h k=>k asC h) (λo _ a asC h k=>yw u b asB o (et asC) h λv h'=>a (rT asC o.dst v) h' k) os
def k4:List ey->List Nat
 |[]=>[]
 |o::r=>match o.dst with|some d=>d::k4 r|none=>k4 r
noncomputable def vQ:List ey->dG->dG
 |[],asC=>asC
 |o::r,asC=>vQ r (rT asC o.dst (.a0 []))
def Kb:Option (Nat×Bool)->Option (Nat×Bool)->Bool
 |none,none=>true
 |some (t,w),some (a,w')=>Nat.beq t a&&(w==w')
 |_,_=>false
def R1:Option Nat->Nat->Bool
 |some d,t=>Nat.beq d t
 |none,_=>false
def under(g:Option (Nat×Bool))(o:ey):Bool:=Kb o.guard g&&match g with|some (t,_)=> !R1 o.dst t|none=>true
def yW:List ey->List (Option (Nat×Bool)×List ey)
 |[]=>[]
 |o::r=>match yW r with
  |[]=>[(o.guard,[o])]
  |(g,os)::l=>if Kb o.guard g&&under g o then(g,o::os)::l else(o.guard,[o])::(g,os)::l
theorem Yx:∀(l:List ey),(yW l).flatMap (·.2)=l
 |[]=>rfl
 |o::r=>by
  have a:=Yx r;unfold yW;cases b:yW r with
  |nil=>rw[b] at a;simp at a;subst a;rfl
  |cons p l=>
   obtain⟨g,os⟩:=p;rw[b] at a;simp only[];split
   ·rw[Ph] at a ⊢;show o::os++_=_;rw[LH,a]
   ·rw[Ph,a];rfl
noncomputable def zR(u:Fn)(b:Nat)(asB:Bool)(g:Option (Nat×Bool))(os:List ey)(asC:dG)(h:aI)(k:dG->aI->aw):aw:=
 @Bool.rec (λ_=>aw) .ax
  (@Option.rec (Nat×Bool) (λ_=>aw) (sa u b asB os asC h k)
   (λp=>bC (lg (k4 os) k asC) λj=>b0 (asC p.1) p.2 (sa u b asB os asC h λasC h=>jj (k4 os) j asC h) (jj (k4 os) j (vQ os asC) h)) g) (os.all (under g))
noncomputable def DK(u:Fn)(b:Nat)(asB:Bool)(rs:List (Option (Nat×Bool)×List ey)):dG->aI->(dG->aI->aw)->aw:=
 @List.rec (Option (Nat×Bool)×List ey) (λ_=>dG->aI->(dG->aI->aw)->aw) (λasC h k=>k asC h) (λp _ a asC h k=>zR u b asB p.1 p.2 asC h λc h'=>a c h' k) rs
noncomputable def NG(u:Fn)(b:Nat)(asB:Bool)(os:List ey):dG->aI->(dG->aI->aw)->aw:=DK u b asB (yW os)
inductive iX where
 |skip
 |region (asB:Bool) (asX:List ey)
 |seq (a b:iX)
 |I7 (l:List Nat) (a b:iX)
 |cond (c:Operand) (a b:iX)
 |block (id:Nat) (b:iX)
 |loop (l:List Nat) (b:iX)
 |exit (id:Nat)
 |ret
def iX.ia:iX->pY
 | .skip=> .skip
 | .region asB asX=> .region asB asX
 | .seq a b=> .seq a.ia b.ia
 | .I7 _ a b=> .seq a.ia b.ia
 | .cond c a b=> .cond c a.ia b.ia
 | .block id b=> .block id b.ia
 | .loop _ b=> .loop b.ia
 | .exit id=> .exit id
 | .ret=> .ret
def aDc{α:Type}(f:α->α)(x:α):α:=f x
noncomputable def ft(l:List Nat)(n:Nat)(f:vX l->vX l):vX l:= @Nat.rec (λ_=>vX l) (Qp l) (λ_ x=>aDc f x) n
noncomputable def aP(c:an)(x y:aw):aw:=vN c λt=>bf t x y
noncomputable def den(u:Fn)(b n:Nat)(c:iX):dG->aI->(dG->aI->aw)->(Nat->dG->aI->aw)->(dG->aI->aw)->aw:=
 @iX.rec (λ_=>dG->aI->(dG->aI->aw)->(Nat->dG->aI->aw)->(dG->aI->aw)->aw)
  (λasC h fJ _ _=>fJ asC h)
  (λasB asX asC h fJ _ _=>NG u b asB asX asC h fJ)
  (λ_ _ g e asC h fJ a d=>g asC h (λasC h=>e asC h fJ a d) a d)
  (λl _ _ g e asC h fJ a d=>bC (lg l (λasC h=>e asC h fJ a d) ma) λj=>g asC h (λasC h=>jj l j asC h) a d)
  (λc _ _ g e asC h fJ a d=>aP (et asC c) (g asC h fJ a d) (e asC h fJ a d))
  (λid _ e asC h fJ a d=>e asC h fJ (λi=> @Bool.rec (λ_=>dG->aI->aw) (a i) fJ (Nat.beq i id)) d)
  (λl _ e asC h _ a d=>jj l (ft l n λj=>lg l (λasC h=>e asC h (λasC h=>jj l j asC h) a d) ma) asC h)
  (λid asC h _ a _=>a id asC h)
  (λasC h _ _ d=>d asC h) c
end
end Go.Hf

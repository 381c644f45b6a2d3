import Derived.Test.YthiipifjdfmblaaGreatDoorAq
import Derived.Test.YthiipifjdfmblaaGreatDoorAs
import Derived.Test.YthiipifjdfmblaaGreatDoorAt
set_option linter.all false
set_option maxRecDepth 100000
namespace Go.Hf
open Go.RowKit
section
variable{c:Int}
theorem cB{α:Type}{l:List α}{p:α->Bool}(h:l.all p=true){x:α}(a:x∈l):p x=true:=M2.1 h x a
theorem mem_range{a n:Nat}(h:a<n):a∈List.range n:=List.mem_range.2 h
section
variable[Tok]
theorem ajF(n:Nat)(h: -1000000<=c/\c<=1000000):aK (bB bD (n+1)) 267 [ao c,mQ] (bA c):=by
 have hi:qX .i64 (c+18446744073709551616).toNat=true:=Bn (by omega) (by omega);have a:intOf (c+18446744073709551616).toNat=c:=by unfold intOf;omega
 refine⟨.nil,[],?_⟩;rw[cX,show bB bD (n+1) 267=FZ (bB bD n) by kernel_rfl];show bf (qX .i64 (c+18446744073709551616).toNat) (yz (Lib.itoa (intOf (c+18446744073709551616).toNat)) λr=> .ok r 0 .nil []) .ax=_;rw[hi,cM,H9,a];rfl
theorem avP(n:Nat)(h: -1000000<=c/\c<=1000000):aK (bB bD (n+1)) 157 [ao c] (bA c):=by
 have hi:qX .i64 (c+18446744073709551616).toNat=true:=Bn (by omega) (by omega);have a:intOf (c+18446744073709551616).toNat=c:=by unfold intOf;omega
 refine⟨.nil,[],?_⟩;rw[cX,show bB bD (n+1) 157=Iu (bB bD n) by kernel_rfl];show bf (qX .i64 (c+18446744073709551616).toNat) (yz (Lib.itoa (intOf (c+18446744073709551616).toNat)) λr=> .ok r 0 .nil []) .ax=_;rw[hi,cM,H9,a];rfl
theorem OI:bl Ms:=bl.kQ 20 λn=>⟨λx a=>eN (cB (akD n) (y8 a)),λx a=>eN (cB (alt n) (y8 a)),λx a=>ajF (n+19) a⟩
structure QQ (p q:Int):Prop where
 mem:(p,q)∈Jo
def tX(p q:Int):Prop:=(q=1/\ -520<=p/\p<=520)\/QQ p q
theorem vU(p:Int):l0 p 1=p/\lM p 1=1:=by
 have e:Int.gcd p 1=1:=by simp
 unfold l0 lM;rw[e];simp
structure Rp (u:Fn):Prop where
 mul:∀x y:Int,dZ x->dZ y-> -1000000<=x*y->x*y<=1000000->aK u 211 [bA x,bA y] (bA (x*y))
 add:∀x y:Int,dZ x->dZ y->aK u 274 [bA x,bA y] (bA (x+y))
 Hc:∀p q:Int,tX p q->dZ p->Oq u p q (l0 p q) (lM p q)
 itoa:∀c:Int,-1000000<=c/\c<=1000000->aK u 157 [ao c] (bA c)
theorem Ww:bl λu=>Ms u/\∀x y:Int,dZ x->dZ y->∀m:Int,(m=9\/m=18)->aK u 266 [bA x,bA y,ao m] (.a0 [ao x,ao y,.a9 true]):=
 (OI.and (OI.up (C:=λu=>∀x y:Int,dZ x->dZ y->∀m:Int,(m=9\/m=18)->aK u 266 [bA x,bA y,ao m] (.a0 [ao x,ao y,.a9 true])) λn h x y a d m e=>cI (aM 266 Dx n) (azV h a d e)))
theorem asW:bl λu=>∀x:Int,dZ x->aK u 275 [bA x] (bA x):=
 OI.up λn h x a=>cI (aM 275 C9 n) (aqh (h.Pd x a))
theorem aEl:bl λu=>(∀x y:Int,dZ x->dZ y-> -1000000<=x*y->x*y<=1000000->aK u 211 [bA x,bA y] (bA (x*y))):=by refine Ww.up λn h=>?_;intro x y a b d e;have f:=h.1.aep (x*y) (And.intro d e);have k:=h.2 x y a b 9 (Or.inl rfl);exact cI (aM 211 Bh n) (aye a b k f)
theorem ap3:bl λu=>(∀x y:Int,dZ x->dZ y->aK u 274 [bA x,bA y] (bA (x+y))):=by refine Ww.up λn h=>?_;intro x y a b;have f:=h.1.aep (x+y) (by unfold dZ at a b;omega);have k:=h.2 x y a b 18 (Or.inr rfl);exact cI (aM 274 B2 n) (afI a b k f)
theorem arl:bl λu=>∀p:Int,dZ p->aK u 265 [bA p,bA 1] (.a0 [bA p,bA 1]):=asW.up λn h p a=>cI (aM 265 Cf n) (aiK (h p a) (h 1 (by unfold dZ;omega)))
theorem av5:bl λu=>∀p q:Int,QQ p q->aK u 265 [bA p,bA q] (.a0 [bA (l0 p q),bA (lM p q)]):=by refine bl.kQ 20 λn=>?_;intro p q a;have h:=cB (ahf n) a.mem;exact eN h
theorem aix:bl λu=>∀p q:Int,tX p q->dZ p->Oq u p q (l0 p q) (lM p q):=(arl.and av5).imp λn h p q a b=>by
 rcases a with⟨rfl,_⟩|a
 ·rw[(vU p).1,(vU p).2];exact h.1 p b
 ·exact h.2 p q a
theorem apE:bl λu=>∀c:Int,-1000000<=c/\c<=1000000->aK u 157 [ao c] (bA c):=bl.kQ 1 λn c a=>avP n a
theorem HQ:bl Rp:=((aEl.and ap3).and (aix.and apE)).imp λn h=>⟨h.1.1,h.1.2,h.2.1,h.2.2⟩
end
end
section
variable{p:Int}
def m8(x:Int):Bool:=Nat.ble x.natAbs 700
def rD(a c:Nat):Bool:=(Nat.ble a 80&&Nat.ble c 18)||(Nat.ble a 700&&Nat.beq c 1)
def apJ(p q:Int):Bool:=Jo.any λr=>decide (r.1=p)&&decide (r.2=q)
def Aj(p q:Int):Bool:=(decide (q=1)&&Nat.ble p.natAbs 520)||apJ p q
def tQ(a:Nat):Bool:=gC.any λr=>Nat.beq r a
theorem ib{x:Int}(h:m8 x=true):dZ x:=by have:=pn h;unfold dZ;omega
theorem I2{q:Int}(h:Aj p q=true):tX p q:=by
 unfold Aj at h;rw[dS,Hi] at h;rcases h with h|h
 ·have a:=gd h.1;have b:=pn h.2;exact .inl ⟨a,by omega,by omega⟩
 ·obtain⟨r,c,h⟩:=pL.1 h;rw[Hi] at h;have a:=gd h.1;have b:=gd h.2;exact .inr ⟨by rw[<-a,<-b];exact c⟩
def l9(c d:Rat):Bool:=m8 c.num&&(m8 d.num&&(m8 c.den&&(m8 d.den&&(m8 (c.num*d.num)&&(m8 ((c.den:Int)*d.den)&&(rD c.num.natAbs d.num.natAbs&&(rD c.den d.den&&Aj (c.num*d.num) ((c.den:Int)*d.den))))))))
def kj(c d:Rat):Bool:=m8 c.num&&(m8 d.num&&(m8 c.den&&(m8 d.den&&(m8 (c.num*d.den)&&(m8 (d.num*c.den)&&(m8 ((c.den:Int)*d.den)&&(m8 (c.num*d.den+d.num*c.den)&&(rD c.num.natAbs d.den&&(rD d.num.natAbs c.den&&(rD c.den d.den&&(tQ (c.num*d.den).natAbs&&(tQ (d.num*c.den).natAbs&&(Nat.ble ((c.num*d.den).natAbs+(d.num*c.den).natAbs) 700&&Aj (c.num*d.den+d.num*c.den) ((c.den:Int)*d.den))))))))))))))
section
variable[Tok]
theorem Wt{q:Nat}(h:q≠0):ef (Rat.normalize p q h)=b5 (l0 p q) (lM p q):=by have e:Int.gcd p (q:Int)=p.natAbs.gcd q:=rfl;unfold ef l0 lM;rw[Rat.normalize_eq,e];simp
theorem aeT(c d:Rat):ef (c*d)=b5 (l0 (c.num*d.num) ((c.den:Int)*d.den)) (lM (c.num*d.num) ((c.den:Int)*d.den)):=by rw[Rat.mul_def,Wt];simp
theorem P4(c d:Rat):ef (c+d)=b5 (l0 (c.num*d.den+d.num*c.den) ((c.den:Int)*d.den)) (lM (c.num*d.den+d.num*c.den) ((c.den:Int)*d.den)):=by rw[Rat.add_def,Wt];simp
structure CD (u:Fn):Prop where
 aw5:∀c d:Rat,l9 c d=true->aK u 160 [.agg (ef c),.agg (ef d)] (.agg (ef (c*d)))
 sum:∀c d:Rat,kj c d=true->aK u 215 [.agg (ef c),.agg (ef d)] (.agg (ef (c+d)))
structure aBH (u:Fn):Prop where
 V:Rp u
 Hc:∀p q:Int,tX p q->dZ p->aK u 210 [bA p,bA q] (.agg (b5 (l0 p q) (lM p q)))
 int:∀n:Int,aK u 100 [bA n] (.agg (b5 n 1))
 kH:∀p q:Int,aK u 209 [.agg (b5 p q)] (.agg (b5 p q))
theorem NI:bl aBH:=by have a:bl λu=>∀p q:Int,tX p q->dZ p->aK u 210 [bA p,bA q] (.agg (b5 (l0 p q) (lM p q))):=HQ.up λn h p q c d=>cI (aM 210 BR n) (WI (h.Hc p q c d));have b:bl λu=>(∀n:Int,aK u 100 [bA n] (.agg (b5 n 1)))/\∀p q:Int,aK u 209 [.agg (b5 p q)] (.agg (b5 p q)):=bl.kQ 1 λn=>⟨λx=>cI (aM 100 E4 n) afK,λp q=>cI (aM 209 C6 n) anA⟩;exact(HQ.and (a.and b)).imp λn h=>⟨h.1,h.2.1,h.2.2.1,h.2.2.2⟩
theorem ajh:bl CD:=NI.up λn h=>by
 refine⟨λc d g=>?_,λc d g=>?_⟩
 ·unfold l9 at g;simp only[Hi] at g;obtain⟨eR,o,k,l,q,t,w,x,y⟩:=g;have i:=ib q;have j:=ib t;rw[aeT];exact cI (aM 160 Fe n) (axK (h.kH _ _) (h.kH _ _) (h.V.mul _ _ (ib eR) (ib o) (by unfold dZ at i;omega) (by unfold dZ at i;omega)) (h.V.mul _ _ (ib k) (ib l) (by unfold dZ at j;omega) (by unfold dZ at j;omega)) (h.Hc _ _ (I2 y) i))
 ·unfold kj at g;simp only[Hi] at g;obtain⟨eR,o,k,l,q,t,w,x,y,C,D,E,F,G,z⟩:=g;have i:=ib q;have j:=ib t;have dx:=ib w;by_cases b:(c.den:Int)=1/\(d.den:Int)=1
  ·have r:=axc (u:=bB bD n) (a:=c.num) (c:=d.num) b.1 b.2 (h.kH _ _) (h.kH _ _) (h.V.add _ _ (ib eR) (ib o)) (h.int _);rw[P4,b.1,b.2];rw[b.1,b.2] at r;have e:b5 (l0 (c.num*1+d.num*1) (1*1)) (lM (c.num*1+d.num*1) (1*1))=b5 (c.num+d.num) 1:=by rw[show(1:Int)*1=1 from rfl,(vU _).1,(vU _).2,Int.mul_one,Int.mul_one]
   rw[e];have A:ef c=b5 c.num 1:=by unfold ef;rw[b.1]
   have B:ef d=b5 d.num 1:=by unfold ef;rw[b.2]
   rw[A,B];exact cI (aM 215 sq n) r
  ·rw[P4];exact cI (aM 215 sq n) (aDS (ib k) (ib l) (by omega) (h.kH _ _) (h.kH _ _) (h.V.mul _ _ (ib eR) (ib l) (by unfold dZ at i;omega) (by unfold dZ at i;omega))
    (h.V.mul _ _ (ib o) (ib k) (by unfold dZ at j;omega) (by unfold dZ at j;omega)) (h.V.add _ _ i j) (h.V.mul _ _ (ib k) (ib l) (by unfold dZ at dx;omega) (by unfold dZ at dx;omega)) (h.Hc _ _ (I2 z) (ib x)))
end
end
section
variable{A C:Fn->Prop} {E:cr} {D:Rat->Prop} {K:Nat->Prop}
section
variable[Tok]
def nd(L:Nat)(u:Fn):Prop:=∃n,L<=n/\u=bB bD n
theorem bl.kv(L:Nat)(h:bl A)(s:∀n,L<=n->A (bB bD n)->C (bB bD (n+1))):bl C:=by
 obtain⟨a,h⟩:=h;refine⟨L+a+1,λn b=>?_⟩;cases n with
 |zero=>omega
 |succ n=>exact s n (by omega) (h n (by omega))
theorem bl.ge(L:Nat)(h:bl A)(s:∀n,L<=n->A (bB bD n)->C (bB bD n)):bl C:=by obtain⟨a,h⟩:=h;exact⟨L+a,λn b=>s n (by omega) (h n (by omega))⟩
section
variable{f L:Nat} {ρ:jS} (hρ:ρ.Y=nd L)
include hρ
theorem xn{n:Nat}{es:aY}(a:L<=n)(h:iq (bB bD (n+1)) f ρ es):iq (bB bD n) f ρ es:=⟨by rw[hρ];exact⟨n,a,rfl⟩,h.2⟩
theorem ajz:bl λu=>OL u f ρ:=bl.kv L bl.jr λn c _=>by intro b atf q s e a B es d g h i j k l o;rw[aM 335 vV];exact ayc d g h i j (xn hρ c k) l o
omit hρ in
theorem aDx:bl λu=>PF u f:=bl.jr.up λn _=>by intro b atf q s e A B m es a c d g h i j;rw[aM 372 CQ];exact ajC a c d g h i j
omit hρ in
theorem aCi:bl λu=>Qt u f:=aDx.up λn h=>by intro b atf q s e A m B es a c d g i j k l;rw[aM 358 C4];exact arD h a c d g i j k l
theorem Ym:∀D,bl λu=>zS u f ρ D
 |0=>bl.jr.imp λn _=>by intro b atf q s e a m B es _ _ _ _ _ _ c d g;omega
 |D+1=>bl.kv L ((aCi (f:=f)).and (Ym D)) λn i h=>by intro b atf q s e a m B es c d g j k l o p r t w x;rw[aM 336 Fv];exact auI h.1 h.2 c d g j k (xn hρ i l) o p r t w x
theorem asU:bl λu=>XF u f ρ:=bl.kv L ((ajz (f:=f) hρ).and (Ym (f:=f) hρ 39)) λn a h=>by intro b atf q s e es c d g i j k;rw[aM 284 xM];exact aAw h.1 h.2 (sm _) c d g i j (xn hρ a k)
theorem aw3:bl λu=>Ny u f ρ:=bl.kv L (asU (f:=f) hρ) λn a h=>by intro b atf q s e es c d g i j k;rw[aM 236 v9];exact aBA h c d g i j (xn hρ a k)
theorem azd:bl λu=>UJ u f ρ:=bl.kv L bl.jr λn c _=>by intro b atf q s e a B es d g h i j k l o;rw[aM 279 uj];exact amo d g h i j (xn hρ c k) l o
theorem ak2:bl λu=>xD u 182 f ρ:=by
 have a:bl λu=>xD u 232 f ρ:=bl.kv L (azd (f:=f) hρ) λn c h=>by intro b atf q s e es a d g i j k;rw[y1 rfl,aM 232 wS];exact WA h a d g i j (xn hρ c k)
 exact bl.kv L a λn c h=>by intro b atf q s e es a d g i j k;rw[cz,aM 182 uO];exact ag6 h a d g i j (xn hρ c k)
end
theorem avW{f:Nat}:bl λu=>∀{b:Nat} {atf:b1},gD (u 182 [.aE,dI f] b atf) b atf (.a0 []):=by
 have a:bl λu=>∀{b:Nat} {atf:b1},gD (u 279 [.aE,ao 0,ao 0,dI f] b atf) b atf (.a0 []):=bl.jr.up λn _=>by intro b atf;rw[aM 279 uj];exact am2
 have c:bl λu=>∀{b:Nat} {atf:b1},gD (u 232 [.aE,ao 0,dI f] b atf) b atf (.a0 []):=a.up λn h=>by intro b atf;rw[aM 232 wS];exact aDD h
 exact c.up λn h=>by intro b atf;rw[aM 182 uO];exact agc h
theorem am4:bl λu=>XP u:=bl.jr.up λn _=>by intro b atf m a c;rw[aM 262 zK];exact af3 a c
theorem aEw:bl λu=>Rl u:=am4.up λn h=>by intro b atf p q es g a c d e;rw[aM 205 xJ];exact aw7 h a c d e
theorem aeZ:bl λu=>abi u:=bl.jr.up λn _=>by intro b atf m a c;rw[aM 231 zP];exact ake a c
theorem ams:bl λu=>Ft u:=aeZ.up λn h=>by intro b atf p q es g a c d e;rw[aM 181 xQ];exact ayq h a c d e
theorem aqw{f:Nat}(a:bl λu=>uR u E f D):bl λu=>LM u E f D:=a.up λn h=>by
 refine⟨?_,?_⟩
 ·intro b atf q s as0 ms c d e g;rw[aM 286 wW];exact aq1 h c d e g
 ·intro b atf;rw[aM 286 wW];exact aq4
theorem aps{f:Nat}(a:bl λu=>uR u E f D):bl λu=>NS u E f D:=(a.and (aqw a)).up λn h=>by
 refine⟨?_,?_⟩
 ·intro b atf q s ms c d e g;rw[aM 238 vH];exact alS h.1 h.2 c d e g
 ·intro b atf;rw[aM 238 vH];exact arj h.2
noncomputable def J5(E:cr)(K:Nat->Prop)(x:aB):Nat:=open Classical in if h:∃m:cw,K m.k/\x=E.fp m then h.choose.k else 0
theorem aiU(h:∀j k,K j->K k->E.di j=E.di k->j=k){m:cw}(c:K m.k):J5 E K (E.fp m)=m.k:=by
 unfold J5;have b:∃a:cw,K a.k/\E.fp m=E.fp a:=⟨m,c,rfl⟩;rw[dif_pos b];obtain⟨d,e⟩:=b.choose_spec;generalize b.choose=a at d e;have g:(E.fp m)[7]? =(E.fp a)[7]? :=by rw[e]
 rw[E.kk,E.kk] at g;exact(h _ _ c d (jZ g)).symm
theorem azD{L:Nat}(p:E.Y=nd L)(hi:∀j k,K j->K k->E.di j=E.di k->j=k)(q:∀n,L<=n->n9 (bB bD n) E K)(a:bl λu=>Ci u E D)(c:bl λu=>uR u E 239 D)(r:z7 E K):bl λu=>w5 u E K D:=by
 have d:=aw3 (f:=237) (ρ:=⟨J5 E K,nd L⟩) rfl;have hd:=aps c;have e:bl λu=>(∀{b:Nat} {atf:b1},gD (u 236 [.aE,dI 237] b atf) b atf (.a0 [])):=by
  have g:bl λu=>∀{b:Nat} {atf:b1},gD (u 335 [.aE,ao 0,ao 0,dI 237] b atf) b atf (.a0 []):=bl.jr.up λn _=>by intro b atf;rw[aM 335 vV];exact aC7
  have i:bl λu=>∀{b:Nat} {atf:b1},gD (u 284 [.aE,ao 0,dI 237] b atf) b atf (.a0 []):=g.up λn h=>by intro b atf;rw[aM 284 xM];exact aAF h
  exact i.up λn h=>by intro b atf;rw[aM 236 v9];exact alF h
 refine bl.kv L (((d.and hd).and (a.and c)).and e) λn o h=>?_;obtain⟨⟨⟨d,hd⟩,a,c⟩,e⟩:=h;refine⟨?_,?_⟩
 ·intro b atf ql sl ms g i t w x y z B;rw[aM 184 v4];refine agE (ρ:=⟨J5 E K,nd L⟩) (λm F=>aiU hi F) d ⟨n,o,rfl⟩ ?_ hd a r g i t w x y (λl m G dB cT n2=>?_) B
  ·rintro u ⟨k,H,rfl⟩;exact q k H
  ·have:=z l m G dB cT n2;exact⟨⟨by rw[p];exact⟨n,o,rfl⟩,this.1.2⟩,this.2⟩
 ·intro b atf;rw[aM 184 v4];exact aqY e hd.2
end
end
section
variable{c:Rat} {a ps:aB} {g:jq} {u:Fn} {r:an} {E:cr}
structure aeL (p q:Int):Prop where
 mem:(p,q)∈u0
def fV(c:Rat):Prop:=((c.den:Int)=1/\ -520<=c.num/\c.num<=520)\/aeL c.num c.den
theorem Pe{n:Int}(h: -520<=n/\n<=520):n∈zH:=by refine yd.2 ⟨(n+520).toNat,by simp;omega,by omega⟩
theorem auE:(u0.all λx=> !decide (x.2=1)&&(Nat.ble x.1.natAbs 700&& !decide (x.1=0)))=true:=by kernel_rfl
theorem LD{p q:Int}(h:aeL p q):q≠1/\dZ p/\p≠0:=by have b:=cB auE h.mem;simp only[Hi,EY,decide_eq_false_iff_not] at b;exact⟨b.1,by have:=pn b.2.1;unfold dZ;omega,b.2.2⟩
theorem abE(h:fV c):dZ c.num:=by
 rcases h with h|h
 ·unfold dZ;omega
 ·exact(LD h).2.1
section
variable[Tok]
structure FX (u:Fn):Prop where
 yS:∀c,fV c->aK u 212 [.agg (ef c)] (.a9 true)
 o1:∀c,fV c->aK u 207 [.agg (ef c),.agg (ef 1)] (.a9 (decide (c=1)))
 zero:∀c,fV c->aK u 213 [.agg (ef c)] (.a9 (decide (c=0)))
 int:∀n:Int,-520<=n/\n<=520->aK u 37 [ao n] (.agg (ef n))
theorem Sx(h:(c.den:Int)=1):ef c=b5 c.num 1:=by unfold ef;rw[h]
theorem KK(n:Int):ef n=b5 n 1:=rfl
theorem JF:ef 1=b5 1 1:=rfl
theorem T8:(c=1)↔(c.num=1/\(c.den:Int)=1):=by
 constructor
 ·rintro rfl;exact⟨rfl,rfl⟩
 ·intro h;apply Rat.ext
  ·exact h.1
  ·have:=h.2;show c.den=1;omega
theorem Zg(h:(c.den:Int)=1):decide (c=1)=decide (c.num=1):=L9.2 (by rw[T8];exact⟨λh=>h.1,λh'=>⟨h',h⟩⟩)
theorem ad5(h:(c.den:Int)≠1):decide (c=1)=false:=GG (by rw[T8];exactλh'=>h h'.2)
theorem S8(c:Rat):decide (c=0)=decide (c.num=0):=L9.2 Rat.num_eq_zero.symm
theorem U7(f:Nat)(L:Nat)(ps:Int->Int->aB)(r:Int->Int->an)(w:∀n,(zH.all λx=>dy (bB bD (n+L) f (ps x 1) 0 .nil) (r x 1))=true)(g:∀n,(u0.all λx=>dy (bB bD (n+L) f (ps x.1 x.2) 0 .nil) (r x.1 x.2))=true):
 bl λu=>∀c:Rat,fV c->aK u f (ps c.num c.den) (r c.num c.den):=by
 refine bl.kQ L λn=>?_;intro c b;rcases b with⟨d,e⟩|h
 ·rw[d];have:=cB (w n) (Pe e);exact eN this
 ·have:=cB (g n) h.mem;exact eN this
theorem ae5:bl λu=>∀c:Rat,fV c->aK u 212 [.agg (ef c)] (.a9 true):=U7 212 20 (λp q=>[.agg (b5 p q)]) (λ_ _=> .a9 true) aoX avQ
theorem anK:bl λu=>∀c:Rat,fV c->aK u 207 [.agg (ef c),.agg (ef 1)] (.a9 (decide (c=1))):=by
 refine bl.kQ 20 λn=>?_;intro c e;rcases e with⟨d,i⟩|h
 ·rw[Zg d,Sx d,JF];have:=cB (at3 n) (Pe i);exact eN this
 ·rw[ad5 (LD h).1,JF];have:=cB (afc n) h.mem;exact eN this
theorem Tx:bl λu=>∀c:Rat,fV c->aK u 213 [.agg (ef c)] (.a9 (decide (c=0))):=bl.jr.up λn _ c d=>by rw[S8];exact cI (aM 213 C3 n) (Sp (abE d))
theorem avZ:bl λu=>∀n:Int,-520<=n/\n<=520->aK u 37 [ao n] (.agg (ef n)):=by have d:bl λu=>∀n:Int,-520<=n/\n<=520->aK u 101 [ao n] (bA n):=HQ.up λn h c b=>cI (aM 101 BH n) (aCn (h.itoa c (by omega)));exact(d.and NI).up λn h c b=>by rw[KK];exact cI (aM 37 FA n) (RF (h.1 c b) (h.2.int c))
theorem qx:bl FX:=((ae5.and anK).and (Tx.and avZ)).imp λn h=>⟨h.1.1,h.1.2,h.2.1,h.2.2⟩
theorem Zl(h:b8 a=true):rm [.agg a]=true:=by show @Bool.rec (λ_=>Bool) false true (b8 a)=true;rw[h]
theorem Ja{c:aB}(h:b8 a=true)(g:b8 c=true):rm [.agg a,.agg c]=true:=by show @Bool.rec (λ_=>Bool) false (rm [.agg c]) (b8 a)=true;rw[h];exact Zl g
theorem yU(i:rm ps=true)(h:∃s d,g u ps 0 .nil= .ok r 0 s d)(b:Nat)(atf:b1):me g u ps b atf= .ok r b atf []:=by obtain⟨s,d,e⟩:=h;have j:me g u ps b atf=bf (rm ps) (@aw.rec (λ_=>aw) .ax (λr ub _ _=>bf (Nat.beq ub 0) (.ok r b atf []) .ax) (g u ps 0 .nil)) .ax:=rfl;rw[j,e,i];rfl
theorem Xi{b ub:Nat}{atf i:b1}{dd:List Nat}(h:me g u ps b atf= .ok r ub i dd):rm ps=true/\ub=b/\i=atf/\dd=[]/\∃s d,g u ps 0 .nil= .ok r 0 s d:=by
 have k:me g u ps b atf=bf (rm ps) (@aw.rec (λ_=>aw) .ax (λr ub _ _=>bf (Nat.beq ub 0) (.ok r b atf []) .ax) (g u ps 0 .nil)) .ax:=rfl;rw[k] at h;obtain⟨l,e⟩:=jt h;cases j:g u ps 0 .nil with
 |ax=>rw[j] at e;cases e
 |ok n o p d'=>rw[j] at e;obtain⟨q,t⟩:=jt (show bf (Nat.beq o 0) (aw.ok n b atf []) .ax= .ok r ub i dd from e);cases t;exact⟨l,rfl,rfl,rfl,p,d',by rw[dp q]⟩
theorem aiT(h:∃s d,me g u ps 0 .nil= .ok r 0 s d)(b:Nat)(atf:b1):me g u ps b atf= .ok r b atf []:=by obtain⟨s,d,e⟩:=h;obtain⟨i,_,_,_,j⟩:=Xi e;exact yU i j b atf
theorem axd(d:∀c,E.num c=ef c):bl λu=>uR u E 239 fV:=Tx.up λn h m e ub atf=>by have b:=h m.U e;rw[<-d] at b;rw[aM 239 (me Fb)];exact yU (Zl (E.gw m)) (apC b) ub atf
theorem aB9(b:∀c,E.num c=ef c):bl λu=>Ci u E fV:=qx.imp λn h c d _=>by rw[b];exact h.yS c d
end
end
section
variable{i j k L n:Nat}
section
variable[Tok]
def oN:aB->Nat
 |[_,_,.s 1 m,_,_,_,_,_,_,_,.aE]=>m-0x78
 |[_,_,.s 3 _,_,_,_,_,_,_,_,.aQ _ [[_,_,.s _ m,_,_,_,_,_,_,_,_]]]=>m-0x78+3
 |[_,_,.s 4 _,_,_,_,_,_,_,_,.aQ _ [[_,_,.s _ m,_,_,_,_,_,_,_,_]]]=>m-0x78+6
 |_=>0
theorem xr(h:i<9:=by omega):oN (ec i)=i:=by
 have:i=0\/i=1\/i=2\/i=3\/i=4\/i=5\/i=6\/i=7\/i=8:=by omega
 rcases this with rfl|rfl|rfl|rfl|rfl|rfl|rfl|rfl|rfl<;>rfl
def qe(x y:aB):Int:=e4 (oN x) (oN y)
theorem Dl(x y:aB): -100<qe x y/\qe x y<100:=by have:=xo (oN x) (oN y);unfold qe;omega
theorem Bj(hi:i<9:=by omega)(a:j<9:=by omega):qe (ec i) (ec j)=e4 i j:=by unfold qe;rw[xr hi,xr a]
theorem D8:fb 0=[]:=rfl
theorem n4(h:0<k/\k<10):fb k=[ec (k-1)]:=by unfold fb;rw[cz,fS]
theorem vp(h:10<=k):fb k=[ec ((k-10)/9),ec ((k-10) %9)]:=by unfold fb;rw[cz,cz]
theorem wh(c:fT k){t:aB}(b:t∈fb k):∃a,a<9/\t=ec a:=by
 rcases P1 k with rfl|h
 ·rw[D8] at b;cases b
 ·by_cases d:k<10
  ·rw[n4 ⟨h,d⟩] at b;simp at b;exact⟨k-1,by omega,b⟩
  ·rw[vp (by omega)] at b;simp at b;unfold fT at c;rcases b with b|b
   ·exact⟨_,by omega,b⟩
   ·exact⟨_,by omega,b⟩
theorem IF(hi:fT i)(c:fT j):(jd qe (fb i) (fb j)<0↔i<j)/\(jd qe (fb i) (fb j)=0↔i=j):=by
 have b:∀{k},k=0->fb k=[]:=by rintro k rfl;rfl
 have c1:∀{k},k=0\/(0<k/\k<10)\/10<=k:=by omega
 unfold fT at hi c;rcases c1 (k:=i) with a|a|a<;>rcases c1 (k:=j) with d|d|d
 ·rw[b a,b d];simp[jd,ja];omega
 ·rw[b a,n4 d];simp[jd];omega
 ·rw[b a,vp d];simp[jd];omega
 ·rw[n4 a,b d];simp[jd];omega
 ·rw[n4 a,n4 d];simp only[jd,JO,Md,kf,st,ja];rw[Bj];unfold e4;split
  ·simp;omega
  ·split
   ·simp;omega
   ·simp;omega
 ·rw[n4 a,vp d];simp[jd];omega
 ·rw[vp a,b d];simp[jd];omega
 ·rw[vp a,n4 d];simp[jd];omega
 ·rw[vp a,vp d];simp only[jd,JO,Md,kf,st,ja];rw[Bj,Bj];unfold e4;split
  ·split at* <;>(try split at*)<;>simp<;>omega
  ·split at* <;>(try split at*)<;>(try split at*)<;>(try simp at*)<;>(try simp)<;>omega
structure vm (u:Fn):Prop where
 mP:∀i j,i<9->j<9->∀b atf,u 183 [.agg (ec i),.agg (ec j)] b atf= .ok (ao (e4 i j)) b atf []
theorem zB:bl vm:=bl.kQ 40 λn=>by
 refine⟨λi j hi a b atf=>?_⟩
 ·have h:=eN (cB (cB (aCy n) (mem_range hi)) (mem_range a));rw[aM 183 (me xx)] at h ⊢;exact aiT h b atf
theorem vu(a:Fn->Prop)(k:Nat):dw 11 ((mi a).di k) (fb k):=by
 rcases ru k with⟨e,h⟩|⟨e,h⟩
 ·exact .inl ⟨e,h⟩
 ·exact .inr e
theorem ays:∃L,∀e n,L<=n->n9 (bB bD n) (mi e) fT:=by
 have w:bl λu=>∀e (x y:cw),fT x.k->fT y.k->(fb x.k).length=(fb y.k).length->aK u 285 [(mi e).di x.k,(mi e).di y.k,dI 183] (ao (ja qe (fb x.k) (fb y.k))):=zB.up λn h e x y g l o=>
  cI (aM 285 uZ n) (Up (vu e x.k) (vu e y.k) o (by have:=oD x.k;omega) λi p q z A=>by obtain⟨a,r,rfl⟩:=wh g (On z);obtain⟨d,hd,rfl⟩:=wh l (On A);refine⟨rM _,rM _,Dl _ _,λb atf=>?_⟩;rw[Bj r hd];exact h.mP a d r hd b atf)
 have B:bl λu=>∀e,n9 u (mi e) fT:=w.up λn h e x y g l _=>by have D:=Bl (c:=qe) Dl (fb x.k) (fb y.k);have t:=IF g l;refine⟨jd qe (fb x.k) (fb y.k),by unfold jd;split<;>(try split)<;>omega,t.1,t.2,λub atf=>?_⟩;rw[aM 237 (me vO)];exact yU (Ja (cr.gw _ _) (cr.gw _ _)) (TS (vu e x.k) (vu e y.k) (by have:=oD x.k;omega) (by have:=oD y.k;omega) Dl λo=>h e x y g l o) ub atf
 obtain⟨L,h⟩:=B;exact⟨L,λe n C=>h n C e⟩
theorem axo(a:Fn->Prop):z7 (mi a) fT:=λk _=>⟨(fb k).length,by have:=oD k;omega,(vu a k).len⟩
theorem aoF(a:Fn->Prop):(mi a).AF 0:=⟨λc=>rfl,rfl⟩
def w8(a:Fn->Prop):jS:=⟨oN,a⟩
theorem aCU(h:∀n,L<=n->vm (bB bD n))(g:L<=n){es:aY}(c:∀t∈es,∃a,a<9/\t=ec a):iq (bB bD n) 183 (w8 (nd L)) es:=by
 refine⟨⟨n,g,rfl⟩,?_⟩;rintro u ⟨m,l,rfl⟩;have e:∀a d,a<9->d<9->yP (bB bD m) 183 (w8 (nd L)) (ec a) (ec d):=λa d b hd=>by
  have o:(w8 (nd L)).ai (ec a)=a:=xr b;have p:(w8 (nd L)).ai (ec d)=d:=xr hd;unfold yP;rw[o,p];refine⟨e4 a d,by have:=xo a d;omega,?_,?_,(h m l).mP a d b hd⟩
  ·unfold e4;split<;>(try split)<;>omega
  ·unfold e4;split<;>(try split)<;>omega
 rw[zJ];intro i j hi q _;obtain⟨a,b,w⟩:=c _ (tL hi);obtain⟨d,hd,x⟩:=c _ (tL q);rw[w,x];exact⟨e a d b hd,e d a hd b⟩
theorem ax4:∀j k,fT j->fT k->tW j=tW k->j=k:=by
 intro j k l c h;have o:∀{j k:Nat},tW j=tW k->fb j=fb k:=λ{j k} h=>by
  rcases ru j with⟨a,d⟩|⟨a,d⟩<;>rcases ru k with⟨b,e⟩|⟨b,e⟩
  ·rw[d,e]
  ·rw[a,b] at h;cases h
  ·rw[a,b] at h;cases h
  ·rw[a,b] at h;simpa using h
 have g:=IF l c;rw[o h] at g;have p:=(IF c c).2.2 rfl;exact g.2.1 p
theorem TX(h:∀n,L<=n->vm (bB bD n))(p:L<=n)(g:Fn->Prop){l:Nat}(b:k<10)(c:l<10):EH (bB bD n) (mi g) (w8 (nd L)) fW k l/\fT (fW k l):=by
 have q:fT k:= .inl b;have r:fT l:= .inl c;refine⟨⟨fb k,fb l,vu g k,vu g l,?_,?_,?_,?_,?_⟩,?_⟩
 ·have:=oD k;have:=oD l;omega
 ·intro t a;rcases Ic.1 a with a|a
  ·exact A1 k t a
  ·exact A1 l t a
 ·exact aCU h p λt a=>by
   rcases Ic.1 a with a|a
   ·exact wh q a
   ·exact wh r a
 ·intro e;rw[List.append_eq_nil_iff] at e;have u:k=0:=by
   rcases P1 k with h|h
   ·exact h
   ·rw[n4 ⟨h,b⟩] at e;simp at e
  have w:l=0:=by
   rcases P1 l with h|h
   ·exact h
   ·rw[n4 ⟨h,c⟩] at e;simp at e
  subst u;subst w;rfl
 ·intro e;have asT:∀x:aB,jx oN 0 ([x].length-1) 1 [x]=[x]:=λx=>rfl;show tW (fW k l)=_;rcases P1 k with rfl|o
  ·rcases P1 l with rfl|d
   ·simp[D8] at e
   ·rw[D8,n4 ⟨d,c⟩,Pt];show _=an.aQ 11 (jx oN 0 ([ec (l-1)].length-1) 1 [ec (l-1)]);rw[asT,show fW 0 l=l from rfl];unfold tW;rw[cz,fS]
  ·rcases P1 l with rfl|d
   ·rw[D8,n4 ⟨o,b⟩,fr];show _=an.aQ 11 (jx oN 0 ([ec (k-1)].length-1) 1 [ec (k-1)]);rw[asT,show fW k 0=k by unfold fW;rw[if_neg (by omega),if_pos rfl]];unfold tW;rw[cz,fS]
   ·rw[n4 ⟨o,b⟩,n4 ⟨d,c⟩];have y:jx oN 0 (([ec (k-1)]++[ec (l-1)]).length-1) 1 ([ec (k-1)]++[ec (l-1)])=if l-1<k-1 then[ec (l-1),ec (k-1)] else[ec (k-1),ec (l-1)]:=by show(if oN (ec (l-1))<oN (ec (k-1)) then[ec (l-1),ec (k-1)] else[ec (k-1),ec (l-1)])=_;rw[xr,xr]
    show _=an.aQ 11 (jx oN 0 (([ec (k-1)]++[ec (l-1)]).length-1) 1 ([ec (k-1)]++[ec (l-1)]));rw[y];have z:fW k l=10+9*(min k l-1)+(max k l-1):=by unfold fW;rw[cz,cz]
    rw[z];unfold tW;rw[cz,cz];split
    ·rename_i A;rw[show min k l=l by omega,show max k l=k by omega];congr 3
     ·congr 1;omega
     ·congr 2;omega
    ·rename_i A;rw[show min k l=k by omega,show max k l=l by omega];congr 3
     ·congr 1;omega
     ·congr 2;omega
 ·unfold fW fT;rcases P1 k with rfl|o
  ·rw[y1 rfl];omega
  ·rcases P1 l with rfl|d
   ·rw[cz,y1 rfl];omega
   ·rw[cz,cz];omega
end
end
section
variable{c d:Rat} {n:Nat}
def fa(L:bE)(k:Nat):bE:=L.filter λm=>decide (m.k=k)
theorem E3(a c:bE)(k:Nat):fa (a++c) k=fa a k++fa c k:=List.filter_append ..
theorem AT:∀(L:bE) (k:Nat),cx (fa L k) k=cx L k
 |[],_=>rfl
 |m::r,k=>by
  by_cases h:m.k=k
  ·have e:fa (m::r) k=m::fa r k:=by unfold fa;rw[List.filter_cons_of_pos (by simpa using h)]
   rw[e];simp only[cx,AT r]
  ·have e:fa (m::r) k=fa r k:=by unfold fa;rw[List.filter_cons_of_neg (by simpa using h)]
   rw[e];simp only[cx,AT r,Ca h,gb]
theorem Fx{m:cw}{r:bE}:fa (m::r) m.k=m::fa r m.k:=by unfold fa;rw[List.filter_cons_of_pos (by simp)]
theorem awZ{l:bE}{k:Nat}(h:∀x∈l,x.k=k):fa l k=l:=by unfold fa;rw[List.filter_eq_self];intro x a;simpa using h x a
def Dq(s:Nat->Prop)(L:bE):Prop:=∀k,fa L k=[]\/(∃x,fa L k=[x])\/∃x y,fa L k=[x,y]/\kj x.U y.U=true/\kj y.U x.U=true/\s k
theorem Mr{s:Nat->Prop}{L:bE}(j:Dq s L):∀l m b,(l++m::b).Perm L->l≠[]->(∀x∈l,x.k=m.k)->kj (lN l) m.U=true/\s m.k:=by
 intro l m b k g o;have a:(fa (l++m::b) m.k).Perm (fa L m.k):=k.filter _;rw[E3,awZ o,Fx] at a;rcases j m.k with e|⟨x,e⟩|⟨x,y,e,p,s2,s3⟩
 ·rw[e] at a;have:=a.length_eq;simp at this
 ·rw[e] at a;have:=a.length_eq;simp at this;exact absurd (JE.1 (by omega)) g
 ·rw[e] at a;have q:=a.length_eq;have w:0<l.length:=Nb.2 g;simp at q;have r:fa b m.k=[]:=JE.1 (by omega);obtain⟨z,rfl⟩:∃z,l=[z]:=List.length_eq_one_iff.1 (by omega);rw[r] at a;have t:lN [z]=z.U:=by simp[lN,As]
  rw[t];have h:z∈[x,y]:=a.mem_iff.1 (by simp);have i:([z,m]:bE).Perm [x,y]:=a;simp at h;rcases h with rfl|rfl
  ·have:=(List.perm_cons z).1 i;have:=List.perm_singleton.1 this;simp at this;rw[this];exact⟨p,this▸s3⟩
  ·have u:([z,m]:bE).Perm [z,x]:=i.trans (List.Perm.swap _ _ _);have:=(List.perm_cons z).1 u;have:=List.perm_singleton.1 this;simp at this;rw[this];exact⟨s2,this▸s3⟩
section
variable[Tok]
structure kI (E:cr) (K:Nat->Prop) (L:Nat):Prop where
 num:∀c,E.num c=ef c
 Y:E.Y=nd L
 len:z7 E K
 mP:∀n,L<=n->n9 (bB bD n) E K
 Au:∀n,L<=n->CD (bB bD n)
 has:E.AF 0
 inj:∀j k,K j->K k->E.di j=E.di k->j=k
 er:K 0
section
variable{E:cr} {K:Nat->Prop} {L:Nat} (H:kI E K L)
include H
theorem kI.Gp(h:kj c d=true)(a:L<=n):rd (bB bD n) E c d:=by refine⟨by rw[H.Y];exact⟨n,a,rfl⟩,?_⟩;rw[H.Y];rintro u ⟨m,b,rfl⟩;rw[H.num,H.num,H.num];exact(H.Au m b).sum c d h
theorem kI.H6(h:l9 c d=true)(a:L<=n):uA (bB bD n) E c d:=by unfold uA;rw[H.num,H.num,H.num];exact(H.Au n a).aw5 c d h
theorem kI.Jw:bl λu=>w5 u E K fV:=azD H.Y H.inj (λn a=>H.mP n a) (aB9 H.num) (axd H.num) H.len
structure nv (E:cr) (K:Nat->Prop) (ps qs:bE):Prop where
 g9:g7 ps
 len:ps.length+qs.length<=39
 iy:∀m∈ps,K m.k
 lF:∀m∈qs,K m.k
 ahT:∀m∈qs,fV m.U
 zx:Dq E.s (ps++qs)
 ad:∀k,fV (cx (ps++qs) k)
theorem kI.add:bl λu=>∀(p q:an) (b e:bE),cA E p b->cA E q e->nv E K b e->fy u 156 E [p,q] (ei (b++e)):=
 bl.kv L (H.Jw.and aEw) λn j h p q b e k o a=>by obtain⟨t,w⟩:=h;obtain⟨v,r,g,x,y,A,B,z⟩:=awP w t k o a.len a.iy a.lF (λl m i dB cT n2=>⟨H.Gp (Mr a.zx l m i dB cT n2).1 j,(Mr a.zx l m i dB cT n2).2⟩) a.ad;rw[AD x y] at g;exact⟨v,g,cI (aM 156 CV n) z⟩
def hB(a:bE):bE:=a.map λm=>⟨m.k,m.U*(-1)⟩
omit H in
theorem afN:∀(l:bE) (k:Nat),cx (hB l) k=cx l k*(-1)
 |[],k=>by simp[hB,cx]
 |m::r,k=>by
  have a:=afN r k;unfold hB at*;simp only[mG,cx,a];split
  ·rw[Rat.add_mul]
  ·rw[gb,gb]
omit H in
theorem aoR{q:bE}(h:g7 q):g7 (hB q):=
 ⟨by unfold lI hB;rw[List.pairwise_map];exact h.g0,λm b=>by
  obtain⟨x,e,rfl⟩:=yd.1 b;intro a;have a:x.U*(-1)=0:=a;have:x.U*(-1)*(-1)=0:=by rw[a,jb]
  rw[Rat.mul_assoc,show(-1:Rat)*(-1)=1 from by decide+kernel,Rat.mul_one] at this;exact h.jD x e this⟩
structure nB (K:Nat->Prop) (ps:bE):Prop where
 g9:g7 ps
 len:ps.length<=39
 iy:∀m∈ps,K m.k
 mp:∀m∈ps,l9 m.U (-1)=true
 ad:∀m∈ps,fV (m.U*(-1))
omit H in
theorem aey:fV 0:= .inl ⟨rfl,by decide,by decide⟩
omit H in
theorem ajH{a:bE}(h:g7 a)(hd:∀m∈a,fV (m.U*c))(k:Nat):fV (cx a k*c):=by
 by_cases g:∃m∈a,m.k=k
 ·obtain⟨m,b,rfl⟩:=g;rw[m7 h.g0 b];exact hd m b
 ·rw[Dm λm b e=>g ⟨m,b,e⟩,jb];exact aey
theorem kI.neg:bl λu=>∀(p:an) (b:bE),cA E p b->nB K b->fy u 155 E [p,.agg (E.num (-1))] (hB b):=
 bl.kv L H.Jw λn h i p b j a=>by
  obtain⟨v,r,g,l,o,w,x,q⟩:=anG i j a.len a.iy (λm t=>H.H6 (a.mp m t) h) a.g9.g0 (ajH a.g9 a.ad);have e:r=hB b:=M7 l (aoR a.g9) λk=>by rw[o];exact(afN _ _).symm
  rw[e] at g;exact⟨v,g,cI (aM 155 C0 n) q⟩
theorem kI.const:bl λu=>∀c:Rat,fV c->fy u 204 E [.agg (E.num c)] (ei [⟨0,c⟩]):=
 H.Jw.up λn a c b=>by
  obtain⟨v,e,g⟩:=ate H.has a (c:=c) H.er λk=>by
   simp only[cx,As];split
   ·exact b
   ·exact aey
  exact⟨v,e,cI (aM 204 BA n) g⟩
end
end
end
section
variable[Tok]
theorem adM:∃L,∀n,L<=n->CD (bB bD n)/\FX (bB bD n)/\vm (bB bD n)/\∀a,n9 (bB bD n) (mi a) fT:=by obtain⟨m3,b⟩:=(ajh.and qx).and zB;obtain⟨c,d⟩:=ays;exact⟨m3+c,λn e=>⟨(b n (by omega)).1.1,(b n (by omega)).1.2,(b n (by omega)).2,λa=>d a n (by omega)⟩⟩
noncomputable def nk:Nat:=adM.choose
theorem kK{n:Nat}(h:nk<=n):CD (bB bD n)/\FX (bB bD n)/\vm (bB bD n)/\∀a,n9 (bB bD n) (mi a) fT:=adM.choose_spec n h
noncomputable def dk:cr:=mi (nd nk)
theorem k8:kI dk fT nk where
 num:=λc=>rfl
 Y:=rfl
 len:=axo _
 mP:=λn a=>(kK a).2.2.2 _
 Au:=λn a=>(kK a).1
 has:=aoF _
 inj:=ax4
 er:= .inl (by omega)
structure Mo (ps qs:bE):Prop where
 ft:ps.length<=6
 FM:qs.length<=6
 iy:∀m∈ps,m.k<10
 lF:∀m∈qs,m.k<10
 mul:∀x∈ps,∀y∈qs,l9 x.U y.U=true/\fV (x.U*y.U)
 zx:Dq (λ_=>True) (eK fW ps qs)
 ad:∀k,fV (cx (eK fW ps qs) k)
theorem Qh(f:Nat->Nat->Nat):∀(b a:bE),(eK f b a).length=b.length*a.length
 |[],a=>by simp[eK]
 |x::r,a=>by
  have c:=Qh f r a;have e:eK f (x::r) a=(a.map λy=>⟨f x.k y.k,x.U*y.U⟩)++eK f r a:=by simp[eK]
  rw[e,OD,c,ER,JO,Nat.succ_mul,Nat.add_comm]
theorem KD{f:Nat->Nat->Nat}{a b:bE}{m:cw}(h:m∈eK f a b):∃x∈a,∃y∈b,m=⟨f x.k y.k,x.U*y.U⟩:=by unfold eK at h;obtain⟨x,c,h⟩:=Ij.1 h;obtain⟨y,d,h⟩:=yd.1 h;exact⟨x,c,y,d,h.symm⟩
theorem Kg:bl λu=>∀(p q:an) (b c:bE),cA dk p b->cA dk q c->Mo b c->fy u 118 dk [p,q] (ei (eK fW b c)):=by
 have i:=ak2 (f:=183) (ρ:=w8 (nd nk)) (L:=nk) rfl;refine bl.kv nk ((k8.Jw.and ams).and (i.and (avW (f:=183)))) λn g h p q b c o t a=>?_;obtain⟨⟨w,z⟩,i,A⟩:=h;have j:=λ(x:cw) (d:x∈b) (y:cw) (e:y∈c)=>TX (L:=nk) (λn g=>(kK g).2.2.1) g (nd nk) (a.iy x d) (a.lF y e);have G:b.length*c.length<=36:=FE a.ft a.FM;have H:∀m∈eK fW b c,fT m.k:=λm B=>by obtain⟨x,d,y,e,rfl⟩:=KD B;exact(j x d y e).2
 ·obtain⟨v,r,k,C,D,I,J,E⟩:=aiQ (ρ:=w8 (nd nk)) w z i A o t (by omega) (by have:=a.ft;omega) (by have:=a.FM;omega)
   (λx d y e=>⟨(j x d y e).1,k8.H6 (a.mul x d y e).1 g,(j x d y e).2⟩)
   (λl m F dB cT n2=>⟨k8.Gp (Mr a.zx l m F dB cT n2).1 g,trivial⟩) a.ad
  rw[AD C D] at k;exact⟨v,k,cI (aM 118 w1 n) E⟩
end
end Go.Hf

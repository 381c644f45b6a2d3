import Derived.Test.YteehpeajjbkjnaaGreatDoorAf
import Derived.KernelRfl
set_option linter.all false
noncomputable section
namespace Go.Hf
open Go.RowKit
section
variable{a:ay}{x:ao}{k:dv}{b B:Nat}{wk:Option (List Nat)}{h:aO}{g:Option (Nat×Bool)}{u:Fn}{bu:Bool}{o:dg}{f:Operand}{args:List Operand}{aR:cO}{p:aT}{cR:az}{A:List Bool}{os:List dg}
section
variable[Tok]
def fG(aR:cO)(h:aO):cK:=⟨λi=>bk (aR i),h.jz⟩
theorem vM(aR:cO)(h:aO):(λx=>bk (e7 aR x))=eX (fG aR h).aI:=by
 funext x;cases x with
 |tmp t=>rfl
 |const v=>exact ams v
 |func f=>simp only[e7,bk];rfl
 |global g=>simp only[e7,bk];rfl
theorem Mc(aR:cO)(h h':aO)(d:Option Nat)(v:ao):fG (nq aR d v) h'=⟨put (fG aR h).aI d (bk v),h'.jz⟩:=by
 cases d with
 |none=>rfl
 |some t=>show cK.mk _ _=cK.mk _ _;congr 1;funext j;show bk (@Bool.rec (λ_=>ao) (aR j) v (Nat.beq j t))=if j=t then bk v else bk (aR j);by_cases e:j=t;subst e;rw[F6,dr rfl];rw[xq (λx=>e x.symm),dU e]
theorem iX.af{x y:Option ao}{k:ao->ay}(s:iX a x k)(e:x=y):iX a y k:=e▸s
theorem oG.af{x y:pS}(s:oG b wk a x h k)(e:x=y):oG b wk a y h k:=e▸s
theorem oG.ip{x:pS}:oG b wk .aF x h k:=λh=>absurd rfl h
theorem ame{d:Nat}{ev:Operand->ao}{r:mA}:oG b wk (Kr b d wk ev h k r) (qh ev h.am (b+d) r) h k:=by
 cases r with
 |qa x=>exact(iX.ai (x:=some (ev x)) λ_=>⟨_,rfl,rfl⟩)
 |pick c x y=>exact(apY _ _ _ _).ai
 |alloc t zero=>exact abf _ _ _ _ _ _ _
 |box t x=>exact api _ _ _ _ _ _ _
 |build zero ps=>refine(iX.ai (apl _ _ _)).af ?_;simp only[qh];cases xH (zero.map kY) (ps.map λq=>(q.1,q.2.1,ev q.2.2))<;>rfl
 |oN e sz zero len ps bL=>refine(apk _ _ _ _ _ _ _ _ _ _ _).af ?_;simp only[qh,Tw,sx];rfl
 |p9 m x y=>exact GY _ _ _ _ _
 |pY e sz zero len ps=>exact apz _ _ _ _ _ _ _ _
 |load isAgg n a=>exact(apO _ _ _ _ _).ai
 |store n a v=>exact ap5 _ _ _ _ _ _ _
 |sg x=>exact(apW _ _).ai
 |rR j x y=>exact(apf _ _ _ _).ai
 |rS neg x y=>exact(apg _ _ _ _).ai
 |rZ neg x y=>exact(apv _ _ _ _).ai
 |r5 neg x=>exact(apK _ _ _).ai
 |pd j x=>exact(ap8 _ _ _).ai
 |rU z x=>exact(uD _ _).ai
 |qI x=>exact(uD _ _).ai
 |p8 e sz bytes zero l c=>exact GY _ _ _ _ _
 |sr x lo hi=>exact(ap3 _ _ _ _).ai
 |ri sz x lo hi=>exact(ap2 _ _ _ _ _ _).ai
 |pW o x=>exact(apx _ _ _).ai
 |r0 isAgg off n x=>exact(apy _ _ _ _ _).ai
 |qU sz x i=>exact(apJ _ _ _ _ _).ai
 |sq x i=>exact(ap1 _ _ _).ai
 |ext x i=>exact(apw _ _ _).ai
 |len kq x=>exact(apM _ _ _).ai
 |append e sz bytes s x bL=>exact abh _ _ _ _ _ _ _ _ _ _ _
 |n7 e bytes s x bL=>exact ape _ _ _ _ _ _ _ _ _ _
 |q0 C x y=>exact(uD _ _).ai
 |rO n sz x i=>exact(uD _ _).ai
 |gE j x y=>exact(uD _ _).ai
 |bits j x y=>exact(uD _ _).ai
 |sf f cR=>exact(uD _ _).ai
 |qZ=>exact GY b wk (some (ao.fX (Nat.add b d) (Nat.add (h.am (Nat.add b d)).cH 1),[(Nat.add b d,eQ.map (Nat.add (h.am (Nat.add b d)).cH 1) [])])) h k
 |pD w m x v=>exact GY _ _ _ _ _
 |pC w D zero m x=>exact(uD _ _).ai
 |_=>exact oG.ip
section
variable{gl:eh}{P:Program}
def g4(ub:Nat)(l:cD):Nat->Obj:=λk=>fz (b9 ub l k)
def kS(gl:eh)(P:Program)(u:Fn):Prop:=
 ∀f args ub aC d c e i,u f args ub aC= .ok d c e i->lM gl P f (args.map bk) (g4 ub aC) (bk d) (g4 c e)/\
  (∀k,k<ub->k∉i->b9 c e k=b9 ub aC k)/\∀k∈d.dl,k<c
theorem xC(l:cD):g4 0 l=tk:=by funext k;show fz (b9 0 l k)= .aF 0;rw[mh (pg k)];rfl
theorem QK(h:aO):h.jz=g4 h.ax h.aB:=by funext k;show fz (h.am k)=_;rw[aO.Sq];rfl
theorem acT{g:Nat->az->ay}(h:Hg x g≠ .aF):∃f cR,lO (bk x)=some (f,cR.map bk)/\Hg x g=g f cR:=by unfold Hg at h ⊢;split at h;exact⟨_,[],by simp only[bk,ny];rfl,rfl⟩;exact⟨_,_,by simp only[bk,ma];rfl,rfl⟩;exact absurd rfl h
theorem atJ{g:Nat->ay}(h:L2 x g≠ .aF):∃f,bk x= .bo (.func (.func f) #[] #[])/\L2 x g=g f:=by unfold L2 at h ⊢;split at h;exact⟨_,by simp only[bk],rfl⟩;exact absurd rfl h
theorem KP{b x:Nat}(c:x<b):∀{l:List Nat},x∈l->x∈fA b l
 |y::r,h=>by
  show x∈ @Bool.rec (λ_=>List Nat) (fA b r) (y::fA b r) (Nat.ble (Nat.succ y) b);rcases e9.1 h with rfl|h;have:Nat.ble (Nat.succ x) b=true:=tF c;rw[this];exact fQ;cases Nat.ble (Nat.succ y) b with
  |true=>exact ii _ (KP c h)
  |false=>exact KP c h
def wB(gl:eh)(P:Program)(b:Nat)(bu:Bool)(o:dg)(aR:cO)(h:aO)(a:ay)(k:dv):Prop:=
 a≠ .aF->∃v h',ij b h h'/\a=k v h'/\
  ∀K:cK->Prop,K ⟨put (fG aR h).aI o.dst (bk v),h'.jz⟩->LA b bu o (eX (fG aR h).aI)->lu (fG aR h).aI o.guard=some true->mW gl P b bu o (fG aR h) K
theorem abk(q:kS gl P u)(r:o.ak= .call f args)
 (t:eX (fG aR h).aI f= .bo (.func (.func B) #[] #[])):wB gl P b bu o aR h (CQ u b (lw bu o) B (args.map (e7 aR)) h k) k:=by
 intro c;unfold CQ at c ⊢;obtain⟨ps,us,w,e⟩:=CW c;rw[e]at c ⊢;unfold cm at c ⊢;obtain⟨y,e⟩:=fa c;rw[e]at c ⊢;have j:=Hl w;rw[vM aR h]at j;cases i:u B ps 0 .nil with
 |aF=>rw[i]at c;exact absurd rfl c
 |ok d l L M=>rw[i]at c;change bB (Nat.beq l 0) (nQ b us h λh'=>k d h') .aF≠ .aF at c;show∃v h',ij b h h'/\bB (Nat.beq l 0) (nQ b us h λh'=>k d h') .aF=k v h'/\_;obtain⟨z,e⟩:=fa c;rw[e]at c ⊢;obtain⟨h',C,D⟩:=x2 c;have E:=e8 z;subst E;obtain⟨br,dM,eB⟩:=C;refine⟨d,h',br,D,λK n F G=>?_⟩;obtain⟨c1,_,H⟩:=q _ _ _ _ _ _ _ _ i;rw[xC,xC]at c1;unfold mW;rw[G];refine⟨F,?_⟩;simp only[r];rw[t];simp only[];have I:jE (eX (fG aR h).aI) (fG aR h).bC [] args=some (ps.map bk,us.map iy):=j;rw[I];refine⟨bk d,⟨c1,?_⟩,Tu y,?_⟩;rw[p3];exact DJ.2 λk J=>Nat.not_lt_zero k (H k J);rw[dM]at n;exact n
theorem RE(d:kS gl P u)(i:o.ak= .call f args):
 wB gl P b bu o aR h (zX u b (lw bu o) (e7 aR f) (args.map (e7 aR)) h k) k:=by
 intro c;unfold zX at c ⊢;obtain⟨B,j,e⟩:=atJ c;rw[e]at c ⊢;refine abk d i ?_ c;rw[<-vM aR h];exact j
theorem aex{b:Nat}{wk:List Nat}:∀{l:List Nat},wm b wk l=true->∀k∈l,gj b k∈wk
 |x::r,h,k,c=>by have h':c7 (e3 wk (ir b x)) (wm b wk r)=true:=h;rw[hY,cC]at h';rcases e9.1 c with rfl|c;have:=vZ h'.1;rw[uf]at this;exact this;exact aex h'.2 k c
theorem aqf{k:Nat}(h:k∈p.cJ):k∈p.dl:=by cases p<;>first|exact h|cases h
theorem anz{cR:eb}(h:lO p=some (B,cR)){k:Nat}(c:k∈p.dl):∃x∈cR,k∈x.dl:=by
 cases p with
 |ey f cs=>simp only[lO,dN,h4]at h;obtain⟨_,rfl⟩:=h;obtain⟨x,d,e⟩:=pO.1 (show k∈cs.flatMap aT.cJ from c);exact⟨x,d,aqf e⟩
 |bo v=>cases c
 |_=>simp[lO]at h
theorem abu(t:kS gl P u){ps:az}{us:fk}(O:o.ak= .hK f args A)
 (F:lO (eX (fG aR h).aI f)=some (B,cR.map bk))(r:si h.am A (args.map (e7 aR))=some (ps,us)){ub:Nat}{aC:cD}{d:List Nat}(Q:wK b us h (.mk ub aC d)){w:ao}{i:Nat}{j:cD}{l:List Nat}(R:u B (ps++cR) ub aC= .ok w i j l)
 (hb:b+4096<=h.ax)(S:ub<=i)(hd:bu=true->4097∈o.cb/\(∀u∈us,gj b u.1∈o.bG)/\(∀k∈l,gj b k∈o.bG)/\(ub=i\/4096∈o.bG/\4098∈o.bG)/\Bg b o.cb o.bG us (args.map (e7 aR)++(ps++cR)) aC j w=true):
 ij b h (.mk i j (aZ (fA b l) d))/\∀K:cK->Prop,K ⟨put (fG aR h).aI o.dst (bk w),(aO.mk i j (aZ (fA b l) d)).jz⟩->LA b bu o (eX (fG aR h).aI)->lu (fG aR h).aI o.guard=some true->mW gl P b bu o (fG aR h) K:=by
 obtain⟨br,dM,eB⟩:=Q;have G:=Hl r;rw[vM aR h]at G;obtain⟨c1,H,_⟩:=t _ _ _ _ _ _ _ _ R;have cY:h.ax=ub:=eB.symm;refine⟨br.trans ⟨S,λx n=>?_,λx n T=>?_⟩,λK V W X=>?_⟩;show x∈aZ (fA b l) d;rw[kU];exact fq.2 (.inr n);show b9 i j x=b9 ub aC x;refine H x (by omega) (λhd=>T ?_);show x∈aZ (fA b l) d;rw[kU];exact fq.2 (.inl (KP n hd))
 ·unfold mW;rw[X];refine⟨W,?_⟩;simp only[O];rw[F];simp only[];have Y:jE (eX (fG aR h).aI) (fG aR h).bC A args=some (ps.map bk,us.map iy):=G;rw[Y];refine⟨bk w,g4 i j,?_,λZ=>?_,V⟩;change lM gl P B (ps.map bk++cR.map bk) (fE h.jz (us.map iy)) (bk w) (g4 i j);rw[<-dM,QK,<-oz];exact c1
  ·obtain⟨d1,d2,d3,d4,d5⟩:=hd Z;have al:fE h.jz (us.map iy)=(aO.mk ub aC d).jz:=dM.symm;refine⟨d1,λk=>?_,λc hc=>?_⟩
   rotate_left
   obtain⟨a1,a2,a3,a4,a5,ar,I,bd⟩:=af3 d5 c hc;have bs:fE (fG aR h).bC (us.map iy)=g4 ub aC:=al;rw[bs];refine⟨a1,a2,λz=>?_,λu t e=>?_,λk=>a5 ub k,λk=>ar i k,λp r=>?_,by rw[p3];exact bd⟩;by_cases bx:b+c<ub;have e:g4 ub aC (b+c)=fz (aC.get (b+c)).aj:=by show fz _=_;rw[h7 bx]
   rw[e]at z;exact a3 z;have e:g4 ub aC (b+c)= .aF 0:=by show fz _=_;rw[mh (by omega)];rfl
   rw[e]at z;exact z;obtain⟨q,C,rfl⟩:=ia.1 t;exact a4 q C e;rw[hN,wx]at r;rcases e9.1 r with rfl|r;intro D;obtain⟨x,n,b1⟩:=anz F D;obtain⟨y,E,rfl⟩:=ia.1 n;exact I y (fq.2 (.inr (fq.2 (.inr E)))) (by rw[<-p3];exact b1);have n:p∈((args.map (e7 aR))++(ps++cR)).map bk:=by
    rw[oz,oz,yK];have:(args.map (bk∘e7 aR))=args.map (eX (fG aR h).aI):=by rw[<-vM aR h];rfl
    rw[this];exact r
   obtain⟨y,E,rfl⟩:=ia.1 n;rw[p3];exact I y E;by_cases J:∃u∈us,u.1=k;obtain⟨u,t,rfl⟩:=J;exact .inr (d2 u t);have b2:(aO.mk ub aC d).jz k=h.jz k:=by rw[dM];exact M0 _ _ _ (λu' cc e=>by obtain⟨q,C,rfl⟩:=ia.1 cc;exact J ⟨q,C,e⟩)
   have L:g4 ub aC k=h.jz k:=b2;by_cases D:k<ub;by_cases M:k∈l;exact .inr (d3 k M);left;show fz _=h.jz k;rw[H k D M];exact L;rcases d4 with e|N;left;have cn:g4 i j k= .aF 0:=by show fz _=_;rw[mh (by omega)];rfl
   have cs:g4 ub aC k= .aF 0:=by show fz _=_;rw[mh (by omega)];rfl
   have cu:(fG aR h).bC k= .aF 0:=L.symm.trans cs;rw[cn,cu];right;unfold gj;rw[if_neg (by omega)];split;exact N.1;exact N.2
theorem abv(r:kS gl P u)(t:o.ak= .hK f args A)
 (w:b+4096<=h.ax)(y:lO (eX (fG aR h).aI f)=some (B,cR.map bk)):wB gl P b false o aR h (CU u b B cR (args.map (e7 aR)) A h k) k:=by
 intro c;unfold CU at c ⊢;obtain⟨ps,us,z,e⟩:=CW c;rw[e]at c ⊢;unfold dC at c ⊢;obtain⟨C,D,E⟩:=x2 c;rw[E]at c ⊢;cases C with
 |mk ub aC d=>
  change js b ub d k (u B (aZ ps cR) ub aC)≠ .aF at c;show∃v h',ij b h h'/\js b ub d k (u B (aZ ps cR) ub aC)=k v h'/\_;rw[kU]at c ⊢;cases j:u B (ps++cR) ub aC with
  |aF=>rw[j]at c;exact absurd rfl c
  |ok l i n q=>rw[j]at c;change bB (Nat.ble ub i) (k l (.mk i n (aZ (fA b q) d))) .aF≠ .aF at c;show∃v h',ij b h h'/\bB (Nat.ble ub i) (k l (.mk i n (aZ (fA b q) d))) .aF=k v h'/\_;obtain⟨F,e⟩:=fa c;rw[e];obtain⟨G,H⟩:=abu (bu:=false) r t y z D j w (dX F) (λh=>by cases h);exact⟨l,_,G,rfl,H⟩
theorem abt(z:kS gl P u)(C:o.ak= .hK f args A)
 (D:b+4096<=h.ax)(E:e3 o.cb 4097=true)(F:lO (eX (fG aR h).aI f)=some (B,cR.map bk)):wB gl P b true o aR h (CV u b o.cb o.bG B cR (args.map (e7 aR)) A h k) k:=by
 intro c;unfold CV at c ⊢;obtain⟨ps,us,G,e⟩:=CW c;rw[e]at c ⊢;unfold vV at c ⊢;obtain⟨H,e⟩:=fa c;rw[e]at c ⊢;obtain⟨I,J,K⟩:=x2 c;rw[K]at c ⊢;cases I with
 |mk ub aC d=>
  change GQ b o.cb o.bG us (aZ (args.map (e7 aR)) (aZ ps cR)) ub aC d k (u B (aZ ps cR) ub aC)≠ .aF at c;show∃v h',ij b h h'/\GQ b o.cb o.bG us (aZ (args.map (e7 aR)) (aZ ps cR)) ub aC d k (u B (aZ ps cR) ub aC)=k v h'/\_;rw[kU,kU]at c ⊢;cases r:u B (ps++cR) ub aC with
  |aF=>rw[r]at c;exact absurd rfl c
  |ok j i l n=>
   rw[r]at c;change bB (Nat.ble ub i) (bB (wm b o.bG n) (bB (Ab o.bG ub i) (bB (Bg b o.cb o.bG us (args.map (e7 aR)++(ps++cR)) aC l j) (k j (.mk i l (aZ (fA b n) d))) .aF) .aF) .aF) .aF≠ .aF at c;show∃v h',ij b h h'/\bB (Nat.ble ub i) (bB (wm b o.bG n) (bB (Ab o.bG ub i) (bB (Bg b o.cb o.bG us (args.map (e7 aR)++(ps++cR)) aC l j) (k j (.mk i l (aZ (fA b n) d))) .aF) .aF) .aF) .aF=k v h'/\_;obtain⟨L,e⟩:=fa c;rw[e]at c ⊢;obtain⟨M,e⟩:=fa c;rw[e]at c ⊢;obtain⟨t,e⟩:=fa c;rw[e]at c ⊢;obtain⟨N,e⟩:=fa c;rw[e];obtain⟨O,Q⟩:=abu (bu:=true) z C F G J r D (dX L) (λ_=>⟨vZ E,λq R=>Tu (bu:=true) (o:=o) (us:=us) H rfl (iy q) (ia.2 ⟨q,R,rfl⟩),aex M,by
    unfold Ab at t;cases y:Nat.beq ub i with
    |true=>exact .inl (e8 y)
    |false=>rw[y]at t;have w:c7 (e3 o.bG 4096) (e3 o.bG 4098)=true:=t;rw[hY,cC]at w;exact .inr ⟨vZ w.1,vZ w.2⟩,N⟩)
   exact⟨j,_,O,rfl,Q⟩
theorem amd(i:∀f a,o.ak≠ .call f a)(j:∀f a z,o.ak≠ .hK f a z):
 wB gl P b bu o aR h (Kr b (Nat.add o.ak.off (o.dst.getD 0)) (lw bu o) (e7 aR) h k o.ak) k:=by
 intro l;obtain⟨v,us,h',n,q,r,t⟩:=ame l;obtain⟨br,dM,eB⟩:=r;refine⟨v,h',br,t,λK c w y=>?_⟩;have d:=auc n;rw[vM aR h]at d;have C:(match c9 (eX (fG aR h).aI) h.jz (b+o.ak.off+o.dst.getD 0) o.ak with
  |some (v,us)=>HW b bu o us/\K ⟨put (fG aR h).aI o.dst v,fE h.jz us⟩
  |none=>False):=by
  have D:c9 (eX (fG aR h).aI) h.jz (b+o.ak.off+o.dst.getD 0) o.ak=some (bk v,us.map iy):=by rw[rp];exact d
  rw[D];refine⟨Tu q,?_⟩;rw[dM]at c;exact c
 unfold mW;rw[y];refine⟨w,?_⟩;revert C;cases e:o.ak with
 |call f args=>exact absurd e (i f args)
 |hK f args A=>exact absurd e (j f args A)
 |_=>exactλk=>k
theorem Zh(j:kS gl P u)(n:b+4096<=h.ax):wB gl P b bu o aR h (iG u b bu o (e7 aR) h k) k:=by
 cases c:o.ak with
 |call f args=>
  cases f with
  |func i=>
   have e:iG u b bu o (e7 aR) h k=CQ u b (lw bu o) i (args.map (e7 aR)) h k:=by unfold iG;rw[c]
   rw[e];exact abk j c rfl
  |tmp t=>
   have e:iG u b bu o (e7 aR) h k=zX u b (lw bu o) (e7 aR (.tmp t)) (args.map (e7 aR)) h k:=by unfold iG;rw[c]
   rw[e];exact RE j c
  |const v=>
   have e:iG u b bu o (e7 aR) h k=zX u b (lw bu o) (e7 aR (.const v)) (args.map (e7 aR)) h k:=by unfold iG;rw[c]
   rw[e];exact RE j c
  |global g=>
   have e:iG u b bu o (e7 aR) h k=zX u b (lw bu o) (e7 aR (.global g)) (args.map (e7 aR)) h k:=by unfold iG;rw[c]
   rw[e];exact RE j c
 |hK f args A=>
  cases bu with
  |true=>
   cases l:e3 o.cb 4097 with
   |false=>
    have e:iG u b true o (e7 aR) h k= .aF:=by unfold iG;rw[c];cases f<;>simp only[l]<;>rfl
    rw[e];exactλh=>absurd rfl h
   |true=>
    have gen:wB gl P b true o aR h (x0 u b o.cb o.bG (e7 aR f) (args.map (e7 aR)) A h k) k:=by intro d;unfold x0 at d ⊢;obtain⟨B,cR,q,e⟩:=acT d;rw[e]at d ⊢;refine abt j c n l ?_ d;rw[<-vM aR h];exact q
    cases f with
    |func i=>
     have e:iG u b true o (e7 aR) h k=CV u b o.cb o.bG i [] (args.map (e7 aR)) A h k:=by unfold iG;rw[c];simp only[l]
     rw[e];exact abt j c n l rfl
    |tmp t=>
     have e:iG u b true o (e7 aR) h k=x0 u b o.cb o.bG (e7 aR (.tmp t)) (args.map (e7 aR)) A h k:=by unfold iG;rw[c];simp only[l]
     rw[e];exact gen
    |const v=>
     have e:iG u b true o (e7 aR) h k=x0 u b o.cb o.bG (e7 aR (.const v)) (args.map (e7 aR)) A h k:=by unfold iG;rw[c];simp only[l]
     rw[e];exact gen
    |global g=>
     have e:iG u b true o (e7 aR) h k=x0 u b o.cb o.bG (e7 aR (.global g)) (args.map (e7 aR)) A h k:=by unfold iG;rw[c];simp only[l]
     rw[e];exact gen
  |false=>
   have gen:wB gl P b false o aR h (nd u b (e7 aR f) (args.map (e7 aR)) A h k) k:=by intro d;unfold nd at d ⊢;obtain⟨B,cR,q,e⟩:=acT d;rw[e]at d ⊢;refine abv j c n ?_ d;rw[<-vM aR h];exact q
   cases f with
   |func i=>
    have e:iG u b false o (e7 aR) h k=CU u b i [] (args.map (e7 aR)) A h k:=by unfold iG;rw[c]
    rw[e];exact abv j c n rfl
   |tmp t=>
    have e:iG u b false o (e7 aR) h k=nd u b (e7 aR (.tmp t)) (args.map (e7 aR)) A h k:=by unfold iG;rw[c]
    rw[e];exact gen
   |const v=>
    have e:iG u b false o (e7 aR) h k=nd u b (e7 aR (.const v)) (args.map (e7 aR)) A h k:=by unfold iG;rw[c]
    rw[e];exact gen
   |global g=>
    have e:iG u b false o (e7 aR) h k=nd u b (e7 aR (.global g)) (args.map (e7 aR)) A h k:=by unfold iG;rw[c]
    rw[e];exact gen
 |_=>
  have e:iG u b bu o (e7 aR) h k=Kr b (Nat.add o.ak.off (o.dst.getD 0)) (lw bu o) (e7 aR) h k o.ak:=by unfold iG;rw[c]
  rw[e];exact amd (by rw[c];intros;simp) (by rw[c];intros;simp)
theorem Sa{b:Nat}{rk:List Nat}:∀{cs:az},v1 b rk cs=true->(∀k∈cs.flatMap ao.key,gj b k∈rk)/\(∀k∈cs.flatMap ao.cJ,gj b k∈rk)
 |[],_=>⟨by simp,by simp⟩
 |c::r,h=>by
  have w:v1 b rk r=true/\(∀k∈c.key,gj b k∈rk)/\(∀k∈c.cJ,gj b k∈rk):=by
   have t:∀{k:Nat},c7 (e3 rk (ir b k)) (v1 b rk r)=true->v1 b rk r=true/\gj b k∈rk:=by intro k h;rw[hY,cC]at h;have:=vZ h.1;rw[uf]at this;exact⟨h.2,this⟩
   cases c with
   |aQ k s o=>obtain⟨n,e⟩:=t h;exact⟨n,by intro j d;simp[ao.key,ao.cJ]at d;subst d;exact e,by intro j d;simp[ao.cJ]at d;subst d;exact e⟩
   |aV k s o l=>obtain⟨n,e⟩:=t h;exact⟨n,by intro j d;simp[ao.key,ao.cJ]at d;subst d;exact e,by intro j d;simp[ao.cJ]at d;subst d;exact e⟩
   |eP k s i o=>obtain⟨n,e⟩:=t h;exact⟨n,by intro j d;simp[ao.key,ao.cJ]at d;subst d;exact e,by intro j d;simp[ao.cJ]at d;subst d;exact e⟩
   |fX k s=>obtain⟨n,e⟩:=t h;exact⟨n,by intro j d;simp[ao.key,ao.cJ]at d;subst d;exact e,by intro j d;simp[ao.cJ]at d;subst d;exact e⟩
   |_=>first|exact⟨h,by simp[ao.key,ao.cJ],by simp[ao.cJ]⟩|exact absurd h (by intro h;cases h)
  obtain⟨n,e⟩:=Sa w.1;constructor;intro k q;rw[lb,fq]at q;exact q.elim (w.2.1 k) (n k);intro k q;rw[lb,fq]at q;exact q.elim (w.2.2 k) (e k)
theorem art{rk:List Nat}(h:k3 b rk x=true):∀k∈x.dl,gj b k∈rk:=by
 have d:∀{k:Nat},e3 rk (ir b k)=true->gj b k∈rk:=by intro k h;have:=vZ h;rw[uf]at this;exact this
 cases x with
 |agg cs=>exact(Sa h).1
 |ey f cs=>exact(Sa h).2
 |aQ k s o=>intro j c;simp[ao.dl,ao.fe,ao.key,ao.cJ]at c;subst c;exact d h
 |aV k s o l=>intro j c;simp[ao.dl,ao.fe,ao.key,ao.cJ]at c;subst c;exact d h
 |eP k s i o=>intro j c;simp[ao.dl,ao.fe,ao.key,ao.cJ]at c;subst c;exact d h
 |fX k s=>intro j c;simp[ao.dl,ao.fe,ao.key,ao.cJ]at c;subst c;exact d h
 |bD cs=>cases h
 |_=>simp[ao.dl,ao.fe,ao.key,ao.cJ]
theorem acb{b:Nat}{rk:List Nat}{a:ay}:∀{xs:az},met b rk xs a≠ .aF->met b rk xs a=a/\∀x∈xs,∀k∈x.dl,gj b k∈rk
 |[],_=>⟨rfl,by simp⟩
 |x::r,h=>by change bB (k3 b rk x) (met b rk r a) .aF≠ .aF at h;show bB (k3 b rk x) (met b rk r a) .aF=a/\_;obtain⟨i,e⟩:=fa h;rw[e]at h ⊢;obtain⟨j,l⟩:=acb h;refine⟨j,λy c k d=>?_⟩;rcases e9.1 c with rfl|c;exact art i k d;exact l y c k d
theorem aqh(aR:Nat->aT):∀(x:Operand),(∀t,x≠ .tmp t)->(eX aR x).dl=[]
 | .tmp t,h=>absurd rfl (h t)
 | .func _,_=>rfl
 | .global _,_=>rfl
 | .const v,_=>by
   cases v with
   |agg cs=>show(cs.toList.map aT.bo).flatMap aT.key=[];rw[sx];exact wu.2 λ_ _=>rfl
   |_=>rfl
theorem aew{aR:Nat->aT}:∀{l:List Operand}{x:Operand},x∈l->x∈HS l\/(eX aR x).dl=[]
 |y::r,x,h=>by
  rcases e9.1 h with rfl|h;cases x with
  |tmp t=>left;exact fQ
  |_=>right;exact aqh aR _ (by intro t;simp)
  rcases aew (aR:=aR) h with c|c;left;cases y with
  |tmp t=>exact ii _ c
  |_=>exact c
  exact .inr c
theorem amb(q:kS gl P u)(r:b+4096<=h.ax)(c:rX u b bu o (e7 aR) h k≠ .aF):
 ∃v h',ij b h h'/\rX u b bu o (e7 aR) h k=k v h'/\
  ∀K:cK->Prop,K ⟨put (fG aR h).aI o.dst (bk v),h'.jz⟩->lu (fG aR h).aI o.guard=some true->mW gl P b bu o (fG aR h) K:=by
 unfold rX at c ⊢;cases hd:(bu&&o.ak.looks) with
 |false=>rw[hd]at c;change iG u b bu o (e7 aR) h k≠ .aF at c;show∃v h',ij b h h'/\iG u b bu o (e7 aR) h k=k v h'/\_;obtain⟨v,h',br,n,i⟩:=Zh q r c;refine⟨v,h',br,n,λK j=>i K j ?_⟩;intro z C;rw[z,C]at hd;cases hd
 |true=>
  rw[hd]at c;change met b o.cb ((C5 o.ak).map (e7 aR)) (iG u b bu o (e7 aR) h k)≠ .aF at c;show∃v h',ij b h h'/\met b o.cb ((C5 o.ak).map (e7 aR)) (iG u b bu o (e7 aR) h k)=k v h'/\_;obtain⟨e0,t⟩:=acb c;rw[e0]at c ⊢;obtain⟨v,h',br,n,i⟩:=Zh q r c;refine⟨v,h',br,n,λK j=>?_⟩;by_cases w:∃f args A,o.ak= .hK f args A;obtain⟨f,args,A,l⟩:=w;refine i K j ?_;intro D _ x d k e;right;cases y:e3 o.cb 4097 with
  |true=>exact⟨vZ y,by rw[l];rfl⟩
  |false=>exfalso;subst D;apply c;unfold iG;rw[l];cases f<;>simp only[y]<;>rfl
  refine i K j ?_;intro _ _ x d k e;left;have E:C5 o.ak=HS o.ak.mR:=by
   cases l:o.ak with
   |hK f args A=>exact absurd ⟨f,args,A,l⟩ w
   |_=>rfl
  rw[E]at t;rcases aew d with d|d;refine t (e7 aR x) (ia.2 ⟨x,d,rfl⟩) k ?_;rw[<-p3];rw[<-vM aR h]at e;exact e;rw[d]at e;cases e
theorem avI{a b:Option (Nat×Bool)}(h:MA a b=true):a=b:=by
 cases a with
 |none=>cases b with
  |none=>rfl
  |some _=>cases h
 |some p=>cases b with
  |none=>cases h
  |some q=>
   obtain⟨t,w⟩:=p;obtain⟨e,w'⟩:=q;simp only[MA,cC]at h;have c:=e8 h.1;have d:w=w':=by simpa using h.2
   rw[c,d]
theorem Tx(h:under g o=true):o.guard=g/\∀t w,g=some (t,w)->o.dst≠some t:=by simp only[under,cC]at h;refine⟨avI h.1,λt w d hd=>?_⟩;subst d;have c:=h.2;rw[hd]at c;simp[adZ]at c
def A2(g:Option (Nat×Bool))(aR:cO):Prop:=∀t w,g=some (t,w)->aR t= .U w
theorem A2.put(h:A2 g aR)(ho:under g o=true)(v:ao):A2 g (nq aR o.dst v):=by
 intro t w c;have i:=(Tx ho).2 t w c;cases hd:o.dst with
 |none=>exact h t w c
 |some d=>have j:t≠d:=λe=>i (by rw[hd,e]);show @Bool.rec (λ_=>ao) (aR t) v (Nat.beq t d)=_;rw[xq (λe=>j e.symm)];exact h t w c
theorem A2.wanted(c:A2 g aR)(ho:under g o=true):lu (fG aR h).aI o.guard=some true:=by
 rw[(Tx ho).1];cases g with
 |none=>rfl
 |some p=>obtain⟨t,w⟩:=p;show(match bk (aR t) with| .bo (.bool b)=>some (b==w)| .bD []=>some false|_=>none)=some true;rw[c t w rfl];simp only[bk];simp
theorem Hp(aR:cO)(d:Option Nat)(v:ao)(i:Nat)(h:∀t,d=some t->i≠t):nq aR d v i=aR i:=by
 cases d with
 |none=>rfl
 |some t=>show @Bool.rec (λ_=>ao) (aR i) v (Nat.beq i t)=_;rw[xq (λe=>h t rfl e.symm)]
theorem Ku(o:dg)(r:List dg):kl (o::r)=(match o.dst with|some d=>[d]|none=>[])++kl r:=by show(match o.dst with|some d=>d::kl r|none=>kl r)=_;cases o.dst<;>rfl
theorem QH{u:Fn}(n:kS gl P u){b:Nat}{bu:Bool}{g:Option (Nat×Bool)}:∀{os:List dg}{aR:cO}{h:aO}{k:cO->aO->ay},b+4096<=h.ax->os.all (under g)=true->A2 g aR->oa u b bu os aR h k≠ .aF->
 ∃d h',ij b h h'/\oa u b bu os aR h k=k d h'/\(∀i,i∉kl os->d i=aR i)/\∀K:cK->Prop,K (fG d h')->kc gl P b bu os (fG aR h) K
 |[],aR,h,k,_,_,_,_=>⟨aR,h,ij.refl,rfl,λ_ _=>rfl,λ_ j=>j⟩
 |o::os,aR,h,k,q,c,r,y=>by rw[u4,cC]at c;have l:rX u b bu o (e7 aR) h (λv h'=>oa u b bu os (nq aR o.dst v) h' k)≠ .aF:=y;obtain⟨v,z,br,w,C⟩:=amb n q l;rw[w]at l;obtain⟨D,E,dM,F,f2,G⟩:=QH n (os:=os) (jv q br.ax) c.2 (r.put c.1 v) l;refine⟨D,E,br.trans dM,?_,λi hi=>?_,λK j=>C _ ?_ (r.wanted c.1)⟩;show rX u b bu o (e7 aR) h (λv h'=>oa u b bu os (nq aR o.dst v) h' k)=_;rw[w,F];rw[Ku,fq]at hi;rw[f2 i (λh=>hi (.inr h)),Hp aR o.dst v i (λt H e=>hi (.inl (by rw[H,e];exact List.mem_singleton_self _)))];have:=G K j;rw[Mc aR h z]at this;exact this
theorem ach{b:Nat}{bu:Bool}{t:Nat}{w:Bool}:∀{os:List dg}{aR:cO}{h:aO},os.all (under (some (t,w)))=true->(aR t= .U (!w)\/aR t= .bD [])->
 (∀i,i∉kl os->qY os aR i=aR i)/\∀K:cK->Prop,K (fG (qY os aR) h)->kc gl P b bu os (fG aR h) K
 |[],_,_,_,_=>⟨λ_ _=>rfl,λ_ j=>j⟩
 |o::os,aR,h,l,c=>by
  rw[u4,cC]at l;have n:=Tx l.1;have q:nq aR o.dst (.bD []) t=aR t:=Hp aR o.dst _ t (λd hd e=>n.2 t w rfl (by rw[hd,e]));obtain⟨f2,r⟩:=ach (os:=os) (aR:=nq aR o.dst (.bD [])) (h:=h) (b:=b) (bu:=bu) l.2 (by rw[q];exact c);refine⟨λi hi=>?_,λK j=>?_⟩;rw[Ku,fq]at hi;show qY os (nq aR o.dst (.bD [])) i=_;rw[f2 i (λh=>hi (.inr h)),Hp aR o.dst _ i (λd hd e=>hi (.inl (by rw[hd,e];exact List.mem_singleton_self _)))];have y:lu (fG aR h).aI o.guard=some false:=by rw[n.1];show(match bk (aR t) with| .bo (.bool b)=>some (b==w)| .bD []=>some false|_=>none)=some false;rcases c with c|c;rw[c];simp only[bk];cases w<;>rfl;rw[c];simp only[bk,g0]
  show mW gl P b bu o (fG aR h) λz=>kc gl P b bu os z K;unfold mW;rw[y];have:=r K j;rw[Mc aR h h]at this;have e:bk (.bD [])= .bD []:=by simp[bk,g0]
  rw[e]at this;exact this
def v2:List Nat->cO->cO->cO
 |[],_,e0=>e0
 |s::l,e,e0=>v2 l e (tB e0 s (e s))
theorem H0(e:cO)(s:Nat)(v:ao)(i:Nat):tB e s v i=if i=s then v else e i:=by show @Bool.rec (λ_=>ao) (e i) v (Nat.beq i s)=_;by_cases h:i=s;subst h;rw[F6,dr rfl];rw[xq (λx=>h x.symm),dU h]
theorem ace:∀(l:List Nat) (e e0:cO) (i:Nat),(e0 i= .undef\/e0 i=e i)->(v2 l e e0 i= .undef\/v2 l e e0 i=e i)
 |[],_,_,_,h=>h
 |s::l,e,e0,i,h=>by refine ace l e _ i ?_;rw[H0];split;rename_i h;subst h;exact .inr rfl;exact h
theorem acd:∀(l:List Nat) (e e0:cO) (i:Nat),(i∉l->e0 i=e i)->v2 l e e0 i=e i
 |[],_,_,_,h=>h (by simp)
 |s::l,e,e0,i,h=>by refine acd l e _ i λhi=>?_;rw[H0];split;rename_i h;subst h;rfl;rename_i c;exact h (by simp[c,hi])
theorem Eo:∀(l:List Nat) (F:cO->aO->ay) (e e0:cO) (h:aO),jg l (kZ l F e0) e h=F (v2 l e e0) h
 |[],_,_,_,_=>rfl
 |s::l,F,e,e0,h=>Eo l F e (tB e0 s (e s)) h
theorem Uz:∀(l:List Nat) (e:cO) (h:aO),jg l (Qh l) e h= .aF
 |[],_,_=>rfl
 |_::l,e,h=>Uz l e h
theorem I0{l:List Nat}{F:cO->aO->ay}{e e0:cO}(c:∀i,i∉l->e i=e0 i):jg l (kZ l F e0) e h=F e h:=by rw[Eo];congr 1;funext i;exact acd l e e0 i λhi=>(c i hi).symm
theorem amf(y:kS gl P u){k:cO->aO->ay}(z:b+4096<=h.ax)(c:uh u b bu g os aR h k≠ .aF):
 ∃d h',ij b h h'/\uh u b bu g os aR h k=k d h'/\∀K:cK->Prop,K (fG d h')->kc gl P b bu os (fG aR h) K:=by
 unfold uh at c ⊢;cases i:os.all (under g) with
 |false=>rw[i]at c;exact absurd rfl c
 |true=>
  rw[i]at c;cases g with
  |none=>change oa u b bu os aR h k≠ .aF at c;show∃d h',ij b h h'/\oa u b bu os aR h k=_/\_;obtain⟨d,h',br,q,_,j⟩:=QH y z i (λ_ _ h=>by cases h) c;exact⟨d,h',br,q,j⟩
  |some p=>obtain⟨t,w⟩:=p;change cZ (aR t) w (oa u b bu os aR h λl n=>jg (kl os) (kZ (kl os) k aR) l n) (jg (kl os) (kZ (kl os) k aR) (qY os aR) h)≠ .aF at c;show∃d h',ij b h h'/\cZ (aR t) w (oa u b bu os aR h λl n=>jg (kl os) (kZ (kl os) k aR) l n) (jg (kl os) (kZ (kl os) k aR) (qY os aR) h)=_/\_;rcases aaJ c with⟨r,e⟩|⟨r,e⟩;rw[e]at c ⊢;obtain⟨d,h',br,q,f1,j⟩:=QH y (k:=λl n=>jg (kl os) (kZ (kl os) k aR) l n) z i (λC w' h=>by cases h;exact r) c;refine⟨d,h',br,?_,j⟩;rw[q,I0 f1];rw[e];obtain⟨f1,j⟩:=ach (gl:=gl) (P:=P) (b:=b) (bu:=bu) (h:=h) i r;exact⟨qY os aR,h,ij.refl,I0 f1,j⟩
theorem adj{b:Nat}{bu:Bool}:∀(os d:List dg) (s:cK) (K:cK->Prop),kc gl P b bu (os++d) s K=kc gl P b bu os s (λc=>kc gl P b bu d c K)
 |[],_,_,_=>rfl
 |o::os,d,s,K=>by show mW gl P b bu o s (λc=>kc gl P b bu (os++d) c K)=mW gl P b bu o s (λc=>kc gl P b bu os c λc=>kc gl P b bu d c K);congr 1;funext c;exact adj os d c K
theorem Zg{u:Fn}(i:kS gl P u){b:Nat}{bu:Bool}:∀{rs:List (Option (Nat×Bool)×List dg)}{aR:cO}{h:aO}{k:cO->aO->ay},b+4096<=h.ax->Cr u b bu rs aR h k≠ .aF->
 ∃c h',ij b h h'/\Cr u b bu rs aR h k=k c h'/\∀K:cK->Prop,K (fG c h')->kc gl P b bu (rs.flatMap (·.2)) (fG aR h) K
 |[],aR,h,k,_,_=>⟨aR,h,ij.refl,rfl,λ_ d=>d⟩
 |(g,os)::rs,aR,h,k,j,n=>by have e:uh u b bu g os aR h (λc h'=>Cr u b bu rs c h' k)≠ .aF:=n;obtain⟨z,C,br,l,q⟩:=amf i j e;rw[l]at e;obtain⟨r,t,dM,w,y⟩:=Zg i (rs:=rs) (jv j br.ax) e;refine⟨r,t,br.trans dM,?_,λK d=>?_⟩;show uh u b bu g os aR h (λc h'=>Cr u b bu rs c h' k)=_;rw[l,w];rw[lb];rw[adj];exact q _ (y K d)
theorem QG(d:kS gl P u){k:cO->aO->ay}(e:b+4096<=h.ax)(i:sX u b bu os aR h k≠ .aF):
 ∃c h',ij b h h'/\sX u b bu os aR h k=k c h'/\∀K:cK->Prop,K (fG c h')->kc gl P b bu os (fG aR h) K:=by
 have:=Zg d (rs:=yy os) e i;rw[adV]at this;exact this
end
end
end
section
variable[Tok]
theorem M7{K:cK->Prop}{l:List Nat}{e:cO}{h:aO}(a:K (fG (v2 l e lT) h)):qq K (fG e h):=by refine⟨λi=>bk (v2 l e lT i),λi=>?_,a⟩;rcases ace l e lT i (.inl rfl) with h|h;left;show bk _=_;rw[h];simp only[bk];right;show bk _=bk _;rw[h]
section
variable{gl:eh}{P:Program}
def YY(dA:cO->aO->ay)(a:Nat->cO->aO->ay)(b:cO->aO->ay):m4->cO->aO->ay
 | .normal=>dA
 | .exit i=>a i
 | .ret=>b
def afe(gl:eh)(P:Program)(b:Nat)(c:hJ)(aR:cO)(h:aO)(a:ay)(dA:cO->aO->ay)(e:Nat->cO->aO->ay)(g:cO->aO->ay):Prop:=
 a≠ .aF->∃x d h',ij b h h'/\a=YY dA e g x d h'/\∀Q:m4->cK->Prop,Q x (fG d h')->iw gl P b c Q (fG aR h)
def nE(gl:eh)(b:Nat):hH->Prop
 | .seq x y=>nE gl b x/\nE gl b y
 | .xX _ x y=>nE gl b x/\nE gl b y
 | .cond _ x y=>nE gl b x/\nE gl b y
 | .block _ x=>nE gl b x
 | .loop _ x=>nE gl b x
 | .mI k d=>∀(aR:cO) (h:aO) (dA:cO->aO->ay),b+4096<=h.ax->d b aR h dA≠ .aF->∃a h',ij b h h'/\d b aR h dA=dA a h'/\∀K:cK->Prop,K (fG a h')->gl.ig k b (fG aR h) K
 |_=>True
theorem Zi{u:Fn}(O:kS gl P u){b n:Nat}:∀(c:hH),nE gl b c->∀(aR:cO) (h:aO) (dA:cO->aO->ay) (g:Nat->cO->aO->ay) (o:cO->aO->ay),b+4096<=h.ax->
 afe gl P b c.gP aR h (den u b n c aR h dA g o) dA g o:=by
 intro c E;induction c with
 |mI k d=>intro aR h dA g o A p;obtain⟨F,h',br,q,r⟩:=E aR h dA A p;exact⟨.normal,F,h',br,q,λQ a=>r _ a⟩
 |skip=>intro aR h dA g o _ _;exact⟨.normal,aR,h,ij.refl,rfl,λQ a=>a⟩
 |region bu bS=>intro aR h dA g o A p;obtain⟨F,h',br,q,r⟩:=QG O (os:=bS) (k:=dA) A p;exact⟨.normal,F,h',br,q,λQ a=>r _ a⟩
 |seq x y C D=>
  intro aR h dA g o A p;have C:=C E.1;have D:=D E.2;obtain⟨B,w,z,br,q,r⟩:=C aR h (λaR h=>den u b n y aR h dA g o) g o A p;change den u b n x aR h (λaR h=>den u b n y aR h dA g o) g o≠ .aF at p;cases B with
  |normal=>rw[q]at p;obtain⟨H,I,J,dM,K,L⟩:=D w z dA g o (jv A br.ax) p;exact⟨H,I,J,br.trans dM,q.trans K,λQ a=>r _ (axt (L Q a))⟩
  |exit i=>exact⟨.exit i,w,z,br,q,λQ a=>r _ a⟩
  |ret=>exact⟨.ret,w,z,br,q,λQ a=>r _ a⟩
 |xX l x y C D=>
  intro aR h dA g o A p;have C:=C E.1;have D:=D E.2;change den u b n x aR h (λaR h=>jg l (kZ l (λaR h=>den u b n y aR h dA g o) lT) aR h) g o≠ .aF at p;obtain⟨B,w,z,br,q,r⟩:=C aR h _ g o A p;cases B with
  |normal=>rw[q]at p;change jg l (kZ l (λaR h=>den u b n y aR h dA g o) lT) w z≠ .aF at p;rw[Eo]at p;obtain⟨H,I,J,dM,K,L⟩:=D (v2 l w lT) z dA g o (jv A br.ax) p;refine⟨H,I,J,br.trans dM,?_,λQ a=>r _ (M7 (L Q a))⟩;refine Eq.trans q ?_;show jg l (kZ l (λaR h=>den u b n y aR h dA g o) lT) w z=_;rw[Eo];exact K
  |exit i=>exact⟨.exit i,w,z,br,q,λQ a=>r _ a⟩
  |ret=>exact⟨.ret,w,z,br,q,λQ a=>r _ a⟩
 |cond c x y C D=>
  intro aR h dA g o A p;have C:=C E.1;have D:=D E.2;change yj (e7 aR c) (λt=>bB t (den u b n x aR h dA g o) (den u b n y aR h dA g o))≠ .aF at p;obtain⟨t,R,e⟩:=He p;have M:eX (fG aR h).aI c= .bo (.bool t):=by rw[<-vM aR h];show bk (e7 aR c)=_;rw[R];simp only[bk]
  rw[e]at p;cases t with
  |true=>obtain⟨B,w,z,br,q,r⟩:=C aR h dA g o A p;refine⟨B,w,z,br,Eq.trans e q,λQ a=>?_⟩;simp only[hH.gP,iw,M];exact r Q a
  |false=>obtain⟨B,w,z,br,q,r⟩:=D aR h dA g o A p;refine⟨B,w,z,br,Eq.trans e q,λQ a=>?_⟩;simp only[hH.gP,iw,M];exact r Q a
 |block id x G=>
  intro aR h dA g o A p;have G:=G E;obtain⟨B,w,z,br,q,r⟩:=G aR h dA (λi=> @Bool.rec (λ_=>cO->aO->ay) (g i) dA (Nat.beq i id)) o A p;cases B with
  |normal=>exact⟨.normal,w,z,br,q,λQ a=>r _ a⟩
  |ret=>exact⟨.ret,w,z,br,q,λQ a=>r _ a⟩
  |exit i=>by_cases hi:i=id;subst hi;refine⟨.normal,w,z,br,?_,λQ a=>r _ ?_⟩;refine Eq.trans q ?_;show(@Bool.rec (λ_=>cO->aO->ay) (g i) dA (Nat.beq i i)) w z=_;rw[F6];rfl;simp only[vR,gF];exact a;refine⟨.exit i,w,z,br,?_,λQ a=>r _ ?_⟩;refine Eq.trans q ?_;show(@Bool.rec (λ_=>cO->aO->ay) (g i) dA (Nat.beq i id)) w z=_;rw[xq (λx=>hi x.symm)];rfl;simp only[vR,dU hi];exact a
 |loop l x G=>
  intro aR h dA g o A p;have G:=G E;have S:∀(m:Nat) (aR:cO) (h:aO),b+4096<=h.ax->jg l (lj l m λj=>kZ l (λaR h=>den u b n x aR h (λaR h=>jg l j aR h) g o) lT) aR h≠ .aF->
   ∃B F h',ij b h h'/\jg l (lj l m λj=>kZ l (λaR h=>den u b n x aR h (λaR h=>jg l j aR h) g o) lT) aR h=YY dA g o B F h'/\
    ∀Q:m4->cK->Prop,Q B (fG F h')->∃m,rounds (iw gl P b x.gP) Q m (fG aR h):=by
   intro m;induction m with
   |zero=>intro aR h _ p;exact absurd (Uz l aR h) p
   |succ m T=>
    intro aR h A p;change jg l (kZ l (λaR h=>den u b n x aR h (λaR h=>jg l (lj l m λj=>kZ l (λaR h=>den u b n x aR h (λaR h=>jg l j aR h) g o) lT) aR h) g o) lT) aR h≠ .aF at p;show∃B F h',ij b h h'/\jg l (kZ l (λaR h=>den u b n x aR h (λaR h=>jg l (lj l m λj=>kZ l (λaR h=>den u b n x aR h (λaR h=>jg l j aR h) g o) lT) aR h) g o) lT) aR h=_/\_;rw[Eo]at p ⊢;obtain⟨B,w,z,br,q,r⟩:=G (v2 l aR lT) h _ g o A p;cases B with
    |normal=>rw[q]at p ⊢;obtain⟨H,I,J,dM,K,L⟩:=T w z (jv A br.ax) p;refine⟨H,I,J,br.trans dM,K,λQ a=>?_⟩;obtain⟨N,V⟩:=L Q a;exact⟨N+1,M7 (r (tz (rounds (iw gl P b x.gP) Q N) Q) V)⟩
    |exit i=>exact⟨.exit i,w,z,br,q,λQ a=>⟨1,M7 (r (tz (rounds (iw gl P b x.gP) Q 0) Q) a)⟩⟩
    |ret=>exact⟨.ret,w,z,br,q,λQ a=>⟨1,M7 (r (tz (rounds (iw gl P b x.gP) Q 0) Q) a)⟩⟩
  obtain⟨B,w,z,br,q,r⟩:=S n aR h A p;exact⟨B,w,z,br,q,λQ a=>r Q a⟩
 |exit id=>intro aR h dA g o _ _;exact⟨.exit id,aR,h,ij.refl,rfl,λQ a=>a⟩
 |ret=>intro aR h dA g o _ _;exact⟨.ret,aR,h,ij.refl,rfl,λQ a=>a⟩
end
end
section
variable{h:aO}{aR:cO}{ob:dE}{x q d:ao}{b ub g f np n:Nat}{fT:List jS}{fj:List Bool}{aC w:cD}{p:List Nat}{u:Fn}{c:hH}{args:az}
section
variable[Tok]
theorem aao(i:Nat):nt (Tok.τ i)=true:=by rcases um (Tok.p4 i) with⟨v,h⟩|⟨sz,es,h⟩|⟨cs,o,h⟩<;>rw[h]<;>rfl
def b0(l:az)(f:ao->az->ay):ay:= @List.rec ao (λ_=>ay) .aF (λa r _=>f a r) l
def dF(l:az)(x:ay):ay:= @List.rec ao (λ_=>ay) x (λ_ _ _=> .aF) l
def AC(f:cO->ay):Nat->Nat->cO->az->ay
 |0,_,e,l=>(λ(_:Nat)=>dF l (f e)) xK
 |m+1,i,e,l=>b0 l λa r=>AC f m (i+1) (tB e i a) r
theorem Tj{f:cO->ay}:∀{m i:Nat}{e:cO}{l:az},AC f m i e l≠ .aF->∃e',AC f m i e l=f e'/\l.length=m/\(∀j,j<i->e' j=e j)/\(∀j,i<=j->e' j=(l[j-i]?).getD (e j))
 |0,i,e,[],_=>⟨e,rfl,rfl,λ_ _=>rfl,λj _=>by simp⟩
 |0,_,_,_::_,h=>absurd rfl h
 |_+1,_,_,[],h=>absurd rfl h
 |m+1,i,e,a::r,h=>by change AC f m (i+1) (tB e i a) r≠ .aF at h;obtain⟨e',t,y,k,z⟩:=Tj h;refine⟨e',t,by simp[y],λj A=>?_,λj A=>?_⟩;rw[k j (by omega),H0,dU (by omega)];by_cases o:j=i;subst o;rw[k j (by omega),H0,dr rfl];simp;rw[z j (by omega),H0,dU o];congr 1;rw[show j-i=(j-(i+1))+1 by omega,AU]
def jh(ob:dE)(x:ao)(a:Bool)(n:Nat)(k:ao->ay):ay:=
 pE x (λ_ _=> .aF) (λq s off=>mS (ob q) λe cs=>bB (Nat.beq s e) (me a n cs off k) .aF) (λ_ _ _ _=> .aF)
def vW(ob:dE)(aR:cO)(a:jS)(k:ao->ay):ay:=match a with
 | .tmp t=>(λ(_:Nat)=>k (aR t)) xK
 | .cell t e n=>jh ob (aR t) e n k
theorem abB{l:jS}{k:ao->ay}(a:vW h.am aR l k≠ .aF):∃v,wg (fG aR h) l=some (bk v)/\vW h.am aR l k=k v:=by
 cases l with
 |tmp t=>exact⟨aR t,rfl,rfl⟩
 |cell t r n=>
  change pE (aR t) (λ_ _=> .aF) (λq s off=>mS (h.am q) λj cs=>bB (Nat.beq s j) (me r n cs off k) .aF) (λ_ _ _ _=> .aF)≠ .aF at a;show∃v,_/\pE (aR t) (λ_ _=> .aF) (λq s off=>mS (h.am q) λj cs=>bB (Nat.beq s j) (me r n cs off k) .aF) (λ_ _ _ _=> .aF)=_;rcases Df a with⟨cs,off,o,e⟩|⟨q,s,off,o,e⟩|⟨q,s,i,off,o,e⟩;rw[e]at a;exact absurd rfl a;rw[e]at a ⊢;obtain⟨j,cs,y,e⟩:=L1 a;rw[e]at a ⊢;obtain⟨z,e⟩:=fa a;rw[e]at a ⊢;obtain⟨v,A,e⟩:=GU _ _ _ _ _ a;refine⟨v,?_,e⟩;have B:(fG aR h).aI t= .aQ q s off:=by show bk (aR t)=_;rw[o];simp only[bk]
  have C:(fG aR h).bC q= .box j (g0 cs):=by show fz (h.am q)=_;rw[y];rfl
  have D:=e8 z;simp only[wg,B,C,D,gF,HQ A];rw[e]at a;exact absurd rfl a
def qW(ob:dE)(aR:cO)(f:az->fk->ay):List Bool->List jS->ay
 |_,[]=>(λ(_:Nat)=>f [] []) xK
 |[],x::xs=>vW ob aR x λv=>bi ob v λq gE=>qW ob aR (λa us=>f (q::a) (aZ gE us)) [] xs
 |true::bs,x::xs=>vW ob aR x λv=>bi ob v λq gE=>qW ob aR (λa us=>f (q::a) (aZ gE us)) bs xs
 |false::bs,x::xs=>vW ob aR x λv=>qW ob aR (λa us=>f (v::a) us) bs xs
def wF(q:ao):Prop:=q.fe=[]/\q.dl=[]/\nt (bk q)=true
theorem aun(h:nn ob x=some q):q.key=[]:=by
 cases x with
 |aV k s off len=>
  simp only[nn]at h;split at h;rename_i i e sz es bL j;cases a:(Nat.beq s i&&Nat.ble (Nat.add off len) es.length) with
  |false=>rw[a]at h;simp at h
  |true=>rw[a]at h;simp only[e6,dN]at h;subst h;rfl
  cases h
 |_=>simp[nn]at h<;>subst h<;>rfl
theorem ac8{ob:dE}:∀{xs a:az},sj ob xs=some a->a.flatMap ao.key=[]
 |[],a,h=>by cases h;rfl
 |x::xs,a,h=>by simp only[sj]at h;split at h;rename_i q j e i;cases h;rw[lb,aun e,ac8 i];rfl;cases h
theorem auq(h:mV ob x=some q):wF q:=by
 cases x with
 |agg cs=>simp only[mV]at h;split at h;rename_i o j;cases h;have:=ac8 j;exact⟨this,this,by simp[bk,nt]⟩;cases h
 |aV k s off len=>
  have h':nn ob (.aV k s off len)=some q:=h;simp only[nn]at h';split at h';rename_i l e sz es bL r;cases a:(Nat.beq s l&&Nat.ble (Nat.add off len) es.length) with
  |false=>rw[a]at h';simp at h'
  |true=>rw[a]at h';simp only[e6,dN]at h';subst h';exact⟨rfl,rfl,by simp[bk,nt]⟩
  cases h'
 |tok i=>simp only[mV,nn,dN]at h;subst h;exact⟨rfl,rfl,by simp only[bk];exact aao i⟩
 |_=>simp[mV,nn]at h<;>subst h<;>exact⟨rfl,rfl,by simp[bk,nt,kv]⟩
theorem abA:∀{fj:List Bool}{fT:List jS}{f:az->fk->ay},qW h.am aR f fj fT≠ .aF->
 ∃i a us,nX (fG aR h) fT=some i/\mN h.jz fj i=some (a.map bk,us.map iy)/\qW h.am aR f fj fT=f a us/\(fj=[]->∀q∈a,wF q):=by
 have z:∀{fj:List Bool}{x:jS}{xs:List jS}{f:az->fk->ay},
  (∀{f:az->fk->ay},qW h.am aR f fj xs≠ .aF->∃i a us,nX (fG aR h) xs=some i/\mN h.jz fj i=some (a.map bk,us.map iy)/\qW h.am aR f fj xs=f a us/\(fj=[]->∀q∈a,wF q))->
  (vW h.am aR x λv=>bi h.am v λq gE=>qW h.am aR (λa us=>f (q::a) (aZ gE us)) fj xs)≠ .aF->
  ∃v i q a us,wg (fG aR h) x=some v/\nX (fG aR h) xs=some i/\jb h.jz v=some (bk q)/\mN h.jz fj i=some (a.map bk,us.map iy)/\wF q/\(fj=[]->∀q∈a,wF q)/\
   ∃gE,jN h.jz v=gE.map iy/\(vW h.am aR x λv=>bi h.am v λq gE=>qW h.am aR (λa us=>f (q::a) (aZ gE us)) fj xs)=f (q::a) (gE++us):=by
  intro fj x xs f t j;obtain⟨v,k,e⟩:=abB j;rw[e]at j ⊢;obtain⟨q,r,e⟩:=Ll j;rw[e]at j ⊢;obtain⟨i,a,us,l,o,e,A⟩:=t j;refine⟨bk v,i,q,a,us,k,l,Hn r,o,auq r,A,pI h.am v,HH h.am v,?_⟩;rw[e,kU]
 intro fj fT;induction fT generalizing fj with
 |nil=>intro f _;cases fj with
  |nil=>exact⟨[],[],[],rfl,rfl,rfl,λ_=>by simp⟩
  |cons _ _=>exact⟨[],[],[],rfl,rfl,rfl,λ_=>by simp⟩
 |cons x xs t=>
  intro f j;cases fj with
  |nil=>obtain⟨v,i,q,a,us,k,r,l,o,B,C,gE,y,e⟩:=z (fj:=[]) (f:=f) t j;refine⟨v::i,q::a,gE++us,by simp only[nX,k,r],?_,e,λ_ D E=>(e9.1 E).elim (λe=>e▸B) (C rfl D)⟩;simp only[mN,md,mq,gF,l,o,y,hN,oz]
  |cons c bs=>
   cases c with
   |true=>obtain⟨v,i,q,a,us,k,r,l,o,_,_,gE,y,e⟩:=z (fj:=bs) (f:=f) t j;refine⟨v::i,q::a,gE++us,by simp only[nX,k,r],?_,e,λh=>by cases h⟩;simp only[mN,md,mq,gF,l,o,y,hN,oz]
   |false=>change (vW h.am aR x λv=>qW h.am aR (λa us=>f (v::a) us) bs xs)≠ .aF at j;show∃i a us,_/\_/\(vW h.am aR x λv=>qW h.am aR (λa us=>f (v::a) us) bs xs)=_/\_;obtain⟨v,k,e⟩:=abB j;rw[e]at j ⊢;obtain⟨i,a,us,l,o,e,_⟩:=t j;refine⟨bk v::i,v::a,us,by simp only[nX,k,l],?_,e,λh=>by cases h⟩;simp only[mN,md,mq,io,hV,o,hN,yO]
def SB(l:az):Bool:=
 @List.rec ao (λ_=>Bool) true (λc _ a=> @ao.rec (λ_=>Bool) (λ_=>PUnit) (λ_=>PUnit) false (λ_=>a) (λ_ _=>a) (λ_ _=>a) a (λ_=>a) (λ_ _=>a) (λ_ _=>false) (λ_ _ _=>a) (λ_ _ _=>a) (λ_ _ _=>a) (λ_ _ _ _=>a) (λ_ _ _ _=>a) (λ_ _=>a) (λ_ _ _=>a) (λ_=>a) PUnit.unit (λ_ _ _ _=>PUnit.unit) PUnit.unit (λ_ _ _ _=>PUnit.unit) c) l
theorem acO:∀{l:az},SB l=true->(l.map bk).all nt=true
 |[],_=>rfl
 |c::r,h=>by
  have a:SB r=true/\nt (bk c)=true:=by
   cases c with
   |tok i=>exact⟨h,by simp only[bk];exact aao i⟩
   |_=>first|exact⟨h,by simp[bk,nt,kv]⟩|exact absurd h (by intro h;cases h)
  rw[hN,u4,a.2,acO a.1];rfl
def jK(l:az):ao:= @List.rec ao (λ_=>ao) (.bD []) (λv r _=> @List.rec ao (λ_=>ao) v (λ_ _ _=> .bD l) r) l
theorem at0:∀(l:az),bk (jK l)=tq (l.map bk)
 |[]=>by show bk (.bD [])=_;simp[bk,g0,tq]
 |[v]=>rfl
 |a::b::r=>by show bk (.bD (a::b::r))=_;simp[bk,ma,tq]
def oj(b:Nat)(cs:az):Bool:=
 @List.rec ao (λ_=>Bool) true (λc _ a=> @ao.rec (λ_=>Bool) (λ_=>PUnit) (λ_=>PUnit) a (λ_=>a) (λ_ _=>a) (λ_ _=>a) a (λ_=>a) (λ_ _=>false) (λ_ _=>false) (λ_ _ _=>a) (λ_ _ _=>a) (λk _ _=>c7 (Nat.ble (Nat.succ k) b) a) (λk _ _ _=>c7 (Nat.ble (Nat.succ k) b) a) (λk _ _ _=>c7 (Nat.ble (Nat.succ k) b) a) (λk _=>c7 (Nat.ble (Nat.succ k) b) a) (λ_ _ _=>false) (λ_=>a) PUnit.unit (λ_ _ _ _=>PUnit.unit) PUnit.unit (λ_ _ _ _=>PUnit.unit) c) cs
def RX(b:Nat)(x:ao)(r:Bool):Bool:=
 @ao.rec (λ_=>Bool) (λ_=>PUnit) (λ_=>PUnit) r (λ_=>r) (λ_ _=>r) (λ_ _=>r) r (λ_=>r) (λcs _=>c7 (oj b cs) r) (λ_ _=>false) (λ_ _ _=>r) (λ_ _ _=>r) (λk _ _=>c7 (Nat.ble (Nat.succ k) b) r) (λk _ _ _=>c7 (Nat.ble (Nat.succ k) b) r) (λk _ _ _=>c7 (Nat.ble (Nat.succ k) b) r) (λk _=>c7 (Nat.ble (Nat.succ k) b) r) (λ_ cs _=>c7 (oj b cs) r) (λ_=>r) PUnit.unit (λ_ _ _ _=>PUnit.unit) PUnit.unit (λ_ _ _ _=>PUnit.unit) x
def R1(b:Nat)(cs:az):Bool:= @List.rec ao (λ_=>Bool) true (λc _ a=>RX b c a) cs
def sa(b:Nat)(x:ao):Bool:=
 @ao.rec (λ_=>Bool) (λ_=>PUnit) (λ_=>PUnit) true (λ_=>true) (λ_ _=>true) (λ_ _=>true) true (λ_=>true) (λcs _=>oj b cs) (λcs _=>R1 b cs) (λ_ _ _=>true) (λ_ _ _=>true) (λk _ _=>Nat.ble (Nat.succ k) b) (λk _ _ _=>Nat.ble (Nat.succ k) b) (λk _ _ _=>Nat.ble (Nat.succ k) b) (λk _=>Nat.ble (Nat.succ k) b) (λ_ cs _=>oj b cs) (λ_=>true) PUnit.unit (λ_ _ _ _=>PUnit.unit) PUnit.unit (λ_ _ _ _=>PUnit.unit) x
theorem x6{b:Nat}:∀{cs:az},oj b cs=true->(∀k∈cs.flatMap ao.key,k<b)/\(∀k∈cs.flatMap ao.cJ,k<b)
 |[],_=>⟨by simp,by simp⟩
 |c::r,h=>by
  have A:oj b r=true/\(∀k∈c.key,k<b)/\(∀k∈c.cJ,k<b):=by
   have z:∀{k:Nat},c7 (Nat.ble (Nat.succ k) b) (oj b r)=true->oj b r=true/\k<b:=by intro k h;rw[hY,cC]at h;exact⟨h.2,dX h.1⟩
   cases c with
   |aQ k s o=>obtain⟨t,e⟩:=z h;exact⟨t,by intro j a;simp[ao.key,ao.cJ]at a;subst a;exact e,by intro j a;simp[ao.cJ]at a;subst a;exact e⟩
   |aV k s o l=>obtain⟨t,e⟩:=z h;exact⟨t,by intro j a;simp[ao.key,ao.cJ]at a;subst a;exact e,by intro j a;simp[ao.cJ]at a;subst a;exact e⟩
   |eP k s i o=>obtain⟨t,e⟩:=z h;exact⟨t,by intro j a;simp[ao.key,ao.cJ]at a;subst a;exact e,by intro j a;simp[ao.cJ]at a;subst a;exact e⟩
   |fX k s=>obtain⟨t,e⟩:=z h;exact⟨t,by intro j a;simp[ao.key,ao.cJ]at a;subst a;exact e,by intro j a;simp[ao.cJ]at a;subst a;exact e⟩
   |_=>first|exact⟨h,by simp[ao.key,ao.cJ],by simp[ao.cJ]⟩|exact absurd h (by intro h;cases h)
  obtain⟨t,e⟩:=x6 A.1;constructor;intro k y;rw[lb,fq]at y;exact y.elim (A.2.1 k) (t k);intro k y;rw[lb,fq]at y;exact y.elim (A.2.2 k) (e k)
theorem are{r:Bool}(h:RX b x r=true):r=true/\∀k∈x.fe,k<b:=by
 have y:∀{k:Nat},c7 (Nat.ble (Nat.succ k) b) r=true->r=true/\k<b:=by intro k h;rw[hY,cC]at h;exact⟨h.2,dX h.1⟩
 cases x with
 |agg cs=>have h':c7 (oj b cs) r=true:=h;rw[hY,cC]at h';exact⟨h'.2,(x6 h'.1).1⟩
 |ey f cs=>have h':c7 (oj b cs) r=true:=h;rw[hY,cC]at h';exact⟨h'.2,(x6 h'.1).2⟩
 |aQ k s o=>obtain⟨e,t⟩:=y h;exact⟨e,by intro j a;simp[ao.fe,ao.key,ao.cJ]at a;subst a;exact t⟩
 |aV k s o l=>obtain⟨e,t⟩:=y h;exact⟨e,by intro j a;simp[ao.fe,ao.key,ao.cJ]at a;subst a;exact t⟩
 |eP k s i o=>obtain⟨e,t⟩:=y h;exact⟨e,by intro j a;simp[ao.fe,ao.key,ao.cJ]at a;subst a;exact t⟩
 |fX k s=>obtain⟨e,t⟩:=y h;exact⟨e,by intro j a;simp[ao.fe,ao.key,ao.cJ]at a;subst a;exact t⟩
 |bD cs=>cases h
 |_=>exact⟨h,by simp[ao.fe,ao.key,ao.cJ]⟩
theorem abR{b:Nat}:∀{cs:az},R1 b cs=true->∀k∈cs.flatMap ao.fe,k<b
 |[],_=>by simp
 |c::r,h=>by have h':RX b c (R1 b r)=true:=h;obtain⟨e,i⟩:=are h';intro k a;rw[lb,fq]at a;exact a.elim (i k) (abR e k)
theorem abS(h:sa b x=true):∀k∈x.dl,k<b:=by
 cases x with
 |agg cs=>exact(x6 h).1
 |ey f cs=>exact(x6 h).2
 |bD cs=>exact abR h
 |aQ k s o=>intro j a;simp[ao.dl,ao.fe,ao.key,ao.cJ]at a;subst a;exact dX h
 |aV k s o l=>intro j a;simp[ao.dl,ao.fe,ao.key,ao.cJ]at a;subst a;exact dX h
 |eP k s i o=>intro j a;simp[ao.dl,ao.fe,ao.key,ao.cJ]at a;subst a;exact dX h
 |fX k s=>intro j a;simp[ao.dl,ao.fe,ao.key,ao.cJ]at a;subst a;exact dX h
 |_=>simp[ao.dl,ao.fe,ao.key,ao.cJ]
def uF(b:Nat)(o:eQ):Bool:= @eQ.rec (λ_=>Bool) (λ_=>true) (λ_ cs=>oj b cs) (λ_ _ _ _ _=>true) (λ_ _=>true) o
theorem arf{o:eQ}(h:uF b o=true):∀k∈(fz o).dl,k<b:=by
 cases o with
 |box s cs=>
  have:=(x6 h).1;intro k a;refine this k ?_;have e:(g0 cs).flatMap aT.key=cs.flatMap ao.key:=by rw[ma,sx];congr 1;funext y;exact GX y
  rw[<-e];exact a
 |_=>simp[fz,Obj.dl]
def kr(b:Nat)(aC:cD)(l:List Nat):Bool:= @List.rec Nat (λ_=>Bool) true (λk _ a=>c7 (uF b (aC.get k).aj) a) l
theorem abP{b:Nat}{aC:cD}:∀{l:List Nat},kr b aC l=true->∀k∈l,uF b (aC.get k).aj=true
 |x::r,h,k,a=>by have h':c7 (uF b (aC.get x).aj) (kr b aC r)=true:=h;rw[hY,cC]at h';rcases e9.1 a with rfl|a;exact h'.1;exact abP h'.2 k a
def Zw(b:Nat)(d:ao)(h:aO):ay:=
 @aO.rec (λ_=>ay) (λub aC p=> @Bool.rec (λ_=>ay) (bB (sa ub d) (.ok d ub aC p) .aF) (.ok d b (aC.drop b) p) (c7 (sa b d) (kr b aC p))) h
def so(b:Nat)(a:az)(us:fk)(h:aO):ay:=bB (SB a) (nQ b us h λh'=>Zw b (jK a) h') .aF
def Kz(b:Nat)(d:ao)(h:aO):ay:=
 @aO.rec (λ_=>ay) (λub aC p=> @Bool.rec (λ_=>ay) (.ok d ub aC p) (.ok d b (aC.drop b) p) (kr b aC p)) h
def im(b:Nat)(d:ao)(us:fk)(h:aO):ay:=nQ b us h λh'=>Kz b d h'
def qR(b:Nat)(fT:List jS)(fj:List Bool)(aR:cO)(h:aO):ay:=match fj with
 |[]=>qW h.am aR (λa us=>im b (jK a) us h) [] fT
 |x::y=>qW h.am aR (λa us=>so b a us h) (x::y) fT
theorem acN:∀{l:az},(∀q∈l,wF q)->(l.map bk).all nt=true
 |[],_=>rfl
 |c::r,h=>by rw[hN,u4,(h c fQ).2.2,acN λq a=>h q (ii _ a)];rfl
theorem atZ:∀{l:az},(∀q∈l,wF q)->(jK l).dl=[]
 |[],_=>rfl
 |[v],h=>(h v fQ).2.1
 |a::b::r,h=>by
  show(ao.bD (a::b::r)).dl=[];have e:∀(l:az),(∀q∈l,wF q)->l.flatMap ao.fe=[]:=by
   intro l;induction l with
   |nil=>intro _;rfl
   |cons c r i=>intro h;rw[lb,(h c fQ).1,i λq j=>h q (ii _ j)];rfl
  exact e _ h
def bN(b:Nat)(aC:cD):aO:= .mk (Nat.add b 4096) (.cons b .nil aC) []
def rW(np n:Nat)(c:hH)(fT:List jS)(fj:List Bool)(u:Fn)(args:az)(b:Nat)(aC:cD):ay:=
 AC (λaR=>den u b n c aR (bN b aC) (qR b fT fj) (λ_ _ _=> .aF) (qR b fT fj)) np 0 lT args
theorem aa3(b:Nat)(aC:cD):(bN b aC).jz=g4 b aC:=by
 funext k;show fz (b9 (b+4096) (.cons b .nil aC) k)=fz (b9 b aC k);congr 1;by_cases a:k<b;rw[h7 (by omega),h7 a];show(@Bool.rec (λ_=>fb) (aC.get k) (kR.get .nil k) (Nat.ble b k)).aj=_;have:Nat.ble b k=false:=by
  cases e:Nat.ble b k with
  |true=>have:=dX e;omega
  |false=>rfl
 rw[this];rw[mh (ub:=b) (by omega)];by_cases i:k<b+4096;rw[h7 i];show(@Bool.rec (λ_=>fb) (aC.get k) (kR.get .nil k) (Nat.ble b k)).aj=_;rw[tF (by omega)];rfl;rw[mh (by omega)]
section
variable{gl:eh}{P:Program}
theorem aaa{C:cO}{h':aO}{x:m4}{X:cT->aT->Prop}(br:ij ub (bN ub aC) h')
 (h:qR ub fT fj C h'= .ok d g w p)(Y:x= .normal\/x= .ret)(Z:∀D r,Fin fj fT (g4 ub aC) D r x (fG C h')->X D r):
 X (g4 g w) (bk d)/\(∀k,k<ub->k∉p->b9 g w k=b9 ub aC k)/\∀k∈d.dl,k<g:=by
 have l:qR ub fT fj C h'≠ .aF:=by rw[h];simp
 have split:∃t a us z,nX (fG C h') fT=some t/\mN h'.jz fj t=some (a.map bk,us.map iy)/\(a.map bk).all nt=true/\wK ub us h' z/\
  (Zw ub (jK a) z= .ok d g w p\/(Kz ub (jK a) z= .ok d g w p/\(jK a).dl=[])):=by
  unfold qR at h l;cases fj with
  |nil=>obtain⟨t,a,us,F,G,eE,eV⟩:=abA l;simp only[]at h l;rw[eE]at h l;obtain⟨z,hM,J⟩:=x2 l;have Q:nQ ub us h' (λh'=>Kz ub (jK a) h')= .ok d g w p:=h;rw[J]at Q;exact⟨t,a,us,z,F,G,acN (eV rfl),hM,.inr ⟨Q,atZ (eV rfl)⟩⟩
  |cons x y=>obtain⟨t,a,us,F,G,eE,_⟩:=abA l;simp only[]at h l;rw[eE]at h l;unfold so at h l;obtain⟨eV,al⟩:=fa l;rw[al]at h l;obtain⟨z,hM,J⟩:=x2 l;rw[J]at h;exact⟨t,a,us,z,F,G,acO eV,hM,.inl h⟩
 obtain⟨t,a,us,z,F,G,eV,hM,h⟩:=split;obtain⟨ll,ar,bd⟩:=hM;have R:=br.trans ll;have a1:bk (jK a)=tq (a.map bk):=at0 a;have S:∀D,sF (g4 ub aC) (fE h'.jz (us.map iy)) D (bk (jK a))->X D (bk (jK a)):=by intro D a2;refine Z _ _ ?_;have T:∃t q us,nX (fG C h') fT=some t/\mN (fG C h').bC fj t=some (q,us)/\q.all nt=true/\bk (jK a)=tq q/\sF (g4 ub aC) (fE (fG C h').bC us) D (bk (jK a)):=⟨t,a.map bk,us.map iy,F,G,eV,a1,a2⟩;rcases Y with rfl|rfl;exact T;exact T
 cases z with
 |mk j e d2=>
  have E:fE h'.jz (us.map iy)=g4 j e:=by rw[<-ar,QK];rfl
  have bs:ub+4096<=j:=R.ax;have K:∀k,k<ub->k∉d2->b9 j e k=b9 ub aC k:=by
   intro k i L;have A:=R.same k i L;have M:b9 j e k=b9 (ub+4096) (.cons ub .nil aC) k:=A;rw[M,h7 (by omega),h7 i];show(@Bool.rec (λ_=>fb) (aC.get k) (kR.get .nil k) (Nat.ble ub k)).aj=_;have:Nat.ble ub k=false:=by
    cases hh:Nat.ble ub k with
    |true=>have:=dX hh;omega
    |false=>rfl
   rw[this]
  have low:(∀k∈(jK a).dl,k<ub)->kr ub e d2=true->(.ok (jK a) ub (e.drop ub) d2:ay)= .ok d g w p->
   X (g4 g w) (bk d)/\(∀k,k<ub->k∉p->b9 g w k=b9 ub aC k)/\∀k∈d.dl,k<g:=by
   intro H a3 h;simp only[ay.ok.injEq]at h;obtain⟨rfl,rfl,rfl,rfl⟩:=h;have lo:∀k,k<ub->b9 ub (e.drop ub) k=b9 j e k:=λk i=>by rw[h7 i,h7 (by omega),cD.uq ub e k i]
   refine⟨S _ ⟨λk=>?_,λk i=>?_,λk i=>?_⟩,λk i L=>by rw[lo k i];exact K k i L,H⟩;by_cases i:k<ub;left;rw[E];show fz _=fz _;rw[lo k i];right;have A:g4 ub (e.drop ub) k= .aF 0:=by show fz _=_;rw[mh (by omega)];rfl
   have M:g4 ub aC k= .aF 0:=by show fz _=_;rw[mh (by omega)];rfl
   rw[A,M];exact⟨λh=>h,dn _⟩;by_cases I:k<ub;by_cases hd:k∈d2;right;intro N V;have A:g4 ub (e.drop ub) k=fz (e.get k).aj:=by show fz _=_;rw[h7 I,cD.uq ub e k I]
   rw[A]at V;have O:=arf (abP a3 k hd) N V;rw[E];show fz _=fz _;rw[lo N O];left;show fz _=fz _;rw[lo k I,K k I hd];exfalso;have A:g4 ub (e.drop ub) k= .aF 0:=by show fz _=_;rw[mh (by omega)];rfl
   rw[A]at i;exact i;have O:=H k (by rw[<-p3];exact i);rw[E];show fz _=fz _;rw[lo k O]
  have high:(∀k∈(jK a).dl,k<j)->(.ok (jK a) j e d2:ay)= .ok d g w p->
   X (g4 g w) (bk d)/\(∀k,k<ub->k∉p->b9 g w k=b9 ub aC k)/\∀k∈d.dl,k<g:=by
   intro H h;simp only[ay.ok.injEq]at h;obtain⟨rfl,rfl,rfl,rfl⟩:=h;exact⟨S _ ⟨λk=> .inl (by rw[E]),λk _=> .inr λN _=>by rw[E],λk _=>by rw[E]⟩,K,H⟩
  rcases h with h|⟨h,a4⟩;change @Bool.rec (λ_=>ay) (bB (sa j (jK a)) (.ok (jK a) j e d2) .aF) (.ok (jK a) ub (e.drop ub) d2) (c7 (sa ub (jK a)) (kr ub e d2))= .ok d g w p at h;cases B:c7 (sa ub (jK a)) (kr ub e d2) with
  |true=>rw[B]at h;rw[hY,cC]at B;exact low (abS B.1) B.2 h
  |false=>rw[B]at h;change bB (sa j (jK a)) (.ok (jK a) j e d2) .aF= .ok d g w p at h;obtain⟨a5,A⟩:=fa (c:=sa j (jK a)) (x:= .ok (jK a) j e d2) (by rw[h];simp);rw[A]at h;exact high (abS a5) h
  have W:∀b,∀k∈(jK a).dl,k<b:=λb k i=>by rw[a4]at i;cases i
  change @Bool.rec (λ_=>ay) (.ok (jK a) j e d2) (.ok (jK a) ub (e.drop ub) d2) (kr ub e d2)= .ok d g w p at h;cases B:kr ub e d2 with
  |true=>rw[B]at h;exact low (W ub) B h
  |false=>rw[B]at h;exact high (W j) h
theorem Zc(l:kS gl P u){m:Nat}(o:∀b,nE gl b c)(t:np<=m)
 (y:∀(ub:Nat) (args:eb) (ob a:cT) (d:aT),args.length<=m->iw gl P ub c.gP (Fin fj fT ob a d) (nM args ob)->lM gl P f args ob d a)
 (h:rW np n c fT fj u args ub aC= .ok d g w p):
 lM gl P f (args.map bk) (g4 ub aC) (bk d) (g4 g w)/\(∀k,k<ub->k∉p->b9 g w k=b9 ub aC k)/\∀k∈d.dl,k<g:=by
 have e:rW np n c fT fj u args ub aC≠ .aF:=by rw[h];simp
 unfold rW at h e;obtain⟨e0,z,A,_,B⟩:=Tj e;rw[z]at h e;have C:fG e0 (bN ub aC)=nM (args.map bk) (g4 ub aC):=by
  unfold fG nM;congr 1;funext i;rw[B i (pg i),Ie,lx];cases args[i]? with
  |none=>simp[lT,bk]
  |some v=>rfl
  exact aa3 ub aC
 obtain⟨x,D,h',br,E,F⟩:=Zi l (n:=n) c (o ub) e0 (bN ub aC) (qR ub fT fj) (λ_ _ _=> .aF) (qR ub fT fj) (dn _) e;rw[E]at h;have j:qR ub fT fj D h'= .ok d g w p->(x= .normal\/x= .ret)->lM gl P f (args.map bk) (g4 ub aC) (bk d) (g4 g w)/\(∀k,k<ub->k∉p->b9 g w k=b9 ub aC k)/\∀k∈d.dl,k<g:=λh G=>
  aaa (X:=λa r=>lM gl P f (args.map bk) (g4 ub aC) r a) br h G (λa r H=>by refine y ub _ _ _ _ (by rw[mw,A];exact t) ?_;rw[<-C];exact F _ H)
 cases x with
 |normal=>exact j h (.inl rfl)
 |ret=>exact j h (.inr rfl)
 |exit i=>cases h
theorem Zb(e:kS gl P u){H:jk}{fn:Func}{body:Code}(i:∀b,nE gl b c)(j:P.follows .mixedOrders=true)(l:P.funcs[f]? =some fn)(o:fn.body=some body)
 (r:(fn.name== "runtime.NumGoroutine")=false)(t:np<=fn.ntmps)(y:oq P fn.results.toList=some fT)(z:c.gP=comp P H fn.ntmps body)
 (h:rW np n c fT fj u args ub aC= .ok d g w p):
 lM gl P f (args.map bk) (g4 ub aC) (bk d) (g4 g w)/\(∀k,k<ub->k∉p->b9 g w k=b9 ub aC k)/\∀k∈d.dl,k<g:=by
 refine Zc e i t (λub args ob B d A a=>?_) h;rw[z]at a;exact afj ub fj fT j l o r A y a
end
end
end
section
variable{gl:eh}{P:Program}
section
variable[Tok]
def jf:hJ->List (Option (List Nat))->hH×List (Option (List Nat))
 | .skip,l=>(.skip,l)
 | .region d o,l=>(.region d o,l)
 | .seq a b,x::l=>match jf a l with
   |(g,e)=>match jf b e with
    |(b',h)=>match x with
     |none=>(.seq g b',h)
     |some v=>(.xX v g b',h)
 | .seq a b,[]=>match jf a [] with
   |(g,_)=>match jf b [] with
    |(b',_)=>(.seq g b',[])
 | .cond c a b,l=>match jf a l with
   |(g,e)=>match jf b e with
    |(b',h)=>(.cond c g b',h)
 | .block id b,l=>match jf b l with
   |(b',e)=>(.block id b',e)
 | .loop b,x::l=>match jf b l with
   |(b',e)=>(.loop (x.getD []) b',e)
 | .loop b,[]=>match jf b [] with
   |(b',_)=>(.loop [] b',[])
 | .exit id,l=>(.exit id,l)
 | .ret,l=>(.ret,l)
 | .mI k,l=>(.mI k (λ_ _ _ _=> .aF),l)
theorem qG:∀(c:hJ) (l:List (Option (List Nat))),(jf c l).1.gP=c
 | .skip,_=>rfl
 | .region _ _,_=>rfl
 | .seq a b,x::l=>by
   have d:=qG a l;have e:=qG b (jf a l).2;cases x with
   |none=>show hH.gP (.seq (jf a l).1 (jf b (jf a l).2).1)=_;rw[hH.gP,d,e]
   |some v=>show hH.gP (.xX v (jf a l).1 (jf b (jf a l).2).1)=_;rw[hH.gP,d,e]
 | .seq a b,[]=>by show hH.gP (.seq (jf a []).1 (jf b []).1)=_;rw[hH.gP,qG a,qG b]
 | .cond c a b,l=>by show hH.gP (.cond c (jf a l).1 (jf b (jf a l).2).1)=_;rw[hH.gP,qG a,qG b]
 | .block id b,l=>by show hH.gP (.block id (jf b l).1)=_;rw[hH.gP,qG b]
 | .loop b,x::l=>by show hH.gP (.loop _ (jf b l).1)=_;rw[hH.gP,qG b]
 | .loop b,[]=>by show hH.gP (.loop _ (jf b []).1)=_;rw[hH.gP,qG b]
 | .exit _,_=>rfl
 | .ret,_=>rfl
 | .mI _,_=>rfl
theorem sK(gl:eh)(b:Nat):∀(c:hJ) (l:List (Option (List Nat))),nE gl b (jf c l).1
 | .skip,_=>trivial
 | .region _ _,_=>trivial
 | .seq x y,o::l=>by
   have a:=sK gl b x l;have d:=sK gl b y (jf x l).2;cases o with
   |none=>exact⟨a,d⟩
   |some v=>exact⟨a,d⟩
 | .seq x y,[]=>⟨sK gl b x [],sK gl b y []⟩
 | .cond c x y,l=>⟨sK gl b x l,sK gl b y (jf x l).2⟩
 | .block id x,l=>sK gl b x l
 | .loop x,_::l=>sK gl b x l
 | .loop x,[]=>sK gl b x []
 | .exit _,_=>trivial
 | .ret,_=>trivial
 | .mI _,_=>λ_ _ _ _ h=>absurd rfl h
abbrev jj:=Fn->az->Nat->cD->ay
def iE(gl:eh)(P:Program)(f:Nat)(g:jj):Prop:=
 ∀u,kS gl P u->∀args ub aC b a c d,g u args ub aC= .ok b a c d->lM gl P f (args.map bk) (g4 ub aC) (bk b) (g4 a c)/\
  (∀k,k<ub->k∉d->b9 a c k=b9 ub aC k)/\∀k∈b.dl,k<a
structure bI where
 f:Nat
 fn:Func
 aE:jk
 h6:Nat
 ff:List jS
 eW:List Bool
 kb:List (Option (List Nat))
def n9(fn:Func):Code:=fn.body.getD .skip
def bI.den(P:Program)(d:bI):jj:=rW d.h6 1000000 (jf (comp P d.aE d.fn.ntmps (n9 d.fn)) d.kb).1 d.ff d.eW
theorem ajZ(d:bI){g:jj}(c:P.follows .mixedOrders=true)(e:P.funcs[d.f]? =some d.fn)(a:d.fn.body.isSome=true)
 (i:(d.fn.name== "runtime.NumGoroutine")=false)(j:Nat.ble d.h6 d.fn.ntmps=true)(k:oq P d.fn.results.toList=some d.ff)(l:g=d.den P):iE gl P d.f g:=by
 intro u n args ub aC q r t w h;subst l;have o:d.fn.body=some (n9 d.fn):=by
  unfold n9;cases p:d.fn.body with
  |none=>rw[p]at a;cases a
  |some b=>rfl
 exact Zb n (H:=d.aE) (λb=>sK gl b _ _) c e o i (dX j) k (qG _ _) h
inductive bH where
 |aF
 |mk (g:jj)
inductive my where
 |leaf (f:Nat) (g:jj)
 |node (m:Nat) (l r:my)
def look(t:my):Nat->bH:=
 @my.rec (λ_=>Nat->bH) (λk g f=> @Bool.rec (λ_=>bH) .aF (.mk g) (Nat.beq f k)) (λm _ _ a b f=> @Bool.rec (λ_=>bH) (b f) (a f) (Nat.ble f m)) t
def bR(T:my)(n:Nat):Fn:= @Nat.rec (λ_=>Fn) (λ_ _ _ _=> .aF) (λ_ t f args b aC=> @bH.rec (λ_=>ay) .aF (λg=>g t args b aC) (look T f)) n
def qz(gl:eh)(P:Program):my->Prop
 | .leaf f g=>iE gl P f g
 | .node _ l r=>qz gl P l/\qz gl P r
theorem RW{gl:eh}{P:Program}:∀{T:my},qz gl P T->∀{f:Nat}{g:jj},look T f= .mk g->iE gl P f g
 | .leaf k g',b,f,g,h=>by
   change @Bool.rec (λ_=>bH) .aF (.mk g') (Nat.beq f k)= .mk g at h;cases a:Nat.beq f k with
   |true=>rw[a]at h;have e:=e8 a;subst e;cases h;exact b
   |false=>rw[a]at h;cases h
 | .node m l r,b,f,g,h=>by
   change @Bool.rec (λ_=>bH) (look r f) (look l f) (Nat.ble f m)= .mk g at h;cases a:Nat.ble f m with
   |true=>rw[a]at h;exact RW b.1 h
   |false=>rw[a]at h;exact RW b.2 h
theorem Dy{gl:eh}{P:Program}{T:my}(b:qz gl P T):∀n,kS gl P (bR T n)
 |0=>by intro f args ub aC c d e i h;cases h
 |n+1=>by
  intro f args ub aC c d e i h;change @bH.rec (λ_=>ay) .aF (λg=>g (bR T n) args ub aC) (look T f)=_ at h;cases a:look T f with
  |aF=>rw[a]at h;cases h
  |mk g=>rw[a]at h;exact RW b a (bR T n) (Dy b n) args ub aC c d e i h
theorem awU{T:my}(d:qz gl P T){n f:Nat}{args:az}{a:ao}{aC:cD}{b:List Nat}(h:bR T n f args 0 .nil= .ok a 0 aC b):wH gl P f (args.map bk) (bk a):=by obtain⟨c,_,e⟩:=Dy d n f args 0 .nil a 0 aC b h;rw[xC,xC]at c;refine⟨c,?_⟩;rw[p3];exact DJ.2 λk g=>Nat.not_lt_zero k (e k g)
end
end
section
variable{α:Type}{P:Program}
section
variable[Tok]
def KS{α:Type}(x:ao)(k:ao->α):α:=
 @ao.rec (λ_=>α) (λ_=>PUnit) (λ_=>PUnit) (k .undef) (λv=>k (.U v)) (λa c=>k (.ag a c)) (λa c=>k (.s a c)) (k .ba) (λv=>k (.bo v)) (λcs _=>k (.agg cs)) (λcs _=>k (.bD cs)) (λn es _=>k (.aN n es)) (λcs o _=>k (.gk cs o)) (λa s o=>k (.aQ a s o)) (λa s o l=>k (.aV a s o l)) (λa s i o=>k (.eP a s i o)) (λa s=>k (.fX a s)) (λf cs _=>k (.ey f cs)) (λi=>k (.tok i)) PUnit.unit (λ_ _ _ _=>PUnit.unit) PUnit.unit (λ_ _ _ _=>PUnit.unit) x
theorem aar(x:ao)(k:ao->α):KS x k=k x:=by cases x<;>rfl
def IZ(l:List Nat):rC l->cO->aO->ay:=
 @List.rec Nat (λl=>rC l->cO->aO->ay) (λj _ h=>j h) (λs _ a j e h=>KS (e s) λv=>a (j v) e h) l
theorem af5: @IZ= @jg:=by
 funext l j e h;induction l with
 |nil=>rfl
 |cons s l a=>show(KS (e s) λv=>IZ l (j v) e h)=jg l (j (e s)) e h;rw[aar,a]
def RO(l:List Nat)(f:cO->aO->ay):cO->rC l:=
 @List.rec Nat (λl=>cO->rC l) (λe=>f e) (λs _ a e v=>a λj=> @Bool.rec (λ_=>ao) (e j) v (Nat.beq j s)) l
theorem aqL:RO=kZ:=by
 funext l f e;induction l generalizing e with
 |nil=>rfl
 |cons s l a=>funext v;show RO l f (tB e s v)=kZ l f (tB e s v);rw[a]
def p6{α b:Type}(f:α->b)(l:List α):List b:= @List.rec α (λ_=>List b) [] (λa _ c=>f a::c) l
theorem Lz{b:Type}(f:α->b)(l:List α):p6 f l=l.map f:=by
 induction l with
 |nil=>rfl
 |cons a l c=>show f a::p6 f l=_;rw[c];rfl
def ZA(e:cO)(x:Operand):ao:= @Operand.rec (λ_=>ao) (λt=>e t) (λv=>Gn v) (λ_=> .undef) (λf=> .bo (.func (.func f) #[] #[])) x
theorem amy:ZA=e7:=by funext e x;cases x<;>rfl
inductive IK where
 |mk (f:Fn->Nat->Bool->(Operand->ao)->aO->dv->ay)
def Zf(o:dg)(d:Nat):mA->IK
 | .qa x=> .mk λu b bu ev h k=>k (ev x) h
 | .pick c x y=> .mk λu b bu ev h k=>cS (ev c) (ev x) (ev y) λv=>k v h
 | .alloc t zero=> .mk λu b bu ev h k=>dw t b d (lw bu o) (zero.map kY) h k
 | .box t x=> .mk λu b bu ev h k=>eR t b d (lw bu o) (ev x) h k
 | .build zero ps=> .mk λu b bu ev h k=>Lb (zero.map kY) (p6 (λq=>(q.1,q.2.1,ev q.2.2)) ps) λv=>k v h
 | .oN e sz zero len ps bL=> .mk λu b bu ev h k=>La b d (lw bu o) e sz (zero.map kY) len (p6 (λq=>(q.1,ev q.2)) ps) bL h k
 | .p9 m x _=> .mk λu b bu ev h k=>lJ b (lw bu o) (MX h.am (ev m) (ev x)) h k
 | .pY _ sz zero len ps=> .mk λu b bu ev h k=>Lj b (lw bu o) sz (zero.map kY) len (p6 (λq=>(q.1,ev q.2)) ps) h k
 | .load isAgg n a=> .mk λu b bu ev h k=>bh h.am isAgg n (ev a) λv=>k v h
 | .store n a v=> .mk λu b bu ev h k=>bl b (lw bu o) n (ev a) (ev v) h k
 | .sg x=> .mk λu b bu ev h k=>lS (ev x) λv=>k v h
 | .rR g x y=> .mk λu b bu ev h k=>RD g (ev x) (ev y) λv=>k v h
 | .rS neg x y=> .mk λu b bu ev h k=>xY neg (ev x) (ev y) λv=>k v h
 | .rZ neg x y=> .mk λu b bu ev h k=>iP neg (ev x) (ev y) λv=>k v h
 | .r5 neg x=> .mk λu b bu ev h k=>Lm neg (ev x) λv=>k v h
 | .pd g x=> .mk λu b bu ev h k=>Lq g (ev x) λv=>k v h
 | .rU p x=> .mk λu b bu ev h k=>dj (qp p (ev x)) λv=>k v h
 | .qI x=> .mk λu b bu ev h k=>dj (tC h.am (ev x)) λv=>k v h
 | .p8 e sz bytes zero l c=> .mk λu b bu ev h k=>lJ b (lw bu o) (rj (Nat.add b d) e sz bytes (h.am (Nat.add b d)).cH (zero.map kY) (ev l) (ev c)) h k
 | .sr x lo hi=> .mk λu b bu ev h k=>p2 (ev x) (lo.map ev) (hi.map ev) λv=>k v h
 | .ri sz x lo hi=> .mk λu b bu ev h k=>td h.am sz (ev x) (lo.map ev) (hi.map ev) λv=>k v h
 | .pW o x=> .mk λu b bu ev h k=>bz o (ev x) λv=>k v h
 | .r0 isAgg off n x=> .mk λu b bu ev h k=>Li isAgg off n (ev x) λv=>k v h
 | .qU sz x i=> .mk λu b bu ev h k=>de h.am sz (ev x) (ev i) λv=>k v h
 | .sq x i=> .mk λu b bu ev h k=>ne (ev x) (ev i) λv=>k v h
 | .ext x i=> .mk λu b bu ev h k=>cP (ev x) i λv=>k v h
 | .len kq x=> .mk λu b bu ev h k=>cv kq (ev x) λv=>k v h
 | .append e sz bytes s x bL=> .mk λu b bu ev h k=>fW b d (lw bu o) e sz bytes (ev s) (ev x) bL h k
 | .n7 e bytes s x bL=> .mk λu b bu ev h k=>CP b d (lw bu o) e bytes (ev s) (ev x) bL h k
 | .q0 r x y=> .mk λu b bu ev h k=>dj (rm r (ev x) (ev y)) λv=>k v h
 | .rO n sz x i=> .mk λu b bu ev h k=>dj (M1 n sz (ev x) (ev i)) λv=>k v h
 | .gE g x y=> .mk λu b bu ev h k=>dj (yF g (ev x) (ev y)) λv=>k v h
 | .bits g x y=> .mk λu b bu ev h k=>dj (lZ g (ev x) (ev y)) λv=>k v h
 | .sf f cR=> .mk λu b bu ev h k=>dj (AH f (p6 ev cR)) λv=>k v h
 | .qZ=> .mk λu b bu ev h k=>lJ b (lw bu o) (some (.fX (Nat.add b d) (Nat.add (h.am (Nat.add b d)).cH 1),[(Nat.add b d,.map (Nat.add (h.am (Nat.add b d)).cH 1) [])])) h k
 | .pD j m x v=> .mk λu b bu ev h k=>lJ b (lw bu o) (yD h.am j (ev m) (ev x) (ev v)) h k
 | .pC j w zero m x=> .mk λu b bu ev h k=>dj (u0 h.am j w zero (ev m) (ev x)) λv=>k v h
 |_=> .mk λu b bu ev h k=> .aF
def Cs(o:dg):IK:=
 match o.ak with
 | .call (.func f) args=> .mk λu b bu ev h k=>CQ u b (lw bu o) f (p6 ev args) h k
 | .call f args=> .mk λu b bu ev h k=>zX u b (lw bu o) (ev f) (p6 ev args) h k
 | .hK (.func f) args a=> .mk λu b bu ev h k=> @Bool.rec (λ_=>ay) (CU u b f [] (p6 ev args) a h k) (@Bool.rec (λ_=>ay) .aF (CV u b o.cb o.bG f [] (p6 ev args) a h k) (e3 o.cb 4097)) bu
 | .hK f args a=> .mk λu b bu ev h k=> @Bool.rec (λ_=>ay) (nd u b (ev f) (p6 ev args) a h k) (@Bool.rec (λ_=>ay) .aF (x0 u b o.cb o.bG (ev f) (p6 ev args) a h k) (e3 o.cb 4097)) bu
 |r=>Zf o (Nat.add r.off (o.dst.getD 0)) r
def Ay(o:dg)(u:Fn)(b:Nat)(bu:Bool)(ev:Operand->ao)(h:aO)(k:dv):ay:= @IK.rec (λ_=>ay) (λf=>f u b bu ev h k) (Cs o)
theorem avw(o:dg)(u:Fn)(b:Nat)(bu:Bool)(ev:Operand->ao)(h:aO)(k:dv):Ay o u b bu ev h k=iG u b bu o ev h k:=by
 obtain⟨a,g,r,rk,wk⟩:=o;cases r with
 |call f args=>cases f<;>(unfold Ay Cs;simp only[Lz];rfl)
 |hK f args c=>cases f<;>(unfold Ay Cs;simp only[Lz];rfl)
 |_=>(unfold Ay Cs Zf;simp only[Lz];rfl)
def QF(o:dg)(u:Fn)(b:Nat)(bu:Bool)(ev:Operand->ao)(h:aO)(k:dv):ay:=
 @Bool.rec (λ_=>ay) (Ay o u b bu ev h k) (met b o.cb (p6 ev (C5 o.ak)) (Ay o u b bu ev h k)) (bu&&o.ak.looks)
theorem amc(o:dg)(u:Fn)(b:Nat)(bu:Bool)(ev:Operand->ao)(h:aO)(k:dv):QF o u b bu ev h k=rX u b bu o ev h k:=by unfold QF rX;rw[avw,Lz]
inductive jm where
 |mk (f:Fn->Nat->cO->aO->(cO->aO->ay)->ay)
def jm.run(s:jm)(u:Fn)(b:Nat)(e:cO)(h:aO)(k:cO->aO->ay):ay:= @jm.rec (λ_=>ay) (λf=>f u b e h k) s
inductive m3 where
 |mk (p:cO->ao->cO)
def m3.run(s:m3)(e:cO)(v:ao):cO:= @m3.rec (λ_=>cO) (λf=>f e v) s
def Dl(o:Option Nat):m3:= @Option.rec Nat (λ_=>m3) (.mk λe _=>e) (λt=> .mk λe v j=> @Bool.rec (λ_=>ao) (e j) v (Nat.beq j t)) o
theorem adi(o:Option Nat)(e:cO)(v:ao):(Dl o).run e v=nq e o v:=by cases o<;>rfl
def z7(os:List dg):m3:= @List.rec dg (λ_=>m3) (.mk λe _=>e) (λo _ a=> @m3.rec (λ_=>m3) (λp=> @m3.rec (λ_=>m3) (λq=> .mk λe v=>q (p e v) v) a) (Dl o.dst)) os
theorem acg:∀(os:List dg) (e:cO),(z7 os).run e (.bD [])=qY os e
 |[],_=>rfl
 |o::os,e=>by show(z7 (o::os)).run e (.bD [])=qY os (nq e o.dst (.bD []));rw[<-acg os,<-adi o.dst];show m3.run (@m3.rec (λ_=>m3) (λp=> @m3.rec (λ_=>m3) (λq=> .mk λe v=>q (p e v) v) (z7 os)) (Dl o.dst)) e (.bD [])=_;cases Dl o.dst;cases z7 os;rfl
def MB(x y:jm):jm:= @jm.rec (λ_=>jm) (λf=> @jm.rec (λ_=>jm) (λg=> .mk λu b e h k=>f u b e h λe h=>g u b e h k) y) x
theorem ad3(x y:jm)(u:Fn)(b:Nat)(e:cO)(h:aO)(k:cO->aO->ay):(MB x y).run u b e h k=x.run u b e h λe h=>y.run u b e h k:=by cases x;cases y;rfl
def QS(f:Fn->Nat->cO->(Operand->ao)->aO->(cO->aO->ay)->ay):jm:=
 .mk λu b e h k=>f u b e (λx=> @Operand.rec (λ_=>ao) (λt=>e t) (λv=>KS (Gn v) λc=>c) (λ_=> .undef) (λf=> .bo (.func (.func f) #[] #[])) x) h k
theorem ZB(f:Fn->Nat->cO->(Operand->ao)->aO->(cO->aO->ay)->ay)(u:Fn)(b:Nat)(e:cO)(h:aO)(k:cO->aO->ay):(QS f).run u b e h k=f u b e (e7 e) h k:=by
 show f u b e _ h k=_;congr 1;funext x;cases x with
 |const v=>exact aar _ _
 |_=>rfl
def L5(bu:Bool)(o:dg):jm:=
 @IK.rec (λ_=>jm) (λf=> @m3.rec (λ_=>jm) (λp=> @Bool.rec (λ_=>jm) (QS λu b e ev h k=>f u b bu ev h λv h'=>k (p e v) h')
  (QS λu b e ev h k=>met b o.cb (p6 ev (C5 o.ak)) (f u b bu ev h λv h'=>k (p e v) h')) (bu&&o.ak.looks)) (Dl o.dst)) (Cs o)
theorem atQ(bu:Bool)(o:dg)(u:Fn)(b:Nat)(e:cO)(h:aO)(k:cO->aO->ay):(L5 bu o).run u b e h k=rX u b bu o (e7 e) h λv h'=>k (nq e o.dst v) h':=by rw[<-amc];unfold L5 QF Ay;simp only[<-adi];cases Cs o;cases Dl o.dst;cases bu&&o.ak.looks;exact ZB _ _ _ _ _ _;exact ZB _ _ _ _ _ _
def Dj(bu:Bool)(os:List dg):jm:= @List.rec dg (λ_=>jm) (.mk λ_ _ e h k=>k e h) (λo _ a=>MB (L5 bu o) a) os
theorem SK(bu:Bool):∀(os:List dg) (u:Fn) (b:Nat) (e:cO) (h:aO) (k:cO->aO->ay),(Dj bu os).run u b e h k=oa u b bu os e h k
 |[],_,_,_,_,_=>rfl
 |o::os,u,b,e,h,k=>by show(MB (L5 bu o) (Dj bu os)).run u b e h k=rX u b bu o (e7 e) h λv h'=>oa u b bu os (nq e o.dst v) h' k;rw[ad3,atQ];simp only[SK bu os]
theorem Ze{u:Fn}{b:Nat}{bu:Bool}:∀(os:List dg) (aR:cO) (h:aO) (a c:cO->aO->ay),(∀e h,(∀i,i∉kl os->e i=aR i)->a e h=c e h)->oa u b bu os aR h a=oa u b bu os aR h c
 |[],aR,h,_,_,H=>H aR h λ_ _=>rfl
 |o::os,aR,h,a,c,H=>by show rX u b bu o (e7 aR) h (λv h'=>oa u b bu os (nq aR o.dst v) h' a)=rX u b bu o (e7 aR) h (λv h'=>oa u b bu os (nq aR o.dst v) h' c);congr 1;funext v h';refine Ze os _ _ _ _ λe d g=>H e d λi hi=>?_;rw[Ku,fq]at hi;rw[g i λj=>hi (.inr j),Hp aR o.dst v i λt k e=>hi (.inl (by rw[k,e];exact List.mem_singleton_self _))]
theorem acf:∀(os:List dg) (aR:cO) (i:Nat),i∉kl os->qY os aR i=aR i
 |[],_,_,_=>rfl
 |o::os,aR,i,hi=>by rw[Ku,fq]at hi;show qY os (nq aR o.dst (.bD [])) i=_;rw[acf os _ i λa=>hi (.inr a),Hp aR o.dst _ i λt b e=>hi (.inl (by rw[b,e];exact List.mem_singleton_self _))]
def Ri(bu:Bool)(g:Option (Nat×Bool))(os:List dg):jm:=
 @Bool.rec (λ_=>jm) (.mk λ_ _ _ _ _=> .aF)
  (@Option.rec (Nat×Bool) (λ_=>jm) (Dj bu os)
   (λp=> @m3.rec (λ_=>jm) (λm=> @jm.rec (λ_=>jm) (λf=> .mk λu b e h k=>cZ (e p.1) p.2 (f u b e h k) (k (m e (.bD [])) h)) (Dj bu os)) (z7 os)) g) (os.all (under g))
theorem an9(bu:Bool)(g:Option (Nat×Bool))(os:List dg)(u:Fn)(b:Nat)(e:cO)(h:aO)(k:cO->aO->ay):(Ri bu g os).run u b e h k=uh u b bu g os e h k:=by
 unfold Ri uh;cases os.all (under g) with
 |false=>rfl
 |true=>
  cases g with
  |none=>exact SK bu os u b e h k
  |some p=>show _=cZ (e p.1) p.2 (oa u b bu os e h λa c=>jg (kl os) (kZ (kl os) k e) a c) (jg (kl os) (kZ (kl os) k e) (qY os e) h);rw[Ze os e h _ k (λa c d=>I0 d),I0 (acf os e),<-SK,<-acg];show jm.run (@m3.rec (λ_=>jm) (λm=> @jm.rec (λ_=>jm) (λf=> .mk λu b e h k=>cZ (e p.1) p.2 (f u b e h k) (k (m e (.bD [])) h)) (Dj bu os)) (z7 os)) u b e h k=_;cases z7 os;cases Dj bu os;rfl
def Mv(bu:Bool)(bS:List dg):jm:= @List.rec (Option (Nat×Bool)×List dg) (λ_=>jm) (.mk λ_ _ e h k=>k e h) (λp _ a=>MB (Ri bu p.1 p.2) a) (yy bS)
theorem auP(bu:Bool)(bS:List dg)(u:Fn)(b:Nat)(e:cO)(h:aO)(k:cO->aO->ay):(Mv bu bS).run u b e h k=sX u b bu bS e h k:=by
 unfold Mv sX Cr;generalize yy bS=l;induction l generalizing e h k with
 |nil=>rfl
 |cons p l a=>refine(ad3 _ _ u b e h k).trans ((an9 bu p.1 p.2 u b e h _).trans ?_);show uh u b bu p.1 p.2 e h _=uh u b bu p.1 p.2 e h _;congr 1;funext e h;exact a e h k
def xz(u:Fn)(b n:Nat)(c:hH):cO->aO->(cO->aO->ay)->(Nat->cO->aO->ay)->(cO->aO->ay)->ay:=
 @hH.rec (λ_=>cO->aO->(cO->aO->ay)->(Nat->cO->aO->ay)->(cO->aO->ay)->ay)
  (λaR h dA _ _=>dA aR h)
  (λbu bS aR h dA _ _=> @jm.rec (λ_=>ay) (λf=>f u b aR h dA) (Mv bu bS))
  (λ_ _ k g aR h dA a e=>k aR h (λaR h=>g aR h dA a e) a e)
  (λl _ _ k g aR h dA a e=>dy (kZ l (λaR h=>g aR h dA a e) lT) λj=>k aR h (λaR h=>jg l j aR h) a e)
  (λc _ _ k g aR h dA a e=>bp (ZA aR c) (k aR h dA a e) (g aR h dA a e))
  (λid _ g aR h dA a e=>g aR h dA (λi=> @Bool.rec (λ_=>cO->aO->ay) (a i) dA (Nat.beq i id)) e)
  (λl _ g aR h _ a e=>IZ l (lj l n λj=>RO l (λaR h=>g aR h (λaR h=>IZ l j aR h) a e) lT) aR h)
  (λid aR h _ a _=>a id aR h)
  (λaR h _ _ e=>e aR h)
  (λ_ d aR h dA _ _=>d b aR h dA) c
theorem amg: @xz= @den:=by
 have e:(λu b bu bS aR h dA=> @jm.rec (λ_=>ay) (λf=>f u b aR h dA) (Mv bu bS))=sX:=by funext u b bu bS aR h dA;exact auP bu bS u b aR h dA
 unfold xz den;rw[af5,aqL,amy,<-e]
def Tl(f:cO->ay)(m:Nat):Nat->cO->az->ay:=
 @Nat.rec (λ_=>Nat->cO->az->ay) (λ_ e l=>dF l (f e)) (λ_ b i e l=>b0 l λa r=>b (Nat.add i 1) (λj=> @Bool.rec (λ_=>ao) (e j) a (Nat.beq j i)) r) m
theorem awM:Tl=AC:=by
 funext f m i e l;induction m generalizing i e l with
 |zero=>rfl
 |succ m b=>show(b0 l λa r=>Tl f m (i+1) (tB e i a) r)=b0 l λa r=>AC f m (i+1) (tB e i a) r;simp only[b]
def Za(np n:Nat)(c:hH)(fT:List jS)(fj:List Bool)(u:Fn)(args:az)(b:Nat)(aC:cD):ay:=
 Tl (λaR=>xz u b n c aR (bN b aC) (qR b fT fj) (λ_ _ _=> .aF) (qR b fT fj)) np 0 lT args
def sJ(c:hJ):List (Option (List Nat))->hH×List (Option (List Nat)):=
 @hJ.rec (λ_=>List (Option (List Nat))->hH×List (Option (List Nat))) (λl=>(.skip,l)) (λd o l=>(.region d o,l)) (λ_ _ b a l=>(.seq (b l).1 (a (b l).2).1,(a (b l).2).2))
  (λc _ _ b a l=>(.cond c (b l).1 (a (b l).2).1,(a (b l).2).2)) (λid _ a l=>(.block id (a l).1,(a l).2)) (λ_ a l=>(.loop ((l.headD none).getD []) (a l.tail).1,(a l.tail).2))
  (λid l=>(.exit id,l)) (λl=>(.ret,l)) (λk l=>(.mI k λ_ _ _ _=> .aF,l)) c
theorem afY(c:hJ)(l:List (Option (List Nat))):(sJ c l).1.gP=c:=by
 induction c generalizing l with
 |seq a b e d=>show hJ.seq (sJ a l).1.gP (sJ b (sJ a l).2).1.gP=_;rw[e,d]
 |cond c a b e d=>show hJ.cond c (sJ a l).1.gP (sJ b (sJ a l).2).1.gP=_;rw[e,d]
 |block id b d=>show hJ.block id (sJ b l).1.gP=_;rw[d]
 |loop b d=>show hJ.loop (sJ b l.tail).1.gP=_;rw[d]
 |_=>rfl
theorem afX(gl:eh)(b:Nat)(c:hJ)(l:List (Option (List Nat))):nE gl b (sJ c l).1:=by
 induction c generalizing l with
 |seq x y a d=>exact⟨a l,d _⟩
 |cond c x y a d=>exact⟨a l,d _⟩
 |block id x a=>exact a l
 |loop x a=>exact a l.tail
 |mI k=>exactλ_ _ _ _ h=>absurd rfl h
 |_=>trivial
def SZ(P:Program)(H:jk)(n:Nat)(bS:Array Oper)(bu:Bool):hJ:= @Option.rec (List dg) (λ_=>hJ) oL (λps=> .region bu ps) (qd P H n bu bS bS.toList)
def xx(P:Program)(H:jk)(n:Nat):Code->hJ
 | .skip=> .skip
 | .region _ bS bu=>SZ P H n bS bu
 | .seq a b=> .seq (xx P H n a) (xx P H n b)
 | .cond c a b=>if c6 c then .cond c (xx P H n a) (xx P H n b) else oL
 | .block id b=> .block id (xx P H n b)
 | .loop b=> .loop (xx P H n b)
 | .exit id=> .exit id
 | .label _=> .skip
 | .ret=> .ret
 |_=>oL
def ui(P:Program)(H:jk)(n:Nat):Code->Bool
 | .region _ bS bu=> !bu|| @Option.rec (List dg) (λ_=>Bool) true (λps=>Gk bS ps) (qd P H n bu bS bS.toList)
 | .seq a b=>ui P H n a&&ui P H n b
 | .cond _ a b=>ui P H n a&&ui P H n b
 | .block _ b=>ui P H n b
 | .loop b=>ui P H n b
 |_=>true
theorem alU{H:jk}{n:Nat}(c:Code)(h:ui P H n c=true):xx P H n c=comp P H n c:=by
 induction c with
 |region _ bS bu=>
  show SZ P H n bS bu=Ax P H n bS bu;unfold SZ Ax;unfold ui at h;cases e:qd P H n bu bS bS.toList with
  |none=>rfl
  |some ps=>rw[e]at h;show hJ.region bu ps=if !bu||Gk bS ps then _ else _;rw[dr h]
 |seq a b g d=>have h':=Bool.and_eq_true_iff.1 h;show hJ.seq _ _=hJ.seq _ _;rw[g h'.1,d h'.2]
 |cond c a b g d=>have h':=Bool.and_eq_true_iff.1 h;show(if c6 c then hJ.cond c _ _ else oL)=if c6 c then hJ.cond c _ _ else oL;rw[g h'.1,d h'.2]
 |block id b d=>show hJ.block id _=hJ.block id _;rw[d h]
 |loop b d=>show hJ.loop _=hJ.loop _;rw[d h]
 |_=>rfl
def bI.xz(P:Program)(d:bI):jj:=Za d.h6 1000000 (sJ (xx P d.aE d.fn.ntmps (n9 d.fn)) d.kb).1 d.ff d.eW
theorem ajY{gl:eh}(d:bI)(c:P.follows .mixedOrders=true)(e:P.funcs[d.f]? =some d.fn)(a:d.fn.body.isSome=true)
 (g:(d.fn.name== "runtime.NumGoroutine")=false)(i:Nat.ble d.h6 d.fn.ntmps=true)(j:oq P d.fn.results.toList=some d.ff)(k:ui P d.aE d.fn.ntmps (n9 d.fn)=true):iE gl P d.f (d.xz P):=by
 intro u l args ub aC p q r t h;have n:d.fn.body=some (n9 d.fn):=by
  unfold n9;cases o:d.fn.body with
  |none=>rw[o]at a;cases a
  |some b=>rfl
 unfold bI.xz Za at h;rw[Go.Hf.amg,awM,alU _ k]at h;exact Zb l (H:=d.aE) (λb=>afX gl b _ _) c e n g (dX i) j (afY _ _) h
end
end
end Go.Hf

import Derived.Test.YthiipifjdfmblaaGreatDoorAf
import Derived.KernelRfl
import Derived.Lib.LaidTab
import Derived.Lib.Builder
import Derived.Lib.UnsafeStr
import Derived.Recover
import Derived.RangeFuncRecord
set_option linter.all false
namespace Go.Hf
open Go.RowKit
section
variable{a:aw} {x:an} {k:dg} {b fid:Nat} {wk:Option (List Nat)} {h:aI} {g:Option (Nat×Bool)} {u:Fn} {aEI:Bool} {o:ey} {f:Operand} {args:List Operand} {aEJ:dG} {p:aG} {aEF:aB} {frz:List Bool} {os:List ey}
section
variable[Tok]
noncomputable def fh(aEJ:dG)(h:aI):df:=⟨λi=>bi (aEJ i),h.iQ⟩
theorem sA(aEJ:dG)(h:aI):(λx=>bi (et aEJ x))=c9 (fh aEJ h).aC:=by
 funext x;cases x with
 |tmp t=>rfl
 |const v=>exact aDT v
 |func f=>simp only[et,bi];rfl
 |global g=>simp only[et,bi];rfl
theorem Wj(aEJ:dG)(h h':aI)(d:Option Nat)(v:an):fh (rT aEJ d v) h'=⟨put (fh aEJ h).aC d (bi v),h'.iQ⟩:=by
 cases d with
 |none=>rfl
 |some t=>
  show df.mk _ _=df.mk _ _;congr 1;funext j;show bi (@Bool.rec (λ_=>an) (aEJ j) v (Nat.beq j t))=if j=t then bi v else bi (aEJ j);by_cases e:j=t
  ·subst e;rw[D1,cv rfl]
  ·rw[uI (λx=>e x.symm),cU e]
theorem h7.U{x y:Option an}{k:an->aw}(s:h7 a x k)(e:x=y):h7 a y k:=e▸s
theorem nX.U{x y:n0}(s:nX b wk a x h k)(e:x=y):nX b wk a y h k:=e▸s
theorem nX.gY{x:n0}:nX b wk .ax x h k:=λh=>absurd rfl h
theorem ar8{d:Nat}{ev:Operand->an}{r:nw}:nX b wk (Hy b d wk ev h k r) (oS ev h.aj (b+d) r) h k:=by
 cases r with
 |qg x=>exact(h7.Y (x:=some (ev x)) λ_=>⟨_,rfl,rfl⟩)
 |pick c x y=>exact(aDr _ _ _ _).Y
 |alloc t zero=>exact VS _ _ _ _ _ _ _
 |box t x=>exact akw _ _ _ _ _ _ _
 |build zero ps=>refine(h7.Y (afp _ _ _)).U ?_;simp only[oS];cases uv (zero.map mm) (ps.map λq=>(q.1,q.2.1,ev q.2.2))<;>rfl
 |m4 e sz zero len ps aEQ=>refine(arJ _ _ _ _ _ _ _ _ _ _ _).U ?_;simp only[oS,Mq,tx];rfl
 |load isAgg n a=>exact(aeY _ _ _ _ _).Y
 |store n a v=>exact aiY _ _ _ _ _ _ _
 |qj x=>exact(aAR _ _).Y
 |qo j x y=>exact(akL _ _ _ _).Y
 |p1 w x y=>exact(ard _ _ _ _).Y
 |qn w x y=>exact(aEs _ _ _ _).Y
 |pK w x=>exact(al6 _ _ _).Y
 |nC j x=>exact(afP _ _ _).Y
 |p4 z x=>exact(se _ _).Y
 |oQ x=>exact(se _ _).Y
 |oJ e sz bytes zero l c=>exact Bu _ _ _ _ _
 |p9 x lo hi=>exact(aAq _ _ _ _).Y
 |o9 sz x lo hi=>exact(amn _ _ _ _ _ _).Y
 |p6 o x=>exact(auX _ _ _).Y
 |p5 isAgg off n x=>exact(aoQ _ _ _ _ _).Y
 |ji sz x i=>exact(aAT _ _ _ _ _).Y
 |pJ x i=>exact(anr _ _ _).Y
 |ext x i=>exact(anQ _ _ _).Y
 |len A x=>exact(azM _ _ _).Y
 |append e sz bytes s x aEQ=>exact Wq _ _ _ _ _ _ _ _ _ _ _
 |mM e bytes s x aEQ=>exact aCX _ _ _ _ _ _ _ _ _ _
 |kV B x y=>exact(se _ _).Y
 |pB n sz x i=>exact(se _ _).Y
 |e0 j x y=>exact(se _ _).Y
 |bits j x y=>exact(se _ _).Y
 |qa f aEF=>exact(se _ _).Y
 |pF x=>exact(se _ _).Y
 |oy e sz bytes zero s x aEQ=>exact Bu _ _ _ _ _
 |oO e sz zero x=>exact Bu _ _ _ _ _
 |oF n x=>exact Bu _ _ _ _ _
 |_=>exact nX.gY
section
variable{gl:eI} {P:Program}
noncomputable def hq(ub:Nat)(l:b1):Nat->Obj:=λk=>eJ (cE ub l k)
def mD(gl:eI)(P:Program)(u:Fn):Prop:=
 ∀f args ub aET d c e i,u f args ub aET= .ok d c e i->lx gl P f (args.map bi) (hq ub aET) (bi d) (hq c e)/\
  (∀k,k<ub->k∉i->cE c e k=cE ub aET k)/\∀k∈d.cR,k<c
theorem vD(l:b1):hq 0 l=qY:=by funext k;show eJ (cE 0 l k)= .ax 0;rw[jz (ik k)];rfl
theorem Va(h:aI):h.iQ=hq h.ar h.au:=by funext k;show eJ (h.aj k)=_;rw[aI.aki];rfl
theorem Yq{g:Nat->aB->aw}(h:EZ x g≠ .ax):∃f aEF,oH (bi x)=some (f,aEF.map bi)/\EZ x g=g f aEF:=by
 unfold EZ at h ⊢;split at h
 ·exact⟨_,[],by simp only[bi,mC];rfl,rfl⟩
 ·exact⟨_,_,by simp only[bi,lm];rfl,rfl⟩
 ·exact absurd rfl h
theorem afx{g:Nat->aw}(h:H4 x g≠ .ax):∃f,bi x= .bu (.func (.func f) #[] #[])/\H4 x g=g f:=by
 unfold H4 at h ⊢;split at h
 ·exact⟨_,by simp only[bi],rfl⟩
 ·exact absurd rfl h
theorem Mg{b x:Nat}(c:x<b):∀{l:List Nat},x∈l->x∈gZ b l
 |y::r,h=>by
  show x∈ @Bool.rec (λ_=>List Nat) (gZ b r) (y::gZ b r) (Nat.ble (Nat.succ y) b);rcases gy.1 h with rfl|h
  ·have:Nat.ble (Nat.succ x) b=true:=qQ c;rw[this];exact eS
  ·cases Nat.ble (Nat.succ y) b with
   |true=>exact gv _ (Mg c h)
   |false=>exact Mg c h
def uU(gl:eI)(P:Program)(b:Nat)(aEI:Bool)(o:ey)(aEJ:dG)(h:aI)(a:aw)(k:dg):Prop:=
 a≠ .ax->∃v h',hT b h h'/\a=k v h'/\
  ∀K:df->Prop,K ⟨put (fh aEJ h).aC o.dst (bi v),h'.iQ⟩->Pr b aEI o (c9 (fh aEJ h).aC)->l6 (fh aEJ h).aC o.guard=some true->nW gl P b aEI o (fh aEJ h) K
theorem Yp(q:mD gl P u)(r:o.ai= .call f args)
 (t:c9 (fh aEJ h).aC f= .bu (.func (.func fid) #[] #[])):uU gl P b aEI o aEJ h (Cn u b (qT aEI o) fid (args.map (et aEJ)) h k) k:=by
 intro c;unfold Cn at c ⊢;obtain⟨ps,us,w,e⟩:=zb c;rw[e] at c ⊢;unfold bH at c ⊢;obtain⟨y,e⟩:=dV c;rw[e] at c ⊢;have j:=B9 w;rw[sA aEJ h] at j;cases i:u fid ps 0 .nil with
 |ax=>rw[i] at c;exact absurd rfl c
 |ok d l J L=>
  rw[i] at c;change bf (Nat.beq l 0) (pr b us h λh'=>k d h') .ax≠ .ax at c;show∃v h',hT b h h'/\bf (Nat.beq l 0) (pr b us h λh'=>k d h') .ax=k v h'/\_;obtain⟨z,e⟩:=dV c;rw[e] at c ⊢;obtain⟨h',A,B⟩:=xG c;have C:=gz z;subst C;obtain⟨aS,cZ,gg⟩:=A;refine⟨d,h',aS,B,λK n D E=>?_⟩;obtain⟨c1,_,G⟩:=q _ _ _ _ _ _ _ _ i;rw[vD,vD] at c1;unfold nW;rw[E];refine⟨D,?_⟩;simp only[r];rw[t];simp only[];have H:iU (c9 (fh aEJ h).aC) (fh aEJ h).bo [] args=some (ps.map bi,us.map hR):=j;rw[H];refine⟨bi d,⟨c1,?_⟩,Kw y,?_⟩
  ·rw[pb];exact AY.2 λk I=>Nat.not_lt_zero k (G k I)
  ·rw[cZ] at n;exact n
theorem PC(d:mD gl P u)(i:o.ai= .call f args):
 uU gl P b aEI o aEJ h (Bb u b (qT aEI o) (et aEJ f) (args.map (et aEJ)) h k) k:=by
 intro c;unfold Bb at c ⊢;obtain⟨fid,j,e⟩:=afx c;rw[e] at c ⊢;refine Yp d i ?_ c;rw[<-sA aEJ h];exact j
theorem Sc{b:Nat}{wk:List Nat}:∀{l:List Nat},sS b wk l=true->∀k∈l,fl b k∈wk
 |x::r,h,k,c=>by
  have h':cS (eb wk (iD b x)) (sS b wk r)=true:=h;rw[jg,cg] at h';rcases gy.1 c with rfl|c
  ·have:=sK h'.1;rw[wb] at this;exact this
  ·exact Sc h'.2 k c
theorem av6{k:Nat}(h:k∈p.cf):k∈p.cR:=by cases p<;>first|exact h|cases h
theorem aoU{aEF:dA}(h:oH p=some (fid,aEF)){k:Nat}(c:k∈p.cR):∃x∈aEF,k∈x.cR:=by
 cases p with
 |gJ f cs=>simp only[oH,dD,io] at h;obtain⟨_,rfl⟩:=h;obtain⟨x,d,e⟩:=nG.1 (show k∈cs.flatMap aG.cf from c);exact⟨x,d,av6 e⟩
 |bu v=>cases c
 |_=>simp[oH] at h
theorem ZT(t:mD gl P u){ps:aB}{us:eH}(N:o.ai= .hV f args frz)
 (E:oH (c9 (fh aEJ h).aC f)=some (fid,aEF.map bi))(r:pN h.aj frz (args.map (et aEJ))=some (ps,us)){ub:Nat}{aET:b1}{d:List Nat}(O:xI b us h (.mk ub aET d)){w:an}{i:Nat}{j:b1}{l:List Nat}(Q:u fid (ps++aEF) ub aET= .ok w i j l)
 (hb:b+4096<=h.ar)(R:ub<=i)(A:aEI=true->4097∈o.bT/\(∀u∈us,fl b u.1∈o.a7)/\(∀k∈l,fl b k∈o.a7)/\(ub=i\/4096∈o.a7/\4098∈o.a7)/\AS b o.bT o.a7 us (args.map (et aEJ)++(ps++aEF)) aET j w=true):
 hT b h (.mk i j (aA (gZ b l) d))/\∀K:df->Prop,K ⟨put (fh aEJ h).aC o.dst (bi w),(aI.mk i j (aA (gZ b l) d)).iQ⟩->Pr b aEI o (c9 (fh aEJ h).aC)->l6 (fh aEJ h).aC o.guard=some true->nW gl P b aEI o (fh aEJ h) K:=by
 obtain⟨aS,cZ,gg⟩:=O;have G:=B9 r;rw[sA aEJ h] at G;obtain⟨c1,c2,_⟩:=t _ _ _ _ _ _ _ _ Q;have dq:h.ar=ub:=gg.symm;refine⟨aS.trans ⟨R,λx n=>?_,λx n S=>?_⟩,λK T W X=>?_⟩
 ·show x∈aA (gZ b l) d;rw[mJ];exact fr.2 (.inr n)
 ·show cE i j x=cE ub aET x;refine c2 x (by omega) (λA=>S ?_);show x∈aA (gZ b l) d;rw[mJ];exact fr.2 (.inl (Mg n A))
 ·unfold nW;rw[X];refine⟨W,?_⟩;simp only[N];rw[E];simp only[];have Z:iU (c9 (fh aEJ h).aC) (fh aEJ h).bo frz args=some (ps.map bi,us.map hR):=G;rw[Z];refine⟨bi w,hq i j,?_,λbs=>?_,T⟩
  ·change lx gl P fid (ps.map bi++aEF.map bi) (c7 h.iQ (us.map hR)) (bi w) (hq i j);rw[<-cZ,Va,<-ly];exact c1
  ·obtain⟨d1,d2,d3,d4,d5⟩:=A bs;have bx:c7 h.iQ (us.map hR)=(aI.mk ub aET d).iQ:=cZ.symm;refine⟨d1,λk=>?_,λc hc=>?_⟩
   rotate_left
   ·obtain⟨a1,a2,a3,a4,a5,cc,H,cl⟩:=aul d5 c hc;have cn:c7 (fh aEJ h).bo (us.map hR)=hq ub aET:=bx;rw[cn];refine⟨a1,a2,λz=>?_,λu t e=>?_,λk=>a5 ub k,λk=>cc i k,λp r=>?_,by rw[pb];exact cl⟩
    ·by_cases cp:b+c<ub
     ·have e:hq ub aET (b+c)=eJ (aET.get (b+c)).ag:=by show eJ _=_;rw[ic cp]
      rw[e] at z;exact a3 z
     ·have e:hq ub aET (b+c)= .ax 0:=by show eJ _=_;rw[jz];rfl
      rw[e] at z;exact z
    ·obtain⟨q,B,rfl⟩:=gp.1 t;exact a4 q B e
    ·rw[gm,pL] at r;rcases gy.1 r with rfl|r
     ·intro C;obtain⟨x,n,cs⟩:=aoU E C;obtain⟨y,D,rfl⟩:=gp.1 n;exact H y (fr.2 (.inr (fr.2 (.inr D)))) (by rw[<-pb];exact cs)
     ·have n:p∈((args.map (et aEJ))++(ps++aEF)).map bi:=by
       rw[ly,ly,yy];have:(args.map (bi∘et aEJ))=args.map (c9 (fh aEJ h).aC):=by rw[<-sA aEJ h];rfl
       rw[this];exact r
      obtain⟨y,D,rfl⟩:=gp.1 n;rw[pb];exact H y D
   by_cases I:∃u∈us,u.1=k
   ·obtain⟨u,t,rfl⟩:=I;exact .inr (d2 u t)
   ·have c0:(aI.mk ub aET d).iQ k=h.iQ k:=by rw[cZ];exact Gx _ _ _ (λu' c3 e=>by obtain⟨q,B,rfl⟩:=gp.1 c3;exact I ⟨q,B,e⟩)
    have J:hq ub aET k=h.iQ k:=c0;by_cases C:k<ub
    ·by_cases L:k∈l
     ·exact .inr (d3 k L)
     ·left;show eJ _=h.iQ k;rw[c2 k C L];exact J
    ·rcases d4 with e|M
     ·left;have c4:hq i j k= .ax 0:=by show eJ _=_;rw[jz];rfl
      have c5:hq ub aET k= .ax 0:=by show eJ _=_;rw[jz];rfl
      have fD:(fh aEJ h).bo k= .ax 0:=J.symm.trans c5;rw[c4,fD]
     ·right;unfold fl;rw[cz];split
      ·exact M.1
      ·exact M.2
theorem acs(r:mD gl P u)(t:o.ai= .hV f args frz)
 (w:b+4096<=h.ar)(y:oH (c9 (fh aEJ h).aC f)=some (fid,aEF.map bi)):uU gl P b false o aEJ h (Ex u b fid aEF (args.map (et aEJ)) frz h k) k:=by
 intro c;unfold Ex at c ⊢;obtain⟨ps,us,z,e⟩:=zb c;rw[e] at c ⊢;unfold dd at c ⊢;obtain⟨A,B,C⟩:=xG c;rw[C] at c ⊢;cases A with
 |mk ub aET d=>
  change jT b ub d k (u fid (aA ps aEF) ub aET)≠ .ax at c;show∃v h',hT b h h'/\jT b ub d k (u fid (aA ps aEF) ub aET)=k v h'/\_;rw[mJ] at c ⊢;cases j:u fid (ps++aEF) ub aET with
  |ax=>rw[j] at c;exact absurd rfl c
  |ok l i n q=>rw[j] at c;change bf (Nat.ble ub i) (k l (.mk i n (aA (gZ b q) d))) .ax≠ .ax at c;show∃v h',hT b h h'/\bf (Nat.ble ub i) (k l (.mk i n (aA (gZ b q) d))) .ax=k v h'/\_;obtain⟨D,e⟩:=dV c;rw[e];obtain⟨r1,E⟩:=ZT (aEI:=false) r t y z B j w (dp D) (λh=>by cases h);exact⟨l,_,r1,rfl,E⟩
theorem RC(z:mD gl P u)(A:o.ai= .hV f args frz)
 (B:b+4096<=h.ar)(C:eb o.bT 4097=true)(D:oH (c9 (fh aEJ h).aC f)=some (fid,aEF.map bi)):uU gl P b true o aEJ h (CL u b o.bT o.a7 fid aEF (args.map (et aEJ)) frz h k) k:=by
 intro c;unfold CL at c ⊢;obtain⟨ps,us,E,e⟩:=zb c;rw[e] at c ⊢;unfold o7 at c ⊢;obtain⟨G,e⟩:=dV c;rw[e] at c ⊢;obtain⟨H,I,J⟩:=xG c;rw[J] at c ⊢;cases H with
 |mk ub aET d=>
  change xH b o.bT o.a7 us (aA (args.map (et aEJ)) (aA ps aEF)) ub aET d k (u fid (aA ps aEF) ub aET)≠ .ax at c;show∃v h',hT b h h'/\xH b o.bT o.a7 us (aA (args.map (et aEJ)) (aA ps aEF)) ub aET d k (u fid (aA ps aEF) ub aET)=k v h'/\_;rw[mJ,mJ] at c ⊢;cases r:u fid (ps++aEF) ub aET with
  |ax=>rw[r] at c;exact absurd rfl c
  |ok j i l n=>
   rw[r] at c;change bf (Nat.ble ub i) (bf (sS b o.a7 n) (bf (rn o.a7 ub i) (bf (AS b o.bT o.a7 us (args.map (et aEJ)++(ps++aEF)) aET l j) (k j (.mk i l (aA (gZ b n) d))) .ax) .ax) .ax) .ax≠ .ax at c;show∃v h',hT b h h'/\bf (Nat.ble ub i) (bf (sS b o.a7 n) (bf (rn o.a7 ub i) (bf (AS b o.bT o.a7 us (args.map (et aEJ)++(ps++aEF)) aET l j) (k j (.mk i l (aA (gZ b n) d))) .ax) .ax) .ax) .ax=k v h'/\_;obtain⟨K,e⟩:=dV c;rw[e] at c ⊢;obtain⟨L,e⟩:=dV c;rw[e] at c ⊢;obtain⟨t,e⟩:=dV c;rw[e] at c ⊢;obtain⟨M,e⟩:=dV c;rw[e];obtain⟨r1,N⟩:=ZT (aEI:=true) z A D E I r B (dp K) (λ_=>⟨sK C,λq O=>Kw (aEI:=true) (o:=o) (us:=us) G rfl (hR q) (gp.2 ⟨q,O,rfl⟩),Sc L,by
    unfold rn at t;cases y:Nat.beq ub i with
    |true=>exact .inl (gz y)
    |false=>rw[y] at t;have w:cS (eb o.a7 4096) (eb o.a7 4098)=true:=t;rw[jg,cg] at w;exact .inr ⟨sK w.1,sK w.2⟩,M⟩)
   exact⟨j,_,r1,rfl,N⟩
theorem axO(i:∀f a,o.ai≠ .call f a)(j:∀f a z,o.ai≠ .hV f a z):
 uU gl P b aEI o aEJ h (Hy b (Nat.add o.ai.off (o.dst.getD 0)) (qT aEI o) (et aEJ) h k o.ai) k:=by
 intro l;obtain⟨v,us,h',n,q,r,t⟩:=ar8 l;obtain⟨aS,cZ,gg⟩:=r;refine⟨v,h',aS,t,λK c w y=>?_⟩;have d:=alf n;rw[sA aEJ h] at d;have A:(match b6 (c9 (fh aEJ h).aC) h.iQ (b+o.ai.off+o.dst.getD 0) o.ai with
  |some (v,us)=>Hv b aEI o us/\K ⟨put (fh aEJ h).aC o.dst v,c7 h.iQ us⟩
  |none=>False):=by
  have B:b6 (c9 (fh aEJ h).aC) h.iQ (b+o.ai.off+o.dst.getD 0) o.ai=some (bi v,us.map hR):=by rw[wT];exact d
  rw[B];refine⟨Kw q,?_⟩;rw[cZ] at c;exact c
 unfold nW;rw[y];refine⟨w,?_⟩;revert A;cases e:o.ai with
 |call f args=>exact absurd e (i f args)
 |hV f args frz=>exact absurd e (j f args frz)
 |_=>exactλk=>k
theorem RE(j:mD gl P u)(n:b+4096<=h.ar):uU gl P b aEI o aEJ h (hS u b aEI o (et aEJ) h k) k:=by
 cases c:o.ai with
 |call f args=>
  cases f with
  |func i=>
   have e:hS u b aEI o (et aEJ) h k=Cn u b (qT aEI o) i (args.map (et aEJ)) h k:=by unfold hS;rw[c]
   rw[e];exact Yp j c rfl
  |tmp t=>
   have e:hS u b aEI o (et aEJ) h k=Bb u b (qT aEI o) (et aEJ (.tmp t)) (args.map (et aEJ)) h k:=by unfold hS;rw[c]
   rw[e];exact PC j c
  |const v=>
   have e:hS u b aEI o (et aEJ) h k=Bb u b (qT aEI o) (et aEJ (.const v)) (args.map (et aEJ)) h k:=by unfold hS;rw[c]
   rw[e];exact PC j c
  |global g=>
   have e:hS u b aEI o (et aEJ) h k=Bb u b (qT aEI o) (et aEJ (.global g)) (args.map (et aEJ)) h k:=by unfold hS;rw[c]
   rw[e];exact PC j c
 |hV f args frz=>
  cases aEI with
  |true=>
   cases l:eb o.bT 4097 with
   |false=>
    have e:hS u b true o (et aEJ) h k= .ax:=by unfold hS;rw[c];cases f<;>simp only[l]<;>rfl
    rw[e];exactλh=>absurd rfl h
   |true=>
    have gen:uU gl P b true o aEJ h (n6 u b o.bT o.a7 (et aEJ f) (args.map (et aEJ)) frz h k) k:=by intro d;unfold n6 at d ⊢;obtain⟨fid,aEF,q,e⟩:=Yq d;rw[e] at d ⊢;refine RC j c n l ?_ d;rw[<-sA aEJ h];exact q
    cases f with
    |func i=>
     have e:hS u b true o (et aEJ) h k=CL u b o.bT o.a7 i [] (args.map (et aEJ)) frz h k:=by unfold hS;rw[c];simp only[l]
     rw[e];exact RC j c n l rfl
    |tmp t=>
     have e:hS u b true o (et aEJ) h k=n6 u b o.bT o.a7 (et aEJ (.tmp t)) (args.map (et aEJ)) frz h k:=by unfold hS;rw[c];simp only[l]
     rw[e];exact gen
    |const v=>
     have e:hS u b true o (et aEJ) h k=n6 u b o.bT o.a7 (et aEJ (.const v)) (args.map (et aEJ)) frz h k:=by unfold hS;rw[c];simp only[l]
     rw[e];exact gen
    |global g=>
     have e:hS u b true o (et aEJ) h k=n6 u b o.bT o.a7 (et aEJ (.global g)) (args.map (et aEJ)) frz h k:=by unfold hS;rw[c];simp only[l]
     rw[e];exact gen
  |false=>
   have gen:uU gl P b false o aEJ h (nN u b (et aEJ f) (args.map (et aEJ)) frz h k) k:=by intro d;unfold nN at d ⊢;obtain⟨fid,aEF,q,e⟩:=Yq d;rw[e] at d ⊢;refine acs j c n ?_ d;rw[<-sA aEJ h];exact q
   cases f with
   |func i=>
    have e:hS u b false o (et aEJ) h k=Ex u b i [] (args.map (et aEJ)) frz h k:=by unfold hS;rw[c]
    rw[e];exact acs j c n rfl
   |tmp t=>
    have e:hS u b false o (et aEJ) h k=nN u b (et aEJ (.tmp t)) (args.map (et aEJ)) frz h k:=by unfold hS;rw[c]
    rw[e];exact gen
   |const v=>
    have e:hS u b false o (et aEJ) h k=nN u b (et aEJ (.const v)) (args.map (et aEJ)) frz h k:=by unfold hS;rw[c]
    rw[e];exact gen
   |global g=>
    have e:hS u b false o (et aEJ) h k=nN u b (et aEJ (.global g)) (args.map (et aEJ)) frz h k:=by unfold hS;rw[c]
    rw[e];exact gen
 |_=>
  have e:hS u b aEI o (et aEJ) h k=Hy b (Nat.add o.ai.off (o.dst.getD 0)) (qT aEI o) (et aEJ) h k o.ai:=by unfold hS;rw[c]
  rw[e];exact axO (by rw[c];intros;simp) (by rw[c];intros;simp)
theorem Pn{b:Nat}{n:List Nat}:∀{cs:aB},nU b n cs=true->(∀k∈cs.flatMap an.key,fl b k∈n)/\(∀k∈cs.flatMap an.cf,fl b k∈n)
 |[],_=>⟨by simp,by simp⟩
 |c::r,h=>by
  have w:nU b n r=true/\(∀k∈c.key,fl b k∈n)/\(∀k∈c.cf,fl b k∈n):=by
   have one:∀{k:Nat},cS (eb n (iD b k)) (nU b n r)=true->nU b n r=true/\fl b k∈n:=by intro k h;rw[jg,cg] at h;have:=sK h.1;rw[wb] at this;exact⟨h.2,this⟩
   cases c with
   |bn k s o=>obtain⟨q,e⟩:=one h;exact⟨q,by intro j d;simp[an.key,an.cf] at d;subst d;exact e,by intro j d;simp[an.cf] at d;subst d;exact e⟩
   |az k s o l=>obtain⟨q,e⟩:=one h;exact⟨q,by intro j d;simp[an.key,an.cf] at d;subst d;exact e,by intro j d;simp[an.cf] at d;subst d;exact e⟩
   |dH k s i o=>obtain⟨q,e⟩:=one h;exact⟨q,by intro j d;simp[an.key,an.cf] at d;subst d;exact e,by intro j d;simp[an.cf] at d;subst d;exact e⟩
   |hG k s=>obtain⟨q,e⟩:=one h;exact⟨q,by intro j d;simp[an.key,an.cf] at d;subst d;exact e,by intro j d;simp[an.cf] at d;subst d;exact e⟩
   |_=>first|exact⟨h,by simp[an.key,an.cf],by simp[an.cf]⟩|exact absurd h (by intro h;cases h)
  obtain⟨q,e⟩:=Pn w.1;constructor
  ·intro k t;rw[kh,fr] at t;exact t.elim (w.2.1 k) (q k)
  ·intro k t;rw[kh,fr] at t;exact t.elim (w.2.2 k) (e k)
theorem aoJ{d:List Nat}(h:jP b d x=true):∀k∈x.cR,fl b k∈d:=by
 have one:∀{k:Nat},eb d (iD b k)=true->fl b k∈d:=by intro k h;have:=sK h;rw[wb] at this;exact this
 cases x with
 |agg cs=>exact(Pn h).1
 |gJ f cs=>exact(Pn h).2
 |bn k s o=>intro j c;simp[an.cR,an.eg,an.key,an.cf] at c;subst c;exact one h
 |az k s o l=>intro j c;simp[an.cR,an.eg,an.key,an.cf] at c;subst c;exact one h
 |dH k s i o=>intro j c;simp[an.cR,an.eg,an.key,an.cf] at c;subst c;exact one h
 |hG k s=>intro j c;simp[an.cR,an.eg,an.key,an.cf] at c;subst c;exact one h
 |a0 cs=>cases h
 |_=>simp[an.cR,an.eg,an.key,an.cf]
theorem W8{b:Nat}{c:List Nat}{a:aw}:∀{xs:aB},met b c xs a≠ .ax->met b c xs a=a/\∀x∈xs,∀k∈x.cR,fl b k∈c
 |[],_=>⟨rfl,by simp⟩
 |x::r,h=>by
  change bf (jP b c x) (met b c r a) .ax≠ .ax at h;show bf (jP b c x) (met b c r a) .ax=a/\_;obtain⟨j,e⟩:=dV h;rw[e] at h ⊢;obtain⟨l,n⟩:=W8 h;refine⟨l,λy d k i=>?_⟩;rcases gy.1 d with rfl|d
  ·exact aoJ j k i
  ·exact n y d k i
theorem awQ(aEJ:Nat->aG):∀(x:Operand),(∀t,x≠ .tmp t)->(c9 aEJ x).cR=[]
 | .tmp t,h=>absurd rfl (h t)
 | .func _,_=>rfl
 | .global _,_=>rfl
 | .const v,_=>by
   cases v with
   |agg cs=>show(cs.toList.map aG.bu).flatMap aG.key=[];rw[tx];exact s7.2 λ_ _=>rfl
   |_=>rfl
theorem UU{aEJ:Nat->aG}:∀{l:List Operand} {x:Operand},x∈l->x∈Cb l\/(c9 aEJ x).cR=[]
 |y::r,x,h=>by
  rcases gy.1 h with rfl|h
  ·cases x with
   |tmp t=>left;exact eS
   |_=>right;exact awQ aEJ _ (by intro t;simp)
  ·rcases UU (aEJ:=aEJ) h with c|c
   ·left;cases y with
    |tmp t=>exact gv _ c
    |_=>exact c
   ·exact .inr c
theorem amL(r:mD gl P u)(t:b+4096<=h.ar)(c:yw u b aEI o (et aEJ) h k≠ .ax):
 ∃v h',hT b h h'/\yw u b aEI o (et aEJ) h k=k v h'/\
  ∀K:df->Prop,K ⟨put (fh aEJ h).aC o.dst (bi v),h'.iQ⟩->l6 (fh aEJ h).aC o.guard=some true->nW gl P b aEI o (fh aEJ h) K:=by
 unfold yw at c ⊢;cases i:(aEI&&o.ai.looks) with
 |false=>rw[i] at c;change hS u b aEI o (et aEJ) h k≠ .ax at c;show∃v h',hT b h h'/\hS u b aEI o (et aEJ) h k=k v h'/\_;obtain⟨v,h',aS,q,j⟩:=RE r t c;refine⟨v,h',aS,q,λK l=>j K l ?_⟩;intro A B;rw[A,B] at i;cases i
 |true=>
  rw[i] at c;change met b o.bT ((G2 o.ai).map (et aEJ)) (hS u b aEI o (et aEJ) h k)≠ .ax at c;show∃v h',hT b h h'/\met b o.bT ((G2 o.ai).map (et aEJ)) (hS u b aEI o (et aEJ) h k)=k v h'/\_;obtain⟨C,w⟩:=W8 c;rw[C] at c ⊢;obtain⟨v,h',aS,q,j⟩:=RE r t c;refine⟨v,h',aS,q,λK l=>?_⟩;by_cases y:∃f args frz,o.ai= .hV f args frz
  ·obtain⟨f,args,frz,n⟩:=y;refine j K l ?_;intro D _ x d k e;right;cases z:eb o.bT 4097 with
   |true=>exact⟨sK z,by rw[n];rfl⟩
   |false=>exfalso;subst D;apply c;unfold hS;rw[n];cases f<;>simp only[z]<;>rfl
  ·refine j K l ?_;intro _ _ x d k e;left;have E:G2 o.ai=Cb o.ai.mh:=by
    cases n:o.ai with
    |hV f args frz=>exact absurd ⟨f,args,frz,n⟩ y
    |_=>rfl
   rw[E] at w;rcases UU d with d|d
   ·refine w (et aEJ x) (gp.2 ⟨x,d,rfl⟩) k ?_;rw[<-pb];rw[<-sA aEJ h] at e;exact e
   ·rw[d] at e;cases e
theorem atl{a b:Option (Nat×Bool)}(h:Kb a b=true):a=b:=by
 cases a with
 |none=>cases b with
  |none=>rfl
  |some _=>cases h
 |some p=>cases b with
  |none=>cases h
  |some q=>
   obtain⟨t,w⟩:=p;obtain⟨e,w'⟩:=q;simp only[Kb,cg] at h;have c:=gz h.1;have d:w=w':=by simpa using h.2
   rw[c,d]
theorem KL(h:under g o=true):o.guard=g/\∀t w,g=some (t,w)->o.dst≠some t:=by simp only[under,cg] at h;refine⟨atl h.1,λt w d e=>?_⟩;subst d;have c:=h.2;rw[e] at c;simp[R1] at c
def zz(g:Option (Nat×Bool))(aEJ:dG):Prop:=∀t w,g=some (t,w)->aEJ t= .F w
theorem zz.put(h:zz g aEJ)(i:under g o=true)(v:an):zz g (rT aEJ o.dst v):=by
 intro t w c;have j:=(KL i).2 t w c;cases l:o.dst with
 |none=>exact h t w c
 |some d=>have n:t≠d:=λe=>j (by rw[l,e]);show @Bool.rec (λ_=>an) (aEJ t) v (Nat.beq t d)=_;rw[uI (λe=>n e.symm)];exact h t w c
theorem zz.wanted(c:zz g aEJ)(d:under g o=true):l6 (fh aEJ h).aC o.guard=some true:=by
 rw[(KL d).1];cases g with
 |none=>rfl
 |some p=>obtain⟨t,w⟩:=p;show(match bi (aEJ t) with| .bu (.bool b)=>some (b==w)| .a0 []=>some false|_=>none)=some true;rw[c t w rfl];simp only[bi];simp
theorem ON(aEJ:dG)(d:Option Nat)(v:an)(i:Nat)(h:∀t,d=some t->i≠t):rT aEJ d v i=aEJ i:=by
 cases d with
 |none=>rfl
 |some t=>show @Bool.rec (λ_=>an) (aEJ i) v (Nat.beq i t)=_;rw[uI (λe=>h t rfl e.symm)]
theorem adR(o:ey)(r:List ey):k4 (o::r)=(match o.dst with|some d=>[d]|none=>[])++k4 r:=by show(match o.dst with|some d=>d::k4 r|none=>k4 r)=_;cases o.dst<;>rfl
theorem Qg{u:Fn}(n:mD gl P u){b:Nat}{aEI:Bool}{g:Option (Nat×Bool)}:∀{os:List ey} {aEJ:dG} {h:aI} {k:dG->aI->aw},b+4096<=h.ar->os.all (under g)=true->zz g aEJ->sa u b aEI os aEJ h k≠ .ax->
 ∃d h',hT b h h'/\sa u b aEI os aEJ h k=k d h'/\(∀i,i∉k4 os->d i=aEJ i)/\∀K:df->Prop,K (fh d h')->mI gl P b aEI os (fh aEJ h) K
 |[],aEJ,h,k,_,_,_,_=>⟨aEJ,h,hT.refl,rfl,λ_ _=>rfl,λ_ j=>j⟩
 |o::os,aEJ,h,k,q,c,r,y=>by
  rw[DL,cg] at c;have l:yw u b aEI o (et aEJ) h (λv h'=>sa u b aEI os (rT aEJ o.dst v) h' k)≠ .ax:=y;obtain⟨v,z,aS,w,A⟩:=amL n q l;rw[w] at l;obtain⟨B,C,cZ,D,f2,E⟩:=Qg n (os:=os) (ie q aS.ar) c.2 (r.put c.1 v) l;refine⟨B,C,aS.trans cZ,?_,λi hi=>?_,λK j=>A _ ?_ (r.wanted c.1)⟩
  ·show yw u b aEI o (et aEJ) h (λv h'=>sa u b aEI os (rT aEJ o.dst v) h' k)=_;rw[w,D]
  ·rw[adR,fr] at hi;rw[f2 i (λh=>hi (.inr h)),ON aEJ o.dst v i (λt G e=>hi (.inl (by rw[G,e];exact List.mem_singleton_self _)))]
  ·have:=E K j;rw[Wj aEJ h z] at this;exact this
theorem Y7{b:Nat}{aEI:Bool}{t:Nat}{w:Bool}:∀{os:List ey} {aEJ:dG} {h:aI},os.all (under (some (t,w)))=true->(aEJ t= .F (!w)\/aEJ t= .a0 [])->
 (∀i,i∉k4 os->vQ os aEJ i=aEJ i)/\∀K:df->Prop,K (fh (vQ os aEJ) h)->mI gl P b aEI os (fh aEJ h) K
 |[],_,_,_,_=>⟨λ_ _=>rfl,λ_ j=>j⟩
 |o::os,aEJ,h,l,c=>by
  rw[DL,cg] at l;have q:=KL l.1;have r:rT aEJ o.dst (.a0 []) t=aEJ t:=ON aEJ o.dst _ t (λd n e=>q.2 t w rfl (by rw[n,e]));obtain⟨f2,y⟩:=Y7 (os:=os) (aEJ:=rT aEJ o.dst (.a0 [])) (h:=h) (b:=b) (aEI:=aEI) l.2 (by rw[r];exact c);refine⟨λi hi=>?_,λK j=>?_⟩
  ·rw[adR,fr] at hi;show vQ os (rT aEJ o.dst (.a0 [])) i=_;rw[f2 i (λh=>hi (.inr h)),ON aEJ o.dst _ i (λd n e=>hi (.inl (by rw[n,e];exact List.mem_singleton_self _)))]
  ·have z:l6 (fh aEJ h).aC o.guard=some false:=by
    rw[q.1];show(match bi (aEJ t) with| .bu (.bool b)=>some (b==w)| .a0 []=>some false|_=>none)=some false;rcases c with c|c
    ·rw[c];simp only[bi];cases w<;>rfl
    ·rw[c];simp only[bi,gG]
   show nW gl P b aEI o (fh aEJ h) λA=>mI gl P b aEI os A K;unfold nW;rw[z];have:=y K j;rw[Wj aEJ h h] at this;have e:bi (.a0 [])= .a0 []:=by simp[bi,gG]
   rw[e] at this;exact this
noncomputable def tU:List Nat->dG->dG->dG
 |[],_,c=>c
 |s::l,e,c=>tU l e (xe c s (e s))
theorem DA(e:dG)(s:Nat)(v:an)(i:Nat):xe e s v i=if i=s then v else e i:=by
 show @Bool.rec (λ_=>an) (e i) v (Nat.beq i s)=_;by_cases h:i=s
 ·subst h;rw[D1,cv rfl]
 ·rw[uI (λx=>h x.symm),cU h]
theorem acE:∀(l:List Nat) (e c:dG) (i:Nat),(c i= .undef\/c i=e i)->(tU l e c i= .undef\/tU l e c i=e i)
 |[],_,_,_,h=>h
 |s::l,e,c,i,h=>by
  refine acE l e _ i ?_;rw[DA];split
  ·rename_i h;subst h;exact .inr rfl
  ·exact h
theorem abR:∀(l:List Nat) (e c:dG) (i:Nat),(i∉l->c i=e i)->tU l e c i=e i
 |[],_,_,_,h=>h (by simp)
 |s::l,e,c,i,h=>by
  refine abR l e _ i λhi=>?_;rw[DA];split
  ·rename_i h;subst h;rfl
  ·rename_i d;exact h (by simp[d,hi])
theorem BV:∀(l:List Nat) (c:dG->aI->aw) (e d:dG) (h:aI),jj l (lg l c d) e h=c (tU l e d) h
 |[],_,_,_,_=>rfl
 |s::l,c,e,d,h=>BV l c e (xe d s (e s)) h
theorem ac4:∀(l:List Nat) (e:dG) (h:aI),jj l (Qp l) e h= .ax
 |[],_,_=>rfl
 |_::l,e,h=>ac4 l e h
theorem aeD{l:List Nat}{d:dG->aI->aw}{e c:dG}(j:∀i,i∉l->e i=c i):jj l (lg l d c) e h=d e h:=by rw[BV];congr 1;funext i;exact abR l e c i λhi=>(j i hi).symm
theorem af4(y:mD gl P u){k:dG->aI->aw}(z:b+4096<=h.ar)(c:zR u b aEI g os aEJ h k≠ .ax):
 ∃d h',hT b h h'/\zR u b aEI g os aEJ h k=k d h'/\∀K:df->Prop,K (fh d h')->mI gl P b aEI os (fh aEJ h) K:=by
 unfold zR at c ⊢;cases i:os.all (under g) with
 |false=>rw[i] at c;exact absurd rfl c
 |true=>
  rw[i] at c;cases g with
  |none=>change sa u b aEI os aEJ h k≠ .ax at c;show∃d h',hT b h h'/\sa u b aEI os aEJ h k=_/\_;obtain⟨d,h',aS,q,_,j⟩:=Qg y z i (λ_ _ h=>by cases h) c;exact⟨d,h',aS,q,j⟩
  |some p=>
   obtain⟨t,w⟩:=p;change b0 (aEJ t) w (sa u b aEI os aEJ h λl n=>jj (k4 os) (lg (k4 os) k aEJ) l n) (jj (k4 os) (lg (k4 os) k aEJ) (vQ os aEJ) h)≠ .ax at c;show∃d h',hT b h h'/\b0 (aEJ t) w (sa u b aEI os aEJ h λl n=>jj (k4 os) (lg (k4 os) k aEJ) l n) (jj (k4 os) (lg (k4 os) k aEJ) (vQ os aEJ) h)=_/\_;rcases afS c with⟨r,e⟩|⟨r,e⟩
   ·rw[e] at c ⊢;obtain⟨d,h',aS,q,f1,j⟩:=Qg y (k:=λl n=>jj (k4 os) (lg (k4 os) k aEJ) l n) z i (λA w' h=>by cases h;exact r) c;refine⟨d,h',aS,?_,j⟩;rw[q,aeD f1]
   ·rw[e];obtain⟨f1,j⟩:=Y7 (gl:=gl) (P:=P) (b:=b) (aEI:=aEI) (h:=h) i r;exact⟨vQ os aEJ,h,hT.refl,aeD f1,j⟩
theorem SA{b:Nat}{aEI:Bool}:∀(os d:List ey) (s:df) (K:df->Prop),mI gl P b aEI (os++d) s K=mI gl P b aEI os s (λc=>mI gl P b aEI d c K)
 |[],_,_,_=>rfl
 |o::os,d,s,K=>by show nW gl P b aEI o s (λc=>mI gl P b aEI (os++d) c K)=nW gl P b aEI o s (λc=>mI gl P b aEI os c λc=>mI gl P b aEI d c K);congr 1;funext c;exact SA os d c K
theorem Zm{u:Fn}(i:mD gl P u){b:Nat}{aEI:Bool}:∀{rs:List (Option (Nat×Bool)×List ey)} {aEJ:dG} {h:aI} {k:dG->aI->aw},b+4096<=h.ar->DK u b aEI rs aEJ h k≠ .ax->
 ∃c h',hT b h h'/\DK u b aEI rs aEJ h k=k c h'/\∀K:df->Prop,K (fh c h')->mI gl P b aEI (rs.flatMap (·.2)) (fh aEJ h) K
 |[],aEJ,h,k,_,_=>⟨aEJ,h,hT.refl,rfl,λ_ d=>d⟩
 |(g,os)::rs,aEJ,h,k,j,n=>by
  have e:zR u b aEI g os aEJ h (λc h'=>DK u b aEI rs c h' k)≠ .ax:=n;obtain⟨z,A,aS,l,q⟩:=af4 i j e;rw[l] at e;obtain⟨r,t,cZ,w,y⟩:=Zm i (rs:=rs) (ie j aS.ar) e;refine⟨r,t,aS.trans cZ,?_,λK d=>?_⟩
  ·show zR u b aEI g os aEJ h (λc h'=>DK u b aEI rs c h' k)=_;rw[l,w]
  ·rw[kh];rw[SA];exact q _ (y K d)
theorem avc(d:mD gl P u){k:dG->aI->aw}(e:b+4096<=h.ar)(i:NG u b aEI os aEJ h k≠ .ax):
 ∃c h',hT b h h'/\NG u b aEI os aEJ h k=k c h'/\∀K:df->Prop,K (fh c h')->mI gl P b aEI os (fh aEJ h) K:=by
 have:=Zm d (rs:=yW os) e i;rw[Yx] at this;exact this
end
end
end
section
variable[Tok]
theorem FL{K:df->Prop}{l:List Nat}{e:dG}{h:aI}(a:K (fh (tU l e ma) h)):u9 K (fh e h):=by
 refine⟨λi=>bi (tU l e ma i),λi=>?_,a⟩;rcases acE l e ma i (.inl rfl) with h|h
 ·left;show bi _=_;rw[h];simp only[bi]
 ·right;show bi _=bi _;rw[h]
section
variable{gl:eI} {P:Program}
def abT(fJ:dG->aI->aw)(a:Nat->dG->aI->aw)(b:dG->aI->aw):ne->dG->aI->aw
 | .normal=>fJ
 | .exit i=>a i
 | .ret=>b
def aw6(gl:eI)(P:Program)(b:Nat)(c:pY)(aEJ:dG)(h:aI)(a:aw)(fJ:dG->aI->aw)(e:Nat->dG->aI->aw)(g:dG->aI->aw):Prop:=
 a≠ .ax->∃x d h',hT b h h'/\a=abT fJ e g x d h'/\∀Q:ne->df->Prop,Q x (fh d h')->kG gl P b c Q (fh aEJ h)
theorem aB4{u:Fn}(N:mD gl P u){b n:Nat}:∀(c:iX) (aEJ:dG) (h:aI) (fJ:dG->aI->aw) (d:Nat->dG->aI->aw) (g:dG->aI->aw),b+4096<=h.ar->
 aw6 gl P b c.ia aEJ h (den u b n c aEJ h fJ d g) fJ d g:=by
 intro c;induction c with
 |skip=>intro aEJ h fJ d g _ _;exact⟨.normal,aEJ,h,hT.refl,rfl,λQ a=>a⟩
 |region aEI aEO=>intro aEJ h fJ d g z o;obtain⟨B,h',aS,p,w⟩:=avc N (os:=aEO) (k:=fJ) z o;exact⟨.normal,B,h',aS,p,λQ a=>w _ a⟩
 |seq x y C D=>
  intro aEJ h fJ d g z o;obtain⟨A,q,r,aS,p,w⟩:=C aEJ h (λaEJ h=>den u b n y aEJ h fJ d g) d g z o;change den u b n x aEJ h (λaEJ h=>den u b n y aEJ h fJ d g) d g≠ .ax at o;cases A with
  |normal=>rw[p] at o;obtain⟨E,G,H,cZ,I,J⟩:=D q r fJ d g (ie z aS.ar) o;exact⟨E,G,H,aS.trans cZ,p.trans I,λQ a=>w _ (aoh (J Q a))⟩
  |exit i=>exact⟨.exit i,q,r,aS,p,λQ a=>w _ a⟩
  |ret=>exact⟨.ret,q,r,aS,p,λQ a=>w _ a⟩
 |I7 l x y C D=>
  intro aEJ h fJ d g z o;change den u b n x aEJ h (λaEJ h=>jj l (lg l (λaEJ h=>den u b n y aEJ h fJ d g) ma) aEJ h) d g≠ .ax at o;obtain⟨A,q,r,aS,p,w⟩:=C aEJ h _ d g z o;cases A with
  |normal=>rw[p] at o;change jj l (lg l (λaEJ h=>den u b n y aEJ h fJ d g) ma) q r≠ .ax at o;rw[BV] at o;obtain⟨E,G,H,cZ,I,J⟩:=D (tU l q ma) r fJ d g (ie z aS.ar) o;refine⟨E,G,H,aS.trans cZ,?_,λQ a=>w _ (FL (J Q a))⟩;refine Eq.trans p ?_;show jj l (lg l (λaEJ h=>den u b n y aEJ h fJ d g) ma) q r=_;rw[BV];exact I
  |exit i=>exact⟨.exit i,q,r,aS,p,λQ a=>w _ a⟩
  |ret=>exact⟨.ret,q,r,aS,p,λQ a=>w _ a⟩
 |cond c x y C D=>
  intro aEJ h fJ d g z o;change vN (et aEJ c) (λt=>bf t (den u b n x aEJ h fJ d g) (den u b n y aEJ h fJ d g))≠ .ax at o;obtain⟨t,O,e⟩:=Cc o;have L:c9 (fh aEJ h).aC c= .bu (.bool t):=by rw[<-sA aEJ h];show bi (et aEJ c)=_;rw[O];simp only[bi]
  rw[e] at o;cases t with
  |true=>obtain⟨A,q,r,aS,p,w⟩:=C aEJ h fJ d g z o;refine⟨A,q,r,aS,Eq.trans e p,λQ a=>?_⟩;simp only[iX.ia,kG,L];exact w Q a
  |false=>obtain⟨A,q,r,aS,p,w⟩:=D aEJ h fJ d g z o;refine⟨A,q,r,aS,Eq.trans e p,λQ a=>?_⟩;simp only[iX.ia,kG,L];exact w Q a
 |block id x K=>
  intro aEJ h fJ d g z o;obtain⟨A,q,r,aS,p,w⟩:=K aEJ h fJ (λi=> @Bool.rec (λ_=>dG->aI->aw) (d i) fJ (Nat.beq i id)) g z o;cases A with
  |normal=>exact⟨.normal,q,r,aS,p,λQ a=>w _ a⟩
  |ret=>exact⟨.ret,q,r,aS,p,λQ a=>w _ a⟩
  |exit i=>
   by_cases hi:i=id
   ·subst hi;refine⟨.normal,q,r,aS,?_,λQ a=>w _ ?_⟩
    ·refine Eq.trans p ?_;show(@Bool.rec (λ_=>dG->aI->aw) (d i) fJ (Nat.beq i i)) q r=_;rw[D1];rfl
    ·simp only[CK,fP];exact a
   ·refine⟨.exit i,q,r,aS,?_,λQ a=>w _ ?_⟩
    ·refine Eq.trans p ?_;show(@Bool.rec (λ_=>dG->aI->aw) (d i) fJ (Nat.beq i id)) q r=_;rw[uI (λx=>hi x.symm)];rfl
    ·simp only[CK,cU hi];exact a
 |loop l x K=>
  intro aEJ h fJ d g z o;have R:∀(m:Nat) (aEJ:dG) (h:aI),b+4096<=h.ar->jj l (ft l m λj=>lg l (λaEJ h=>den u b n x aEJ h (λaEJ h=>jj l j aEJ h) d g) ma) aEJ h≠ .ax->
   ∃A B h',hT b h h'/\jj l (ft l m λj=>lg l (λaEJ h=>den u b n x aEJ h (λaEJ h=>jj l j aEJ h) d g) ma) aEJ h=abT fJ d g A B h'/\
    ∀Q:ne->df->Prop,Q A (fh B h')->∃m,rounds (kG gl P b x.ia) Q m (fh aEJ h):=by
   intro m;induction m with
   |zero=>intro aEJ h _ o;exact absurd (ac4 l aEJ h) o
   |succ m S=>
    intro aEJ h z o;change jj l (lg l (λaEJ h=>den u b n x aEJ h (λaEJ h=>jj l (ft l m λj=>lg l (λaEJ h=>den u b n x aEJ h (λaEJ h=>jj l j aEJ h) d g) ma) aEJ h) d g) ma) aEJ h≠ .ax at o;show∃A B h',hT b h h'/\jj l (lg l (λaEJ h=>den u b n x aEJ h (λaEJ h=>jj l (ft l m λj=>lg l (λaEJ h=>den u b n x aEJ h (λaEJ h=>jj l j aEJ h) d g) ma) aEJ h) d g) ma) aEJ h=_/\_;rw[BV] at o ⊢;obtain⟨A,q,r,aS,p,w⟩:=K (tU l aEJ ma) h _ d g z o;cases A with
    |normal=>rw[p] at o ⊢;obtain⟨E,G,H,cZ,I,J⟩:=S q r (ie z aS.ar) o;refine⟨E,G,H,aS.trans cZ,I,λQ a=>?_⟩;obtain⟨M,T⟩:=J Q a;exact⟨M+1,FL (w (xX (rounds (kG gl P b x.ia) Q M) Q) T)⟩
    |exit i=>exact⟨.exit i,q,r,aS,p,λQ a=>⟨1,FL (w (xX (rounds (kG gl P b x.ia) Q 0) Q) a)⟩⟩
    |ret=>exact⟨.ret,q,r,aS,p,λQ a=>⟨1,FL (w (xX (rounds (kG gl P b x.ia) Q 0) Q) a)⟩⟩
  obtain⟨A,q,r,aS,p,w⟩:=R n aEJ h z o;exact⟨A,q,r,aS,p,λQ a=>w Q a⟩
 |exit id=>intro aEJ h fJ d g _ _;exact⟨.exit id,aEJ,h,hT.refl,rfl,λQ a=>a⟩
 |ret=>intro aEJ h fJ d g _ _;exact⟨.ret,aEJ,h,hT.refl,rfl,λQ a=>a⟩
end
end
section
variable{h:aI} {aEJ:dG} {ob:ej} {x q res:an} {b ub ub' f np n:Nat} {rvs:List kL} {aES:List Bool} {aET segs':b1} {dirty:List Nat} {u:Fn} {c:iX} {args:aB}
section
variable[Tok]
theorem aby(i:Nat):mX (Tok.τ i)=true:=by rcases rh (Tok.ou i) with⟨v,h⟩|⟨sz,es,h⟩|⟨cs,o,h⟩<;>rw[h]<;>rfl
noncomputable def aZ(l:aB)(f:an->aB->aw):aw:= @List.rec an (λ_=>aw) .ax (λa r _=>f a r) l
noncomputable def bV(l:aB)(x:aw):aw:= @List.rec an (λ_=>aw) x (λ_ _ _=> .ax) l
noncomputable def EM(f:dG->aw):Nat->Nat->dG->aB->aw
 |0,_,e,l=>(λ(_:Nat)=>bV l (f e)) vI
 |m+1,i,e,l=>aZ l λa r=>EM f m (i+1) (xe e i a) r
theorem adK{f:dG->aw}:∀{m i:Nat} {e:dG} {l:aB},EM f m i e l≠ .ax->∃d,EM f m i e l=f d/\l.length=m/\(∀j,j<i->d j=e j)/\(∀j,i<=j->d j=(l[j-i]?).getD (e j))
 |0,i,e,[],_=>⟨e,rfl,rfl,λ_ _=>rfl,λj _=>by simp⟩
 |0,_,_,_::_,h=>absurd rfl h
 |_+1,_,_,[],h=>absurd rfl h
 |m+1,i,e,a::r,h=>by
  change EM f m (i+1) (xe e i a) r≠ .ax at h;obtain⟨d,o,p,g,t⟩:=adK h;refine⟨d,o,by simp[p],λj w=>?_,λj w=>?_⟩
  ·rw[g j (by omega),DA,cz]
  ·by_cases k:j=i
   ·subst k;rw[g j (by omega),DA,cv rfl];simp
   ·rw[t j (by omega),DA,cU k];congr 1;rw[show j-i=(j-(i+1))+1 by omega,DD]
noncomputable def fK(ob:ej)(x:an)(a:Bool)(n:Nat)(k:an->aw):aw:=
 nE x (λ_ _=> .ax) (λq s off=>nA (ob q) λd cs=>bf (Nat.beq s d) (kJ a n cs off k) .ax) (λ_ _ _ _=> .ax)
noncomputable def tV(ob:ej)(aEJ:dG)(rv:kL)(k:an->aw):aw:=match rv with
 | .tmp t=>(λ(_:Nat)=>k (aEJ t)) vI
 | .cell t a n=>fK ob (aEJ t) a n k
theorem Rr{rv:kL}{k:an->aw}(a:tV h.aj aEJ rv k≠ .ax):∃v,sw (fh aEJ h) rv=some (bi v)/\tV h.aj aEJ rv k=k v:=by
 cases rv with
 |tmp t=>exact⟨aEJ t,rfl,rfl⟩
 |cell t j n=>
  change nE (aEJ t) (λ_ _=> .ax) (λq s off=>nA (h.aj q) λd cs=>bf (Nat.beq s d) (kJ j n cs off k) .ax) (λ_ _ _ _=> .ax)≠ .ax at a;show∃v,_/\nE (aEJ t) (λ_ _=> .ax) (λq s off=>nA (h.aj q) λd cs=>bf (Nat.beq s d) (kJ j n cs off k) .ax) (λ_ _ _ _=> .ax)=_;rcases yI a with⟨cs,off,g,e⟩|⟨q,s,off,g,e⟩|⟨q,s,i,off,g,e⟩
  ·rw[e] at a;exact absurd rfl a
  ·rw[e] at a ⊢;obtain⟨d,cs,l,e⟩:=JA a;rw[e] at a ⊢;obtain⟨o,e⟩:=dV a;rw[e] at a ⊢;obtain⟨v,p,e⟩:=DH _ _ _ _ _ a;refine⟨v,?_,e⟩;have r:(fh aEJ h).aC t= .bn q s off:=by show bi (aEJ t)=_;rw[g];simp only[bi]
   have w:(fh aEJ h).bo q= .box d (gG cs):=by show eJ (h.aj q)=_;rw[l];rfl
   have y:=gz o;simp only[sw,r,w,y,fP,Bi p]
  ·rw[e] at a;exact absurd rfl a
noncomputable def o6(ob:ej)(aEJ:dG)(f:aB->eH->aw):List Bool->List kL->aw
 |_,[]=>(λ(_:Nat)=>f [] []) vI
 |[],x::xs=>tV ob aEJ x λv=>aD ob v λq e0=>o6 ob aEJ (λa us=>f (q::a) (aA e0 us)) [] xs
 |true::bs,x::xs=>tV ob aEJ x λv=>aD ob v λq e0=>o6 ob aEJ (λa us=>f (q::a) (aA e0 us)) bs xs
 |false::bs,x::xs=>tV ob aEJ x λv=>o6 ob aEJ (λa us=>f (v::a) us) bs xs
def vt(q:an):Prop:=q.eg=[]/\q.cR=[]/\mX (bi q)=true
theorem azp(h:lE ob x=some q):q.key=[]:=by
 cases x with
 |az k s off len=>
  simp only[lE] at h;split at h
  ·rename_i d e sz es aEQ g;cases a:(Nat.beq s d&&Nat.ble (Nat.add off len) es.length) with
   |false=>rw[a] at h;simp at h
   |true=>rw[a] at h;simp only[dN,dD] at h;subst h;rfl
  ·cases h
 |_=>simp[lE] at h<;>subst h<;>rfl
theorem VH{ob:ej}:∀{xs a:aB},pS ob xs=some a->a.flatMap an.key=[]
 |[],a,h=>by cases h;rfl
 |x::xs,a,h=>by
  simp only[pS] at h;split at h
  ·rename_i q g d e;cases h;rw[kh,azp d,VH e];rfl
  ·cases h
theorem aCw(h:l8 ob x=some q):vt q:=by
 cases x with
 |agg cs=>
  simp only[l8] at h;split at h
  ·rename_i j d;cases h;have:=VH d;exact⟨this,this,by simp[bi,mX]⟩
  ·cases h
 |az k s off len=>
  have h':lE ob (.az k s off len)=some q:=h;simp only[lE] at h';split at h'
  ·rename_i g e sz es aEQ l;cases a:(Nat.beq s g&&Nat.ble (Nat.add off len) es.length) with
   |false=>rw[a] at h';simp at h'
   |true=>rw[a] at h';simp only[dN,dD] at h';subst h';exact⟨rfl,rfl,by simp[bi,mX]⟩
  ·cases h'
 |tok i=>simp only[l8,lE,dD] at h;subst h;exact⟨rfl,rfl,by simp only[bi];exact aby i⟩
 |_=>simp[l8,lE] at h<;>subst h<;>exact⟨rfl,rfl,by simp[bi,mX,i0]⟩
theorem abf:∀{aES:List Bool} {rvs:List kL} {f:aB->eH->aw},o6 h.aj aEJ f aES rvs≠ .ax->
 ∃d a us,nq (fh aEJ h) rvs=some d/\mA h.iQ aES d=some (a.map bi,us.map hR)/\o6 h.aj aEJ f aES rvs=f a us/\(aES=[]->∀q∈a,vt q):=by
 have r:∀{aES:List Bool} {x:kL} {xs:List kL} {f:aB->eH->aw},
  (∀{f:aB->eH->aw},o6 h.aj aEJ f aES xs≠ .ax->∃d a us,nq (fh aEJ h) xs=some d/\mA h.iQ aES d=some (a.map bi,us.map hR)/\o6 h.aj aEJ f aES xs=f a us/\(aES=[]->∀q∈a,vt q))->
  (tV h.aj aEJ x λv=>aD h.aj v λq e0=>o6 h.aj aEJ (λa us=>f (q::a) (aA e0 us)) aES xs)≠ .ax->
  ∃v d q a us,sw (fh aEJ h) x=some v/\nq (fh aEJ h) xs=some d/\is h.iQ v=some (bi q)/\mA h.iQ aES d=some (a.map bi,us.map hR)/\vt q/\(aES=[]->∀q∈a,vt q)/\
   ∃e0,jE h.iQ v=e0.map hR/\(tV h.aj aEJ x λv=>aD h.aj v λq e0=>o6 h.aj aEJ (λa us=>f (q::a) (aA e0 us)) aES xs)=f (q::a) (e0++us):=by
  intro aES x xs f o g;obtain⟨v,i,e⟩:=Rr g;rw[e] at g ⊢;obtain⟨q,l,e⟩:=FI g;rw[e] at g ⊢;obtain⟨d,a,us,j,k,e,t⟩:=o g;refine⟨bi v,d,q,a,us,i,j,Dy l,k,aCw l,t,oh h.aj v,J9 h.aj v,?_⟩;rw[e,mJ]
 intro aES rvs;induction rvs generalizing aES with
 |nil=>intro f _;cases aES with
  |nil=>exact⟨[],[],[],rfl,rfl,rfl,λ_=>by simp⟩
  |cons _ _=>exact⟨[],[],[],rfl,rfl,rfl,λ_=>by simp⟩
 |cons x xs o=>
  intro f g;cases aES with
  |nil=>obtain⟨v,d,q,a,us,i,l,j,k,w,y,e0,p,e⟩:=r (aES:=[]) (f:=f) o g;refine⟨v::d,q::a,e0++us,by simp only[nq,i,l],?_,e,λ_ z A=>(gy.1 A).elim (λe=>e▸w) (y rfl z)⟩;simp only[mA,lj,lC,fP,j,k,p,gm,ly]
  |cons c bs=>
   cases c with
   |true=>obtain⟨v,d,q,a,us,i,l,j,k,_,_,e0,p,e⟩:=r (aES:=bs) (f:=f) o g;refine⟨v::d,q::a,e0++us,by simp only[nq,i,l],?_,e,λh=>by cases h⟩;simp only[mA,lj,lC,fP,j,k,p,gm,ly]
   |false=>change (tV h.aj aEJ x λv=>o6 h.aj aEJ (λa us=>f (v::a) us) bs xs)≠ .ax at g;show∃d a us,_/\_/\(tV h.aj aEJ x λv=>o6 h.aj aEJ (λa us=>f (v::a) us) bs xs)=_/\_;obtain⟨v,i,e⟩:=Rr g;rw[e] at g ⊢;obtain⟨d,a,us,j,k,e,_⟩:=o g;refine⟨bi v::d,v::a,us,by simp only[nq,i,j],?_,e,λh=>by cases h⟩;simp only[mA,lj,lC,iC,g8,k,gm,kP]
noncomputable def Qa(l:aB):Bool:=
 @List.rec an (λ_=>Bool) true (λc _ a=> @an.rec (λ_=>Bool) (λ_=>PUnit) (λ_=>PUnit) false (λ_=>a) (λ_ _=>a) (λ_ _=>a) a (λ_=>a) (λ_ _=>a) (λ_ _=>false) (λ_ _ _=>a) (λ_ _ _=>a) (λ_ _ _=>a) (λ_ _ _ _=>a) (λ_ _ _ _=>a) (λ_ _=>a) (λ_ _ _=>a) (λ_=>a) PUnit.unit (λ_ _ _ _=>PUnit.unit) PUnit.unit (λ_ _ _ _=>PUnit.unit) c) l
theorem aem:∀{l:aB},Qa l=true->(l.map bi).all mX=true
 |[],_=>rfl
 |c::r,h=>by
  have a:Qa r=true/\mX (bi c)=true:=by
   cases c with
   |tok i=>exact⟨h,by simp only[bi];exact aby i⟩
   |_=>first|exact⟨h,by simp[bi,mX,i0]⟩|exact absurd h (by intro h;cases h)
  rw[gm,DL,a.2,aem a.1];rfl
noncomputable def iT(l:aB):an:= @List.rec an (λ_=>an) (.a0 []) (λv r _=> @List.rec an (λ_=>an) v (λ_ _ _=> .a0 l) r) l
theorem ayG:∀(l:aB),bi (iT l)=sx (l.map bi)
 |[]=>by show bi (.a0 [])=_;simp[bi,gG,sx]
 |[v]=>rfl
 |a::b::r=>by show bi (.a0 (a::b::r))=_;simp[bi,lm,sx]
noncomputable def n8(b:Nat)(cs:aB):Bool:=
 @List.rec an (λ_=>Bool) true (λc _ a=> @an.rec (λ_=>Bool) (λ_=>PUnit) (λ_=>PUnit) a (λ_=>a) (λ_ _=>a) (λ_ _=>a) a (λ_=>a) (λ_ _=>false) (λ_ _=>false) (λ_ _ _=>a) (λ_ _ _=>a) (λk _ _=>cS (Nat.ble (Nat.succ k) b) a) (λk _ _ _=>cS (Nat.ble (Nat.succ k) b) a) (λk _ _ _=>cS (Nat.ble (Nat.succ k) b) a) (λk _=>cS (Nat.ble (Nat.succ k) b) a) (λ_ _ _=>false) (λ_=>a) PUnit.unit (λ_ _ _ _=>PUnit.unit) PUnit.unit (λ_ _ _ _=>PUnit.unit) c) cs
noncomputable def PK(b:Nat)(x:an)(r:Bool):Bool:=
 @an.rec (λ_=>Bool) (λ_=>PUnit) (λ_=>PUnit) r (λ_=>r) (λ_ _=>r) (λ_ _=>r) r (λ_=>r) (λcs _=>cS (n8 b cs) r) (λ_ _=>false) (λ_ _ _=>r) (λ_ _ _=>r) (λk _ _=>cS (Nat.ble (Nat.succ k) b) r) (λk _ _ _=>cS (Nat.ble (Nat.succ k) b) r) (λk _ _ _=>cS (Nat.ble (Nat.succ k) b) r) (λk _=>cS (Nat.ble (Nat.succ k) b) r) (λ_ cs _=>cS (n8 b cs) r) (λ_=>r) PUnit.unit (λ_ _ _ _=>PUnit.unit) PUnit.unit (λ_ _ _ _=>PUnit.unit) x
noncomputable def N4(b:Nat)(cs:aB):Bool:= @List.rec an (λ_=>Bool) true (λc _ a=>PK b c a) cs
noncomputable def sk(b:Nat)(x:an):Bool:=
 @an.rec (λ_=>Bool) (λ_=>PUnit) (λ_=>PUnit) true (λ_=>true) (λ_ _=>true) (λ_ _=>true) true (λ_=>true) (λcs _=>n8 b cs) (λcs _=>N4 b cs) (λ_ _ _=>true) (λ_ _ _=>true) (λk _ _=>Nat.ble (Nat.succ k) b) (λk _ _ _=>Nat.ble (Nat.succ k) b) (λk _ _ _=>Nat.ble (Nat.succ k) b) (λk _=>Nat.ble (Nat.succ k) b) (λ_ cs _=>n8 b cs) (λ_=>true) PUnit.unit (λ_ _ _ _=>PUnit.unit) PUnit.unit (λ_ _ _ _=>PUnit.unit) x
theorem yT{b:Nat}:∀{cs:aB},n8 b cs=true->(∀k∈cs.flatMap an.key,k<b)/\(∀k∈cs.flatMap an.cf,k<b)
 |[],_=>⟨by simp,by simp⟩
 |c::r,h=>by
  have p:n8 b r=true/\(∀k∈c.key,k<b)/\(∀k∈c.cf,k<b):=by
   have one:∀{k:Nat},cS (Nat.ble (Nat.succ k) b) (n8 b r)=true->n8 b r=true/\k<b:=by intro k h;rw[jg,cg] at h;exact⟨h.2,dp h.1⟩
   cases c with
   |bn k s o=>obtain⟨e,d⟩:=one h;exact⟨e,by intro j a;simp[an.key,an.cf] at a;subst a;exact d,by intro j a;simp[an.cf] at a;subst a;exact d⟩
   |az k s o l=>obtain⟨e,d⟩:=one h;exact⟨e,by intro j a;simp[an.key,an.cf] at a;subst a;exact d,by intro j a;simp[an.cf] at a;subst a;exact d⟩
   |dH k s i o=>obtain⟨e,d⟩:=one h;exact⟨e,by intro j a;simp[an.key,an.cf] at a;subst a;exact d,by intro j a;simp[an.cf] at a;subst a;exact d⟩
   |hG k s=>obtain⟨e,d⟩:=one h;exact⟨e,by intro j a;simp[an.key,an.cf] at a;subst a;exact d,by intro j a;simp[an.cf] at a;subst a;exact d⟩
   |_=>first|exact⟨h,by simp[an.key,an.cf],by simp[an.cf]⟩|exact absurd h (by intro h;cases h)
  obtain⟨e,d⟩:=yT p.1;constructor
  ·intro k g;rw[kh,fr] at g;exact g.elim (p.2.1 k) (e k)
  ·intro k g;rw[kh,fr] at g;exact g.elim (p.2.2 k) (d k)
theorem aAr{r:Bool}(h:PK b x r=true):r=true/\∀k∈x.eg,k<b:=by
 have one:∀{k:Nat},cS (Nat.ble (Nat.succ k) b) r=true->r=true/\k<b:=by intro k h;rw[jg,cg] at h;exact⟨h.2,dp h.1⟩
 cases x with
 |agg cs=>have h':cS (n8 b cs) r=true:=h;rw[jg,cg] at h';exact⟨h'.2,(yT h'.1).1⟩
 |gJ f cs=>have h':cS (n8 b cs) r=true:=h;rw[jg,cg] at h';exact⟨h'.2,(yT h'.1).2⟩
 |bn k s o=>obtain⟨d,e⟩:=one h;exact⟨d,by intro j a;simp[an.eg,an.key,an.cf] at a;subst a;exact e⟩
 |az k s o l=>obtain⟨d,e⟩:=one h;exact⟨d,by intro j a;simp[an.eg,an.key,an.cf] at a;subst a;exact e⟩
 |dH k s i o=>obtain⟨d,e⟩:=one h;exact⟨d,by intro j a;simp[an.eg,an.key,an.cf] at a;subst a;exact e⟩
 |hG k s=>obtain⟨d,e⟩:=one h;exact⟨d,by intro j a;simp[an.eg,an.key,an.cf] at a;subst a;exact e⟩
 |a0 cs=>cases h
 |_=>exact⟨h,by simp[an.eg,an.key,an.cf]⟩
theorem act{b:Nat}:∀{cs:aB},N4 b cs=true->∀k∈cs.flatMap an.eg,k<b
 |[],_=>by simp
 |c::r,h=>by have h':PK b c (N4 b r)=true:=h;obtain⟨d,e⟩:=aAr h';intro k a;rw[kh,fr] at a;exact a.elim (e k) (act d k)
theorem Zh(h:sk b x=true):∀k∈x.cR,k<b:=by
 cases x with
 |agg cs=>exact(yT h).1
 |gJ f cs=>exact(yT h).2
 |a0 cs=>exact act h
 |bn k s o=>intro j a;simp[an.cR,an.eg,an.key,an.cf] at a;subst a;exact dp h
 |az k s o l=>intro j a;simp[an.cR,an.eg,an.key,an.cf] at a;subst a;exact dp h
 |dH k s i o=>intro j a;simp[an.cR,an.eg,an.key,an.cf] at a;subst a;exact dp h
 |hG k s=>intro j a;simp[an.cR,an.eg,an.key,an.cf] at a;subst a;exact dp h
 |_=>simp[an.cR,an.eg,an.key,an.cf]
noncomputable def xF(b:Nat)(o:dM):Bool:= @dM.rec (λ_=>Bool) (λ_=>true) (λ_ cs=>n8 b cs) (λ_ _ _ _ _=>true) (λ_ _=>true) o
theorem aAZ{o:dM}(h:xF b o=true):∀k∈(eJ o).cR,k<b:=by
 cases o with
 |box s cs=>
  have:=(yT h).1;intro k a;refine this k ?_;have e:(gG cs).flatMap aG.key=cs.flatMap an.key:=by rw[lm,tx];congr 1;funext y;exact E8 y
  rw[<-e];exact a
 |_=>simp[eJ,Obj.cR]
noncomputable def kE(b:Nat)(aET:b1)(l:List Nat):Bool:= @List.rec Nat (λ_=>Bool) true (λk _ a=>cS (xF b (aET.get k).ag) a) l
theorem Ya{b:Nat}{aET:b1}:∀{l:List Nat},kE b aET l=true->∀k∈l,xF b (aET.get k).ag=true
 |x::r,h,k,a=>by
  have h':cS (xF b (aET.get x).ag) (kE b aET r)=true:=h;rw[jg,cg] at h';rcases gy.1 a with rfl|a
  ·exact h'.1
  ·exact Ya h'.2 k a
noncomputable def L8(b:Nat)(res:an)(h:aI):aw:=
 @aI.rec (λ_=>aw) (λub aET dirty=> @Bool.rec (λ_=>aw) (bf (sk ub res) (.ok res ub aET dirty) .ax) (.ok res b (aET.drop b) dirty) (cS (sk b res) (kE b aET dirty))) h
noncomputable def mH(b:Nat)(a:aB)(us:eH)(h:aI):aw:=bf (Qa a) (pr b us h λh'=>L8 b (iT a) h') .ax
noncomputable def wR(b:Nat)(res:an)(h:aI):aw:=
 @aI.rec (λ_=>aw) (λub aET dirty=> @Bool.rec (λ_=>aw) (.ok res ub aET dirty) (.ok res b (aET.drop b) dirty) (kE b aET dirty)) h
noncomputable def dJ(b:Nat)(res:an)(us:eH)(h:aI):aw:=pr b us h λh'=>wR b res h'
noncomputable def va(b:Nat)(rvs:List kL)(aES:List Bool)(aEJ:dG)(h:aI):aw:=match aES with
 |[]=>o6 h.aj aEJ (λa us=>dJ b (iT a) us h) [] rvs
 |x::y=>o6 h.aj aEJ (λa us=>mH b a us h) (x::y) rvs
theorem acJ:∀{l:aB},(∀q∈l,vt q)->(l.map bi).all mX=true
 |[],_=>rfl
 |c::r,h=>by rw[gm,DL,(h c eS).2.2,acJ λq a=>h q (gv _ a)];rfl
theorem akT:∀{l:aB},(∀q∈l,vt q)->(iT l).cR=[]
 |[],_=>rfl
 |[v],h=>(h v eS).2.1
 |a::b::r,h=>by
  show(an.a0 (a::b::r)).cR=[];have d:∀(l:aB),(∀q∈l,vt q)->l.flatMap an.eg=[]:=by
   intro l;induction l with
   |nil=>intro _;rfl
   |cons c r e=>intro h;rw[kh,(h c eS).1,e λq g=>h q (gv _ g)];rfl
  exact d _ h
noncomputable def ba(b:Nat)(aET:b1):aI:= .mk (Nat.add b 4096) (.cons b .nil aET) []
noncomputable def CB(np n:Nat)(c:iX)(rvs:List kL)(aES:List Bool)(u:Fn)(args:aB)(b:Nat)(aET:b1):aw:=
 EM (λaEJ=>den u b n c aEJ (ba b aET) (va b rvs aES) (λ_ _ _=> .ax) (va b rvs aES)) np 0 ma args
theorem ash(b:Nat)(aET:b1):(ba b aET).iQ=hq b aET:=by
 funext k;show eJ (cE (b+4096) (.cons b .nil aET) k)=eJ (cE b aET k);congr 1;by_cases a:k<b
 ·rw[ic,ic a];show(@Bool.rec (λ_=>e9) (aET.get k) (jO.get .nil k) (Nat.ble b k)).ag=_;have:Nat.ble b k=false:=by
   cases d:Nat.ble b k with
   |true=>have:=dp d;omega
   |false=>rfl
  rw[this]
 ·rw[jz (ub:=b)];by_cases e:k<b+4096
  ·rw[ic e];show(@Bool.rec (λ_=>e9) (aET.get k) (jO.get .nil k) (Nat.ble b k)).ag=_;rw[qQ (by omega)];rfl
  ·rw[jz]
section
variable{gl:eI} {P:Program}
theorem am1{t:dG}{h':aI}{x:ne}{X:cD->aG->Prop}(aS:hT ub (ba ub aET) h')
 (h:va ub rvs aES t h'= .ok res ub' segs' dirty)(W:x= .normal\/x= .ret)(Z:∀w r,Fin aES rvs (hq ub aET) w r x (fh t h')->X w r):
 X (hq ub' segs') (bi res)/\(∀k,k<ub->k∉dirty->cE ub' segs' k=cE ub aET k)/\∀k∈res.cR,k<ub':=by
 have i:va ub rvs aES t h'≠ .ax:=by rw[h];simp
 have split:∃j a us l,nq (fh t h') rvs=some j/\mA h'.iQ aES j=some (a.map bi,us.map hR)/\(a.map bi).all mX=true/\xI ub us h' l/\
  (L8 ub (iT a) l= .ok res ub' segs' dirty\/(wR ub (iT a) l= .ok res ub' segs' dirty/\(iT a).cR=[])):=by
  unfold va at h i;cases aES with
  |nil=>obtain⟨j,a,us,r1,B,E,z⟩:=abf i;simp only[] at h i;rw[E] at h i;obtain⟨l,fp,G⟩:=xG i;have M:pr ub us h' (λh'=>wR ub (iT a) h')= .ok res ub' segs' dirty:=h;rw[G] at M;exact⟨j,a,us,l,r1,B,acJ (z rfl),fp,.inr ⟨M,akT (z rfl)⟩⟩
  |cons x y=>obtain⟨j,a,us,r1,B,E,_⟩:=abf i;simp only[] at h i;rw[E] at h i;unfold mH at h i;obtain⟨z,a1⟩:=dV i;rw[a1] at h i;obtain⟨l,fp,G⟩:=xG i;rw[G] at h;exact⟨j,a,us,l,r1,B,aem z,fp,.inl h⟩
 obtain⟨j,a,us,l,r1,B,z,fp,h⟩:=split;obtain⟨fC,a2,cc⟩:=fp;have N:=aS.trans fC;have a3:bi (iT a)=sx (a.map bi):=ayG a;have O:∀w,E5 (hq ub aET) (c7 h'.iQ (us.map hR)) w (bi (iT a))->X w (bi (iT a)):=by
  intro w a4;refine Z _ _ ?_;have Q:∃j q us,nq (fh t h') rvs=some j/\mA (fh t h').bo aES j=some (q,us)/\q.all mX=true/\bi (iT a)=sx q/\E5 (hq ub aET) (c7 (fh t h').bo us) w (bi (iT a)):=⟨j,a.map bi,us.map hR,r1,B,z,a3,a4⟩;rcases W with rfl|rfl
  ·exact Q
  ·exact Q
 cases l with
 |mk g d d2=>
  have A:c7 h'.iQ (us.map hR)=hq g d:=by rw[<-a2,Va];rfl
  have cl:ub+4096<=g:=N.ar;have H:∀k,k<ub->k∉d2->cE g d k=cE ub aET k:=by
   intro k e I;have fD:=N.same k e I;have J:cE g d k=cE (ub+4096) (.cons ub .nil aET) k:=fD;rw[J,ic,ic e];show(@Bool.rec (λ_=>e9) (aET.get k) (jO.get .nil k) (Nat.ble ub k)).ag=_;have:Nat.ble ub k=false:=by
    cases hh:Nat.ble ub k with
    |true=>have:=dp hh;omega
    |false=>rfl
   rw[this]
  have low:(∀k∈(iT a).cR,k<ub)->kE ub d d2=true->(.ok (iT a) ub (d.drop ub) d2:aw)= .ok res ub' segs' dirty->
   X (hq ub' segs') (bi res)/\(∀k,k<ub->k∉dirty->cE ub' segs' k=cE ub aET k)/\∀k∈res.cR,k<ub':=by
   intro C a5 h;simp only[aw.ok.injEq] at h;obtain⟨rfl,rfl,rfl,rfl⟩:=h;have lo:∀k,k<ub->cE ub (d.drop ub) k=cE g d k:=λk e=>by rw[ic e,ic,b1.rB ub d k e]
   refine⟨O _ ⟨λk=>?_,λk e=>?_,λk e=>?_⟩,λk e I=>by rw[lo k e];exact H k e I,C⟩
   ·by_cases e:k<ub
    ·left;rw[A];show eJ _=eJ _;rw[lo k e]
    ·right;have fD:hq ub (d.drop ub) k= .ax 0:=by show eJ _=_;rw[jz];rfl
     have J:hq ub aET k= .ax 0:=by show eJ _=_;rw[jz];rfl
     rw[fD,J];exact⟨λh=>h,cY _⟩
   ·by_cases D:k<ub
    ·by_cases R:k∈d2
     ·right;intro K S;have fD:hq ub (d.drop ub) k=eJ (d.get k).ag:=by show eJ _=_;rw[ic D,b1.rB ub d k D]
      rw[fD] at S;have L:=aAZ (Ya a5 k R) K S;rw[A];show eJ _=eJ _;rw[lo K L]
     ·left;show eJ _=eJ _;rw[lo k D,H k D R]
    ·exfalso;have fD:hq ub (d.drop ub) k= .ax 0:=by show eJ _=_;rw[jz];rfl
     rw[fD] at e;exact e
   ·have L:=C k (by rw[<-pb];exact e);rw[A];show eJ _=eJ _;rw[lo k L]
  have high:(∀k∈(iT a).cR,k<g)->(.ok (iT a) g d d2:aw)= .ok res ub' segs' dirty->
   X (hq ub' segs') (bi res)/\(∀k,k<ub->k∉dirty->cE ub' segs' k=cE ub aET k)/\∀k∈res.cR,k<ub':=by
   intro C h;simp only[aw.ok.injEq] at h;obtain⟨rfl,rfl,rfl,rfl⟩:=h;exact⟨O _ ⟨λk=> .inl (by rw[A]),λk _=> .inr λK _=>by rw[A],λk _=>by rw[A]⟩,H,C⟩
  rcases h with h|⟨h,bs⟩
  ·change @Bool.rec (λ_=>aw) (bf (sk g (iT a)) (.ok (iT a) g d d2) .ax) (.ok (iT a) ub (d.drop ub) d2) (cS (sk ub (iT a)) (kE ub d d2))= .ok res ub' segs' dirty at h;cases p:cS (sk ub (iT a)) (kE ub d d2) with
   |true=>rw[p] at h;rw[jg,cg] at p;exact low (Zh p.1) p.2 h
   |false=>rw[p] at h;change bf (sk g (iT a)) (.ok (iT a) g d d2) .ax= .ok res ub' segs' dirty at h;obtain⟨bx,fD⟩:=dV (c:=sk g (iT a)) (x:= .ok (iT a) g d d2) (by rw[h];simp);rw[fD] at h;exact high (Zh bx) h
  ·have T:∀b,∀k∈(iT a).cR,k<b:=λb k e=>by rw[bs] at e;cases e
   change @Bool.rec (λ_=>aw) (.ok (iT a) g d d2) (.ok (iT a) ub (d.drop ub) d2) (kE ub d d2)= .ok res ub' segs' dirty at h;cases p:kE ub d d2 with
   |true=>rw[p] at h;exact low (T ub) p h
   |false=>rw[p] at h;exact high (T g) h
theorem aiF(j:mD gl P u){m:Nat}(l:np<=m)
 (o:∀(ub:Nat) (args:dA) (ob a:cD) (res:aG),args.length<=m->kG gl P ub c.ia (Fin aES rvs ob a res) (xA args ob)->lx gl P f args ob res a)
 (h:CB np n c rvs aES u args ub aET= .ok res ub' segs' dirty):
 lx gl P f (args.map bi) (hq ub aET) (bi res) (hq ub' segs')/\(∀k,k<ub->k∉dirty->cE ub' segs' k=cE ub aET k)/\∀k∈res.cR,k<ub':=by
 have d:CB np n c rvs aES u args ub aET≠ .ax:=by rw[h];simp
 unfold CB at h d;obtain⟨e,p,t,_,w⟩:=adK d;rw[p] at h d;have y:fh e (ba ub aET)=xA (args.map bi) (hq ub aET):=by
  unfold fh xA;congr 1
  ·funext i;rw[w i (ik i),D4,fo];cases args[i]? with
   |none=>simp[ma,bi]
   |some v=>rfl
  ·exact ash ub aET
 obtain⟨x,z,h',aS,A,B⟩:=aB4 j (n:=n) c e (ba ub aET) (va ub rvs aES) (λ_ _ _=> .ax) (va ub rvs aES) (cY _) d;rw[A] at h;have g:va ub rvs aES z h'= .ok res ub' segs' dirty->(x= .normal\/x= .ret)->lx gl P f (args.map bi) (hq ub aET) (bi res) (hq ub' segs')/\(∀k,k<ub->k∉dirty->cE ub' segs' k=cE ub aET k)/\∀k∈res.cR,k<ub':=λh C=>
  am1 (X:=λa r=>lx gl P f (args.map bi) (hq ub aET) r a) aS h C (λa r D=>by refine o ub _ _ _ _ (by rw[dS,t];exact l) ?_;rw[<-y];exact B _ D)
 cases x with
 |normal=>exact g h (.inl rfl)
 |ret=>exact g h (.inr rfl)
 |exit i=>cases h
theorem atw(e:mD gl P u){H:l7}{fn:Func}{a:Code}(g:P.follows .mixedOrders=true)(i:P.funcs[f]? =some fn)(j:fn.body=some a)
 (l:(fn.name== "runtime.NumGoroutine")=false)(o:np<=fn.ntmps)(p:rt P fn.results.toList=some rvs)(r:c.ia=comp P H fn.ntmps a)
 (h:CB np n c rvs aES u args ub aET= .ok res ub' segs' dirty):
 lx gl P f (args.map bi) (hq ub aET) (bi res) (hq ub' segs')/\(∀k,k<ub->k∉dirty->cE ub' segs' k=cE ub aET k)/\∀k∈res.cR,k<ub':=by
 refine aiF e o (λub args ob w res t d=>?_) h;rw[r] at d;exact ar7 ub aES rvs g i j l t p d
end
end
end
section
variable{gl:eI} {P:Program}
section
variable[Tok]
def jB:pY->List (Option (List Nat))->iX×List (Option (List Nat))
 | .skip,l=>(.skip,l)
 | .region d o,l=>(.region d o,l)
 | .seq a b,x::l=>match jB a l with
   |(h,g)=>match jB b g with
    |(e,i)=>match x with
     |none=>(.seq h e,i)
     |some v=>(.I7 v h e,i)
 | .seq a b,[]=>match jB a [] with
   |(h,_)=>match jB b [] with
    |(e,_)=>(.seq h e,[])
 | .cond c a b,l=>match jB a l with
   |(h,g)=>match jB b g with
    |(e,i)=>(.cond c h e,i)
 | .block id b,l=>match jB b l with
   |(e,g)=>(.block id e,g)
 | .loop b,x::l=>match jB b l with
   |(e,g)=>(.loop (x.getD []) e,g)
 | .loop b,[]=>match jB b [] with
   |(e,_)=>(.loop [] e,[])
 | .exit id,l=>(.exit id,l)
 | .ret,l=>(.ret,l)
theorem rW:∀(c:pY) (l:List (Option (List Nat))),(jB c l).1.ia=c
 | .skip,_=>rfl
 | .region _ _,_=>rfl
 | .seq a b,x::l=>by
   have d:=rW a l;have e:=rW b (jB a l).2;cases x with
   |none=>show iX.ia (.seq (jB a l).1 (jB b (jB a l).2).1)=_;rw[iX.ia,d,e]
   |some v=>show iX.ia (.I7 v (jB a l).1 (jB b (jB a l).2).1)=_;rw[iX.ia,d,e]
 | .seq a b,[]=>by show iX.ia (.seq (jB a []).1 (jB b []).1)=_;rw[iX.ia,rW a,rW b]
 | .cond c a b,l=>by show iX.ia (.cond c (jB a l).1 (jB b (jB a l).2).1)=_;rw[iX.ia,rW a,rW b]
 | .block id b,l=>by show iX.ia (.block id (jB b l).1)=_;rw[iX.ia,rW b]
 | .loop b,x::l=>by show iX.ia (.loop _ (jB b l).1)=_;rw[iX.ia,rW b]
 | .loop b,[]=>by show iX.ia (.loop _ (jB b []).1)=_;rw[iX.ia,rW b]
 | .exit _,_=>rfl
 | .ret,_=>rfl
abbrev jq:=Fn->aB->Nat->b1->aw
def i5(gl:eI)(P:Program)(f:Nat)(g:jq):Prop:=
 ∀u,mD gl P u->∀args ub aET b a c d,g u args ub aET= .ok b a c d->lx gl P f (args.map bi) (hq ub aET) (bi b) (hq a c)/\
  (∀k,k<ub->k∉d->cE a c k=cE ub aET k)/\∀k∈b.cR,k<a
structure Cu where
 f:Nat
 fn:Func
 aO:l7
 ns:Nat
 g3:List kL
 gc:List Bool
 iw:List (Option (List Nat))
def QI(fn:Func):Code:=fn.body.getD .skip
noncomputable def Cu.den(P:Program)(d:Cu):jq:=CB d.ns 1000000 (jB (comp P d.aO d.fn.ntmps (QI d.fn)) d.iw).1 d.g3 d.gc
theorem alO(d:Cu){g:jq}(c:P.follows .mixedOrders=true)(e:P.funcs[d.f]? =some d.fn)(a:d.fn.body.isSome=true)
 (i:(d.fn.name== "runtime.NumGoroutine")=false)(j:Nat.ble d.ns d.fn.ntmps=true)(k:rt P d.fn.results.toList=some d.g3)(l:g=d.den P):i5 gl P d.f g:=by
 intro u n args ub aET q r t w h;subst l;have o:d.fn.body=some (QI d.fn):=by
  unfold QI;cases p:d.fn.body with
  |none=>rw[p] at a;cases a
  |some b=>rfl
 exact atw n (H:=d.aO) c e o i (dp j) k (rW _ _) h
inductive aR where
 |ax
 |mk (g:jq)
inductive lZ where
 |bh (f:Nat) (g:jq)
 |node (m:Nat) (l r:lZ)
noncomputable def look(t:lZ):Nat->aR:=
 @lZ.rec (λ_=>Nat->aR) (λk g f=> @Bool.rec (λ_=>aR) .ax (.mk g) (Nat.beq f k)) (λm _ _ a b f=> @Bool.rec (λ_=>aR) (b f) (a f) (Nat.ble f m)) t
noncomputable def bB(T:lZ)(n:Nat):Fn:= @Nat.rec (λ_=>Fn) (λ_ _ _ _=> .ax) (λ_ t f args b aET=> @aR.rec (λ_=>aw) .ax (λg=>g t args b aET) (look T f)) n
def qf(gl:eI)(P:Program):lZ->Prop
 | .bh f g=>i5 gl P f g
 | .node _ l r=>qf gl P l/\qf gl P r
theorem LU{gl:eI}{P:Program}:∀{T:lZ},qf gl P T->∀{f:Nat} {g:jq},look T f= .mk g->i5 gl P f g
 | .bh k g',b,f,g,h=>by
   change @Bool.rec (λ_=>aR) .ax (.mk g') (Nat.beq f k)= .mk g at h;cases a:Nat.beq f k with
   |true=>rw[a] at h;have e:=gz a;subst e;cases h;exact b
   |false=>rw[a] at h;cases h
 | .node m l r,b,f,g,h=>by
   change @Bool.rec (λ_=>aR) (look r f) (look l f) (Nat.ble f m)= .mk g at h;cases a:Nat.ble f m with
   |true=>rw[a] at h;exact LU b.1 h
   |false=>rw[a] at h;exact LU b.2 h
theorem zg{gl:eI}{P:Program}{T:lZ}(b:qf gl P T):∀n,mD gl P (bB T n)
 |0=>by intro f args ub aET c d e i h;cases h
 |n+1=>by
  intro f args ub aET c d e i h;change @aR.rec (λ_=>aw) .ax (λg=>g (bB T n) args ub aET) (look T f)=_ at h;cases a:look T f with
  |ax=>rw[a] at h;cases h
  |mk g=>rw[a] at h;exact LU b a (bB T n) (zg b n) args ub aET c d e i h
theorem ayQ{T:lZ}(d:qf gl P T){n f:Nat}{args:aB}{a:an}{aET:b1}{b:List Nat}(h:bB T n f args 0 .nil= .ok a 0 aET b):uP gl P f (args.map bi) (bi a):=by obtain⟨c,_,e⟩:=zg d n f args 0 .nil a 0 aET b h;rw[vD,vD] at c;refine⟨c,?_⟩;rw[pb];exact AY.2 λk g=>Nat.not_lt_zero k (e k g)
end
end
section
variable{gl:eI} {P:Program} {f ub:Nat} {l:aB} {res:an} {s:b1} {d:List Nat} {x:aw}
section
variable[Tok]
theorem sU.Ox{g:ck}{w:World}{ob:cD}:∀{us vs:List Value},sU g w ob (us.map aG.bu) vs->vs=us
 |[],[],_=>rfl
 |[],_::_,h=>by have:=h.1;simp at this
 |_::_,[],h=>by have:=h.1;simp at this
 |u::us,v::vs,h=>by have a:dT g w ob (.bu u) v:=h.2 0 (.bu u) v rfl rfl;have e:=a.fB.1;have b:sU g w ob (us.map aG.bu) vs:=⟨by have:=h.1;simpa using this,λi p x c j=>h.2 (i+1) p x (by simpa using c) (by simpa using j)⟩;rw[e,sU.Ox b]
theorem aj2(b:Enters P f)(a:List Value)(r:Value)(i:iO r=true)
 (h:∀c w,gl.ak c w->Calls P f a.toArray w λe w'=>e= .returned r/\Below w.heap.size w w')(ob:cD):lx gl P f (a.map aG.bu) ob (.bu r) ob:=by
 refine⟨b,λg w vs j k n=>?_⟩;rw[sU.Ox n];refine(h g.U w j).mono ?_;rintro e w' ⟨rfl,o⟩;exact⟨r,g,rfl,ml.below k o,.inr (.inl (.inl (.bu i)))⟩
theorem M3{g:jq}(p:Enters P f)
 (h:∀u args ub aET res a b i,g u args ub aET= .ok res a b i->a=ub/\b=aET/\i=[]/\∃(j:List Value) (r:Value),args.map bi=j.map aG.bu/\bi res= .bu r/\iO r=true/\
  ∀c w,gl.ak c w->Calls P f j.toArray w λe w'=>e= .returned r/\Below w.heap.size w w'):i5 gl P f g:=by
 intro u _ args ub aET res a b i q;obtain⟨rfl,rfl,rfl,j,r,t,n,y,z⟩:=h u args ub aET res a b i q;refine⟨?_,λ_ _ _=>rfl,λk o=>?_⟩
 ·rw[t,n];exact aj2 p j r y z _
 ·rw[<-pb,n] at o;simp[aG.cR,aG.eg,aG.key,aG.cf] at o
structure So (w0:World) (c0:Nat->Nat) (c:Nat->Nat) (w:World):Prop where
 acN:∀b i v,w0.cell? ⟨b,i,none⟩=some v->i<c0 b
 size:w0.heap.size<=w.heap.size
 cell:∀b,b<w0.heap.size->c0 b<c b/\∀i,i<=c0 b->w.cell? ⟨b,i,none⟩=w0.cell? ⟨b,i,none⟩
def alK(a:World->Prop)(c:Nat->Nat)(w:World):Prop:=∃w0 c0,a w0/\So w0 c0 c w
def awT(k:World->Prop):eI:=⟨alK k,λ{c q w w'} e h=>by obtain⟨w0,c0,n,a⟩:=h;refine⟨w0,c0,n,a.acN,ie a.size e.size,λb g=>?_⟩;obtain⟨o,p⟩:=a.cell b g;have j:b<w.heap.size:=nJ g a.size;exact⟨nJ o (e.le b j),λi hi=>(e.cell b i j (by omega)).trans (p i hi)⟩⟩
theorem azw{w w0:World}{c0 c:Nat->Nat}(h:So w0 c0 c w){name:String}{k:IntKind}{z:Int}{a:List Int}
 (b:Lib.TabIs P w0 name k (z::a)):Lib.TabIs P w name k (z::a):=by
 unfold Lib.TabIs World.var? at b ⊢;cases p:P.globalNamed name with
 |none=>rw[p] at b;cases b
 |some g=>
  rw[p] at b;simp only[tL] at b ⊢;split at b
  ·rename_i cs t C e;cases b;have r:g<w0.heap.size:=(Gk.1 e).1;have D:(z::a).length-1<c0 g:=by
    obtain⟨v,u⟩:∃v,w0.cell? ⟨g,(z::a).length-1,none⟩=some v:=by simp only[World.cell?,e];exact⟨_,OC (by simp)⟩
    exact h.acN g _ v u
   have j:∀i,i<=(z::a).length->w.cell? ⟨g,i,none⟩=w0.cell? ⟨g,i,none⟩:=λi hi=>(h.cell g r).2 i (by omega);have y:w0.cell? ⟨g,0,none⟩=some (.int k z):=by simp only[World.cell?,e];rfl
   have n:=j 0 (by omega);rw[y] at n;simp only[World.cell?] at n j;split at n
   ·rename_i aEG E G o;rw[o];simp only[dD];apply Array.ext_getElem?;intro i;by_cases hi:i<=(z::a).length
    ·have:=j i hi;rw[o,e] at this;exact this
    ·have q:=j (z::a).length (cY _);rw[o,e] at q;have A:(((z::a).map λz=>Value.int k z).toArray)[(z::a).length]? =none:=by simp
     have B:aEG[(z::a).length]? =none:=q.trans A;rw[DX] at B;have H:(((z::a).map λz=>Value.int k z).toArray).size=(z::a).length:=by simp
     rw[DX.2 (by omega),DX.2 (by omega)]
   ·cases n
  ·cases b
theorem oZ{f:an->aB->aw}(h:aZ l f= .ok res ub s d):∃x r,l=x::r/\f x r= .ok res ub s d:=by
 cases l with
 |nil=>cases h
 |cons x r=>exact⟨x,r,rfl,h⟩
theorem wV(h:bV l x= .ok res ub s d):l=[]/\x= .ok res ub s d:=by
 cases l with
 |nil=>exact⟨rfl,h⟩
 |cons x r=>cases h
theorem J3{x:an}{f:Nat->Nat->aw}(h:k6 x f= .ok res ub s d):∃n v,x= .s n v/\f n v= .ok res ub s d:=by obtain⟨n,v,e,a⟩:=qE (by rw[h];simp:k6 x f≠ .ax);exact⟨n,v,e,by rw[<-a];exact h⟩
theorem x6{x:an}{f:IntKind->Nat->aw}(h:jR x f= .ok res ub s d):∃q n,x= .V q n/\f q n= .ok res ub s d:=by obtain⟨n,v,e,a⟩:=qB (by rw[h];simp:jR x f≠ .ax);exact⟨n,v,e,by rw[<-a];exact h⟩
theorem jt{c:Bool}(h:bf c x .ax= .ok res ub s d):c=true/\x= .ok res ub s d:=by
 cases c
 ·cases h
 ·exact⟨rfl,h⟩
def Cw(l:List UInt8):an:= .s l.length (oI l)
theorem Q1(l:List UInt8):bi (Cw l)= .bu (.string ⟨l.toArray⟩):=by unfold Cw;simp only[bi,e7,HZ]
end
end
section
variable{g:ck} {w:World} {ob:cD} {k s:Nat} {c1:aG}
section
variable[Tok]
theorem ml.nD{w':World}(c:oC g w ob)(k:Nat)(x:Obj)(j:(ob k).fx)
 (r:w'.os=w.os)(t:w'.tape=w.tape)(u:w'.output=w.output)(G:w.heap.size=w'.heap.size)(l:∀b,b≠g.b3 k->w'.heap[b]? =w.heap[b]?)
 (y:∀i,i<g.U (g.b3 k)->w'.cell? ⟨g.b3 k,i,none⟩=w.cell? ⟨g.b3 k,i,none⟩)(o:fY g ob g (dl ob k x))(z:gk g.U w g.U w'->kR g w' (dl ob k x) k x):ml g w ob g w' (dl ob k x):=by
 have n:gk g.U w g.U w':=⟨by omega,λ_ _=>cY _,λb i _ hi=>by
  by_cases e:b=g.b3 k
  ·subst e;exact y i hi
  ·simp only[World.cell?,l b e]⟩
 have d:∀a,(dl ob k x a).fx->(ob a).fx:=by
  intro a h;by_cases e:a=k
  ·subst e;exact j
  ·rw[ir _ _ e] at h;exact h
 refine⟨⟨r,t,u,by omega,λb _ A=>l b (λe=>A ⟨k,j,e.symm⟩),λ_ _ _=>rfl⟩,n,⟨λa=>?_,λp q B C e=>c.inj p q (d p B) (d q C) e,λa h=>by have:=c.lt a (d a h);omega⟩,o,λa h=> .inr ⟨a,d a h,rfl⟩⟩;by_cases e:a=k
 ·subst e;rw[iM];exact z n
 ·rw[ir _ _ e];exact kR.fg n o (λD=>⟨rfl,rfl,rfl,l _ (λE=>e (c.inj a k D j E))⟩) (c.ig a)
theorem fY.drop(g:ck)(k s:Nat)(h:(ob k).cd<=s):fY g ob g (dl ob k (.ax s)):=by
 intro c;by_cases b:c=k
 ·subst b;rw[iM];exact⟨h,(λ_ a=>by cases a),(λ_ _ _ _ a=>by cases a),(λ_ a=>by cases a)⟩
 ·rw[ir _ _ b];exact⟨cY _,λcs a=>⟨⟨cs,a⟩,rfl⟩,λ_ _ es aEQ a=>⟨⟨es,aEQ,a,cY _⟩,rfl,rfl⟩,λes a=>⟨⟨es,a⟩,rfl⟩⟩
theorem dT.unit:dT g w ob (.a0 []) (.tuple #[]):=
 .inr (.inr (.inr (.inl ⟨[],[],rfl,rfl,rfl,λj q u h=>by simp at h⟩)))
theorem Mx{cs:dA}{vs:List Value}(c:ob k= .box s cs)(b:sU g w ob [.bn k s 0] vs):vs=[.pointer (some ⟨g.b3 k,0,none⟩)]:=by
 match vs,b with
 |[],b=>have:=b.1;simp at this
 |[v],b=>have h:=b.2 0 _ v rfl rfl;obtain⟨_,a,d,e⟩:=h.ju (by simp[aG.key,aG.cf]);rw[d,e cs c]
 |_::_::_,b=>have:=b.1;simp at this
section
variable{gl:eI} {P:Program} {f T:Nat}
theorem aA5(l:Enters P f)(h:∀b w,w.cell? ⟨b,0,none⟩=some (.pointer (some ⟨b,0,none⟩))->Calls P f #[.pointer (some ⟨b,0,none⟩)] w λe w'=>e= .returned (.tuple #[])/\w'=w)
 (d:ob k= .box s [.bn k s 0,c1]):lx gl P f [.bn k s 0] ob (.a0 []) ob:=by
 refine⟨l,λg w vs x i n=>?_⟩;rw[Mx d n];have j:=i.ig k;rw[d] at j;obtain⟨aEE,T,r1,y,z,o⟩:=j;obtain⟨u,p,_,c⟩:=o 0 _ rfl;have q:u= .pointer (some ⟨g.b3 k,0,none⟩):=by
  rcases c with c|c
  ·cases c
  ·obtain⟨_,a,r,t⟩:=c;rw[r,t _ d]
 subst q;refine(h (g.b3 k) w (by simp only[World.cell?,r1];exact p)).mono ?_;rintro e w' ⟨rfl,rfl⟩;exact⟨_,g,rfl,ml.below i (Below.refl _ _),dT.unit⟩
theorem aoL(h:Enters P f)(y:∀b w,w.cell? ⟨b,0,none⟩=some (.pointer none)->w.shape? b=some (T,2)->w.frozen? ⟨b,0,none⟩=false->
 Calls P f #[.pointer (some ⟨b,0,none⟩)] w λe w'=>e= .returned (.tuple #[])/\w'=w.setCell ⟨b,0,none⟩ (.pointer (some ⟨b,0,none⟩)))
 (z:s%65536=T)(d:ob k= .box s [.bu (.pointer none),c1]):lx gl P f [.bn k s 0] ob (.a0 []) (dl ob k (.box s [.bn k s 0,c1])):=by
 refine⟨h,λg w vs N o A=>?_⟩;rw[Mx d A];have p:=o.ig k;rw[d] at p;obtain⟨aEE,l,r1,⟨B,r⟩,C,t⟩:=p;have D:(ob k).fx:=by rw[d];trivial
 have E:l=T:=by rw[<-r,z]
 subst E;obtain⟨u,G,_,c⟩:=t 0 _ rfl;have H:u= .pointer none:=by
  rcases c with c|c
  ·cases c;rfl
  ·exact c.elim
 subst H;have n:aEE.size=2:=B;refine(y (g.b3 k) w (by simp only[World.cell?,r1];exact G) (by simp[World.shape?,r1,n]) (by simp[World.frozen?,r1])).mono ?_;rintro e w' ⟨rfl,rfl⟩;have I:(w.setCell ⟨g.b3 k,0,none⟩ (.pointer (some ⟨g.b3 k,0,none⟩))).heap[g.b3 k]? =some (.cells (aEE.setIfInBounds 0 (.pointer (some ⟨g.b3 k,0,none⟩))) l (0,0)):=by simp[World.setCell,OJ,r1]
 have x:=fY.box g (aEG:=[.bn k s 0,c1]) d;refine⟨_,g,rfl,ml.nD o k (.box s [.bn k s 0,c1]) D rfl rfl rfl (by simp[World.setCell]) (λb J=>Below.heap_setCell _ _ _ _ J) (λi hi=>by omega) x (λh=>?_),dT.unit⟩;refine⟨_,l,I,⟨by simpa using n,r⟩,C,λj q a=>?_⟩
 match j,a with
 |0,a=>simp at a;subst a;refine⟨.pointer (some ⟨g.b3 k,0,none⟩),by simp[n],rfl,.inr ⟨by simp[dl,Obj.cd],_,rfl,λaEG _=>rfl⟩⟩
 |1,a=>simp at a;subst a;obtain⟨u,K,L,M⟩:=t 1 _ rfl;exact⟨u,by simp[OB,K],L,M.step h x⟩
 |j+2,a=>simp at a
theorem afd(D:Enters P f){e:Nat}(E:∀(b r d:Nat) (p:Value) (h:Array Value) (T:TypeId) (l:List UInt8) (w:World),l≠[]->w.heap[b]? =some (.cells #[p,.slice (some ⟨r,0,none⟩) l.length d] T (0,0))->
 w.heap[r]? =some (.cells h e (0,0))->l.length<=d->d<=maxLen->h.size=d->(∀(j:Nat) (x:UInt8),l[j]? =some x->h[j]? =some (.int .u8 x.toNat))->
 Calls P f #[.pointer (some ⟨b,0,none⟩)] w λe w'=>e= .returned (.string ⟨l.toArray⟩)/\w'=w.drew.freeze ⟨r,0,none⟩ l.length)
 {a aM:Nat}{c0:aG}{l:List UInt8}{aEQ:Bool}(G:l≠[])(z:ob k= .box s [c0,.az a aM 0 l.length])(n:ob a= .az aM e 1 (l.map λc=>[.bu (.int .u8 c.toNat)]) aEQ):
 lx gl P f [.bn k s 0] ob (.bu (.string ⟨l.toArray⟩)) (dl ob a (.ax aM)):=by
 refine⟨D,λg w vs a4 t H=>?_⟩;rw[Mx z H];have A:=t.ig k;rw[z] at A;obtain⟨aEE,I,r1,⟨J,a5⟩,bs,B⟩:=A;have K:(ob a).fx:=by rw[n];trivial
 obtain⟨wD,L,_,_⟩:=B 0 _ rfl;obtain⟨M,N,_,q⟩:=B 1 _ rfl;obtain⟨b',o',d,O,Q,R,S⟩:∃b o d,M= .slice (some ⟨b,o,none⟩) l.length d/\l.length<=d/\d<=maxLen/\
  ∀e sz es aEQ,ob a= .az aM e sz es aEQ->0+l.length<=es.length/\b=g.b3 a/\(0<l.length\/0=0->o=0*sz)/\(0=0->d=g.cap a):=by
  rcases q with q|q
  ·cases q
  ·exact q.2
 obtain⟨f1,f2,f3,f4⟩:=S _ _ _ _ n;have W:o'=0:=by have:=f3 (.inr rfl);omega
 have X:=f4 rfl;subst W f2 X O;have C:=t.ig a;rw[n] at C;obtain⟨h,y,bx,cc,cl,cn,Z,cp,cs⟩:=C;have a1:aEE= #[wD,.slice (some ⟨g.b3 a,0,none⟩) l.length (g.cap a)]:=by
  apply Array.ext_getElem?;intro i
  match i with
  |0=>simpa using L
  |1=>simpa using N
  |i+2=>rw[DX.2 (by simp at J;omega)];simp
 rw[a1] at r1;have a2:∀(j:Nat) (x:UInt8),l[j]? =some x->h[j]? =some (.int .u8 x.toNat):=by intro j x hx;obtain⟨u,t1,_,t3⟩:=Z j 0 [.bu (.int .u8 x.toNat)] (.bu (.int .u8 x.toNat)) (by simp[hx]) rfl;have:=t3.fB.1;subst this;simpa using t1
 refine(E (g.b3 k) (g.b3 a) (g.cap a) wD h I l w G r1 y Q R (by omega) a2).mono ?_;rintro e w' ⟨rfl,rfl⟩;have a3:∀b,b≠g.b3 a->(w.drew.freeze ⟨g.b3 a,0,none⟩ l.length).heap[b]? =w.heap[b]? :=by
  intro b hb;unfold World.freeze;split
  ·rfl
  ·simp only[OJ];rw[cU (λe=>hb e.symm)];rfl
 refine⟨_,g,rfl,ml.nD t a (.ax aM) K ?_ ?_ ?_ ?_ a3 (λi hi=>?_) (fY.drop g a aM (by rw[n];exact cY _)) (λ_=>trivial),.inr (.inl (.inl (.bu rfl)))⟩
 ·unfold World.freeze;split<;>rfl
 ·unfold World.freeze;split<;>rfl
 ·unfold World.freeze;split<;>rfl
 ·unfold World.freeze;split
  ·rfl
  ·simp
 ·have n:w.drew.heap[g.b3 a]? =some (.cells h e (0,0)):=y;unfold World.freeze;split
  ·rfl
  ·simp only[World.cell?,OJ,cv,n,y,jZ]
end
end
end
section
variable[Tok]
section
variable{P:Program}
end
end
section
variable[Tok]
section
variable{P:Program} {H:l7} {n B bs:Nat} {O:Nat->Prop} {gl:eI} {eO:ck} {ob0:cD} {w00:World} {c0:Nat->Nat} {w0:World} {cats:List Nat}
set_option maxHeartbeats 1000000 in
end
end
end Go.Hf

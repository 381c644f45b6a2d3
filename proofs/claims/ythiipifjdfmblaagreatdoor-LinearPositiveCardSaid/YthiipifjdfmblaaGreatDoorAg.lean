import Derived.Test.YthiipifjdfmblaaGreatDoorAf
import Derived.Lib.LaidTab
set_option linter.all false
namespace Go.Hf
open Go.RowKit
section
variable{a:aw} {x:an} {k:dg} {b fid:Nat} {wk:Option (List Nat)} {h:aI} {g:Option (Nat×Bool)} {u:Fn} {asB:Bool} {o:ey} {f:Operand} {args:List Operand} {asC:dG} {p:aG} {ar9:aB} {frz:List Bool} {os:List ey}
section
variable[Tok]
noncomputable def fh(asC:dG)(h:aI):df:=⟨λi=>bi (asC i),h.iQ⟩
theorem sA(asC:dG)(h:aI):(λx=>bi (et asC x))=c9 (fh asC h).aC:=by
 funext x;cases x with
 |tmp t=>rfl
 |const v=>exact aDT v
 |func f=>simp only[et,bi];rfl
 |global g=>simp only[et,bi];rfl
theorem Wj(asC:dG)(h h':aI)(d:Option Nat)(v:an):fh (rT asC d v) h'=⟨put (fh asC h).aC d (bi v),h'.iQ⟩:=by
 cases d with
 |none=>rfl
 |some t=>
  show df.mk _ _=df.mk _ _;congr 1;funext j;show bi (@Bool.rec (λ_=>an) (asC j) v (Nat.beq j t))=if j=t then bi v else bi (asC j);by_cases e:j=t
  ·subst e;rw[D1,y1 rfl]
  ·rw[uI (λx=>e x.symm),Ca e]
theorem h7.U{x y:Option an}{k:an->aw}(s:h7 a x k)(e:x=y):h7 a y k:=e▸s
theorem nX.U{x y:n0}(s:nX b wk a x h k)(e:x=y):nX b wk a y h k:=e▸s
theorem nX.gY{x:n0}:nX b wk .ax x h k:=λh=>absurd rfl h
theorem ar8{d:Nat}{ev:Operand->an}{r:nw}:nX b wk (Hy b d wk ev h k r) (oS ev h.aj (b+d) r) h k:=by
 cases r with
 |qg x=>exact(h7.Y (x:=some (ev x)) λ_=>⟨_,rfl,rfl⟩)
 |pick c x y=>exact(aDr _ _ _ _).Y
 |alloc t zero=>exact VS _ _ _ _ _ _ _
 |box t x=>exact akw _ _ _ _ _ _ _
 |build zero w=>refine(h7.Y (afp _ _ _)).U ?_;simp only[oS];cases uv (zero.map mm) (w.map λq=>(q.1,q.2.1,ev q.2.2))<;>rfl
 |m4 e sz zero len w as0=>refine(arJ _ _ _ _ _ _ _ _ _ _ _).U ?_;simp only[oS,Mq,cg];rfl
 |load isAgg n a=>exact(aeY _ _ _ _ _).Y
 |store n a v=>exact aiY _ _ _ _ _ _ _
 |qj x=>exact(aAR _ _).Y
 |qo j x y=>exact(akL _ _ _ _).Y
 |p1 neg x y=>exact(ard _ _ _ _).Y
 |qn neg x y=>exact(aEs _ _ _ _).Y
 |pK neg x=>exact(al6 _ _ _).Y
 |nC j x=>exact(afP _ _ _).Y
 |p4 z x=>exact(se _ _).Y
 |oQ x=>exact(se _ _).Y
 |oJ e sz bytes zero l c=>exact Bu _ _ _ _ _
 |p9 x lo hi=>exact(aAq _ _ _ _).Y
 |o9 sz x lo hi=>exact(amn _ _ _ _ _ _).Y
 |p6 o x=>exact(auX _ _ _).Y
 |p5 isAgg off n x=>exact(aoQ _ _ _ _ _).Y
 |ji sz x i=>exact(aAT _ _ _ _ _).Y
 |pJ x i=>exact(anr _ _ _).Y
 |ext x i=>exact(anQ _ _ _).Y
 |len A x=>exact(azM _ _ _).Y
 |append e sz bytes s x as0=>exact Wq _ _ _ _ _ _ _ _ _ _ _
 |mM e bytes s x as0=>exact aCX _ _ _ _ _ _ _ _ _ _
 |kV B x y=>exact(se _ _).Y
 |pB n sz x i=>exact(se _ _).Y
 |e0 j x y=>exact(se _ _).Y
 |bits j x y=>exact(se _ _).Y
 |qa f ar9=>exact(se _ _).Y
 |pF x=>exact(se _ _).Y
 |oy e sz bytes zero s x as0=>exact Bu _ _ _ _ _
 |oO e sz zero x=>exact Bu _ _ _ _ _
 |oF n x=>exact Bu _ _ _ _ _
 |_=>exact nX.gY
section
variable{gl:eI} {P:Program}
noncomputable def hq(ub:Nat)(l:b1):Nat->Obj:=λk=>eJ (cE ub l k)
def mD(gl:eI)(P:Program)(u:Fn):Prop:=
 ∀f args ub atf d c e i,u f args ub atf= .ok d c e i->lx gl P f (args.map bi) (hq ub atf) (bi d) (hq c e)/\
  (∀k,k<ub->k∉i->cE c e k=cE ub atf k)/\∀k∈d.cR,k<c
theorem vD(l:b1):hq 0 l=qY:=by funext k;show eJ (cE 0 l k)= .ax 0;rw[jz (xW k)];rfl
theorem Va(h:aI):h.iQ=hq h.bh h.au:=by funext k;show eJ (h.aj k)=_;rw[aI.aki];rfl
theorem Yq{g:Nat->aB->aw}(h:EZ x g≠ .ax):∃f ar9,oH (bi x)=some (f,ar9.map bi)/\EZ x g=g f ar9:=by
 unfold EZ at h ⊢;split at h
 ·exact⟨_,[],by simp only[bi,fq];rfl,rfl⟩
 ·exact⟨_,_,by simp only[bi,lm];rfl,rfl⟩
 ·exact absurd rfl h
theorem afx{g:Nat->aw}(h:H4 x g≠ .ax):∃f,bi x= .bu (.func (.func f) #[] #[])/\H4 x g=g f:=by
 unfold H4 at h ⊢;split at h
 ·exact⟨_,by simp only[bi],rfl⟩
 ·exact absurd rfl h
theorem Mg{b x:Nat}(c:x<b):∀{l:List Nat},x∈l->x∈gZ b l
 |y::r,h=>by
  show x∈ @Bool.rec (λ_=>List Nat) (gZ b r) (y::gZ b r) (Nat.ble (Nat.succ y) b);rcases pG.1 h with rfl|h
  ·have:Nat.ble (Nat.succ x) b=true:=gz c;rw[this];exact HO
  ·cases Nat.ble (Nat.succ y) b with
   |true=>exact OJ _ (Mg c h)
   |false=>exact Mg c h
def uU(gl:eI)(P:Program)(b:Nat)(asB:Bool)(o:ey)(asC:dG)(h:aI)(a:aw)(k:dg):Prop:=
 a≠ .ax->∃v h',hT b h h'/\a=k v h'/\
  ∀K:df->Prop,K ⟨put (fh asC h).aC o.dst (bi v),h'.iQ⟩->Pr b asB o (c9 (fh asC h).aC)->l6 (fh asC h).aC o.guard=some true->nW gl P b asB o (fh asC h) K
theorem Yp(r:mD gl P u)(t:o.ai= .call f args)
 (w:c9 (fh asC h).aC f= .bu (.func (.func fid) #[] #[])):uU gl P b asB o asC h (Cn u b (qT asB o) fid (args.map (et asC)) h k) k:=by
 intro c;unfold Cn at c ⊢;obtain⟨j,us,y,e⟩:=zb c;rw[e] at c ⊢;unfold bH at c ⊢;obtain⟨z,e⟩:=dV c;rw[e] at c ⊢;have l:=B9 y;rw[sA asC h] at l;cases i:u fid j 0 .nil with
 |ax=>rw[i] at c;exact absurd rfl c
 |ok d n J L=>
  rw[i] at c;change bf (Nat.beq n 0) (ws b us h λh'=>k d h') .ax≠ .ax at c;show∃v h',hT b h h'/\bf (Nat.beq n 0) (ws b us h λh'=>k d h') .ax=k v h'/\_;obtain⟨A,e⟩:=dV c;rw[e] at c ⊢;obtain⟨h',B,C⟩:=xG c;have D:=dp A;subst D;obtain⟨aS,cZ,gg⟩:=B;refine⟨d,h',aS,C,λK q E F=>?_⟩;obtain⟨c1,_,G⟩:=r _ _ _ _ _ _ _ _ i;rw[vD,vD] at c1;unfold nW;rw[F];refine⟨E,?_⟩;simp only[t];rw[w];simp only[];have H:iU (c9 (fh asC h).aC) (fh asC h).bo [] args=some (j.map bi,us.map hR):=l;rw[H];refine⟨bi d,⟨c1,?_⟩,Kw z,?_⟩
  ·rw[pb];exact AY.2 λk I=>Nat.not_lt_zero k (G k I)
  ·rw[cZ] at q;exact q
theorem PC(d:mD gl P u)(i:o.ai= .call f args):
 uU gl P b asB o asC h (Bb u b (qT asB o) (et asC f) (args.map (et asC)) h k) k:=by
 intro c;unfold Bb at c ⊢;obtain⟨fid,j,e⟩:=afx c;rw[e] at c ⊢;refine Yp d i ?_ c;rw[<-sA asC h];exact j
theorem Sc{b:Nat}{wk:List Nat}:∀{l:List Nat},sS b wk l=true->∀k∈l,fl b k∈wk
 |x::r,h,k,c=>by
  have h':cS (eb wk (iD b x)) (sS b wk r)=true:=h;rw[jg,Hi] at h';rcases pG.1 c with rfl|c
  ·have:=sK h'.1;rw[wb] at this;exact this
  ·exact Sc h'.2 k c
theorem av6{k:Nat}(h:k∈p.cf):k∈p.cR:=by cases p<;>first|exact h|cases h
theorem aoU{ar9:dA}(h:oH p=some (fid,ar9)){k:Nat}(c:k∈p.cR):∃x∈ar9,k∈x.cR:=by
 cases p with
 |gJ f cs=>simp only[oH,O5,pV] at h;obtain⟨_,rfl⟩:=h;obtain⟨x,d,e⟩:=Ij.1 (show k∈cs.flatMap aG.cf from c);exact⟨x,d,av6 e⟩
 |bu v=>cases c
 |_=>simp[oH] at h
theorem ZT(w:mD gl P u){r:aB}{us:eH}(N:o.ai= .hV f args frz)
 (E:oH (c9 (fh asC h).aC f)=some (fid,ar9.map bi))(t:pN h.aj frz (args.map (et asC))=some (r,us)){ub:Nat}{atf:b1}{d:List Nat}(O:xI b us h (.mk ub atf d)){z:an}{i:Nat}{j:b1}{l:List Nat}(Q:u fid (r++ar9) ub atf= .ok z i j l)
 (hb:b+4096<=h.bh)(R:ub<=i)(hd:asB=true->4097∈o.bT/\(∀u∈us,fl b u.1∈o.a7)/\(∀k∈l,fl b k∈o.a7)/\(ub=i\/4096∈o.a7/\4098∈o.a7)/\AS b o.bT o.a7 us (args.map (et asC)++(r++ar9)) atf j z=true):
 hT b h (.mk i j (aA (gZ b l) d))/\∀K:df->Prop,K ⟨put (fh asC h).aC o.dst (bi z),(aI.mk i j (aA (gZ b l) d)).iQ⟩->Pr b asB o (c9 (fh asC h).aC)->l6 (fh asC h).aC o.guard=some true->nW gl P b asB o (fh asC h) K:=by
 obtain⟨aS,cZ,gg⟩:=O;have F:=B9 t;rw[sA asC h] at F;obtain⟨c1,G,_⟩:=w _ _ _ _ _ _ _ _ Q;have c5:h.bh=ub:=gg.symm;refine⟨aS.trans ⟨R,λx n=>?_,λx n S=>?_⟩,λK T W X=>?_⟩
 ·show x∈aA (gZ b l) d;rw[mJ];exact Ic.2 (.inr n)
 ·show cE i j x=cE ub atf x;refine G x (by omega) (λhd=>S ?_);show x∈aA (gZ b l) d;rw[mJ];exact Ic.2 (.inl (Mg n hd))
 ·unfold nW;rw[X];refine⟨W,?_⟩;simp only[N];rw[E];simp only[];have Z:iU (c9 (fh asC h).aC) (fh asC h).bo frz args=some (r.map bi,us.map hR):=F;rw[Z];refine⟨bi z,hq i j,?_,λar=>?_,T⟩
  ·change lx gl P fid (r.map bi++ar9.map bi) (c7 h.iQ (us.map hR)) (bi z) (hq i j);rw[<-cZ,Va,<-LZ];exact c1
  ·obtain⟨d1,d2,d3,d4,d5⟩:=hd ar;have bd:c7 h.iQ (us.map hR)=(aI.mk ub atf d).iQ:=cZ.symm;refine⟨d1,λk=>?_,λc hc=>?_⟩
   rotate_left
   ·obtain⟨a1,a2,a3,a4,a5,bs,H,bx⟩:=aul d5 c hc;have cc:c7 (fh asC h).bo (us.map hR)=hq ub atf:=bd;rw[cc];refine⟨a1,a2,λA=>?_,λu w e=>?_,λk=>a5 ub k,λk=>bs i k,λp t=>?_,by rw[pb];exact bx⟩
    ·by_cases cl:b+c<ub
     ·have e:hq ub atf (b+c)=eJ (atf.get (b+c)).ag:=by show eJ _=_;rw[ic cl]
      rw[e] at A;exact a3 A
     ·have e:hq ub atf (b+c)= .ax 0:=by show eJ _=_;rw[jz];rfl
      rw[e] at A;exact A
    ·obtain⟨q,B,rfl⟩:=yd.1 w;exact a4 q B e
    ·rw[mG,LH] at t;rcases pG.1 t with rfl|t
     ·intro C;obtain⟨x,n,cn⟩:=aoU E C;obtain⟨y,D,rfl⟩:=yd.1 n;exact H y (Ic.2 (.inr (Ic.2 (.inr D)))) (by rw[<-pb];exact cn)
     ·have n:p∈((args.map (et asC))++(r++ar9)).map bi:=by
       rw[LZ,LZ,kW];have:(args.map (bi∘et asC))=args.map (c9 (fh asC h).aC):=by rw[<-sA asC h];rfl
       rw[this];exact t
      obtain⟨y,D,rfl⟩:=yd.1 n;rw[pb];exact H y D
   by_cases I:∃u∈us,u.1=k
   ·obtain⟨u,w,rfl⟩:=I;exact .inr (d2 u w)
   ·have cp:(aI.mk ub atf d).iQ k=h.iQ k:=by rw[cZ];exact Gx _ _ _ (λu' cs e=>by obtain⟨q,B,rfl⟩:=yd.1 cs;exact I ⟨q,B,e⟩)
    have J:hq ub atf k=h.iQ k:=cp;by_cases C:k<ub
    ·by_cases L:k∈l
     ·exact .inr (d3 k L)
     ·left;show eJ _=h.iQ k;rw[G k C L];exact J
    ·rcases d4 with e|M
     ·left;have c0:hq i j k= .ax 0:=by show eJ _=_;rw[jz];rfl
      have c3:hq ub atf k= .ax 0:=by show eJ _=_;rw[jz];rfl
      have c4:(fh asC h).bo k= .ax 0:=J.symm.trans c3;rw[c0,c4]
     ·right;unfold fl;rw[cz];split
      ·exact M.1
      ·exact M.2
theorem acs(t:mD gl P u)(w:o.ai= .hV f args frz)
 (y:b+4096<=h.bh)(z:oH (c9 (fh asC h).aC f)=some (fid,ar9.map bi)):uU gl P b false o asC h (Ex u b fid ar9 (args.map (et asC)) frz h k) k:=by
 intro c;unfold Ex at c ⊢;obtain⟨j,us,A,e⟩:=zb c;rw[e] at c ⊢;unfold fD at c ⊢;obtain⟨B,C,D⟩:=xG c;rw[D] at c ⊢;cases B with
 |mk ub atf d=>
  change jT b ub d k (u fid (aA j ar9) ub atf)≠ .ax at c;show∃v h',hT b h h'/\jT b ub d k (u fid (aA j ar9) ub atf)=k v h'/\_;rw[mJ] at c ⊢;cases l:u fid (j++ar9) ub atf with
  |ax=>rw[l] at c;exact absurd rfl c
  |ok n i q r=>rw[l] at c;change bf (Nat.ble ub i) (k n (.mk i q (aA (gZ b r) d))) .ax≠ .ax at c;show∃v h',hT b h h'/\bf (Nat.ble ub i) (k n (.mk i q (aA (gZ b r) d))) .ax=k v h'/\_;obtain⟨E,e⟩:=dV c;rw[e];obtain⟨r1,F⟩:=ZT (asB:=false) t w z A C l y (pn E) (λh=>by cases h);exact⟨n,_,r1,rfl,F⟩
theorem RC(A:mD gl P u)(B:o.ai= .hV f args frz)
 (C:b+4096<=h.bh)(D:eb o.bT 4097=true)(E:oH (c9 (fh asC h).aC f)=some (fid,ar9.map bi)):uU gl P b true o asC h (CL u b o.bT o.a7 fid ar9 (args.map (et asC)) frz h k) k:=by
 intro c;unfold CL at c ⊢;obtain⟨i,us,F,e⟩:=zb c;rw[e] at c ⊢;unfold o7 at c ⊢;obtain⟨G,e⟩:=dV c;rw[e] at c ⊢;obtain⟨H,I,J⟩:=xG c;rw[J] at c ⊢;cases H with
 |mk ub atf d=>
  change xH b o.bT o.a7 us (aA (args.map (et asC)) (aA i ar9)) ub atf d k (u fid (aA i ar9) ub atf)≠ .ax at c;show∃v h',hT b h h'/\xH b o.bT o.a7 us (aA (args.map (et asC)) (aA i ar9)) ub atf d k (u fid (aA i ar9) ub atf)=k v h'/\_;rw[mJ,mJ] at c ⊢;cases t:u fid (i++ar9) ub atf with
  |ax=>rw[t] at c;exact absurd rfl c
  |ok l j n r=>
   rw[t] at c;change bf (Nat.ble ub j) (bf (sS b o.a7 r) (bf (rn o.a7 ub j) (bf (AS b o.bT o.a7 us (args.map (et asC)++(i++ar9)) atf n l) (k l (.mk j n (aA (gZ b r) d))) .ax) .ax) .ax) .ax≠ .ax at c;show∃v h',hT b h h'/\bf (Nat.ble ub j) (bf (sS b o.a7 r) (bf (rn o.a7 ub j) (bf (AS b o.bT o.a7 us (args.map (et asC)++(i++ar9)) atf n l) (k l (.mk j n (aA (gZ b r) d))) .ax) .ax) .ax) .ax=k v h'/\_;obtain⟨K,e⟩:=dV c;rw[e] at c ⊢;obtain⟨L,e⟩:=dV c;rw[e] at c ⊢;obtain⟨w,e⟩:=dV c;rw[e] at c ⊢;obtain⟨M,e⟩:=dV c;rw[e];obtain⟨r1,N⟩:=ZT (asB:=true) A B E F I t C (pn K) (λ_=>⟨sK D,λq O=>Kw (asB:=true) (o:=o) (us:=us) G rfl (hR q) (yd.2 ⟨q,O,rfl⟩),Sc L,by
    unfold rn at w;cases z:Nat.beq ub j with
    |true=>exact .inl (dp z)
    |false=>rw[z] at w;have y:cS (eb o.a7 4096) (eb o.a7 4098)=true:=w;rw[jg,Hi] at y;exact .inr ⟨sK y.1,sK y.2⟩,M⟩)
   exact⟨l,_,r1,rfl,N⟩
theorem axO(i:∀f a,o.ai≠ .call f a)(j:∀f a z,o.ai≠ .hV f a z):
 uU gl P b asB o asC h (Hy b (Nat.add o.ai.off (o.dst.getD 0)) (qT asB o) (et asC) h k o.ai) k:=by
 intro l;obtain⟨v,us,h',n,q,r,t⟩:=ar8 l;obtain⟨aS,cZ,gg⟩:=r;refine⟨v,h',aS,t,λK c w y=>?_⟩;have d:=alf n;rw[sA asC h] at d;have A:(match b6 (c9 (fh asC h).aC) h.iQ (b+o.ai.off+o.dst.getD 0) o.ai with
  |some (v,us)=>Hv b asB o us/\K ⟨put (fh asC h).aC o.dst v,c7 h.iQ us⟩
  |none=>False):=by
  have B:b6 (c9 (fh asC h).aC) h.iQ (b+o.ai.off+o.dst.getD 0) o.ai=some (bi v,us.map hR):=by rw[gm];exact d
  rw[B];refine⟨Kw q,?_⟩;rw[cZ] at c;exact c
 unfold nW;rw[y];refine⟨w,?_⟩;revert A;cases e:o.ai with
 |call f args=>exact absurd e (i f args)
 |hV f args frz=>exact absurd e (j f args frz)
 |_=>exactλk=>k
theorem RE(j:mD gl P u)(n:b+4096<=h.bh):uU gl P b asB o asC h (hS u b asB o (et asC) h k) k:=by
 cases c:o.ai with
 |call f args=>
  cases f with
  |func i=>
   have e:hS u b asB o (et asC) h k=Cn u b (qT asB o) i (args.map (et asC)) h k:=by unfold hS;rw[c]
   rw[e];exact Yp j c rfl
  |tmp t=>
   have e:hS u b asB o (et asC) h k=Bb u b (qT asB o) (et asC (.tmp t)) (args.map (et asC)) h k:=by unfold hS;rw[c]
   rw[e];exact PC j c
  |const v=>
   have e:hS u b asB o (et asC) h k=Bb u b (qT asB o) (et asC (.const v)) (args.map (et asC)) h k:=by unfold hS;rw[c]
   rw[e];exact PC j c
  |global g=>
   have e:hS u b asB o (et asC) h k=Bb u b (qT asB o) (et asC (.global g)) (args.map (et asC)) h k:=by unfold hS;rw[c]
   rw[e];exact PC j c
 |hV f args frz=>
  cases asB with
  |true=>
   cases l:eb o.bT 4097 with
   |false=>
    have e:hS u b true o (et asC) h k= .ax:=by unfold hS;rw[c];cases f<;>simp only[l]<;>rfl
    rw[e];exactλh=>absurd rfl h
   |true=>
    have gen:uU gl P b true o asC h (n6 u b o.bT o.a7 (et asC f) (args.map (et asC)) frz h k) k:=by intro d;unfold n6 at d ⊢;obtain⟨fid,ar9,q,e⟩:=Yq d;rw[e] at d ⊢;refine RC j c n l ?_ d;rw[<-sA asC h];exact q
    cases f with
    |func i=>
     have e:hS u b true o (et asC) h k=CL u b o.bT o.a7 i [] (args.map (et asC)) frz h k:=by unfold hS;rw[c];simp only[l]
     rw[e];exact RC j c n l rfl
    |tmp t=>
     have e:hS u b true o (et asC) h k=n6 u b o.bT o.a7 (et asC (.tmp t)) (args.map (et asC)) frz h k:=by unfold hS;rw[c];simp only[l]
     rw[e];exact gen
    |const v=>
     have e:hS u b true o (et asC) h k=n6 u b o.bT o.a7 (et asC (.const v)) (args.map (et asC)) frz h k:=by unfold hS;rw[c];simp only[l]
     rw[e];exact gen
    |global g=>
     have e:hS u b true o (et asC) h k=n6 u b o.bT o.a7 (et asC (.global g)) (args.map (et asC)) frz h k:=by unfold hS;rw[c];simp only[l]
     rw[e];exact gen
  |false=>
   have gen:uU gl P b false o asC h (nN u b (et asC f) (args.map (et asC)) frz h k) k:=by intro d;unfold nN at d ⊢;obtain⟨fid,ar9,q,e⟩:=Yq d;rw[e] at d ⊢;refine acs j c n ?_ d;rw[<-sA asC h];exact q
   cases f with
   |func i=>
    have e:hS u b false o (et asC) h k=Ex u b i [] (args.map (et asC)) frz h k:=by unfold hS;rw[c]
    rw[e];exact acs j c n rfl
   |tmp t=>
    have e:hS u b false o (et asC) h k=nN u b (et asC (.tmp t)) (args.map (et asC)) frz h k:=by unfold hS;rw[c]
    rw[e];exact gen
   |const v=>
    have e:hS u b false o (et asC) h k=nN u b (et asC (.const v)) (args.map (et asC)) frz h k:=by unfold hS;rw[c]
    rw[e];exact gen
   |global g=>
    have e:hS u b false o (et asC) h k=nN u b (et asC (.global g)) (args.map (et asC)) frz h k:=by unfold hS;rw[c]
    rw[e];exact gen
 |_=>
  have e:hS u b asB o (et asC) h k=Hy b (Nat.add o.ai.off (o.dst.getD 0)) (qT asB o) (et asC) h k o.ai:=by unfold hS;rw[c]
  rw[e];exact axO (by rw[c];intros;simp) (by rw[c];intros;simp)
theorem Pn{b:Nat}{rk:List Nat}:∀{cs:aB},nU b rk cs=true->(∀k∈cs.flatMap an.key,fl b k∈rk)/\(∀k∈cs.flatMap an.cf,fl b k∈rk)
 |[],_=>⟨by simp,by simp⟩
 |c::r,h=>by
  have t:nU b rk r=true/\(∀k∈c.key,fl b k∈rk)/\(∀k∈c.cf,fl b k∈rk):=by
   have asT:∀{k:Nat},cS (eb rk (iD b k)) (nU b rk r)=true->nU b rk r=true/\fl b k∈rk:=by intro k h;rw[jg,Hi] at h;have:=sK h.1;rw[wb] at this;exact⟨h.2,this⟩
   cases c with
   |bn k s o=>obtain⟨n,e⟩:=asT h;exact⟨n,by intro j d;simp[an.key,an.cf] at d;subst d;exact e,by intro j d;simp[an.cf] at d;subst d;exact e⟩
   |az k s o l=>obtain⟨n,e⟩:=asT h;exact⟨n,by intro j d;simp[an.key,an.cf] at d;subst d;exact e,by intro j d;simp[an.cf] at d;subst d;exact e⟩
   |dH k s i o=>obtain⟨n,e⟩:=asT h;exact⟨n,by intro j d;simp[an.key,an.cf] at d;subst d;exact e,by intro j d;simp[an.cf] at d;subst d;exact e⟩
   |hG k s=>obtain⟨n,e⟩:=asT h;exact⟨n,by intro j d;simp[an.key,an.cf] at d;subst d;exact e,by intro j d;simp[an.cf] at d;subst d;exact e⟩
   |_=>first|exact⟨h,by simp[an.key,an.cf],by simp[an.cf]⟩|exact absurd h (by intro h;cases h)
  obtain⟨n,e⟩:=Pn t.1;constructor
  ·intro k q;rw[Ph,Ic] at q;exact q.elim (t.2.1 k) (n k)
  ·intro k q;rw[Ph,Ic] at q;exact q.elim (t.2.2 k) (e k)
theorem aoJ{rk:List Nat}(h:jP b rk x=true):∀k∈x.cR,fl b k∈rk:=by
 have asT:∀{k:Nat},eb rk (iD b k)=true->fl b k∈rk:=by intro k h;have:=sK h;rw[wb] at this;exact this
 cases x with
 |agg cs=>exact(Pn h).1
 |gJ f cs=>exact(Pn h).2
 |bn k s o=>intro j c;simp[an.cR,an.eg,an.key,an.cf] at c;subst c;exact asT h
 |az k s o l=>intro j c;simp[an.cR,an.eg,an.key,an.cf] at c;subst c;exact asT h
 |dH k s i o=>intro j c;simp[an.cR,an.eg,an.key,an.cf] at c;subst c;exact asT h
 |hG k s=>intro j c;simp[an.cR,an.eg,an.key,an.cf] at c;subst c;exact asT h
 |a0 cs=>cases h
 |_=>simp[an.cR,an.eg,an.key,an.cf]
theorem W8{b:Nat}{rk:List Nat}{a:aw}:∀{xs:aB},met b rk xs a≠ .ax->met b rk xs a=a/\∀x∈xs,∀k∈x.cR,fl b k∈rk
 |[],_=>⟨rfl,by simp⟩
 |x::r,h=>by
  change bf (jP b rk x) (met b rk r a) .ax≠ .ax at h;show bf (jP b rk x) (met b rk r a) .ax=a/\_;obtain⟨i,e⟩:=dV h;rw[e] at h ⊢;obtain⟨j,l⟩:=W8 h;refine⟨j,λy c k d=>?_⟩;rcases pG.1 c with rfl|c
  ·exact aoJ i k d
  ·exact l y c k d
theorem awQ(asC:Nat->aG):∀(x:Operand),(∀t,x≠ .tmp t)->(c9 asC x).cR=[]
 | .tmp t,h=>absurd rfl (h t)
 | .func _,_=>rfl
 | .global _,_=>rfl
 | .const v,_=>by
   cases v with
   |agg cs=>show(cs.toList.map aG.bu).flatMap aG.key=[];rw[cg];exact n7.2 λ_ _=>rfl
   |_=>rfl
theorem UU{asC:Nat->aG}:∀{l:List Operand} {x:Operand},x∈l->x∈Cb l\/(c9 asC x).cR=[]
 |y::r,x,h=>by
  rcases pG.1 h with rfl|h
  ·cases x with
   |tmp t=>left;exact HO
   |_=>right;exact awQ asC _ (by intro t;simp)
  ·rcases UU (asC:=asC) h with c|c
   ·left;cases y with
    |tmp t=>exact OJ _ c
    |_=>exact c
   ·exact .inr c
theorem amL(q:mD gl P u)(r:b+4096<=h.bh)(c:yw u b asB o (et asC) h k≠ .ax):
 ∃v h',hT b h h'/\yw u b asB o (et asC) h k=k v h'/\
  ∀K:df->Prop,K ⟨put (fh asC h).aC o.dst (bi v),h'.iQ⟩->l6 (fh asC h).aC o.guard=some true->nW gl P b asB o (fh asC h) K:=by
 unfold yw at c ⊢;cases hd:(asB&&o.ai.looks) with
 |false=>rw[hd] at c;change hS u b asB o (et asC) h k≠ .ax at c;show∃v h',hT b h h'/\hS u b asB o (et asC) h k=k v h'/\_;obtain⟨v,h',aS,n,i⟩:=RE q r c;refine⟨v,h',aS,n,λK j=>i K j ?_⟩;intro z A;rw[z,A] at hd;cases hd
 |true=>
  rw[hd] at c;change met b o.bT ((G2 o.ai).map (et asC)) (hS u b asB o (et asC) h k)≠ .ax at c;show∃v h',hT b h h'/\met b o.bT ((G2 o.ai).map (et asC)) (hS u b asB o (et asC) h k)=k v h'/\_;obtain⟨B,t⟩:=W8 c;rw[B] at c ⊢;obtain⟨v,h',aS,n,i⟩:=RE q r c;refine⟨v,h',aS,n,λK j=>?_⟩;by_cases w:∃f args frz,o.ai= .hV f args frz
  ·obtain⟨f,args,frz,l⟩:=w;refine i K j ?_;intro C _ x d k e;right;cases y:eb o.bT 4097 with
   |true=>exact⟨sK y,by rw[l];rfl⟩
   |false=>exfalso;subst C;apply c;unfold hS;rw[l];cases f<;>simp only[y]<;>rfl
  ·refine i K j ?_;intro _ _ x d k e;left;have D:G2 o.ai=Cb o.ai.mh:=by
    cases l:o.ai with
    |hV f args frz=>exact absurd ⟨f,args,frz,l⟩ w
    |_=>rfl
   rw[D] at t;rcases UU d with d|d
   ·refine t (et asC x) (yd.2 ⟨x,d,rfl⟩) k ?_;rw[<-pb];rw[<-sA asC h] at e;exact e
   ·rw[d] at e;cases e
theorem atl{a b:Option (Nat×Bool)}(h:Kb a b=true):a=b:=by
 cases a with
 |none=>cases b with
  |none=>rfl
  |some _=>cases h
 |some p=>cases b with
  |none=>cases h
  |some q=>
   obtain⟨t,w⟩:=p;obtain⟨e,w'⟩:=q;simp only[Kb,Hi] at h;have c:=dp h.1;have d:w=w':=by simpa using h.2
   rw[c,d]
theorem KL(h:under g o=true):o.guard=g/\∀t w,g=some (t,w)->o.dst≠some t:=by simp only[under,Hi] at h;refine⟨atl h.1,λt w d hd=>?_⟩;subst d;have c:=h.2;rw[hd] at c;simp[R1] at c
def zz(g:Option (Nat×Bool))(asC:dG):Prop:=∀t w,g=some (t,w)->asC t= .a9 w
theorem zz.put(h:zz g asC)(i:under g o=true)(v:an):zz g (rT asC o.dst v):=by
 intro t w c;have j:=(KL i).2 t w c;cases hd:o.dst with
 |none=>exact h t w c
 |some d=>have l:t≠d:=λe=>j (by rw[hd,e]);show @Bool.rec (λ_=>an) (asC t) v (Nat.beq t d)=_;rw[uI (λe=>l e.symm)];exact h t w c
theorem zz.wanted(c:zz g asC)(d:under g o=true):l6 (fh asC h).aC o.guard=some true:=by
 rw[(KL d).1];cases g with
 |none=>rfl
 |some p=>obtain⟨t,w⟩:=p;show(match bi (asC t) with| .bu (.bool b)=>some (b==w)| .a0 []=>some false|_=>none)=some true;rw[c t w rfl];simp only[bi];simp
theorem ON(asC:dG)(d:Option Nat)(v:an)(i:Nat)(h:∀t,d=some t->i≠t):rT asC d v i=asC i:=by
 cases d with
 |none=>rfl
 |some t=>show @Bool.rec (λ_=>an) (asC i) v (Nat.beq i t)=_;rw[uI (λe=>h t rfl e.symm)]
theorem adR(o:ey)(r:List ey):k4 (o::r)=(match o.dst with|some d=>[d]|none=>[])++k4 r:=by show(match o.dst with|some d=>d::k4 r|none=>k4 r)=_;cases o.dst<;>rfl
theorem Qg{u:Fn}(n:mD gl P u){b:Nat}{asB:Bool}{g:Option (Nat×Bool)}:∀{os:List ey} {asC:dG} {h:aI} {k:dG->aI->aw},b+4096<=h.bh->os.all (under g)=true->zz g asC->sa u b asB os asC h k≠ .ax->
 ∃d h',hT b h h'/\sa u b asB os asC h k=k d h'/\(∀i,i∉k4 os->d i=asC i)/\∀K:df->Prop,K (fh d h')->mI gl P b asB os (fh asC h) K
 |[],asC,h,k,_,_,_,_=>⟨asC,h,hT.refl,rfl,λ_ _=>rfl,λ_ j=>j⟩
 |o::os,asC,h,k,q,c,r,y=>by
  rw[mU,Hi] at c;have l:yw u b asB o (et asC) h (λv h'=>sa u b asB os (rT asC o.dst v) h' k)≠ .ax:=y;obtain⟨v,z,aS,w,A⟩:=amL n q l;rw[w] at l;obtain⟨B,C,cZ,D,f2,E⟩:=Qg n (os:=os) (y4 q aS.bh) c.2 (r.put c.1 v) l;refine⟨B,C,aS.trans cZ,?_,λi hi=>?_,λK j=>A _ ?_ (r.wanted c.1)⟩
  ·show yw u b asB o (et asC) h (λv h'=>sa u b asB os (rT asC o.dst v) h' k)=_;rw[w,D]
  ·rw[adR,Ic] at hi;rw[f2 i (λh=>hi (.inr h)),ON asC o.dst v i (λt F e=>hi (.inl (by rw[F,e];exact List.mem_singleton_self _)))]
  ·have:=E K j;rw[Wj asC h z] at this;exact this
theorem Y7{b:Nat}{asB:Bool}{t:Nat}{w:Bool}:∀{os:List ey} {asC:dG} {h:aI},os.all (under (some (t,w)))=true->(asC t= .a9 (!w)\/asC t= .a0 [])->
 (∀i,i∉k4 os->vQ os asC i=asC i)/\∀K:df->Prop,K (fh (vQ os asC) h)->mI gl P b asB os (fh asC h) K
 |[],_,_,_,_=>⟨λ_ _=>rfl,λ_ j=>j⟩
 |o::os,asC,h,l,c=>by
  rw[mU,Hi] at l;have n:=KL l.1;have q:rT asC o.dst (.a0 []) t=asC t:=ON asC o.dst _ t (λd hd e=>n.2 t w rfl (by rw[hd,e]));obtain⟨f2,r⟩:=Y7 (os:=os) (asC:=rT asC o.dst (.a0 [])) (h:=h) (b:=b) (asB:=asB) l.2 (by rw[q];exact c);refine⟨λi hi=>?_,λK j=>?_⟩
  ·rw[adR,Ic] at hi;show vQ os (rT asC o.dst (.a0 [])) i=_;rw[f2 i (λh=>hi (.inr h)),ON asC o.dst _ i (λd hd e=>hi (.inl (by rw[hd,e];exact List.mem_singleton_self _)))]
  ·have y:l6 (fh asC h).aC o.guard=some false:=by
    rw[n.1];show(match bi (asC t) with| .bu (.bool b)=>some (b==w)| .a0 []=>some false|_=>none)=some false;rcases c with c|c
    ·rw[c];simp only[bi];cases w<;>rfl
    ·rw[c];simp only[bi,gG]
   show nW gl P b asB o (fh asC h) λz=>mI gl P b asB os z K;unfold nW;rw[y];have:=r K j;rw[Wj asC h h] at this;have e:bi (.a0 [])= .a0 []:=by simp[bi,gG]
   rw[e] at this;exact this
noncomputable def tU:List Nat->dG->dG->dG
 |[],_,c=>c
 |s::l,e,c=>tU l e (xe c s (e s))
theorem DA(e:dG)(s:Nat)(v:an)(i:Nat):xe e s v i=if i=s then v else e i:=by
 show @Bool.rec (λ_=>an) (e i) v (Nat.beq i s)=_;by_cases h:i=s
 ·subst h;rw[D1,y1 rfl]
 ·rw[uI (λx=>h x.symm),Ca h]
theorem acE:∀(l:List Nat) (e c:dG) (i:Nat),(c i= .undef\/c i=e i)->(tU l e c i= .undef\/tU l e c i=e i)
 |[],_,_,_,h=>h
 |s::l,e,c,i,h=>by
  refine acE l e _ i ?_;rw[DA];split
  ·rename_i h;subst h;exact .inr rfl
  ·exact h
theorem abR:∀(l:List Nat) (e c:dG) (i:Nat),(i∉l->c i=e i)->tU l e c i=e i
 |[],_,_,_,h=>h (by simp)
 |s::l,e,c,i,h=>by
  refine abR l e _ i λhi=>?_;rw[DA];split
  ·rename_i h;subst h;rfl
  ·rename_i d;exact h (by simp[d,hi])
theorem BV:∀(l:List Nat) (F:dG->aI->aw) (e c:dG) (h:aI),jj l (lg l F c) e h=F (tU l e c) h
 |[],_,_,_,_=>rfl
 |s::l,F,e,c,h=>BV l F e (xe c s (e s)) h
theorem ac4:∀(l:List Nat) (e:dG) (h:aI),jj l (Qp l) e h= .ax
 |[],_,_=>rfl
 |_::l,e,h=>ac4 l e h
theorem aeD{l:List Nat}{F:dG->aI->aw}{e c:dG}(d:∀i,i∉l->e i=c i):jj l (lg l F c) e h=F e h:=by rw[BV];congr 1;funext i;exact abR l e c i λhi=>(d i hi).symm
theorem af4(y:mD gl P u){k:dG->aI->aw}(z:b+4096<=h.bh)(c:zR u b asB g os asC h k≠ .ax):
 ∃d h',hT b h h'/\zR u b asB g os asC h k=k d h'/\∀K:df->Prop,K (fh d h')->mI gl P b asB os (fh asC h) K:=by
 unfold zR at c ⊢;cases i:os.all (under g) with
 |false=>rw[i] at c;exact absurd rfl c
 |true=>
  rw[i] at c;cases g with
  |none=>change sa u b asB os asC h k≠ .ax at c;show∃d h',hT b h h'/\sa u b asB os asC h k=_/\_;obtain⟨d,h',aS,q,_,j⟩:=Qg y z i (λ_ _ h=>by cases h) c;exact⟨d,h',aS,q,j⟩
  |some p=>
   obtain⟨t,w⟩:=p;change b0 (asC t) w (sa u b asB os asC h λl n=>jj (k4 os) (lg (k4 os) k asC) l n) (jj (k4 os) (lg (k4 os) k asC) (vQ os asC) h)≠ .ax at c;show∃d h',hT b h h'/\b0 (asC t) w (sa u b asB os asC h λl n=>jj (k4 os) (lg (k4 os) k asC) l n) (jj (k4 os) (lg (k4 os) k asC) (vQ os asC) h)=_/\_;rcases afS c with⟨r,e⟩|⟨r,e⟩
   ·rw[e] at c ⊢;obtain⟨d,h',aS,q,f1,j⟩:=Qg y (k:=λl n=>jj (k4 os) (lg (k4 os) k asC) l n) z i (λA w' h=>by cases h;exact r) c;refine⟨d,h',aS,?_,j⟩;rw[q,aeD f1]
   ·rw[e];obtain⟨f1,j⟩:=Y7 (gl:=gl) (P:=P) (b:=b) (asB:=asB) (h:=h) i r;exact⟨vQ os asC,h,hT.refl,aeD f1,j⟩
theorem SA{b:Nat}{asB:Bool}:∀(os d:List ey) (s:df) (K:df->Prop),mI gl P b asB (os++d) s K=mI gl P b asB os s (λc=>mI gl P b asB d c K)
 |[],_,_,_=>rfl
 |o::os,d,s,K=>by show nW gl P b asB o s (λc=>mI gl P b asB (os++d) c K)=nW gl P b asB o s (λc=>mI gl P b asB os c λc=>mI gl P b asB d c K);congr 1;funext c;exact SA os d c K
theorem Zm{u:Fn}(i:mD gl P u){b:Nat}{asB:Bool}:∀{rs:List (Option (Nat×Bool)×List ey)} {asC:dG} {h:aI} {k:dG->aI->aw},b+4096<=h.bh->DK u b asB rs asC h k≠ .ax->
 ∃c h',hT b h h'/\DK u b asB rs asC h k=k c h'/\∀K:df->Prop,K (fh c h')->mI gl P b asB (rs.flatMap (·.2)) (fh asC h) K
 |[],asC,h,k,_,_=>⟨asC,h,hT.refl,rfl,λ_ d=>d⟩
 |(g,os)::rs,asC,h,k,j,n=>by
  have e:zR u b asB g os asC h (λc h'=>DK u b asB rs c h' k)≠ .ax:=n;obtain⟨z,A,aS,l,q⟩:=af4 i j e;rw[l] at e;obtain⟨r,t,cZ,w,y⟩:=Zm i (rs:=rs) (y4 j aS.bh) e;refine⟨r,t,aS.trans cZ,?_,λK d=>?_⟩
  ·show zR u b asB g os asC h (λc h'=>DK u b asB rs c h' k)=_;rw[l,w]
  ·rw[Ph];rw[SA];exact q _ (y K d)
theorem avc(d:mD gl P u){k:dG->aI->aw}(e:b+4096<=h.bh)(i:NG u b asB os asC h k≠ .ax):
 ∃c h',hT b h h'/\NG u b asB os asC h k=k c h'/\∀K:df->Prop,K (fh c h')->mI gl P b asB os (fh asC h) K:=by
 have:=Zm d (rs:=yW os) e i;rw[Yx] at this;exact this
end
end
end
section
variable[Tok]
theorem FL{K:df->Prop}{l:List Nat}{e:dG}{h:aI}(a:K (fh (tU l e ma) h)):u9 K (fh e h):=by
 refine⟨λi=>bi (tU l e ma i),λi=>?_,a⟩;rcases acE l e ma i (.inl rfl) with h|h
 ·left;show bi _=_;rw[h];simp only[bi]
 ·right;show bi _=bi _;rw[h]
section
variable{gl:eI} {P:Program}
def abT(fJ:dG->aI->aw)(a:Nat->dG->aI->aw)(b:dG->aI->aw):ne->dG->aI->aw
 | .normal=>fJ
 | .exit i=>a i
 | .ret=>b
def aw6(gl:eI)(P:Program)(b:Nat)(c:pY)(asC:dG)(h:aI)(a:aw)(fJ:dG->aI->aw)(e:Nat->dG->aI->aw)(g:dG->aI->aw):Prop:=
 a≠ .ax->∃x d h',hT b h h'/\a=abT fJ e g x d h'/\∀Q:ne->df->Prop,Q x (fh d h')->kG gl P b c Q (fh asC h)
theorem aB4{u:Fn}(M:mD gl P u){b n:Nat}:∀(c:iX) (asC:dG) (h:aI) (fJ:dG->aI->aw) (d:Nat->dG->aI->aw) (g:dG->aI->aw),b+4096<=h.bh->
 aw6 gl P b c.ia asC h (den u b n c asC h fJ d g) fJ d g:=by
 intro c;induction c with
 |skip=>intro asC h fJ d g _ _;exact⟨.normal,asC,h,hT.refl,rfl,λQ a=>a⟩
 |region asB asX=>intro asC h fJ d g z o;obtain⟨B,h',aS,p,w⟩:=avc M (os:=asX) (k:=fJ) z o;exact⟨.normal,B,h',aS,p,λQ a=>w _ a⟩
 |seq x y C D=>
  intro asC h fJ d g z o;obtain⟨A,q,r,aS,p,w⟩:=C asC h (λasC h=>den u b n y asC h fJ d g) d g z o;change den u b n x asC h (λasC h=>den u b n y asC h fJ d g) d g≠ .ax at o;cases A with
  |normal=>rw[p] at o;obtain⟨E,F,G,cZ,H,I⟩:=D q r fJ d g (y4 z aS.bh) o;exact⟨E,F,G,aS.trans cZ,p.trans H,λQ a=>w _ (aoh (I Q a))⟩
  |exit i=>exact⟨.exit i,q,r,aS,p,λQ a=>w _ a⟩
  |ret=>exact⟨.ret,q,r,aS,p,λQ a=>w _ a⟩
 |I7 l x y C D=>
  intro asC h fJ d g z o;change den u b n x asC h (λasC h=>jj l (lg l (λasC h=>den u b n y asC h fJ d g) ma) asC h) d g≠ .ax at o;obtain⟨A,q,r,aS,p,w⟩:=C asC h _ d g z o;cases A with
  |normal=>rw[p] at o;change jj l (lg l (λasC h=>den u b n y asC h fJ d g) ma) q r≠ .ax at o;rw[BV] at o;obtain⟨E,F,G,cZ,H,I⟩:=D (tU l q ma) r fJ d g (y4 z aS.bh) o;refine⟨E,F,G,aS.trans cZ,?_,λQ a=>w _ (FL (I Q a))⟩;refine Eq.trans p ?_;show jj l (lg l (λasC h=>den u b n y asC h fJ d g) ma) q r=_;rw[BV];exact H
  |exit i=>exact⟨.exit i,q,r,aS,p,λQ a=>w _ a⟩
  |ret=>exact⟨.ret,q,r,aS,p,λQ a=>w _ a⟩
 |cond c x y C D=>
  intro asC h fJ d g z o;change vN (et asC c) (λt=>bf t (den u b n x asC h fJ d g) (den u b n y asC h fJ d g))≠ .ax at o;obtain⟨t,N,e⟩:=Cc o;have K:c9 (fh asC h).aC c= .bu (.bool t):=by rw[<-sA asC h];show bi (et asC c)=_;rw[N];simp only[bi]
  rw[e] at o;cases t with
  |true=>obtain⟨A,q,r,aS,p,w⟩:=C asC h fJ d g z o;refine⟨A,q,r,aS,Eq.trans e p,λQ a=>?_⟩;simp only[iX.ia,kG,K];exact w Q a
  |false=>obtain⟨A,q,r,aS,p,w⟩:=D asC h fJ d g z o;refine⟨A,q,r,aS,Eq.trans e p,λQ a=>?_⟩;simp only[iX.ia,kG,K];exact w Q a
 |block id x J=>
  intro asC h fJ d g z o;obtain⟨A,q,r,aS,p,w⟩:=J asC h fJ (λi=> @Bool.rec (λ_=>dG->aI->aw) (d i) fJ (Nat.beq i id)) g z o;cases A with
  |normal=>exact⟨.normal,q,r,aS,p,λQ a=>w _ a⟩
  |ret=>exact⟨.ret,q,r,aS,p,λQ a=>w _ a⟩
  |exit i=>
   by_cases hi:i=id
   ·subst hi;refine⟨.normal,q,r,aS,?_,λQ a=>w _ ?_⟩
    ·refine Eq.trans p ?_;show(@Bool.rec (λ_=>dG->aI->aw) (d i) fJ (Nat.beq i i)) q r=_;rw[D1];rfl
    ·simp only[CK,w6];exact a
   ·refine⟨.exit i,q,r,aS,?_,λQ a=>w _ ?_⟩
    ·refine Eq.trans p ?_;show(@Bool.rec (λ_=>dG->aI->aw) (d i) fJ (Nat.beq i id)) q r=_;rw[uI (λx=>hi x.symm)];rfl
    ·simp only[CK,Ca hi];exact a
 |loop l x J=>
  intro asC h fJ d g z o;have O:∀(m:Nat) (asC:dG) (h:aI),b+4096<=h.bh->jj l (ft l m λj=>lg l (λasC h=>den u b n x asC h (λasC h=>jj l j asC h) d g) ma) asC h≠ .ax->
   ∃A B h',hT b h h'/\jj l (ft l m λj=>lg l (λasC h=>den u b n x asC h (λasC h=>jj l j asC h) d g) ma) asC h=abT fJ d g A B h'/\
    ∀Q:ne->df->Prop,Q A (fh B h')->∃m,rounds (kG gl P b x.ia) Q m (fh asC h):=by
   intro m;induction m with
   |zero=>intro asC h _ o;exact absurd (ac4 l asC h) o
   |succ m R=>
    intro asC h z o;change jj l (lg l (λasC h=>den u b n x asC h (λasC h=>jj l (ft l m λj=>lg l (λasC h=>den u b n x asC h (λasC h=>jj l j asC h) d g) ma) asC h) d g) ma) asC h≠ .ax at o;show∃A B h',hT b h h'/\jj l (lg l (λasC h=>den u b n x asC h (λasC h=>jj l (ft l m λj=>lg l (λasC h=>den u b n x asC h (λasC h=>jj l j asC h) d g) ma) asC h) d g) ma) asC h=_/\_;rw[BV] at o ⊢;obtain⟨A,q,r,aS,p,w⟩:=J (tU l asC ma) h _ d g z o;cases A with
    |normal=>rw[p] at o ⊢;obtain⟨E,F,G,cZ,H,I⟩:=R q r (y4 z aS.bh) o;refine⟨E,F,G,aS.trans cZ,H,λQ a=>?_⟩;obtain⟨L,S⟩:=I Q a;exact⟨L+1,FL (w (xX (rounds (kG gl P b x.ia) Q L) Q) S)⟩
    |exit i=>exact⟨.exit i,q,r,aS,p,λQ a=>⟨1,FL (w (xX (rounds (kG gl P b x.ia) Q 0) Q) a)⟩⟩
    |ret=>exact⟨.ret,q,r,aS,p,λQ a=>⟨1,FL (w (xX (rounds (kG gl P b x.ia) Q 0) Q) a)⟩⟩
  obtain⟨A,q,r,aS,p,w⟩:=O n asC h z o;exact⟨A,q,r,aS,p,λQ a=>w Q a⟩
 |exit id=>intro asC h fJ d g _ _;exact⟨.exit id,asC,h,hT.refl,rfl,λQ a=>a⟩
 |ret=>intro asC h fJ d g _ _;exact⟨.ret,asC,h,hT.refl,rfl,λQ a=>a⟩
end
end
section
variable{h:aI} {asC:dG} {ob:ej} {x q res:an} {b ub ub' f np n:Nat} {rvs:List kL} {as8:List Bool} {atf segs':b1} {dirty:List Nat} {u:Fn} {c:iX} {args:aB}
section
variable[Tok]
theorem aby(i:Nat):mX (Tok.τ i)=true:=by rcases rh (Tok.ou i) with⟨v,h⟩|⟨sz,es,h⟩|⟨cs,o,h⟩<;>rw[h]<;>rfl
noncomputable def aZ(l:aB)(f:an->aB->aw):aw:= @List.rec an (λ_=>aw) .ax (λa r _=>f a r) l
noncomputable def bV(l:aB)(x:aw):aw:= @List.rec an (λ_=>aw) x (λ_ _ _=> .ax) l
noncomputable def EM(f:dG->aw):Nat->Nat->dG->aB->aw
 |0,_,e,l=>(λ(_:Nat)=>bV l (f e)) vI
 |m+1,i,e,l=>aZ l λa r=>EM f m (i+1) (xe e i a) r
theorem adK{f:dG->aw}:∀{m i:Nat} {e:dG} {l:aB},EM f m i e l≠ .ax->∃d,EM f m i e l=f d/\l.length=m/\(∀j,j<i->d j=e j)/\(∀j,i<=j->d j=(l[j-i]?).getD (e j))
 |0,i,e,[],_=>⟨e,rfl,rfl,λ_ _=>rfl,λj _=>by simp⟩
 |0,_,_,_::_,h=>absurd rfl h
 |_+1,_,_,[],h=>absurd rfl h
 |m+1,i,e,a::r,h=>by
  change EM f m (i+1) (xe e i a) r≠ .ax at h;obtain⟨d,o,p,g,t⟩:=adK h;refine⟨d,o,by simp[p],λj w=>?_,λj w=>?_⟩
  ·rw[g j (by omega),DA,cz]
  ·by_cases k:j=i
   ·subst k;rw[g j (by omega),DA,y1 rfl];simp
   ·rw[t j (by omega),DA,Ca k];congr 1;rw[show j-i=(j-(i+1))+1 by omega,zd]
noncomputable def fK(ob:ej)(x:an)(a:Bool)(n:Nat)(k:an->aw):aw:=
 nE x (λ_ _=> .ax) (λq s off=>nA (ob q) λd cs=>bf (Nat.beq s d) (kJ a n cs off k) .ax) (λ_ _ _ _=> .ax)
noncomputable def tV(ob:ej)(asC:dG)(ln:kL)(k:an->aw):aw:=match ln with
 | .tmp t=>(λ(_:Nat)=>k (asC t)) vI
 | .cell t a n=>fK ob (asC t) a n k
theorem Rr{ln:kL}{k:an->aw}(a:tV h.aj asC ln k≠ .ax):∃v,sw (fh asC h) ln=some (bi v)/\tV h.aj asC ln k=k v:=by
 cases ln with
 |tmp t=>exact⟨asC t,rfl,rfl⟩
 |cell t j n=>
  change nE (asC t) (λ_ _=> .ax) (λq s off=>nA (h.aj q) λd cs=>bf (Nat.beq s d) (kJ j n cs off k) .ax) (λ_ _ _ _=> .ax)≠ .ax at a;show∃v,_/\nE (asC t) (λ_ _=> .ax) (λq s off=>nA (h.aj q) λd cs=>bf (Nat.beq s d) (kJ j n cs off k) .ax) (λ_ _ _ _=> .ax)=_;rcases yI a with⟨cs,off,g,e⟩|⟨q,s,off,g,e⟩|⟨q,s,i,off,g,e⟩
  ·rw[e] at a;exact absurd rfl a
  ·rw[e] at a ⊢;obtain⟨d,cs,l,e⟩:=JA a;rw[e] at a ⊢;obtain⟨o,e⟩:=dV a;rw[e] at a ⊢;obtain⟨v,p,e⟩:=DH _ _ _ _ _ a;refine⟨v,?_,e⟩;have r:(fh asC h).aC t= .bn q s off:=by show bi (asC t)=_;rw[g];simp only[bi]
   have w:(fh asC h).bo q= .box d (gG cs):=by show eJ (h.aj q)=_;rw[l];rfl
   have y:=dp o;simp only[sw,r,w,y,w6,Bi p]
  ·rw[e] at a;exact absurd rfl a
noncomputable def o6(ob:ej)(asC:dG)(f:aB->eH->aw):List Bool->List kL->aw
 |_,[]=>(λ(_:Nat)=>f [] []) vI
 |[],x::xs=>tV ob asC x λv=>aD ob v λq e0=>o6 ob asC (λa us=>f (q::a) (aA e0 us)) [] xs
 |true::bs,x::xs=>tV ob asC x λv=>aD ob v λq e0=>o6 ob asC (λa us=>f (q::a) (aA e0 us)) bs xs
 |false::bs,x::xs=>tV ob asC x λv=>o6 ob asC (λa us=>f (v::a) us) bs xs
def vt(q:an):Prop:=q.eg=[]/\q.cR=[]/\mX (bi q)=true
theorem azp(h:lE ob x=some q):q.key=[]:=by
 cases x with
 |az k s off len=>
  simp only[lE] at h;split at h
  ·rename_i d e sz es as0 g;cases a:(Nat.beq s d&&Nat.ble (Nat.add off len) es.length) with
   |false=>rw[a] at h;simp at h
   |true=>rw[a] at h;simp only[lR,O5] at h;subst h;rfl
  ·cases h
 |_=>simp[lE] at h<;>subst h<;>rfl
theorem VH{ob:ej}:∀{xs a:aB},pS ob xs=some a->a.flatMap an.key=[]
 |[],a,h=>by cases h;rfl
 |x::xs,a,h=>by
  simp only[pS] at h;split at h
  ·rename_i q g d e;cases h;rw[Ph,azp d,VH e];rfl
  ·cases h
theorem aCw(h:l8 ob x=some q):vt q:=by
 cases x with
 |agg cs=>
  simp only[l8] at h;split at h
  ·rename_i j d;cases h;have:=VH d;exact⟨this,this,by simp[bi,mX]⟩
  ·cases h
 |az k s off len=>
  have h':lE ob (.az k s off len)=some q:=h;simp only[lE] at h';split at h'
  ·rename_i g e sz es as0 l;cases a:(Nat.beq s g&&Nat.ble (Nat.add off len) es.length) with
   |false=>rw[a] at h';simp at h'
   |true=>rw[a] at h';simp only[lR,O5] at h';subst h';exact⟨rfl,rfl,by simp[bi,mX]⟩
  ·cases h'
 |tok i=>simp only[l8,lE,O5] at h;subst h;exact⟨rfl,rfl,by simp only[bi];exact aby i⟩
 |_=>simp[l8,lE] at h<;>subst h<;>exact⟨rfl,rfl,by simp[bi,mX,i0]⟩
theorem abf:∀{as8:List Bool} {rvs:List kL} {f:aB->eH->aw},o6 h.aj asC f as8 rvs≠ .ax->
 ∃d a us,nq (fh asC h) rvs=some d/\mA h.iQ as8 d=some (a.map bi,us.map hR)/\o6 h.aj asC f as8 rvs=f a us/\(as8=[]->∀q∈a,vt q):=by
 have r:∀{as8:List Bool} {x:kL} {xs:List kL} {f:aB->eH->aw},
  (∀{f:aB->eH->aw},o6 h.aj asC f as8 xs≠ .ax->∃d a us,nq (fh asC h) xs=some d/\mA h.iQ as8 d=some (a.map bi,us.map hR)/\o6 h.aj asC f as8 xs=f a us/\(as8=[]->∀q∈a,vt q))->
  (tV h.aj asC x λv=>aD h.aj v λq e0=>o6 h.aj asC (λa us=>f (q::a) (aA e0 us)) as8 xs)≠ .ax->
  ∃v d q a us,sw (fh asC h) x=some v/\nq (fh asC h) xs=some d/\qG h.iQ v=some (bi q)/\mA h.iQ as8 d=some (a.map bi,us.map hR)/\vt q/\(as8=[]->∀q∈a,vt q)/\
   ∃e0,jE h.iQ v=e0.map hR/\(tV h.aj asC x λv=>aD h.aj v λq e0=>o6 h.aj asC (λa us=>f (q::a) (aA e0 us)) as8 xs)=f (q::a) (e0++us):=by
  intro as8 x xs f o g;obtain⟨v,i,e⟩:=Rr g;rw[e] at g ⊢;obtain⟨q,l,e⟩:=FI g;rw[e] at g ⊢;obtain⟨d,a,us,j,k,e,t⟩:=o g;refine⟨bi v,d,q,a,us,i,j,Dy l,k,aCw l,t,oh h.aj v,J9 h.aj v,?_⟩;rw[e,mJ]
 intro as8 rvs;induction rvs generalizing as8 with
 |nil=>intro f _;cases as8 with
  |nil=>exact⟨[],[],[],rfl,rfl,rfl,λ_=>by simp⟩
  |cons _ _=>exact⟨[],[],[],rfl,rfl,rfl,λ_=>by simp⟩
 |cons x xs o=>
  intro f g;cases as8 with
  |nil=>obtain⟨v,d,q,a,us,i,l,j,k,w,y,e0,p,e⟩:=r (as8:=[]) (f:=f) o g;refine⟨v::d,q::a,e0++us,by simp only[nq,i,l],?_,e,λ_ z A=>(pG.1 A).elim (λe=>e▸w) (y rfl z)⟩;simp only[mA,lj,lC,w6,j,k,p,mG,LZ]
  |cons c bs=>
   cases c with
   |true=>obtain⟨v,d,q,a,us,i,l,j,k,_,_,e0,p,e⟩:=r (as8:=bs) (f:=f) o g;refine⟨v::d,q::a,e0++us,by simp only[nq,i,l],?_,e,λh=>by cases h⟩;simp only[mA,lj,lC,w6,j,k,p,mG,LZ]
   |false=>change (tV h.aj asC x λv=>o6 h.aj asC (λa us=>f (v::a) us) bs xs)≠ .ax at g;show∃d a us,_/\_/\(tV h.aj asC x λv=>o6 h.aj asC (λa us=>f (v::a) us) bs xs)=_/\_;obtain⟨v,i,e⟩:=Rr g;rw[e] at g ⊢;obtain⟨d,a,us,j,k,e,_⟩:=o g;refine⟨bi v::d,v::a,us,by simp only[nq,i,j],?_,e,λh=>by cases h⟩;simp only[mA,lj,lC,Nn,st,k,mG,Pt]
noncomputable def Qa(l:aB):Bool:=
 @List.rec an (λ_=>Bool) true (λc _ a=> @an.rec (λ_=>Bool) (λ_=>PUnit) (λ_=>PUnit) false (λ_=>a) (λ_ _=>a) (λ_ _=>a) a (λ_=>a) (λ_ _=>a) (λ_ _=>false) (λ_ _ _=>a) (λ_ _ _=>a) (λ_ _ _=>a) (λ_ _ _ _=>a) (λ_ _ _ _=>a) (λ_ _=>a) (λ_ _ _=>a) (λ_=>a) PUnit.unit (λ_ _ _ _=>PUnit.unit) PUnit.unit (λ_ _ _ _=>PUnit.unit) c) l
theorem aem:∀{l:aB},Qa l=true->(l.map bi).all mX=true
 |[],_=>rfl
 |c::r,h=>by
  have a:Qa r=true/\mX (bi c)=true:=by
   cases c with
   |tok i=>exact⟨h,by simp only[bi];exact aby i⟩
   |_=>first|exact⟨h,by simp[bi,mX,i0]⟩|exact absurd h (by intro h;cases h)
  rw[mG,mU,a.2,aem a.1];rfl
noncomputable def iT(l:aB):an:= @List.rec an (λ_=>an) (.a0 []) (λv r _=> @List.rec an (λ_=>an) v (λ_ _ _=> .a0 l) r) l
theorem ayG:∀(l:aB),bi (iT l)=sx (l.map bi)
 |[]=>by show bi (.a0 [])=_;simp[bi,gG,sx]
 |[v]=>rfl
 |a::b::r=>by show bi (.a0 (a::b::r))=_;simp[bi,lm,sx]
noncomputable def n8(b:Nat)(cs:aB):Bool:=
 @List.rec an (λ_=>Bool) true (λc _ a=> @an.rec (λ_=>Bool) (λ_=>PUnit) (λ_=>PUnit) a (λ_=>a) (λ_ _=>a) (λ_ _=>a) a (λ_=>a) (λ_ _=>false) (λ_ _=>false) (λ_ _ _=>a) (λ_ _ _=>a) (λk _ _=>cS (Nat.ble (Nat.succ k) b) a) (λk _ _ _=>cS (Nat.ble (Nat.succ k) b) a) (λk _ _ _=>cS (Nat.ble (Nat.succ k) b) a) (λk _=>cS (Nat.ble (Nat.succ k) b) a) (λ_ _ _=>false) (λ_=>a) PUnit.unit (λ_ _ _ _=>PUnit.unit) PUnit.unit (λ_ _ _ _=>PUnit.unit) c) cs
noncomputable def PK(b:Nat)(x:an)(r:Bool):Bool:=
 @an.rec (λ_=>Bool) (λ_=>PUnit) (λ_=>PUnit) r (λ_=>r) (λ_ _=>r) (λ_ _=>r) r (λ_=>r) (λcs _=>cS (n8 b cs) r) (λ_ _=>false) (λ_ _ _=>r) (λ_ _ _=>r) (λk _ _=>cS (Nat.ble (Nat.succ k) b) r) (λk _ _ _=>cS (Nat.ble (Nat.succ k) b) r) (λk _ _ _=>cS (Nat.ble (Nat.succ k) b) r) (λk _=>cS (Nat.ble (Nat.succ k) b) r) (λ_ cs _=>cS (n8 b cs) r) (λ_=>r) PUnit.unit (λ_ _ _ _=>PUnit.unit) PUnit.unit (λ_ _ _ _=>PUnit.unit) x
noncomputable def N4(b:Nat)(cs:aB):Bool:= @List.rec an (λ_=>Bool) true (λc _ a=>PK b c a) cs
noncomputable def sk(b:Nat)(x:an):Bool:=
 @an.rec (λ_=>Bool) (λ_=>PUnit) (λ_=>PUnit) true (λ_=>true) (λ_ _=>true) (λ_ _=>true) true (λ_=>true) (λcs _=>n8 b cs) (λcs _=>N4 b cs) (λ_ _ _=>true) (λ_ _ _=>true) (λk _ _=>Nat.ble (Nat.succ k) b) (λk _ _ _=>Nat.ble (Nat.succ k) b) (λk _ _ _=>Nat.ble (Nat.succ k) b) (λk _=>Nat.ble (Nat.succ k) b) (λ_ cs _=>n8 b cs) (λ_=>true) PUnit.unit (λ_ _ _ _=>PUnit.unit) PUnit.unit (λ_ _ _ _=>PUnit.unit) x
theorem yT{b:Nat}:∀{cs:aB},n8 b cs=true->(∀k∈cs.flatMap an.key,k<b)/\(∀k∈cs.flatMap an.cf,k<b)
 |[],_=>⟨by simp,by simp⟩
 |c::r,h=>by
  have p:n8 b r=true/\(∀k∈c.key,k<b)/\(∀k∈c.cf,k<b):=by
   have asT:∀{k:Nat},cS (Nat.ble (Nat.succ k) b) (n8 b r)=true->n8 b r=true/\k<b:=by intro k h;rw[jg,Hi] at h;exact⟨h.2,pn h.1⟩
   cases c with
   |bn k s o=>obtain⟨e,d⟩:=asT h;exact⟨e,by intro j a;simp[an.key,an.cf] at a;subst a;exact d,by intro j a;simp[an.cf] at a;subst a;exact d⟩
   |az k s o l=>obtain⟨e,d⟩:=asT h;exact⟨e,by intro j a;simp[an.key,an.cf] at a;subst a;exact d,by intro j a;simp[an.cf] at a;subst a;exact d⟩
   |dH k s i o=>obtain⟨e,d⟩:=asT h;exact⟨e,by intro j a;simp[an.key,an.cf] at a;subst a;exact d,by intro j a;simp[an.cf] at a;subst a;exact d⟩
   |hG k s=>obtain⟨e,d⟩:=asT h;exact⟨e,by intro j a;simp[an.key,an.cf] at a;subst a;exact d,by intro j a;simp[an.cf] at a;subst a;exact d⟩
   |_=>first|exact⟨h,by simp[an.key,an.cf],by simp[an.cf]⟩|exact absurd h (by intro h;cases h)
  obtain⟨e,d⟩:=yT p.1;constructor
  ·intro k g;rw[Ph,Ic] at g;exact g.elim (p.2.1 k) (e k)
  ·intro k g;rw[Ph,Ic] at g;exact g.elim (p.2.2 k) (d k)
theorem aAr{r:Bool}(h:PK b x r=true):r=true/\∀k∈x.eg,k<b:=by
 have asT:∀{k:Nat},cS (Nat.ble (Nat.succ k) b) r=true->r=true/\k<b:=by intro k h;rw[jg,Hi] at h;exact⟨h.2,pn h.1⟩
 cases x with
 |agg cs=>have h':cS (n8 b cs) r=true:=h;rw[jg,Hi] at h';exact⟨h'.2,(yT h'.1).1⟩
 |gJ f cs=>have h':cS (n8 b cs) r=true:=h;rw[jg,Hi] at h';exact⟨h'.2,(yT h'.1).2⟩
 |bn k s o=>obtain⟨d,e⟩:=asT h;exact⟨d,by intro j a;simp[an.eg,an.key,an.cf] at a;subst a;exact e⟩
 |az k s o l=>obtain⟨d,e⟩:=asT h;exact⟨d,by intro j a;simp[an.eg,an.key,an.cf] at a;subst a;exact e⟩
 |dH k s i o=>obtain⟨d,e⟩:=asT h;exact⟨d,by intro j a;simp[an.eg,an.key,an.cf] at a;subst a;exact e⟩
 |hG k s=>obtain⟨d,e⟩:=asT h;exact⟨d,by intro j a;simp[an.eg,an.key,an.cf] at a;subst a;exact e⟩
 |a0 cs=>cases h
 |_=>exact⟨h,by simp[an.eg,an.key,an.cf]⟩
theorem act{b:Nat}:∀{cs:aB},N4 b cs=true->∀k∈cs.flatMap an.eg,k<b
 |[],_=>by simp
 |c::r,h=>by have h':PK b c (N4 b r)=true:=h;obtain⟨d,e⟩:=aAr h';intro k a;rw[Ph,Ic] at a;exact a.elim (e k) (act d k)
theorem Zh(h:sk b x=true):∀k∈x.cR,k<b:=by
 cases x with
 |agg cs=>exact(yT h).1
 |gJ f cs=>exact(yT h).2
 |a0 cs=>exact act h
 |bn k s o=>intro j a;simp[an.cR,an.eg,an.key,an.cf] at a;subst a;exact pn h
 |az k s o l=>intro j a;simp[an.cR,an.eg,an.key,an.cf] at a;subst a;exact pn h
 |dH k s i o=>intro j a;simp[an.cR,an.eg,an.key,an.cf] at a;subst a;exact pn h
 |hG k s=>intro j a;simp[an.cR,an.eg,an.key,an.cf] at a;subst a;exact pn h
 |_=>simp[an.cR,an.eg,an.key,an.cf]
noncomputable def xF(b:Nat)(o:dM):Bool:= @dM.rec (λ_=>Bool) (λ_=>true) (λ_ cs=>n8 b cs) (λ_ _ _ _ _=>true) (λ_ _=>true) o
theorem aAZ{o:dM}(h:xF b o=true):∀k∈(eJ o).cR,k<b:=by
 cases o with
 |box s cs=>
  have:=(yT h).1;intro k a;refine this k ?_;have e:(gG cs).flatMap aG.key=cs.flatMap an.key:=by rw[lm,cg];congr 1;funext y;exact E8 y
  rw[<-e];exact a
 |_=>simp[eJ,Obj.cR]
noncomputable def kE(b:Nat)(atf:b1)(l:List Nat):Bool:= @List.rec Nat (λ_=>Bool) true (λk _ a=>cS (xF b (atf.get k).ag) a) l
theorem Ya{b:Nat}{atf:b1}:∀{l:List Nat},kE b atf l=true->∀k∈l,xF b (atf.get k).ag=true
 |x::r,h,k,a=>by
  have h':cS (xF b (atf.get x).ag) (kE b atf r)=true:=h;rw[jg,Hi] at h';rcases pG.1 a with rfl|a
  ·exact h'.1
  ·exact Ya h'.2 k a
noncomputable def L8(b:Nat)(res:an)(h:aI):aw:=
 @aI.rec (λ_=>aw) (λub atf dirty=> @Bool.rec (λ_=>aw) (bf (sk ub res) (.ok res ub atf dirty) .ax) (.ok res b (atf.drop b) dirty) (cS (sk b res) (kE b atf dirty))) h
noncomputable def mH(b:Nat)(a:aB)(us:eH)(h:aI):aw:=bf (Qa a) (ws b us h λh'=>L8 b (iT a) h') .ax
noncomputable def wR(b:Nat)(res:an)(h:aI):aw:=
 @aI.rec (λ_=>aw) (λub atf dirty=> @Bool.rec (λ_=>aw) (.ok res ub atf dirty) (.ok res b (atf.drop b) dirty) (kE b atf dirty)) h
noncomputable def dJ(b:Nat)(res:an)(us:eH)(h:aI):aw:=ws b us h λh'=>wR b res h'
noncomputable def C8(b:Nat)(rvs:List kL)(as8:List Bool)(asC:dG)(h:aI):aw:=match as8 with
 |[]=>o6 h.aj asC (λa us=>dJ b (iT a) us h) [] rvs
 |x::y=>o6 h.aj asC (λa us=>mH b a us h) (x::y) rvs
theorem acJ:∀{l:aB},(∀q∈l,vt q)->(l.map bi).all mX=true
 |[],_=>rfl
 |c::r,h=>by rw[mG,mU,(h c HO).2.2,acJ λq a=>h q (OJ _ a)];rfl
theorem akT:∀{l:aB},(∀q∈l,vt q)->(iT l).cR=[]
 |[],_=>rfl
 |[v],h=>(h v HO).2.1
 |a::b::r,h=>by
  show(an.a0 (a::b::r)).cR=[];have d:∀(l:aB),(∀q∈l,vt q)->l.flatMap an.eg=[]:=by
   intro l;induction l with
   |nil=>intro _;rfl
   |cons c r e=>intro h;rw[Ph,(h c HO).1,e λq g=>h q (OJ _ g)];rfl
  exact d _ h
noncomputable def ba(b:Nat)(atf:b1):aI:= .mk (Nat.add b 4096) (.cons b .nil atf) []
noncomputable def CB(np n:Nat)(c:iX)(rvs:List kL)(as8:List Bool)(u:Fn)(args:aB)(b:Nat)(atf:b1):aw:=
 EM (λasC=>den u b n c asC (ba b atf) (C8 b rvs as8) (λ_ _ _=> .ax) (C8 b rvs as8)) np 0 ma args
theorem ash(b:Nat)(atf:b1):(ba b atf).iQ=hq b atf:=by
 funext k;show eJ (cE (b+4096) (.cons b .nil atf) k)=eJ (cE b atf k);congr 1;by_cases a:k<b
 ·rw[ic,ic a];show(@Bool.rec (λ_=>e9) (atf.get k) (jO.get .nil k) (Nat.ble b k)).ag=_;have:Nat.ble b k=false:=by
   cases d:Nat.ble b k with
   |true=>have:=pn d;omega
   |false=>rfl
  rw[this]
 ·rw[jz (ub:=b)];by_cases e:k<b+4096
  ·rw[ic e];show(@Bool.rec (λ_=>e9) (atf.get k) (jO.get .nil k) (Nat.ble b k)).ag=_;rw[gz (by omega)];rfl
  ·rw[jz]
section
variable{gl:eI} {P:Program}
theorem am1{w:dG}{h':aI}{x:ne}{X:cD->aG->Prop}(aS:hT ub (ba ub atf) h')
 (h:C8 ub rvs as8 w h'= .ok res ub' segs' dirty)(W:x= .normal\/x= .ret)(Z:∀z r,Fin as8 rvs (hq ub atf) z r x (fh w h')->X z r):
 X (hq ub' segs') (bi res)/\(∀k,k<ub->k∉dirty->cE ub' segs' k=cE ub atf k)/\∀k∈res.cR,k<ub':=by
 have i:C8 ub rvs as8 w h'≠ .ax:=by rw[h];simp
 have split:∃j a us l,nq (fh w h') rvs=some j/\mA h'.iQ as8 j=some (a.map bi,us.map hR)/\(a.map bi).all mX=true/\xI ub us h' l/\
  (L8 ub (iT a) l= .ok res ub' segs' dirty\/(wR ub (iT a) l= .ok res ub' segs' dirty/\(iT a).cR=[])):=by
  unfold C8 at h i;cases as8 with
  |nil=>obtain⟨j,a,us,r1,C,G,A⟩:=abf i;simp only[] at h i;rw[G] at h i;obtain⟨l,D,H⟩:=xG i;have N:ws ub us h' (λh'=>wR ub (iT a) h')= .ok res ub' segs' dirty:=h;rw[H] at N;exact⟨j,a,us,l,r1,C,acJ (A rfl),D,.inr ⟨N,akT (A rfl)⟩⟩
  |cons x y=>obtain⟨j,a,us,r1,C,G,_⟩:=abf i;simp only[] at h i;rw[G] at h i;unfold mH at h i;obtain⟨A,ar⟩:=dV i;rw[ar] at h i;obtain⟨l,D,H⟩:=xG i;rw[H] at h;exact⟨j,a,us,l,r1,C,aem A,D,.inl h⟩
 obtain⟨j,a,us,l,r1,C,A,D,h⟩:=split;obtain⟨fC,a1,bs⟩:=D;have O:=aS.trans fC;have a2:bi (iT a)=sx (a.map bi):=ayG a;have Q:∀z,E5 (hq ub atf) (c7 h'.iQ (us.map hR)) z (bi (iT a))->X z (bi (iT a)):=by
  intro z a3;refine Z _ _ ?_;have R:∃j q us,nq (fh w h') rvs=some j/\mA (fh w h').bo as8 j=some (q,us)/\q.all mX=true/\bi (iT a)=sx q/\E5 (hq ub atf) (c7 (fh w h').bo us) z (bi (iT a)):=⟨j,a.map bi,us.map hR,r1,C,A,a2,a3⟩;rcases W with rfl|rfl
  ·exact R
  ·exact R
 cases l with
 |mk g d d2=>
  have B:c7 h'.iQ (us.map hR)=hq g d:=by rw[<-a1,Va];rfl
  have bx:ub+4096<=g:=O.bh;have I:∀k,k<ub->k∉d2->cE g d k=cE ub atf k:=by
   intro k e J;have p:=O.same k e J;have K:cE g d k=cE (ub+4096) (.cons ub .nil atf) k:=p;rw[K,ic,ic e];show(@Bool.rec (λ_=>e9) (atf.get k) (jO.get .nil k) (Nat.ble ub k)).ag=_;have:Nat.ble ub k=false:=by
    cases hh:Nat.ble ub k with
    |true=>have:=pn hh;omega
    |false=>rfl
   rw[this]
  have low:(∀k∈(iT a).cR,k<ub)->kE ub d d2=true->(.ok (iT a) ub (d.drop ub) d2:aw)= .ok res ub' segs' dirty->
   X (hq ub' segs') (bi res)/\(∀k,k<ub->k∉dirty->cE ub' segs' k=cE ub atf k)/\∀k∈res.cR,k<ub':=by
   intro E a4 h;simp only[aw.ok.injEq] at h;obtain⟨rfl,rfl,rfl,rfl⟩:=h;have lo:∀k,k<ub->cE ub (d.drop ub) k=cE g d k:=λk e=>by rw[ic e,ic,b1.rB ub d k e]
   refine⟨Q _ ⟨λk=>?_,λk e=>?_,λk e=>?_⟩,λk e J=>by rw[lo k e];exact I k e J,E⟩
   ·by_cases e:k<ub
    ·left;rw[B];show eJ _=eJ _;rw[lo k e]
    ·right;have p:hq ub (d.drop ub) k= .ax 0:=by show eJ _=_;rw[jz];rfl
     have K:hq ub atf k= .ax 0:=by show eJ _=_;rw[jz];rfl
     rw[p,K];exact⟨λh=>h,sm _⟩
   ·by_cases F:k<ub
    ·by_cases hd:k∈d2
     ·right;intro L S;have p:hq ub (d.drop ub) k=eJ (d.get k).ag:=by show eJ _=_;rw[ic F,b1.rB ub d k F]
      rw[p] at S;have M:=aAZ (Ya a4 k hd) L S;rw[B];show eJ _=eJ _;rw[lo L M]
     ·left;show eJ _=eJ _;rw[lo k F,I k F hd]
    ·exfalso;have p:hq ub (d.drop ub) k= .ax 0:=by show eJ _=_;rw[jz];rfl
     rw[p] at e;exact e
   ·have M:=E k (by rw[<-pb];exact e);rw[B];show eJ _=eJ _;rw[lo k M]
  have high:(∀k∈(iT a).cR,k<g)->(.ok (iT a) g d d2:aw)= .ok res ub' segs' dirty->
   X (hq ub' segs') (bi res)/\(∀k,k<ub->k∉dirty->cE ub' segs' k=cE ub atf k)/\∀k∈res.cR,k<ub':=by
   intro E h;simp only[aw.ok.injEq] at h;obtain⟨rfl,rfl,rfl,rfl⟩:=h;exact⟨Q _ ⟨λk=> .inl (by rw[B]),λk _=> .inr λL _=>by rw[B],λk _=>by rw[B]⟩,I,E⟩
  rcases h with h|⟨h,a5⟩
  ·change @Bool.rec (λ_=>aw) (bf (sk g (iT a)) (.ok (iT a) g d d2) .ax) (.ok (iT a) ub (d.drop ub) d2) (cS (sk ub (iT a)) (kE ub d d2))= .ok res ub' segs' dirty at h;cases t:cS (sk ub (iT a)) (kE ub d d2) with
   |true=>rw[t] at h;rw[jg,Hi] at t;exact low (Zh t.1) t.2 h
   |false=>rw[t] at h;change bf (sk g (iT a)) (.ok (iT a) g d d2) .ax= .ok res ub' segs' dirty at h;obtain⟨bd,p⟩:=dV (c:=sk g (iT a)) (x:= .ok (iT a) g d d2) (by rw[h];simp);rw[p] at h;exact high (Zh bd) h
  ·have T:∀b,∀k∈(iT a).cR,k<b:=λb k e=>by rw[a5] at e;cases e
   change @Bool.rec (λ_=>aw) (.ok (iT a) g d d2) (.ok (iT a) ub (d.drop ub) d2) (kE ub d d2)= .ok res ub' segs' dirty at h;cases t:kE ub d d2 with
   |true=>rw[t] at h;exact low (T ub) t h
   |false=>rw[t] at h;exact high (T g) h
theorem aiF(j:mD gl P u){m:Nat}(l:np<=m)
 (o:∀(ub:Nat) (args:dA) (ob a:cD) (res:aG),args.length<=m->kG gl P ub c.ia (Fin as8 rvs ob a res) (xA args ob)->lx gl P f args ob res a)
 (h:CB np n c rvs as8 u args ub atf= .ok res ub' segs' dirty):
 lx gl P f (args.map bi) (hq ub atf) (bi res) (hq ub' segs')/\(∀k,k<ub->k∉dirty->cE ub' segs' k=cE ub atf k)/\∀k∈res.cR,k<ub':=by
 have d:CB np n c rvs as8 u args ub atf≠ .ax:=by rw[h];simp
 unfold CB at h d;obtain⟨e,p,t,_,w⟩:=adK d;rw[p] at h d;have y:fh e (ba ub atf)=xA (args.map bi) (hq ub atf):=by
  unfold fh xA;congr 1
  ·funext i;rw[w i (xW i),kM,O8];cases args[i]? with
   |none=>simp[ma,bi]
   |some v=>rfl
  ·exact ash ub atf
 obtain⟨x,z,h',aS,A,B⟩:=aB4 j (n:=n) c e (ba ub atf) (C8 ub rvs as8) (λ_ _ _=> .ax) (C8 ub rvs as8) (sm _) d;rw[A] at h;have g:C8 ub rvs as8 z h'= .ok res ub' segs' dirty->(x= .normal\/x= .ret)->lx gl P f (args.map bi) (hq ub atf) (bi res) (hq ub' segs')/\(∀k,k<ub->k∉dirty->cE ub' segs' k=cE ub atf k)/\∀k∈res.cR,k<ub':=λh C=>
  am1 (X:=λa r=>lx gl P f (args.map bi) (hq ub atf) r a) aS h C (λa r D=>by refine o ub _ _ _ _ (by rw[ER,t];exact l) ?_;rw[<-y];exact B _ D)
 cases x with
 |normal=>exact g h (.inl rfl)
 |ret=>exact g h (.inr rfl)
 |exit i=>cases h
theorem atw(e:mD gl P u){H:l7}{fn:Func}{a:Code}(g:P.follows .mixedOrders=true)(i:P.funcs[f]? =some fn)(j:fn.body=some a)
 (l:(fn.name== "runtime.NumGoroutine")=false)(o:np<=fn.ntmps)(p:rt P fn.results.toList=some rvs)(r:c.ia=comp P H fn.ntmps a)
 (h:CB np n c rvs as8 u args ub atf= .ok res ub' segs' dirty):
 lx gl P f (args.map bi) (hq ub atf) (bi res) (hq ub' segs')/\(∀k,k<ub->k∉dirty->cE ub' segs' k=cE ub atf k)/\∀k∈res.cR,k<ub':=by
 refine aiF e o (λub args ob w res t d=>?_) h;rw[r] at d;exact ar7 ub as8 rvs g i j l t p d
end
end
end
section
variable{gl:eI} {P:Program}
section
variable[Tok]
def jB:pY->List (Option (List Nat))->iX×List (Option (List Nat))
 | .skip,l=>(.skip,l)
 | .region d o,l=>(.region d o,l)
 | .seq a b,x::l=>match jB a l with
   |(h,g)=>match jB b g with
    |(e,i)=>match x with
     |none=>(.seq h e,i)
     |some v=>(.I7 v h e,i)
 | .seq a b,[]=>match jB a [] with
   |(h,_)=>match jB b [] with
    |(e,_)=>(.seq h e,[])
 | .cond c a b,l=>match jB a l with
   |(h,g)=>match jB b g with
    |(e,i)=>(.cond c h e,i)
 | .block id b,l=>match jB b l with
   |(e,g)=>(.block id e,g)
 | .loop b,x::l=>match jB b l with
   |(e,g)=>(.loop (x.getD []) e,g)
 | .loop b,[]=>match jB b [] with
   |(e,_)=>(.loop [] e,[])
 | .exit id,l=>(.exit id,l)
 | .ret,l=>(.ret,l)
theorem rW:∀(c:pY) (l:List (Option (List Nat))),(jB c l).1.ia=c
 | .skip,_=>rfl
 | .region _ _,_=>rfl
 | .seq a b,x::l=>by
   have d:=rW a l;have e:=rW b (jB a l).2;cases x with
   |none=>show iX.ia (.seq (jB a l).1 (jB b (jB a l).2).1)=_;rw[iX.ia,d,e]
   |some v=>show iX.ia (.I7 v (jB a l).1 (jB b (jB a l).2).1)=_;rw[iX.ia,d,e]
 | .seq a b,[]=>by show iX.ia (.seq (jB a []).1 (jB b []).1)=_;rw[iX.ia,rW a,rW b]
 | .cond c a b,l=>by show iX.ia (.cond c (jB a l).1 (jB b (jB a l).2).1)=_;rw[iX.ia,rW a,rW b]
 | .block id b,l=>by show iX.ia (.block id (jB b l).1)=_;rw[iX.ia,rW b]
 | .loop b,x::l=>by show iX.ia (.loop _ (jB b l).1)=_;rw[iX.ia,rW b]
 | .loop b,[]=>by show iX.ia (.loop _ (jB b []).1)=_;rw[iX.ia,rW b]
 | .exit _,_=>rfl
 | .ret,_=>rfl
abbrev jq:=Fn->aB->Nat->b1->aw
def i5(gl:eI)(P:Program)(f:Nat)(g:jq):Prop:=
 ∀u,mD gl P u->∀args ub atf b a c d,g u args ub atf= .ok b a c d->lx gl P f (args.map bi) (hq ub atf) (bi b) (hq a c)/\
  (∀k,k<ub->k∉d->cE a c k=cE ub atf k)/\∀k∈b.cR,k<a
structure Cu where
 f:Nat
 fn:Func
 aO:l7
 ns:Nat
 g3:List kL
 gc:List Bool
 iw:List (Option (List Nat))
def QI(fn:Func):Code:=fn.body.getD .skip
noncomputable def Cu.den(P:Program)(d:Cu):jq:=CB d.ns 1000000 (jB (comp P d.aO d.fn.ntmps (QI d.fn)) d.iw).1 d.g3 d.gc
theorem alO(d:Cu){g:jq}(c:P.follows .mixedOrders=true)(e:P.funcs[d.f]? =some d.fn)(a:d.fn.body.isSome=true)
 (i:(d.fn.name== "runtime.NumGoroutine")=false)(j:Nat.ble d.ns d.fn.ntmps=true)(k:rt P d.fn.results.toList=some d.g3)(l:g=d.den P):i5 gl P d.f g:=by
 intro u n args ub atf q r t w h;subst l;have o:d.fn.body=some (QI d.fn):=by
  unfold QI;cases p:d.fn.body with
  |none=>rw[p] at a;cases a
  |some b=>rfl
 exact atw n (H:=d.aO) c e o i (pn j) k (rW _ _) h
inductive aR where
 |ax
 |mk (g:jq)
inductive lZ where
 |leaf (f:Nat) (g:jq)
 |node (m:Nat) (l r:lZ)
noncomputable def look(t:lZ):Nat->aR:=
 @lZ.rec (λ_=>Nat->aR) (λk g f=> @Bool.rec (λ_=>aR) .ax (.mk g) (Nat.beq f k)) (λm _ _ a b f=> @Bool.rec (λ_=>aR) (b f) (a f) (Nat.ble f m)) t
noncomputable def bB(T:lZ)(n:Nat):Fn:= @Nat.rec (λ_=>Fn) (λ_ _ _ _=> .ax) (λ_ t f args b atf=> @aR.rec (λ_=>aw) .ax (λg=>g t args b atf) (look T f)) n
def qf(gl:eI)(P:Program):lZ->Prop
 | .leaf f g=>i5 gl P f g
 | .node _ l r=>qf gl P l/\qf gl P r
theorem LU{gl:eI}{P:Program}:∀{T:lZ},qf gl P T->∀{f:Nat} {g:jq},look T f= .mk g->i5 gl P f g
 | .leaf k g',b,f,g,h=>by
   change @Bool.rec (λ_=>aR) .ax (.mk g') (Nat.beq f k)= .mk g at h;cases a:Nat.beq f k with
   |true=>rw[a] at h;have e:=dp a;subst e;cases h;exact b
   |false=>rw[a] at h;cases h
 | .node m l r,b,f,g,h=>by
   change @Bool.rec (λ_=>aR) (look r f) (look l f) (Nat.ble f m)= .mk g at h;cases a:Nat.ble f m with
   |true=>rw[a] at h;exact LU b.1 h
   |false=>rw[a] at h;exact LU b.2 h
theorem zg{gl:eI}{P:Program}{T:lZ}(b:qf gl P T):∀n,mD gl P (bB T n)
 |0=>by intro f args ub atf c d e i h;cases h
 |n+1=>by
  intro f args ub atf c d e i h;change @aR.rec (λ_=>aw) .ax (λg=>g (bB T n) args ub atf) (look T f)=_ at h;cases a:look T f with
  |ax=>rw[a] at h;cases h
  |mk g=>rw[a] at h;exact LU b a (bB T n) (zg b n) args ub atf c d e i h
theorem ayQ{T:lZ}(d:qf gl P T){n f:Nat}{args:aB}{a:an}{atf:b1}{b:List Nat}(h:bB T n f args 0 .nil= .ok a 0 atf b):uP gl P f (args.map bi) (bi a):=by obtain⟨c,_,e⟩:=zg d n f args 0 .nil a 0 atf b h;rw[vD,vD] at c;refine⟨c,?_⟩;rw[pb];exact AY.2 λk g=>Nat.not_lt_zero k (e k g)
end
end
section
variable{gl:eI} {P:Program} {f ub:Nat} {l:aB} {res:an} {s:b1} {d:List Nat} {x:aw}
section
variable[Tok]
theorem sU.Ox{g:ck}{w:World}{ob:cD}:∀{us vs:List Value},sU g w ob (us.map aG.bu) vs->vs=us
 |[],[],_=>rfl
 |[],_::_,h=>by have:=h.1;simp at this
 |_::_,[],h=>by have:=h.1;simp at this
 |u::us,v::vs,h=>by have a:dT g w ob (.bu u) v:=h.2 0 (.bu u) v rfl rfl;have e:=a.fB.1;have b:sU g w ob (us.map aG.bu) vs:=⟨by have:=h.1;simpa using this,λi p x c j=>h.2 (i+1) p x (by simpa using c) (by simpa using j)⟩;rw[e,sU.Ox b]
theorem aj2(b:Enters P f)(a:List Value)(r:Value)(i:iO r=true)
 (h:∀c w,gl.ak c w->Calls P f a.toArray w λe w'=>e= .returned r/\Below w.heap.size w w')(ob:cD):lx gl P f (a.map aG.bu) ob (.bu r) ob:=by
 refine⟨b,λg w vs j k n=>?_⟩;rw[sU.Ox n];refine(h g.U w j).mono ?_;rintro e w' ⟨rfl,o⟩;exact⟨r,g,rfl,ml.below k o,.inr (.inl (.inl (.bu i)))⟩
theorem M3{g:jq}(p:Enters P f)
 (h:∀u args ub atf res a b i,g u args ub atf= .ok res a b i->a=ub/\b=atf/\i=[]/\∃(j:List Value) (r:Value),args.map bi=j.map aG.bu/\bi res= .bu r/\iO r=true/\
  ∀c w,gl.ak c w->Calls P f j.toArray w λe w'=>e= .returned r/\Below w.heap.size w w'):i5 gl P f g:=by
 intro u _ args ub atf res a b i q;obtain⟨rfl,rfl,rfl,j,r,t,n,y,z⟩:=h u args ub atf res a b i q;refine⟨?_,λ_ _ _=>rfl,λk o=>?_⟩
 ·rw[t,n];exact aj2 p j r y z _
 ·rw[<-pb,n] at o;simp[aG.cR,aG.eg,aG.key,aG.cf] at o
structure So (w0:World) (c0:Nat->Nat) (c:Nat->Nat) (w:World):Prop where
 acN:∀b i v,w0.cell? ⟨b,i,none⟩=some v->i<c0 b
 size:w0.heap.size<=w.heap.size
 cell:∀b,b<w0.heap.size->c0 b<c b/\∀i,i<=c0 b->w.cell? ⟨b,i,none⟩=w0.cell? ⟨b,i,none⟩
def alK(F:World->Prop)(c:Nat->Nat)(w:World):Prop:=∃w0 c0,F w0/\So w0 c0 c w
def awT(F:World->Prop):eI:=⟨alK F,λ{c p w w'} e h=>by obtain⟨w0,c0,k,a⟩:=h;refine⟨w0,c0,k,a.acN,y4 a.size e.size,λb g=>?_⟩;obtain⟨n,o⟩:=a.cell b g;have j:b<w.heap.size:=iC g a.size;exact⟨iC n (e.le b j),λi hi=>(e.cell b i j (by omega)).trans (o i hi)⟩⟩
theorem azw{w w0:World}{c0 c:Nat->Nat}(h:So w0 c0 c w){name:String}{k:IntKind}{z:Int}{a:List Int}
 (b:Lib.TabIs P w0 name k (z::a)):Lib.TabIs P w name k (z::a):=by
 unfold Lib.TabIs World.var? at b ⊢;cases p:P.globalNamed name with
 |none=>rw[p] at b;cases b
 |some g=>
  rw[p] at b;simp only[h9] at b ⊢;split at b
  ·rename_i cs t C e;cases b;have r:g<w0.heap.size:=(Gk.1 e).1;have D:(z::a).length-1<c0 g:=by
    obtain⟨v,u⟩:∃v,w0.cell? ⟨g,(z::a).length-1,none⟩=some v:=by simp only[World.cell?,e];exact⟨_,OC (by simp)⟩
    exact h.acN g _ v u
   have j:∀i,i<=(z::a).length->w.cell? ⟨g,i,none⟩=w0.cell? ⟨g,i,none⟩:=λi hi=>(h.cell g r).2 i (by omega);have y:w0.cell? ⟨g,0,none⟩=some (.int k z):=by simp only[World.cell?,e];rfl
   have n:=j 0 (by omega);rw[y] at n;simp only[World.cell?] at n j;split at n
   ·rename_i asq E F o;rw[o];simp only[O5];apply Array.ext_getElem?;intro i;by_cases hi:i<=(z::a).length
    ·have:=j i hi;rw[o,e] at this;exact this
    ·have q:=j (z::a).length (sm _);rw[o,e] at q;have A:(((z::a).map λz=>Value.int k z).toArray)[(z::a).length]? =none:=by simp
     have B:asq[(z::a).length]? =none:=q.trans A;rw[DX] at B;have G:(((z::a).map λz=>Value.int k z).toArray).size=(z::a).length:=by simp
     rw[DX.2 (by omega),DX.2 (by omega)]
   ·cases n
  ·cases b
theorem oZ{f:an->aB->aw}(h:aZ l f= .ok res ub s d):∃x r,l=x::r/\f x r= .ok res ub s d:=by
 cases l with
 |nil=>cases h
 |cons x r=>exact⟨x,r,rfl,h⟩
theorem wV(h:bV l x= .ok res ub s d):l=[]/\x= .ok res ub s d:=by
 cases l with
 |nil=>exact⟨rfl,h⟩
 |cons x r=>cases h
theorem J3{x:an}{f:Nat->Nat->aw}(h:k6 x f= .ok res ub s d):∃n v,x= .s n v/\f n v= .ok res ub s d:=by obtain⟨n,v,e,a⟩:=qE (by rw[h];simp:k6 x f≠ .ax);exact⟨n,v,e,by rw[<-a];exact h⟩
theorem x6{x:an}{f:IntKind->Nat->aw}(h:jR x f= .ok res ub s d):∃q n,x= .V q n/\f q n= .ok res ub s d:=by obtain⟨n,v,e,a⟩:=qB (by rw[h];simp:jR x f≠ .ax);exact⟨n,v,e,by rw[<-a];exact h⟩
theorem jt{c:Bool}(h:bf c x .ax= .ok res ub s d):c=true/\x= .ok res ub s d:=by
 cases c
 ·cases h
 ·exact⟨rfl,h⟩
def Cw(l:List UInt8):an:= .s l.length (oI l)
theorem Q1(l:List UInt8):bi (Cw l)= .bu (.string ⟨l.toArray⟩):=by unfold Cw;simp only[bi,e7,HZ]
end
end
section
variable{g:ck} {w:World} {ob:cD} {k s:Nat} {c1:aG}
section
variable[Tok]
theorem ml.nD{w':World}(c:oC g w ob)(k:Nat)(x:Obj)(j:(ob k).fx)
 (r:w'.os=w.os)(t:w'.tape=w.tape)(u:w'.output=w.output)(F:w.heap.size=w'.heap.size)(l:∀b,b≠g.b3 k->w'.heap[b]? =w.heap[b]?)
 (y:∀i,i<g.U (g.b3 k)->w'.cell? ⟨g.b3 k,i,none⟩=w.cell? ⟨g.b3 k,i,none⟩)(o:fY g ob g (dl ob k x))(z:gk g.U w g.U w'->kR g w' (dl ob k x) k x):ml g w ob g w' (dl ob k x):=by
 have n:gk g.U w g.U w':=⟨by omega,λ_ _=>sm _,λb i _ hi=>by
  by_cases e:b=g.b3 k
  ·subst e;exact y i hi
  ·simp only[World.cell?,l b e]⟩
 have d:∀a,(dl ob k x a).fx->(ob a).fx:=by
  intro a h;by_cases e:a=k
  ·subst e;exact j
  ·rw[ir _ _ e] at h;exact h
 refine⟨⟨r,t,u,by omega,λb _ A=>l b (λe=>A ⟨k,j,e.symm⟩),λ_ _ _=>rfl⟩,n,⟨λa=>?_,λp q B C e=>c.inj p q (d p B) (d q C) e,λa h=>by have:=c.lt a (d a h);omega⟩,o,λa h=> .inr ⟨a,d a h,rfl⟩⟩;by_cases e:a=k
 ·subst e;rw[iM];exact z n
 ·rw[ir _ _ e];exact kR.fg n o (λD=>⟨rfl,rfl,rfl,l _ (λE=>e (c.inj a k D j E))⟩) (c.ig a)
theorem fY.drop(g:ck)(k s:Nat)(h:(ob k).cd<=s):fY g ob g (dl ob k (.ax s)):=by
 intro c;by_cases b:c=k
 ·subst b;rw[iM];exact⟨h,(λ_ a=>by cases a),(λ_ _ _ _ a=>by cases a),(λ_ a=>by cases a)⟩
 ·rw[ir _ _ b];exact⟨sm _,λcs a=>⟨⟨cs,a⟩,rfl⟩,λ_ _ es as0 a=>⟨⟨es,as0,a,sm _⟩,rfl,rfl⟩,λes a=>⟨⟨es,a⟩,rfl⟩⟩
theorem dT.unit:dT g w ob (.a0 []) (.tuple #[]):=
 .inr (.inr (.inr (.inl ⟨[],[],rfl,rfl,rfl,λj q u h=>by simp at h⟩)))
theorem Mx{cs:dA}{vs:List Value}(c:ob k= .box s cs)(b:sU g w ob [.bn k s 0] vs):vs=[.pointer (some ⟨g.b3 k,0,none⟩)]:=by
 match vs,b with
 |[],b=>have:=b.1;simp at this
 |[v],b=>have h:=b.2 0 _ v rfl rfl;obtain⟨_,a,d,e⟩:=h.ju (by simp[aG.key,aG.cf]);rw[d,e cs c]
 |_::_::_,b=>have:=b.1;simp at this
section
variable{gl:eI} {P:Program} {f T:Nat}
theorem aA5(l:Enters P f)(h:∀b w,w.cell? ⟨b,0,none⟩=some (.pointer (some ⟨b,0,none⟩))->Calls P f #[.pointer (some ⟨b,0,none⟩)] w λe w'=>e= .returned (.tuple #[])/\w'=w)
 (d:ob k= .box s [.bn k s 0,c1]):lx gl P f [.bn k s 0] ob (.a0 []) ob:=by
 refine⟨l,λg w vs x i n=>?_⟩;rw[Mx d n];have j:=i.ig k;rw[d] at j;obtain⟨ar6,T,r1,y,z,o⟩:=j;obtain⟨u,p,_,c⟩:=o 0 _ rfl;have q:u= .pointer (some ⟨g.b3 k,0,none⟩):=by
  rcases c with c|c
  ·cases c
  ·obtain⟨_,a,r,t⟩:=c;rw[r,t _ d]
 subst q;refine(h (g.b3 k) w (by simp only[World.cell?,r1];exact p)).mono ?_;rintro e w' ⟨rfl,rfl⟩;exact⟨_,g,rfl,ml.below i (Below.refl _ _),dT.unit⟩
theorem aoL(h:Enters P f)(y:∀b w,w.cell? ⟨b,0,none⟩=some (.pointer none)->w.shape? b=some (T,2)->w.frozen? ⟨b,0,none⟩=false->
 Calls P f #[.pointer (some ⟨b,0,none⟩)] w λe w'=>e= .returned (.tuple #[])/\w'=w.setCell ⟨b,0,none⟩ (.pointer (some ⟨b,0,none⟩)))
 (z:s%65536=T)(d:ob k= .box s [.bu (.pointer none),c1]):lx gl P f [.bn k s 0] ob (.a0 []) (dl ob k (.box s [.bn k s 0,c1])):=by
 refine⟨h,λg w vs M o A=>?_⟩;rw[Mx d A];have p:=o.ig k;rw[d] at p;obtain⟨ar6,l,r1,⟨B,r⟩,C,t⟩:=p;have D:(ob k).fx:=by rw[d];trivial
 have E:l=T:=by rw[<-r,z]
 subst E;obtain⟨u,F,_,c⟩:=t 0 _ rfl;have G:u= .pointer none:=by
  rcases c with c|c
  ·cases c;rfl
  ·exact c.elim
 subst G;have n:ar6.size=2:=B;refine(y (g.b3 k) w (by simp only[World.cell?,r1];exact F) (by simp[World.shape?,r1,n]) (by simp[World.frozen?,r1])).mono ?_;rintro e w' ⟨rfl,rfl⟩;have H:(w.setCell ⟨g.b3 k,0,none⟩ (.pointer (some ⟨g.b3 k,0,none⟩))).heap[g.b3 k]? =some (.cells (ar6.setIfInBounds 0 (.pointer (some ⟨g.b3 k,0,none⟩))) l (0,0)):=by simp[World.setCell,KE,r1]
 have x:=fY.box g (asq:=[.bn k s 0,c1]) d;refine⟨_,g,rfl,ml.nD o k (.box s [.bn k s 0,c1]) D rfl rfl rfl (by simp[World.setCell]) (λb I=>Below.heap_setCell _ _ _ _ I) (λi hi=>by omega) x (λh=>?_),dT.unit⟩;refine⟨_,l,H,⟨by simpa using n,r⟩,C,λj q a=>?_⟩
 match j,a with
 |0,a=>simp at a;subst a;refine⟨.pointer (some ⟨g.b3 k,0,none⟩),by simp[n],rfl,.inr ⟨by simp[dl,Obj.cd],_,rfl,λasq _=>rfl⟩⟩
 |1,a=>simp at a;subst a;obtain⟨u,J,K,L⟩:=t 1 _ rfl;exact⟨u,by simp[OB,J],K,L.step h x⟩
 |j+2,a=>simp at a
theorem afd(C:Enters P f){e:Nat}(D:∀(b r d:Nat) (p:Value) (h:Array Value) (T:TypeId) (l:List UInt8) (w:World),l≠[]->w.heap[b]? =some (.cells #[p,.slice (some ⟨r,0,none⟩) l.length d] T (0,0))->
 w.heap[r]? =some (.cells h e (0,0))->l.length<=d->d<=maxLen->h.size=d->(∀(j:Nat) (x:UInt8),l[j]? =some x->h[j]? =some (.int .u8 x.toNat))->
 Calls P f #[.pointer (some ⟨b,0,none⟩)] w λe w'=>e= .returned (.string ⟨l.toArray⟩)/\w'=w.drew.freeze ⟨r,0,none⟩ l.length)
 {a aM:Nat}{c0:aG}{l:List UInt8}{as0:Bool}(E:l≠[])(y:ob k= .box s [c0,.az a aM 0 l.length])(hd:ob a= .az aM e 1 (l.map λc=>[.bu (.int .u8 c.toNat)]) as0):
 lx gl P f [.bn k s 0] ob (.bu (.string ⟨l.toArray⟩)) (dl ob a (.ax aM)):=by
 refine⟨C,λg w vs a1 q F=>?_⟩;rw[Mx y F];have z:=q.ig k;rw[y] at z;obtain⟨ar6,G,r1,⟨H,a2⟩,a3,A⟩:=z;have I:(ob a).fx:=by rw[hd];trivial
 obtain⟨wD,J,_,_⟩:=A 0 _ rfl;obtain⟨K,L,_,n⟩:=A 1 _ rfl;obtain⟨b',o',d,M,N,O,Q⟩:∃b o d,K= .slice (some ⟨b,o,none⟩) l.length d/\l.length<=d/\d<=maxLen/\
  ∀e sz es as0,ob a= .az aM e sz es as0->0+l.length<=es.length/\b=g.b3 a/\(0<l.length\/0=0->o=0*sz)/\(0=0->d=g.cap a):=by
  rcases n with n|n
  ·cases n
  ·exact n.2
 obtain⟨f1,f2,f3,f4⟩:=Q _ _ _ _ hd;have R:o'=0:=by have:=f3 (.inr rfl);omega
 have S:=f4 rfl;subst R f2 S M;have B:=q.ig a;rw[hd] at B;obtain⟨h,t,a4,a5,bd,bs,W,bx,cc⟩:=B;have X:ar6= #[wD,.slice (some ⟨g.b3 a,0,none⟩) l.length (g.cap a)]:=by
  apply Array.ext_getElem?;intro i
  match i with
  |0=>simpa using J
  |1=>simpa using L
  |i+2=>rw[DX.2 (by simp at H;omega)];simp
 rw[X] at r1;have Z:∀(j:Nat) (x:UInt8),l[j]? =some x->h[j]? =some (.int .u8 x.toNat):=by intro j x hx;obtain⟨u,t1,_,t3⟩:=W j 0 [.bu (.int .u8 x.toNat)] (.bu (.int .u8 x.toNat)) (by simp[hx]) rfl;have:=t3.fB.1;subst this;simpa using t1
 refine(D (g.b3 k) (g.b3 a) (g.cap a) wD h G l w E r1 t N O (by omega) Z).mono ?_;rintro e w' ⟨rfl,rfl⟩;have ar:∀b,b≠g.b3 a->(w.drew.freeze ⟨g.b3 a,0,none⟩ l.length).heap[b]? =w.heap[b]? :=by
  intro b hb;unfold World.freeze;split
  ·rfl
  ·simp only[KE];rw[Ca (λe=>hb e.symm)];rfl
 refine⟨_,g,rfl,ml.nD q a (.ax aM) I ?_ ?_ ?_ ?_ ar (λi hi=>?_) (fY.drop g a aM (by rw[hd];exact sm _)) (λ_=>trivial),.inr (.inl (.inl (.bu rfl)))⟩
 ·unfold World.freeze;split<;>rfl
 ·unfold World.freeze;split<;>rfl
 ·unfold World.freeze;split<;>rfl
 ·unfold World.freeze;split
  ·rfl
  ·simp
 ·have hd:w.drew.heap[g.b3 a]? =some (.cells h e (0,0)):=t;unfold World.freeze;split
  ·rfl
  ·simp only[World.cell?,KE,y1,hd,t,NL]
end
end
end
end Go.Hf

import Derived.Test.YteehpeajjbkjnaaGreatDoorAh
set_option linter.all false
noncomputable section
namespace Go.Hf
open Go.RowKit
section
variable{g:cx}{assign body:Code}{a:Act}{w:World}{n B bs:Nat}{O:Nat->Prop}
section
variable[Tok]
section
variable{P:Program}
theorem axI{g:Operand}{ps:Array Tmp}{Q:Exit->Act->World->Prop}{i:Nat}{j:Array Value}(p:a.eval g= .func (.func i) #[] j)(q:Enters P i)
 (h:∀c:Loop,c.state= .ready->c.pending=none->c.tmps=a.tmps->c.params=ps->c.assign=assign->c.body=body->Calls P i (#[.func (.yield (w.heap.size+1)) #[] #[]]++j) ((w.alloc (.deferred (some []))).alloc (.loop c)) λe l=>(∃v,e= .returned v)/\
  l.heap[w.heap.size+1]? =some (.loop c)/\Q .normal {a with defers:={target:= .collected w.heap.size,args:= #[]}::a.defers} (l.putObj (w.heap.size+1) (.loop {c with state:= .exhausted}))):
 (Code.rangeFunc g ps assign body).wp P Q a w:=by
 intro b k cs;obtain⟨fn,r,t,u⟩:=q;have x:∀(a:Act) (k:List Item),({b with roundOf:=none}:Frame).atR a k=b.at a k:=λa k=>rfl;have y:=run_enterLoop_outer (P:=P) (w:=w) b.fn a.tmps ps assign body;have z:∀d,(resolve a.eval (rangeCall g (w.heap.size+1)) 0).run P d= .ok ({target:= .fn (.func i) j,args:= #[.func (.yield (w.heap.size+1)) #[] #[]]}:Deferred) d:=by intro d;simp only[resolve,p];simp[go_sem]
 have A:∀d,(invoke (.fn (.func i) j) #[.func (.yield (w.heap.size+1)) #[] #[]]).run P d= .ok (.enter i (#[.func (.yield (w.heap.size+1)) #[] #[]]++j)) d:=by intro d;simp only[invoke,QO r t u]
 have o:=stepR_rangeFunc (P:=P) (b:={b with roundOf:=none}) (a:=a) (k:=k) (cs:=cs) (w:=w) (g:=g) (ps:=ps) (assign:=assign) (body:=body) y (z _) (A _);rw[x]at o;obtain⟨e,l,fr,⟨⟨v,rfl⟩,C,D⟩,E,H,F⟩:=h {state:= .ready,pending:=none,fn:=b.fn,tmps:=a.tmps,params:=ps,assign,body,defers:=w.heap.size} rfl rfl rfl rfl rfl rfl (({b with roundOf:=none}:Frame).atR {a with defers:=[{target:= .collected w.heap.size,args:= #[]}]++a.defers} (.inRangeFunc (w.heap.size+1)::k)::cs);refine⟨.normal,_,_,D,.head o (Steps.trans E (.head (step_leave_returned F) (.one ?_)))⟩;rw[finish_atR_inRangeFunc];have G:=run_endLoop (P:=P) C (by simp);exact stepR_endRangeFunc G
end
structure wO (P:Program) where
 f:Nat
 fn:Func
 aE:jk
 body:Code
 bQ:Array Oper
 di:List dg
 id:Nat
 bY:P.funcs[f]? =some fn
 aY:fn.body=some body
 oT:(fn.name== "runtime.NumGoroutine")=false
 lI:oq P fn.results.toList=some []
 qT:qd P aE fn.ntmps true bQ bQ.toList=some di
 aD:Gk bQ di=true
 all:∀OK:Code->Nat->Prop,OK (.region id bQ true) 0->tL (λc=>match c with| .region _ _ true=>some 0|_=>none) OK body
def xy(c:Code):Option Nat:=match c with| .region _ _ true=>some 0|_=>none
def ur{P:Program}(b:wO P)(gl:eh)(sz l k0 s0:Nat):eh:={gl with ig:=λ_ bs s K=>qj gl P bs (sG (.func (.yield l) #[] #[]) k0 s0 sz bs) jW b.di s K}
section
variable{P:Program}{m:Nat}{gl:eh}
theorem IE{gl u3:eh}(h:gl.p=u3.p){ph:cx×cT×World×List Deferred}{s:cK}(b:cL gl ph n B O g s a w):cL u3 ph n B O g s a w:=
 ⟨b.size,b.defers,b.jJ,b.aI,b.h1,b.inj,b.hP,b.mO,h▸b.oR⟩
theorem alF(u:P.follows .mixedOrders=true)(D:yZ P m)(b:wO P){l:Nat}{d:Loop}(H:IN D d){k0 s0:Nat}(I:k0<bs){cR:eb}{ob p:cT}{vs:List Value}(J:gl.p g.af w)(K:n2 g w ob)
 (L:tJ g w ob (.bo (.func (.yield l) #[] #[])::cR) vs)(h:cR.length+1<=b.fn.ntmps)(x:w.heap[l]? =some (.loop d))(y:¬gM g ob l)(M:dZ g w ob (.aQ k0 s0 0) (d.tmps.getD D.k8 undef))
 (N:iw (ur b gl D.au l k0 s0) P bs (lG P b.aE b.fn.ntmps xy b.body) (Fin [] [] ob p (.bD [])) (nM (.bo (.func (.yield l) #[] #[])::cR) ob)):
 Calls P b.f vs.toArray w λe w'=>∃v g',e= .returned v/\i9 g w ob g' w' p/\dZ g' w' p (.bD []) v:=by
 refine YL (gl:=ur b gl D.au l k0 s0) bs [] [] u b.bY b.aY (by simpa using h) b.lI J K L (b.all _ ?_) N;intro a1 Q c8 s a i z R c S A T;obtain⟨V,W⟩:=Hi b.qT;have C:l<w.heap.size:=(nA.1 x).1;have c:=IE (u3:=gl) (gl:=ur b gl D.au l k0 s0) rfl c;have E:i.heap[l]? =some (.loop d):=(A.block l C y).trans x;refine awb (gl:=gl) (n:=b.fn.ntmps) (ph:=(c8,s.bC,i,z)) (B:=i.heap.size) (O:=gM c8 s.bC) (c0:=c8.af) (w0:=i) D H E (nA.1 E).1 (c.yg C y) (M.step c.mO.2 c.mO.1) I u (Zp (by simpa using V) b.aD) (λj X Y=>by obtain⟨o,ho,q⟩:=W j X Y;exact⟨o,by simpa using ho,q⟩) R c.Mu (eM.refl _ _ _ _) (λg' Z a' w' al F t=>?_)
 obtain⟨gZ,ar⟩:=c.MZ F t;refine T g' Z a' w' z al (IE (gl:=gl) (u3:=ur b gl D.au l k0 s0) rfl gZ) (S.step t.size (λr q h _=>⟨t.block r q h,?_⟩)) (A.trans ar);rintro⟨k,hl,rfl⟩;rcases(F.hP k hl).1 with G|G;omega;exact h G
def CG{P:Program}(b:wO P)(gl:eh)(d sz:Nat)(e:Operand):eh:={gl with ig:=λ_ bs s K=>∃k0 s0 c cR cN,lO (eX s.aI e)=some (b.f,cR)/\s.aI d= .aQ k0 s0 0/\k0<c/\cR.length+1<=b.fn.ntmps/\
 (∀l,iw (ur b gl sz l k0 s0) P c (lG P b.aE b.fn.ntmps xy b.body) (Fin [] [] s.bC cN (.bD [])) (nM (.bo (.func (.yield l) #[] #[])::cR) s.bC))/\K ⟨s.aI,cN⟩}
theorem wO.amt(b:wO P):Enters P b.f:=⟨b.fn,b.bY,b.oT,by rw[b.aY];rfl⟩
set_option maxHeartbeats 1000000 in
theorem awx(a4:P.follows .mixedOrders=true)(D:yZ P m)(o:wO P){dB:cx}{V:cT}{W:World}{c0:Nat->Nat}{w0:World}{l:Operand}(t:n=m)(a5:c6 l=true)(c:assign= .region D.CL D.qe false)(hB:body= .block D.vP (.region D.xT D.o0 false)):
 Nn (CG o gl D.k8 D.au l) P n bs B O dB V W c0 w0 (.rangeFunc l #[D.q8] assign body) 1:=by
 intro fs Q g s a w X hk bd Y bx b1;have h:=IE (u3:=gl) (gl:=CG o gl D.k8 D.au l) rfl bd;obtain⟨k0,s0,ft,cR,cN,b,b2,cc,cn,cs,cu⟩:=hk;have G:=h.ga a5;have cY:∃x:List Value,a.eval l= .func (.func o.f) #[] x.toArray/\cR.length=x.length/\∀(j:Nat) (q:aT) (u:Value),cR[j]? =some q->x[j]? =some u->dZ g w s.bC q u:=by
  cases L:eX s.aI l with
  |ey f' fv=>
   rw[L]at G b;simp only[lO,dN,h4]at b;obtain⟨rfl,rfl⟩:=b;obtain⟨_,vs,c1,c2,c3⟩:=G.Kj;refine⟨vs,c1,c2,λj q u hq c4=>?_⟩;rcases c3 j q u hq c4 with⟨rfl,rfl⟩|y;exact dZ.bo rfl;refine .inr (.inl (.inr ?_));cases q with
   |ey=>exact y.elim
   |_=>exact y
  |bo v=>rw[L]at G b;obtain⟨c5,ge⟩:=G.fY;unfold lO at b;split at b;rename_i f0 M;cases M;cases b;exact⟨[],c5,rfl,by simp⟩;rename_i M;cases M;cases b
  |_=>rw[L]at b;simp[lO]at b
 obtain⟨x,dd,dt,dz⟩:=cY;have N:=h.aI D.k8;rw[b2]at N;refine axI dd o.amt (λd ee em Z en eq er=>?_);have es:IN D d:=⟨eq.trans c,er.trans hB,ee,em,en,by rw[Z,h.size,t]⟩;rw[<-Z]at N;have z:Below w.heap.size w ((w.alloc (.deferred (some []))).alloc (.loop d)):=((AT _ w).alloc (dn _) _).alloc (by simp) _;generalize R:((w.alloc (.deferred (some []))).alloc (.loop d))=H at z ⊢;have ev:H.heap[w.heap.size]? =some (.deferred (some [])):=by rw[<-R];exact(Below.heap_alloc _ _ _ (by simp)).trans (World.alloc_heap_new w _)
 have al:H.heap[w.heap.size+1]? =some (.loop d):=by rw[<-R];have:=World.alloc_heap_new (w.alloc (.deferred (some []))) (.loop d);rwa [World.size_alloc]at this
 have go:H.heap.size=w.heap.size+2:=by rw[<-R];simp
 obtain⟨g9,ex⟩:=h.xw (i9.below h.heap z);have e0:(#[.func (.yield (w.heap.size+1)) #[] #[]]++x.toArray:Array Value)=(Value.func (.yield (w.heap.size+1)) #[] #[]::x).toArray:=by simp
 rw[e0];have A:∀r,w.heap.size<=r->¬gM g s.bC r:=by rintro r C ⟨k,S,rfl⟩;have:=(h.hP k S).2;omega
 refine(alF (gl:=gl) a4 D o es cc g9.oR g9.heap ⟨by simp[dt],λi p v I J=>?_⟩ cn al (A _ (by omega)) (N.step (i9.below h.heap z).ext (gb.refl _ _)) (cs _)).mono ?_;cases i with
 |zero=>simp only[List.getElem?_cons_zero,dN]at I J;subst I J;exact dZ.bo rfl
 |succ i=>simp at I J;exact(dz i p v I J).step (i9.below h.heap z).ext (gb.refl _ _)
 rintro e E ⟨v,g',rfl,c,_⟩;have T:∀r,r<H.heap.size->¬gM g s.bC r->¬gM g' cN r:=by rintro r C t ⟨k,S,rfl⟩;rcases c.src k S with y|y;omega;exact t y
 obtain⟨n1,fl⟩:=g9.xw c;have K:E.heap[w.heap.size+1]? =some (.loop d):=(c.iB.block _ (by omega) (A _ (by omega))).trans al;have ar:E.heap[w.heap.size]? =some (.deferred (some [])):=(c.iB.block _ (by omega) (A _ (by omega))).trans ev;have hb:=h.jJ;have a1:=n1.SH (o':= .loop {d with state:= .exhausted}) (by omega) (T _ (by omega) (A _ (by omega))) K (Cn K) (λi=>Cn (World.putObj_heap_same (nA.1 K).1) i);generalize a2:E.putObj (w.heap.size+1) (.loop {d with state:= .exhausted})=F at a1 ⊢;have a3:∀r,r≠w.heap.size+1->F.heap[r]? =E.heap[r]? :=λr C=>by rw[<-a2];exact World.putObj_heap_other C
 have gt:F.heap.size=E.heap.size:=by rw[<-a2];simp
 obtain⟨iF,fn⟩:=a1;have lA:cL gl (dB,V,W,{target:= .collected w.heap.size,args:= #[]}::X) n B O g' ⟨s.aI,cN⟩ {a with defers:={target:= .collected w.heap.size,args:= #[]}::a.defers} F:=
  ⟨iF.size,oy (List.cons _) iF.defers,iF.jJ,iF.aI,iF.h1,iF.inj,iF.hP,iF.mO,iF.oR⟩
 have fp:ld P B (gM g' cN) F ({target:= .collected w.heap.size,args:= #[]}::X):=by refine⟨.inl ⟨w.heap.size,rfl,hb,?_,?_,T _ (by omega) (A _ (dn _)),λd' fr e=>?_⟩,?_⟩;have:=(nA.1 ar).1;omega;rw[a3 _ (by omega)];exact ar;have:=Y.lt d' fr _ e;omega;refine ld.step ?_ (λr C t _=>⟨?_,T r (by omega) t⟩) Y;have:=c.ext.size;omega;rw[a3 _ (by omega),c.iB.block r (by omega) t,z.block r C]
 exact⟨⟨v,rfl⟩,K,b1 g' ⟨s.aI,cN⟩ _ F _ cu (IE (gl:=gl) (u3:=CG o gl D.k8 D.au l) rfl lA) fp (((bx.trans ex).trans fl).trans fn)⟩
end
end
end
section
variable{u:Fn}{jF:Value}{k0 s0 sz b:Nat}{h:aO}{dA:aO->ay}
section
variable[Tok]
def rf(d:Nat->Nat->cO->aO->(cO->aO->ay)->ay)(c:hH):hH:=
 @hH.rec (λ_=>hH) .skip (λbu bS=> .region bu bS) (λ_ _ a b=> .seq a b) (λl _ _ a b=> .xX l a b) (λc _ _ a b=> .cond c a b) (λid _ b=> .block id b) (λl _ b=> .loop l b) (λid=> .exit id) .ret (λk _=> .mI k (d k)) c
theorem uY(d:Nat->Nat->cO->aO->(cO->aO->ay)->ay):∀c,(rf d c).gP=c.gP
 | .skip=>rfl
 | .region _ _=>rfl
 | .seq a b=>by show hJ.seq (rf d a).gP (rf d b).gP=hJ.seq _ _;rw[uY d a,uY d b]
 | .xX l a b=>by show hJ.seq (rf d a).gP (rf d b).gP=hJ.seq _ _;rw[uY d a,uY d b]
 | .cond c a b=>by show hJ.cond c (rf d a).gP (rf d b).gP=hJ.cond c _ _;rw[uY d a,uY d b]
 | .block id b=>by show hJ.block id (rf d b).gP=hJ.block id _;rw[uY d b]
 | .loop l b=>by show hJ.loop (rf d b).gP=hJ.loop _;rw[uY d b]
 | .exit _=>rfl
 | .ret=>rfl
 | .mI _ _=>rfl
theorem uX{gl:eh}{b:Nat}{d:Nat->Nat->cO->aO->(cO->aO->ay)->ay}(h:∀k,nE gl b (.mI k (d k))):∀c,nE gl b (rf d c)
 | .skip=>trivial
 | .region _ _=>trivial
 | .seq x y=>⟨uX h x,uX h y⟩
 | .xX _ x y=>⟨uX h x,uX h y⟩
 | .cond _ x y=>⟨uX h x,uX h y⟩
 | .block _ x=>uX h x
 | .loop _ x=>uX h x
 | .exit _=>trivial
 | .ret=>trivial
 | .mI k _=>h k
section
variable{P:Program}{gl:eh}
theorem Zd(p:kS gl P u){m:Nat}{np n:Nat}{c:hH}{fT:List jS}{fj:List Bool}(q:np<=m){X:Nat->eb->cT->cT->aT->Prop}
 (t:∀(ub:Nat) (args:eb) (ob g:cT) (a:aT),args.length<=m->iw gl P ub c.gP (Fin fj fT ob g a) (nM args ob)->X ub args ob g a)
 {args:az}{ub:Nat}{aC:cD}{a:ao}{d:Nat}{e:cD}{j:List Nat}(w:nE gl ub c)(h:rW np n c fT fj u args ub aC= .ok a d e j):
 X ub (args.map bk) (g4 ub aC) (g4 d e) (bk a)/\(∀k,k<ub->k∉j->b9 d e k=b9 ub aC k)/\∀k∈a.dl,k<d:=by
 have l:rW np n c fT fj u args ub aC≠ .aF:=by rw[h];simp
 unfold rW at h l;obtain⟨e0,y,z,_,A⟩:=Tj l;rw[y]at h l;have B:fG e0 (bN ub aC)=nM (args.map bk) (g4 ub aC):=by
  unfold fG nM;congr 1;funext i;rw[A i (pg i),Ie,lx];cases args[i]? with
  |none=>simp[lT,bk]
  |some v=>rfl
  exact aa3 ub aC
 obtain⟨x,C,h',br,D,E⟩:=Zi p (n:=n) c w e0 (bN ub aC) (qR ub fT fj) (λ_ _ _=> .aF) (qR ub fT fj) (dn _) l;rw[D]at h;have o:qR ub fT fj C h'= .ok a d e j->(x= .normal\/x= .ret)->X ub (args.map bk) (g4 ub aC) (g4 d e) (bk a)/\(∀k,k<ub->k∉j->b9 d e k=b9 ub aC k)/\∀k∈a.dl,k<d:=λh F=>
  aaa (X:=λg r=>X ub (args.map bk) (g4 ub aC) g r) br h F (λg r G=>by refine t ub _ _ _ _ (by rw[mw,z];exact q) ?_;rw[<-B];exact E _ G)
 cases x with
 |normal=>exact o h (.inl rfl)
 |ret=>exact o h (.inr rfl)
 |exit i=>cases h
theorem YK{u3:eh}(h:gl.p=u3.p)(a:kS gl P u):kS u3 P u:=by cases gl;cases u3;cases h;exact a
open Classical in
def yH(jF:Value)(k0 s0 sz:Nat)(d x:ao)(b:Nat)(h:aO)(dA:aO->ay):ay:=
 match x,h.am k0 with
 | .agg (c::cs),.box s [a]=>if d= .bo jF/\cs.length=sz/\s=s0/\(c::cs).flatMap ao.dl=[] then dj (lZ .and a c) λr=>nQ b [(k0,.box s0 [r])] h dA else .aF
 |_,_=> .aF
theorem axP{c a r:ao}{cs:az}(d:cs.length=sz)(e:(c::cs).flatMap ao.dl=[])(g:h.am k0= .box s0 [a])(i:lZ .and a c=some r):
 yH jF k0 s0 sz (.bo jF) (.agg (c::cs)) b h dA=nQ b [(k0,.box s0 [r])] h dA:=by
 unfold yH;rw[g];simp only[];rw[dr ⟨trivial,d,trivial,e⟩,i];rfl
theorem axO{e x:ao}(d:yH jF k0 s0 sz e x b h dA≠ .aF):
 ∃c a r cs h',e= .bo jF/\x= .agg (c::cs)/\cs.length=sz/\(c::cs).flatMap ao.dl=[]/\h.am k0= .box s0 [a]/\lZ .and a c=some r/\wK b [(k0,.box s0 [r])] h h'/\yH jF k0 s0 sz e x b h dA=dA h':=by
 unfold yH at d ⊢;split at d;rename_i c cs s a l;split at d;rename_i n;obtain⟨i,j,rfl,k⟩:=n;simp only[l];rw[dr ⟨i,j,rfl,k⟩];cases g:lZ .and a c with
 |none=>rw[g]at d;exact absurd rfl d
 |some r=>rw[g]at d;change nQ b [(k0,.box s [r])] h dA≠ .aF at d;obtain⟨h',o,p⟩:=x2 d;exact⟨c,a,r,cs,h',i,rfl,j,k,rfl,g,o,p⟩
 exact absurd rfl d;exact absurd rfl d
structure wP (P:Program) where
 et:wO P
 pre:List dg
 an:dg
 post:List dg
 xJ:Nat
 mY:Nat
 gt:Nat
 CH:Bool
 xS:et.di=pre++an::post
 aa2:pre.all (λo=> !jW o)=true
 aa1:post.all (λo=> !jW o)=true
 bb:jW an=true
 aJ:∃frz,an.ak= .hK (.tmp xJ) [.tmp mY] frz
 ce:an.guard=some (gt,CH)
def QC(u:Fn)(T:wP P)(jF:Value)(k0 s0 sz:Nat)(b:Nat)(aR:cO)(h:aO)(dA:cO->aO->ay):ay:=
 sX u b true T.pre aR h λaR h=>cZ (aR T.gt) T.CH (yH jF k0 s0 sz (aR T.xJ) (aR T.mY) b h λh=>sX u b true T.post (nq aR T.an.dst (.U true)) h dA) (sX u b true T.post (nq aR T.an.dst (.bD [])) h dA)
theorem SP{c:dg->cK->cK->Prop}{bs:Nat}:∀(l r:List dg) (s:cK) (K:cK->Prop),l.all (λo=> !jW o)=true->qj gl P bs c jW (l++r) s K=kc gl P bs true l s (λa=>qj gl P bs c jW r a K)
 |[],_,_,_,_=>rfl
 |o::l,r,s,K,d=>by
  rw[u4,cC]at d;have e:¬jW o=true:=by simpa using d.1
  show(if jW o=true then∃a,c o s a/\qj gl P bs c jW (l++r) a K else mW gl P bs true o s λa=>qj gl P bs c jW (l++r) a K)=mW gl P bs true o s λa=>kc gl P bs true l a λa=>qj gl P bs c jW r a K;rw[dU e];congr 1;funext a;exact SP l r a K d.2
theorem al4(t:kS gl P u)(T:wP P){l:Nat}(a3:k0<b)(k:Nat):nE (ur T.et gl sz l k0 s0) b (.mI k (QC u T (.func (.yield l) #[] #[]) k0 s0 sz)):=by
 intro aR h dA w d;unfold QC at d ⊢;obtain⟨j,g,br,E,F⟩:=QG t w d;rw[E]at d ⊢;have G:b+4096<=g.ax:=jv w br.ax;have y:∀(o:cO) (i:aO),ij b g i->(∀p,p=fG o i->sG (.func (.yield l) #[] #[]) k0 s0 sz b T.an (fG j g) p)->sX u b true T.post o i dA≠ .aF->∃A h',ij b h h'/\sX u b true T.post o i dA=dA A h'/\∀K:cK->Prop,K (fG A h')->(ur T.et gl sz l k0 s0).ig k b (fG aR h) K:=by intro o i dM H d;obtain⟨I,J,eB,L,M⟩:=QG t (jv G dM.ax) d;refine⟨I,J,(br.trans dM).trans eB,L,λK N=>?_⟩;show qj gl P b (sG (.func (.yield l) #[] #[]) k0 s0 sz b) jW T.et.di (fG aR h) K;rw[T.xS];rw[SP _ _ _ _ T.aa2];refine F _ ?_;unfold qj;rw[dr T.bb];refine⟨_,H _ rfl,?_⟩;rw[<-qy T.post,SP _ _ _ _ T.aa1];exact M _ N
 obtain⟨B,C⟩:=T.aJ;rcases aaJ d with⟨n,e⟩|⟨n,e⟩;rw[e]at d ⊢;obtain⟨c,a,r,cs,i,O,Q,R,S,V,W,X,Y⟩:=axO d;rw[Y]at d ⊢;obtain⟨Z,c',z,al,D,ar,a1⟩:=ME W;obtain⟨ll,a2,a4⟩:=X;refine y _ i ll (λp q=>?_) d;subst q;refine⟨.tmp T.xJ,.tmp T.mY,B,C,.inr ⟨?_,?_,cs.map bk,Z,c',z,g.ax,?_,?_,by simpa using R,?_,ar,by omega,?_,?_⟩⟩;rw[T.ce];show(match bk (j T.gt) with| .bo (.bool b)=>some (b==T.CH)| .bD []=>some false|_=>none)=some true;rw[n];simp only[bk];simp;show bk (j T.xJ)=_;rw[O];simp only[bk];show bk (j T.mY)=_;rw[Q];simp only[bk,ma,hN,D];have:(.bo c'::cs.map bk:eb)=(c::cs).map bk:=by rw[hN,D]
 rw[this,sx];have e:(λx=>(bk x).dl)=ao.dl:=by funext x;exact p3 x
 rw[e];exact S;show fz (g.am k0)=_;rw[V];simp only[fz,ma,hN,ny,al];show¬(fz (g.am (g.ax+10))).gg;rw[aO.Sq,mh (by omega)];exactλh=>h;rw[Mc j g i];show(⟨_,i.jz⟩:cK)=_;rw[a2];simp only[bk,hN,ny,iy,fz,ma,a1];rfl;rw[e]at d ⊢;refine y _ g ij.refl (λp q=>?_) d;subst q;refine⟨.tmp T.xJ,.tmp T.mY,B,C,.inl ⟨?_,?_⟩⟩;rw[T.ce];show(match bk (j T.gt) with| .bo (.bool b)=>some (b==T.CH)| .bD []=>some false|_=>none)=some false;rcases n with n|n;rw[n];simp only[bk];cases T.CH<;>rfl;rw[n];simp only[bk,g0];rw[Mc j g g];simp only[bk,g0];rfl
end
end
end
section
variable{G:Nat->Nat->Nat->az->Nat->cD->ay}{f gu k0 s0 b a np n sz kO tG:Nat}{h:aO}{d:cD}{i:List Nat}{dA:aO->ay}{u:Fn}{c:hH}
section
variable[Tok]
def jF(l:Nat):Value:= .func (.yield l) #[] #[]
def aaF{P:Program}(T:wP P)(np n sz:Nat)(c:hH)(u:Fn)(l k0 s0:Nat):az->Nat->cD->ay:=rW np n (rf (λ_=>QC u T (jF l) k0 s0 sz) c) [] [] u
def Nz(G:Nat->Nat->Nat->az->Nat->cD->ay)(f gu k0:Nat)(e g:ao)(h:aO)(p:Nat×az×Nat×cD×List Nat):Prop:=
 e= .aQ k0 p.1 0/\g= .ey f p.2.1/\p.2.1.length+1<=gu/\h.ax<=p.2.2.1/\∀l,G l k0 p.1 (.bo (jF l)::p.2.1) h.ax h.aB= .ok (.bD []) p.2.2.1 p.2.2.2.1 p.2.2.2.2
open Classical in
def yu(G:Nat->Nat->Nat->az->Nat->cD->ay)(f gu k0:Nat)(e g:ao)(b:Nat)(h:aO)(dA:aO->ay):ay:=
 if H:∃p,Nz G f gu k0 e g h p then dA (.mk H.choose.2.2.1 H.choose.2.2.2.1 (aZ (fA b H.choose.2.2.2.2) h.ck)) else .aF
theorem auM{cR:az}(r:cR.length+1<=gu)(t:h.ax<=a)(o:∀l,G l k0 s0 (.bo (jF l)::cR) h.ax h.aB= .ok (.bD []) a d i):
 yu G f gu k0 (.aQ k0 s0 0) (.ey f cR) b h dA=dA (.mk a d (aZ (fA b i) h.ck)):=by
 have H:∃p,Nz G f gu k0 (.aQ k0 s0 0) (.ey f cR) h p:=⟨(s0,cR,a,d,i),rfl,rfl,r,t,o⟩;unfold yu;rw[dif_pos H];have q:=H.choose_spec;generalize H.choose=p at q ⊢;obtain⟨z,A,B,C,D⟩:=p;obtain⟨j,k,_,_,g⟩:=q;simp only[ao.aQ.injEq,true_and,and_true]at j;simp only[ao.ey.injEq,true_and]at k;have g:=g 0;simp only at j k g;subst j k;have e:=(o 0).symm.trans g;simp only[ay.ok.injEq,true_and]at e;obtain⟨w,x,y⟩:=e;rw[w,x,y]
theorem auL{e g:ao}(j:yu G f gu k0 e g b h dA≠ .aF):∃p,Nz G f gu k0 e g h p/\yu G f gu k0 e g b h dA=dA (.mk p.2.2.1 p.2.2.2.1 (aZ (fA b p.2.2.2.2) h.ck)):=by unfold yu at j ⊢;split at j;rename_i H;exact⟨H.choose,H.choose_spec,by rw[dif_pos H]⟩;exact absurd rfl j
def Ko{P:Program}(T:wP P)(np n sz:Nat)(c:hH)(kO e tG:Nat)(u:Fn)(b:Nat)(aR:cO)(h:aO)(dA:cO->aO->ay):ay:=
 yu (aaF T np n sz c u) T.et.f T.et.fn.ntmps (Nat.add b kO) (aR e) (aR tG) b h λh'=>dA aR h'
def QB(c:Code):Option Nat:=match c with| .rangeFunc _ _ _ _=>some 1|_=>none
section
variable{P:Program}{gl:eh}
theorem aaG(g:kS gl P u)(T:wP P)(p:c.gP=lG P T.et.aE T.et.fn.ntmps xy T.et.body)(q:np<=T.et.fn.ntmps){l ub:Nat}{args:az}{aC:cD}{e:ao}(r:k0<ub)
 (h:aaF T np n sz c u l k0 s0 args ub aC= .ok e a d i):
 iw (ur T.et gl sz l k0 s0) P ub (lG P T.et.aE T.et.fn.ntmps xy T.et.body) (Fin [] [] (g4 ub aC) (g4 a d) (bk e)) (nM (args.map bk) (g4 ub aC))/\(∀k,k<ub->k∉i->b9 a d k=b9 ub aC k):=by
 have:=Zd (gl:=ur T.et gl sz l k0 s0) (YK (gl:=gl) rfl g) q (X:=λub args ob j e=>iw (ur T.et gl sz l k0 s0) P ub (lG P T.et.aE T.et.fn.ntmps xy T.et.body) (Fin [] [] ob j e) (nM args ob))
  (λub args ob j e _ o=>by rw[uY,p]at o;exact o) (uX (λk=>al4 g T r k) c) h
 exact⟨this.1,this.2.1⟩
theorem al3(q:kS gl P u)(T:wP P)(r:c.gP=lG P T.et.aE T.et.fn.ntmps xy T.et.body)(t:np<=T.et.fn.ntmps){g:Nat}(L:kO<4096)(b k:Nat):nE (CG T.et gl g sz (.tmp tG)) b (.mI k (Ko T np n sz c kO g tG u)):=by
 intro aR h dA M w;unfold Ko at w ⊢;obtain⟨p,⟨z,A,B,C,y⟩,e⟩:=auL w;rw[e];have j:b+kO<h.ax:=by omega
 have D:=(aaG q T r t j (y 0)).2;refine⟨aR,.mk p.2.2.1 p.2.2.2.1 (aZ (fA b p.2.2.2.2) h.ck),⟨C,λx o=>?_,λx o E=>?_⟩,rfl,λK F=>?_⟩;show x∈aZ (fA b p.2.2.2.2) h.ck;rw[kU];exact fq.2 (.inr o);show b9 p.2.2.1 p.2.2.2.1 x=h.am x;rw[aO.Sq];refine D x (by omega) (λhd=>E ?_);show x∈aZ (fA b p.2.2.2.2) h.ck;rw[kU];exact fq.2 (.inl (KP o hd));refine⟨b+kO,p.1,h.ax,p.2.1.map bk,g4 p.2.2.1 p.2.2.2.1,?_,?_,j,by simpa using B,λl=>?_,?_⟩;show lO (bk (aR tG))=_;rw[A];simp only[bk,ma];rfl;show bk (aR g)=_;rw[z];simp only[bk];rfl;have:=(aaG q T r t j (y l)).1;have H:(fG aR h).bC=g4 h.ax h.aB:=QK h;rw[H];have I:bk (.bD [])= .bD []:=by simp only[bk,g0]
 rw[I]at this;have J:((.bo (jF l)::p.2.1:az).map bk)= .bo (.func (.yield l) #[] #[])::p.2.1.map bk:=by rw[hN];simp only[bk,jF]
 rw[J]at this;exact this;exact F
theorem auU{m:Nat}(j:P.follows .mixedOrders=true)(D:yZ P m)(T:wP P){TV:Nat}{cY:hH}(x:cY.gP=lG P T.et.aE T.et.fn.ntmps xy T.et.body)(y:TV<=T.et.fn.ntmps)
 {fn:Func}{H:jk}{body:Code}{fT:List jS}{fj:List Bool}(l:P.funcs[f]? =some fn)(o:fn.body=some body)(z:(fn.name== "runtime.NumGoroutine")=false)(A:oq P fn.results.toList=some fT)(B:np<=fn.ntmps)
 (C:c.gP=lG P H fn.ntmps QB body)(E:fn.ntmps=m)(F:kO<4096){assign TU:Code}(I:assign= .region D.CL D.qe false)(J:TU= .block D.vP (.region D.xT D.o0 false))
 (K:∀p:Code->Nat->Prop,p (.rangeFunc (.tmp tG) #[D.q8] assign TU) 1->tL QB p body):
 iE gl P f (λu=>rW np n (rf (λ_=>Ko T TV n D.au cY kO D.k8 tG u) c) fT fj u):=by
 intro u q args ub aC e a d i h;have h:=Zd (gl:=CG T.et gl D.k8 D.au (.tmp tG)) (YK (gl:=gl) rfl q) (m:=fn.ntmps) B (X:=λ_ args ob r e=>lM gl P f args ob e r) (λub args ob r e L t=>by rw[uY,C]at t;refine⟨⟨fn,l,z,by rw[o];rfl⟩,λg w vs M N O=>?_⟩;exact YL (gl:=CG T.et gl D.k8 D.au (.tmp tG)) ub fj fT j l o L A M N O (K _ (awx j D T.et E rfl I J)) t) (uX (λk=>al3 q T x y F _ k) c) h
 exact h
end
end
end
section
variable[Tok]
theorem afW{P:Program}{gl:eh}{T k0 s0 b:Nat}{g:List Value}(o:g.length=23){cs:eb}{a c r:Value}{ob:cT}(l:ob k0= .box s0 [.bo a])(p:Az .and a c=some r)(q:cs.length=22)(h:b+10≠k0)(t:¬(ob (b+10)).gg):
 kc gl P b false [⟨some 10,none,.alloc T g,[],[]⟩,⟨none,none,.store 23 (.tmp 10) (.tmp 62),[],[]⟩] ⟨λi=>if i=5 then .aQ k0 s0 0 else if i=62 then .agg (.bo c::cs) else .undef,ob⟩ λu=>
  kc gl P b false [⟨some 63,none,.load false 1 (.tmp 5),[],[]⟩,⟨some 64,none,.pW 0 (.tmp 10),[],[]⟩,⟨some 65,none,.load false 1 (.tmp 64),[],[]⟩,⟨some 66,none,.bits .and (.tmp 63) (.tmp 65),[],[]⟩,⟨none,none,.store 1 (.tmp 5) (.tmp 66),[],[]⟩] u λw=>sF ob w.bC (dk ob k0 (.box s0 [.bo r])) (.bo (.bool true)):=by
 simp only[kc,mW,lu,c9,eX,put,dO.off];simp[LA,HW,fE,dk,l,q,Ne.symm h,o,aT.cells,nW,qn];have e:fE (dk (dk ob (b+10) (Obj.box (kP (ob (b+10)).cH T) (List.map aT.bo g))) (b+10) (Obj.box (kP (ob (b+10)).cH T) (aT.bo c::(cs++List.drop 23 (List.map aT.bo g))))) [] k0= .box s0 [.bo a]:=by show dk (dk ob _ _) _ _ k0=_;rw[h9 _ _ (Ne.symm h),h9 _ _ (Ne.symm h),l]
 simp only[p,jH,e];simp only[fE,qw,List.length_nil,List.drop_succ_cons,List.drop_nil,qy,and_self,dn,gF,true_and,ou];refine⟨λk=>?_,λk n=>?_,λk n=>(by cases n)⟩;by_cases d:k=k0;left;subst d;rw[jc,jc];by_cases j:k=b+10;right;subst j;rw[h9 _ _ d];exact⟨t,dn _⟩;left;rw[h9 _ _ d,h9 _ _ d,h9 _ _ j,h9 _ _ j];by_cases d:k=k0;right;subst d;rw[jc];intro y x;cases x;left;rw[h9 _ _ d]
end
end Go.Hf

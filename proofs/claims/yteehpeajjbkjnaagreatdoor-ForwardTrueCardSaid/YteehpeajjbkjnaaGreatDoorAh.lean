import Derived.Test.YteehpeajjbkjnaaGreatDoorAg
import Derived.Lib.LaidTab
import Derived.Lib.Builder
import Derived.Lib.UnsafeStr
import Derived.Recover
import Derived.RangeFuncRecord
import Derived.Lib.Bytealg
import Derived.Lib.Fields
import Derived.Shelf.Strconv.Quote
import Derived.OrdersIn
import Derived.RangeFuncIn
set_option linter.all false
noncomputable section
namespace Go.Hf
open Go.RowKit
section
variable{gl:eh}{P:Program}{f b i ub:Nat}{c c0:Nat->Nat}{w w0:World}{v:Value}{l:az}{a:ao}{s:cD}{d:List Nat}{x:ay}
section
variable[Tok]
theorem tJ.ad2{g:cx}{w:World}{ob:cT}:∀{us vs:List Value},tJ g w ob (us.map aT.bo) vs->vs=us
 |[],[],_=>rfl
 |[],_::_,h=>by have:=h.1;simp at this
 |_::_,[],h=>by have:=h.1;simp at this
 |u::us,v::vs,h=>by have j:dZ g w ob (.bo u) v:=h.2 0 (.bo u) v rfl rfl;have e:=j.fY.1;have k:tJ g w ob (us.map aT.bo) vs:=⟨by have:=h.1;simpa using this,λi p x n o=>h.2 (i+1) p x (by simpa using n) (by simpa using o)⟩;rw[e,tJ.ad2 k]
theorem afh(k:Enters P f)(j:List Value)(r:Value)(n:iS r=true)
 (h:∀c w,gl.p c w->Calls P f j.toArray w λe w'=>e= .returned r/\Below w.heap.size w w')(ob:cT):lM gl P f (j.map aT.bo) ob (.bo r) ob:=by
 refine⟨k,λg w vs o p q=>?_⟩;rw[tJ.ad2 q];refine(h g.af w o).mono ?_;rintro e w' ⟨rfl,t⟩;exact⟨r,g,rfl,i9.below p t,.inr (.inl (.inl (.bo n)))⟩
theorem Lu{g:jj}(y:Enters P f)
 (h:∀u args ub aC a j n o,g u args ub aC= .ok a j n o->j=ub/\n=aC/\o=[]/\∃(p:List Value) (r:Value),args.map bk=p.map aT.bo/\bk a= .bo r/\iS r=true/\
  ∀c w,gl.p c w->Calls P f p.toArray w λe w'=>e= .returned r/\Below w.heap.size w w'):iE gl P f g:=by
 intro u _ args ub aC a j n o z;obtain⟨rfl,rfl,rfl,p,r,A,q,B,C⟩:=h u args ub aC a j n o z;refine⟨?_,λ_ _ _=>rfl,λk t=>?_⟩;rw[A,q];exact afh y p r B C _;rw[<-p3,q]at t;simp[aT.dl,aT.fe,aT.key,aT.cJ]at t
structure IH (w0:World) (c0:Nat->Nat) (c:Nat->Nat) (w:World):Prop where
 Tq:∀b i v,w0.cell? ⟨b,i,none⟩=some v->i<c0 b
 size:w0.heap.size<=w.heap.size
 cell:∀b,b<w0.heap.size->c0 b<c b/\∀i,i<=c0 b->w.cell? ⟨b,i,none⟩=w0.cell? ⟨b,i,none⟩
def RK(F:World->Prop)(c:Nat->Nat)(w:World):Prop:=∃w0 c0,F w0/\IH w0 c0 c w
theorem aqd(F:World->Prop){c':Nat->Nat}{w':World}(g:gA c w c' w')(h:RK F c w):RK F c' w':=by obtain⟨w0,c0,n,e⟩:=h;refine⟨w0,c0,n,e.Tq,jv e.size g.size,λb j=>?_⟩;obtain⟨o,p⟩:=e.cell b j;have k:b<w.heap.size:=pi j e.size;exact⟨pi o (g.le b k),λi hi=>(g.cell b i k (by omega)).trans (p i hi)⟩
def aqc(F:World->Prop):eh:={p:=RK F,mono:=aqd F}
theorem alH(e:w0.cell? ⟨b,i,none⟩=some v):b<w0.heap.size:=by simp only[World.cell?]at e;split at e;rename_i g;exact(nA.1 g).1;cases e
theorem GW(h:IH w0 c0 c w)(e:w0.cell? ⟨b,i,none⟩=some v):w.cell? ⟨b,i,none⟩=some v:=by rw[(h.cell b (alH e)).2 i (Nat.le_of_lt (h.Tq b i v e)),e]
theorem Uk(h:IH w0 c0 c w){name:String}{k:IntKind}{z:Int}{e:List Int}
 (j:Lib.TabIs P w0 name k (z::e)):Lib.TabIs P w name k (z::e):=by
 unfold Lib.TabIs World.var? at j ⊢;cases r:P.globalNamed name with
 |none=>rw[r]at j;cases j
 |some g=>
  rw[r]at j;simp only[tH]at j ⊢;split at j;rename_i cs t fr n;cases j;have y:g<w0.heap.size:=(nA.1 n).1;have E:(z::e).length-1<c0 g:=by
   obtain⟨v,A⟩:∃v,w0.cell? ⟨g,(z::e).length-1,none⟩=some v:=by simp only[World.cell?,n];exact⟨_,In (by simp)⟩
   exact h.Tq g _ v A
  have o:∀i,i<=(z::e).length->w.cell? ⟨g,i,none⟩=w0.cell? ⟨g,i,none⟩:=λi hi=>(h.cell g y).2 i (by omega);have B:w0.cell? ⟨g,0,none⟩=some (.int k z):=by simp only[World.cell?,n];rfl
  have p:=o 0 (by omega);rw[B]at p;simp only[World.cell?]at p o;split at p;rename_i hu F G q;rw[q];simp only[dN];apply Array.ext_getElem?;intro i;by_cases hi:i<=(z::e).length;have:=o i hi;rw[q,n]at this;exact this;have u:=o (z::e).length (dn _);rw[q,n]at u;have C:(((z::e).map λz=>Value.int k z).toArray)[(z::e).length]? =none:=by simp
  have D:hu[(z::e).length]? =none:=u.trans C;rw[DR]at D;have H:(((z::e).map λz=>Value.int k z).toArray).size=(z::e).length:=by simp
  rw[DR.2 (by omega),DR.2 (by omega)];cases p;cases j
theorem wV{f:ao->az->ay}(h:b0 l f= .ok a ub s d):∃x r,l=x::r/\f x r= .ok a ub s d:=by
 cases l with
 |nil=>cases h
 |cons x r=>exact⟨x,r,rfl,h⟩
theorem Bh(h:dF l x= .ok a ub s d):l=[]/\x= .ok a ub s d:=by
 cases l with
 |nil=>exact⟨rfl,h⟩
 |cons x r=>cases h
theorem L4{x:ao}{f:Nat->Nat->ay}(h:lU x f= .ok a ub s d):∃n v,x= .s n v/\f n v= .ok a ub s d:=by obtain⟨n,v,e,g⟩:=tp (by rw[h];simp:lU x f≠ .aF);exact⟨n,v,e,by rw[<-g];exact h⟩
theorem acU{x:ao}{f:IntKind->Nat->ay}(h:mT x f= .ok a ub s d):∃q n,x= .ag q n/\f q n= .ok a ub s d:=by obtain⟨n,v,e,g⟩:=tn (by rw[h];simp:mT x f≠ .aF);exact⟨n,v,e,by rw[<-g];exact h⟩
theorem oM{c:Bool}(h:bB c x .aF= .ok a ub s d):c=true/\x= .ok a ub s d:=by cases c;cases h;exact⟨rfl,h⟩
def Mz(l:List UInt8):ao:= .s l.length (nk l)
theorem Tc(l:List UInt8):bk (Mz l)= .bo (.string ⟨l.toArray⟩):=by unfold Mz;simp only[bk,fd,zB]
def zQ(m n v c:Nat):Nat:=
 @Nat.rec (λ_=>Nat) 18446744073709551615 (λk e=> @Bool.rec (λ_=>Nat) e (Nat.add 18446744073709551616 (Nat.sub m (Nat.succ k))) (Nat.beq (Nat.mod (Nat.div v (Nat.pow 256 k)) 256) c)) n
def vG(n v c:Nat):Nat:=
 @Nat.rec (λ_=>Nat) 0 (λk e=> @Bool.rec (λ_=>Nat) e (Nat.succ e) (Nat.beq (Nat.mod (Nat.div v (Nat.pow 256 k)) 256) c)) n
theorem Yx(v k c:Nat)(j:c<256):(UInt8.ofNat (v/256^k)==UInt8.ofNat c)=Nat.beq (Nat.mod (Nat.div v (Nat.pow 256 k)) 256) c:=by
 have e:(UInt8.ofNat (v/256^k)).toNat=Nat.mod (Nat.div v (Nat.pow 256 k)) 256:=by simp;rfl
 have g:(UInt8.ofNat c).toNat=c:=by simp;omega
 rw[n0,rr,k9];constructor;intro h;rw[<-e,h,g];intro h;apply UInt8.toNat_inj.1;rw[e,g];exact h
end
end
section
variable{g:cx}{w:World}{ob:cT}{k s:Nat}{c1:aT}
section
variable[Tok]
theorem i9.aeE{w':World}(c:n2 g w ob)(k:Nat)(x:Obj)(j:(ob k).gg)
 (ho:w'.os=w.os)(r:w'.tape=w.tape)(t:w'.output=w.output)(E:w.heap.size=w'.heap.size)(l:∀b,b≠g.cr k->w'.heap[b]? =w.heap[b]?)
 (u:∀i,i<g.af (g.cr k)->w'.cell? ⟨g.cr k,i,none⟩=w.cell? ⟨g.cr k,i,none⟩)(o:gb g ob g (dk ob k x))(y:gA g.af w g.af w'->l5 g w' (dk ob k x) k x):i9 g w ob g w' (dk ob k x):=by
 have n:gA g.af w g.af w':=⟨by omega,λ_ _=>dn _,λb i _ hi=>by by_cases e:b=g.cr k;subst e;exact u i hi;simp only[World.cell?,l b e]⟩
 have d:∀a,(dk ob k x a).gg->(ob a).gg:=by intro a h;by_cases e:a=k;subst e;exact j;rw[h9 _ _ e]at h;exact h
 refine⟨⟨ho,r,t,by omega,λb _ z=>l b (λe=>z ⟨k,j,e.symm⟩),λ_ _ _=>rfl⟩,n,⟨λa=>?_,λp q A B e=>c.inj p q (d p A) (d q B) e,λa h=>by have:=c.lt a (d a h);omega⟩,o,λa h=> .inr ⟨a,d a h,rfl⟩⟩;by_cases e:a=k;subst e;rw[jc];exact y n;rw[h9 _ _ e];exact l5.ed n o (λC=>⟨rfl,rfl,rfl,l _ (λD=>e (c.inj a k C j D))⟩) (c.h1 a)
theorem gb.drop(g:cx)(k s:Nat)(h:(ob k).cH<=s):gb g ob g (dk ob k (.aF s)):=by intro c;by_cases b:c=k;subst b;rw[jc];exact⟨h,(λ_ a=>by cases a),(λ_ _ _ _ a=>by cases a),(λ_ a=>by cases a)⟩;rw[h9 _ _ b];exact⟨dn _,λcs a=>⟨⟨cs,a⟩,rfl⟩,λ_ _ es bL a=>⟨⟨es,bL,a,dn _⟩,rfl,rfl⟩,λes a=>⟨⟨es,a⟩,rfl⟩⟩
theorem dZ.unit:dZ g w ob (.bD []) (.tuple #[]):=
 .inr (.inr (.inr (.inl ⟨[],[],rfl,rfl,rfl,λj q u h=>by simp at h⟩)))
theorem SL{cs:eb}{vs:List Value}(c:ob k= .box s cs)(b:tJ g w ob [.aQ k s 0] vs):vs=[.pointer (some ⟨g.cr k,0,none⟩)]:=by
 match vs,b with
 |[],b=>have:=b.1;simp at this
 |[v],b=>have h:=b.2 0 _ v rfl rfl;obtain⟨_,a,d,e⟩:=h.kz (by simp[aT.key,aT.cJ]);rw[d,e cs c]
 |_::_::_,b=>have:=b.1;simp at this
section
variable{gl:eh}{P:Program}{f T:Nat}
theorem afn(l:Enters P f)(h:∀b w,w.cell? ⟨b,0,none⟩=some (.pointer (some ⟨b,0,none⟩))->Calls P f #[.pointer (some ⟨b,0,none⟩)] w λe w'=>e= .returned (.tuple #[])/\w'=w)
 (d:ob k= .box s [.aQ k s 0,c1]):lM gl P f [.aQ k s 0] ob (.bD []) ob:=by
 refine⟨l,λg w vs x i n=>?_⟩;rw[SL d n];have j:=i.h1 k;rw[d]at j;obtain⟨bK,T,o,y,eE,eV⟩:=j;obtain⟨u,p,_,c⟩:=eV 0 _ rfl;have q:u= .pointer (some ⟨g.cr k,0,none⟩):=by rcases c with c|c;cases c;obtain⟨_,a,r,t⟩:=c;rw[r,t _ d]
 subst q;refine(h (g.cr k) w (by simp only[World.cell?,o];exact p)).mono ?_;rintro e w' ⟨rfl,rfl⟩;exact⟨_,g,rfl,i9.below i (AT _ _),dZ.unit⟩
theorem afg(l:Enters P f)(y:∀b w,w.cell? ⟨b,0,none⟩=some (.pointer none)->w.shape? b=some (T,2)->w.frozen? ⟨b,0,none⟩=false->
 Calls P f #[.pointer (some ⟨b,0,none⟩)] w λe w'=>e= .returned (.tuple #[])/\w'=w.setCell ⟨b,0,none⟩ (.pointer (some ⟨b,0,none⟩)))
 (z:s%65536=T)(d:ob k= .box s [.bo (.pointer none),c1]):lM gl P f [.aQ k s 0] ob (.bD []) (dk ob k (.box s [.aQ k s 0,c1])):=by
 refine⟨l,λg w vs L p A=>?_⟩;rw[SL d A];have r:=p.h1 k;rw[d]at r;obtain⟨bK,n,h,⟨B,t⟩,eE,eV⟩:=r;have C:(ob k).gg:=by rw[d];trivial
 have D:n=T:=by rw[<-t,z]
 subst D;obtain⟨u,E,_,c⟩:=eV 0 _ rfl;have F:u= .pointer none:=by rcases c with c|c;cases c;rfl;exact c.elim
 subst F;have o:bK.size=2:=B;refine(y (g.cr k) w (by simp only[World.cell?,h];exact E) (by simp[World.shape?,h,o]) (by simp[World.frozen?,h])).mono ?_;rintro e w' ⟨rfl,rfl⟩;have G:(w.setCell ⟨g.cr k,0,none⟩ (.pointer (some ⟨g.cr k,0,none⟩))).heap[g.cr k]? =some (.cells (bK.setIfInBounds 0 (.pointer (some ⟨g.cr k,0,none⟩))) n (0,0)):=by simp[World.setCell,DP,h]
 have x:=gb.box g (hu:=[.aQ k s 0,c1]) d;refine⟨_,g,rfl,i9.aeE p k (.box s [.aQ k s 0,c1]) C rfl rfl rfl (by simp[World.setCell]) (λb H=>Below.heap_setCell _ _ _ _ H) (λi hi=>by omega) x (λl=>?_),dZ.unit⟩;refine⟨_,n,G,⟨by simpa using o,t⟩,eE,λj q a=>?_⟩
 match j,a with
 |0,a=>simp at a;subst a;refine⟨.pointer (some ⟨g.cr k,0,none⟩),by simp[o],rfl,.inr ⟨by simp[dk,Obj.cH],_,rfl,λhu _=>rfl⟩⟩
 |1,a=>simp at a;subst a;obtain⟨u,I,J,K⟩:=eV 1 _ rfl;exact⟨u,by simp[AN,I],J,K.step l x⟩
 |j+2,a=>simp at a
theorem afm(C:Enters P f){e:Nat}(D:∀(b r d:Nat) (p:Value) (h:Array Value) (T:TypeId) (l:List UInt8) (w:World),l≠[]->w.heap[b]? =some (.cells #[p,.slice (some ⟨r,0,none⟩) l.length d] T (0,0))->
 w.heap[r]? =some (.cells h e (0,0))->l.length<=d->d<=maxLen->h.size=d->(∀(j:Nat) (x:UInt8),l[j]? =some x->h[j]? =some (.int .u8 x.toNat))->
 Calls P f #[.pointer (some ⟨b,0,none⟩)] w λe w'=>e= .returned (.string ⟨l.toArray⟩)/\w'=w.drew.freeze ⟨r,0,none⟩ l.length)
 {a bZ:Nat}{c0:aT}{l:List UInt8}{bL:Bool}(E:l≠[])(y:ob k= .box s [c0,.aV a bZ 0 l.length])(hd:ob a= .aV bZ e 1 (l.map λc=>[.bo (.int .u8 c.toNat)]) bL):
 lM gl P f [.aQ k s 0] ob (.bo (.string ⟨l.toArray⟩)) (dk ob a (.aF bZ)):=by
 refine⟨C,λg w vs al q F=>?_⟩;rw[SL y F];have z:=q.h1 k;rw[y]at z;obtain⟨bK,G,A,⟨H,ar⟩,eE,eV⟩:=z;have I:(ob a).gg:=by rw[hd];trivial
 obtain⟨tA,J,_,_⟩:=eV 0 _ rfl;obtain⟨K,L,_,n⟩:=eV 1 _ rfl;obtain⟨b',o',d,M,N,O,Q⟩:∃b o d,K= .slice (some ⟨b,o,none⟩) l.length d/\l.length<=d/\d<=maxLen/\
  ∀e sz es bL,ob a= .aV bZ e sz es bL->0+l.length<=es.length/\b=g.cr a/\(0<l.length\/0=0->o=0*sz)/\(0=0->d=g.cap a):=by
  rcases n with n|n;cases n;exact n.2
 obtain⟨f1,f2,f3,f4⟩:=Q _ _ _ _ hd;have R:o'=0:=by have:=f3 (.inr rfl);omega
 have S:=f4 rfl;subst R f2 S M;have B:=q.h1 a;rw[hd]at B;obtain⟨h,t,q2,q3,a1,q5,V,a2,a3⟩:=B;have W:bK= #[tA,.slice (some ⟨g.cr a,0,none⟩) l.length (g.cap a)]:=by
  apply Array.ext_getElem?;intro i
  match i with
  |0=>simpa using J
  |1=>simpa using L
  |i+2=>rw[DR.2 (by simp at H;omega)];simp
 rw[W]at A;have X:∀(j:Nat) (x:UInt8),l[j]? =some x->h[j]? =some (.int .u8 x.toNat):=by intro j x Y;obtain⟨u,t1,_,t3⟩:=V j 0 [.bo (.int .u8 x.toNat)] (.bo (.int .u8 x.toNat)) (by simp[Y]) rfl;have:=t3.fY.1;subst this;simpa using t1
 refine(D (g.cr k) (g.cr a) (g.cap a) tA h G l w E A t N O (by omega) X).mono ?_;rintro e w' ⟨rfl,rfl⟩;have Z:∀b,b≠g.cr a->(w.drew.freeze ⟨g.cr a,0,none⟩ l.length).heap[b]? =w.heap[b]? :=by intro b hb;unfold World.freeze;split;rfl;simp only[DP];rw[dU (λe=>hb e.symm)];rfl
 refine⟨_,g,rfl,i9.aeE q a (.aF bZ) I ?_ ?_ ?_ ?_ Z (λi hi=>?_) (gb.drop g a bZ (by rw[hd];exact dn _)) (λ_=>trivial),.inr (.inl (.inl (.bo rfl)))⟩;unfold World.freeze;split<;>rfl;unfold World.freeze;split<;>rfl;unfold World.freeze;split<;>rfl;unfold World.freeze;split;rfl;simp;have hd:w.drew.heap[g.cr a]? =some (.cells h e (0,0)):=t;unfold World.freeze;split;rfl;simp only[World.cell?,DP,dr,hd,t,jH]
end
end
end
section
variable{fn:Func}{R:Ending->World->Prop}{w:World}
section
variable[Tok]
def yR(P:Program)(a:Nat):Prop:=∀v w,CallsD P a #[v] .returning w λe b w'=>(∃r,e= .returned r)/\b= .returning/\w'=w
section
variable{P:Program}
theorem QO{f:Nat}(a:P.funcs[f]? =some fn)(b:(fn.name== "runtime.NumGoroutine")=false)(c:fn.body.isNone=false)(args:Array Value)(w:World):(callFunc f args).run P w= .ok (.enter f args) w:=by simp only[callFunc,program,fy,Sem.run,a,b,c,io,hV,fU];simp
def yS(P:Program)(fn:Func)(a:Array Value)(R:Ending->World->Prop):List Deferred->World->Prop
 |[],w=>∃v,(results fn a).run P w= .ok v w/\R (.returned v) w
 |d::c,w=>
  (∃r w',d.target= .collected r/\(Instr.takeDeferred r).run P w= .ok [] w'/\yS P fn a R c w')\/
  (∃b v,d=⟨.fn (.func b) #[], #[v]⟩/\Enters P b/\yR P b/\yS P fn a R c w)
theorem abK{x:Array Value}:∀(a:List Deferred) (w:World) (fr:Frame)
 (cs:List Frame),fr.mode= .returning->fr.defers=a->fr.tmps=x->P.funcs[fr.fn]? =some fn->fr.kind= .normal->yS P fn x R a w->
 ∃e w' b,R e w'/\Comes P (lone fr cs w) (lone b cs w') e/\b.fn=fr.fn/\b.leaving P w' e:=by
 intro a;induction a with
 |nil=>intro w fr cs g hd i j k h;obtain⟨v,A,B⟩:=h;exact⟨.returned v,w,fr,B,Steps.refl P _,rfl,g,hd,k,fn,j,i▸A⟩
 |cons d a y=>
  intro w fr cs g hd i j k h;rcases h with⟨r,w',C,D,l⟩|⟨z,v,rfl,⟨N,E,F,G⟩,H,l⟩;have n:=step_collected (cs:=cs) (fr:=fr) (P:=P) (by rw[g];simp) hd C D;obtain⟨e',o,b,p,q,t,u⟩:=y w' {fr with defers:=[]++a} cs g rfl i j k l;exact⟨e',o,b,p,Comes.of_steps (.one n) q,t,u⟩;have I:(invoke (.fn (.func z) #[]) #[v]).run P w= .ok (.enter z #[v]) w:=by simp only[invoke,QO E F G,Array.append_empty]
  have n:=step_defer (cs:=cs) (fr:=fr) (P:=P) (by rw[g];simp) hd rfl I;obtain⟨e,O,w',Q,⟨⟨S,rfl⟩,rfl,rfl⟩,J,K,L⟩:=H v w {fr with defers:=a} cs g;have M:=step_going_returned (P:=P) (c:={ {fr with defers:=a} with mode:= .returning}) (cs:=cs) K L;obtain⟨e',o,b,p,q,t,u⟩:=y w' { { {fr with defers:=a} with mode:= .returning} with mode:=settle .returning} cs rfl rfl i j k l;exact⟨e',o,b,p,Comes.of_steps (.head n (Steps.trans J (.one M))) q,t,u⟩
def ajX(P:Program)(fn:Func)(R:Ending->World->Prop):Exit->Act->World->Prop
 | .normal,a,w| .ret,a,w=>yS P fn a.tmps R a.defers w
 |_,_,_=>False
theorem YM{f:FuncId}{c:Code}{args:Array Value}
 (g:P.funcs[f]? =some fn)(r:fn.body=some c)
 (h:c.wp P (ajX P fn R) {tmps:=args++Array.replicate (fn.ntmps-args.size) undef,defers:=[]} w):Calls P f args w R:=by
 intro cs;let b:Frame:={(default:Frame) with fn:=f,kind:= .normal};have t:Frame.enter P f args .normal=
  b.at {tmps:=args++Array.replicate (fn.ntmps-args.size) undef,defers:=[]} [.code c]:=by
  simp[Frame.enter,Frame.at,g,r,b]
 obtain⟨e,d,w',a,i⟩:=h b [] cs;rw[<-t]at i;cases e with
 |normal=>obtain⟨e',j,k,n,o,p,q⟩:=abK d.defers w' {b.at d [] with mode:= .returning} cs rfl rfl rfl g rfl a;exact⟨e',j,k,n,Comes.of_steps (Steps.trans i (.one step_end)) o,p,q⟩
 |ret=>obtain⟨u,x⟩:=i;obtain⟨e',j,k,n,o,p,q⟩:=abK d.defers w' {b.at d u with mode:= .returning} cs rfl rfl rfl g rfl a;exact⟨e',j,k,n,Comes.of_steps x o,p,q⟩
 |panic y=>exact a.elim
 |exit id=>exact a.elim
 |goto l=>exact a.elim
 |outgrown=>exact a.elim
theorem axH{g:Operand}{ps:Array Tmp}{assign body:Code}{Q:Exit->Act->World->Prop}{a:Act}{d:Nat}{i:Array Value}(o:a.eval g= .func (.func d) #[] i)(p:Enters P d)
 (h:∀j:Loop,j.state= .ready->j.pending=none->Calls P d (#[.func (.yield (w.heap.size+1)) #[] #[]]++i) ((w.alloc (.deferred (some []))).alloc (.loop j)) λe l=>(∃v,e= .returned v)/\
  l.heap[w.heap.size+1]? =some (.loop j)/\Q .normal {a with defers:={target:= .collected w.heap.size,args:= #[]}::a.defers} (l.putObj (w.heap.size+1) (.loop {j with state:= .exhausted}))):
 (Code.rangeFunc g ps assign body).wp P Q a w:=by
 intro b k cs;obtain⟨fn,q,r,t⟩:=p;have u:∀(a:Act) (k:List Item),({b with roundOf:=none}:Frame).atR a k=b.at a k:=λa k=>rfl;have x:=run_enterLoop_outer (P:=P) (w:=w) b.fn a.tmps ps assign body;have y:∀c,(resolve a.eval (rangeCall g (w.heap.size+1)) 0).run P c= .ok ({target:= .fn (.func d) i,args:= #[.func (.yield (w.heap.size+1)) #[] #[]]}:Deferred) c:=by intro c;simp only[resolve,o];simp[go_sem]
 have z:∀c,(invoke (.fn (.func d) i) #[.func (.yield (w.heap.size+1)) #[] #[]]).run P c= .ok (.enter d (#[.func (.yield (w.heap.size+1)) #[] #[]]++i)) c:=by intro c;simp only[invoke,QO q r t]
 have n:=stepR_rangeFunc (P:=P) (b:={b with roundOf:=none}) (a:=a) (k:=k) (cs:=cs) (w:=w) (g:=g) (ps:=ps) (assign:=assign) (body:=body) x (y _) (z _);rw[u]at n;obtain⟨e,l,fr,⟨⟨v,rfl⟩,A,B⟩,C,F,D⟩:=h {state:= .ready,pending:=none,fn:=b.fn,tmps:=a.tmps,params:=ps,assign,body,defers:=w.heap.size} rfl rfl (({b with roundOf:=none}:Frame).atR {a with defers:=[{target:= .collected w.heap.size,args:= #[]}]++a.defers} (.inRangeFunc (w.heap.size+1)::k)::cs);refine⟨.normal,_,_,B,.head n (Steps.trans C (.head (step_leave_returned D) (.one ?_)))⟩;rw[finish_atR_inRangeFunc];have E:=run_endLoop (P:=P) A (by simp);exact stepR_endRangeFunc E
end
end
end
section
variable{t:List Deferred}{g:cx}{s:cK}{a:Act}{w:World}{r:Nat}{body:Code}
section
variable[Tok]
def QI(z:List Nat)(bS:Array Oper)(bu:Bool):Bool:=
 match bS,bu with
 |⟨[o]⟩,false=>match o.op,o.guard,o.dst with
  | .defer {callee:= .value (.func b),args:=⟨[_]⟩,argTypes:=_},none,none=>z.contains b
  |_,_,_=>false
 |_,_=>false
theorem aml{z:List Nat}{bS:Array Oper}{bu:Bool}(h:QI z bS bu=true):∃o b x c,bS= #[o]/\bu=false/\o.op= .defer {callee:= .value (.func b),args:= #[x],argTypes:=c}/\o.guard=none/\o.dst=none/\b∈z:=by unfold QI at h;split at h;rename_i o;split at h;rename_i b x c d e i;exact⟨o,b,x,c,rfl,rfl,d,e,i,by simpa using h⟩;cases h;cases h
def S3(g:Operand):hJ:= .region false [⟨none,none,.hK g [.global 0] [false],[],[]⟩]
def pU(P:Program)(H:jk)(n:Nat)(z:List Nat):Code->hJ
 | .skip=> .skip
 | .region _ bS bu=>if QI z bS bu then .skip else Ax P H n bS bu
 | .seq a b=> .seq (pU P H n z a) (pU P H n z b)
 | .cond c a b=>if c6 c then .cond c (pU P H n z a) (pU P H n z b) else oL
 | .block id b=> .block id (pU P H n z b)
 | .loop b=> .loop (pU P H n z b)
 | .exit id=> .exit id
 | .label _=> .skip
 | .ret=> .ret
 | .rangeFunc g _ _ _=>if c6 g then S3 g else oL
 |_=>oL
def ld(P:Program)(B:Nat)(c:Nat->Prop)(w:World):List Deferred->Prop
 |[]=>True
 |d::t=>((∃r,d.target= .collected r/\B<=r/\r<w.heap.size/\w.heap[r]? =some (.deferred (some []))/\¬c r/\∀d'∈t,d'.target≠ .collected r)\/(∃b v,d=⟨.fn (.func b) #[], #[v]⟩/\Enters P b/\yR P b))/\ld P B c w t
theorem ld.step{P:Program}{B:Nat}{c e:Nat->Prop}{w w':World}:∀{t:List Deferred},(w.heap.size<=w'.heap.size)->(∀r,r<w.heap.size->¬c r->(∃d∈t,d.target= .collected r)->w'.heap[r]? =w.heap[r]? /\¬e r)->ld P B c w t->ld P B e w' t
 |[],_,_,_=>trivial
 |d::t,j,h,i=>by refine⟨?_,ld.step j (λr k l o=>h r k l (o.imp λd hd=>⟨ii _ hd.1,hd.2⟩)) i.2⟩;rcases i.1 with⟨r,b,p,q,u,x,y⟩|b;obtain⟨D,E⟩:=h r q x ⟨d,fQ,b⟩;exact .inl ⟨r,b,p,by omega,D.trans u,E,y⟩;exact .inr b
theorem ld.lt{P:Program}{B:Nat}{i:Nat->Prop}{w:World}:∀{t:List Deferred},ld P B i w t->∀d∈t,∀r,d.target= .collected r->r<w.heap.size
 |d::t,c,d',j,r,b=>by rcases e9.1 j with rfl|h;rcases c.1 with⟨l,e,_,k,_⟩|⟨o,v,rfl,_⟩;rw[b]at e;cases e;exact k;cases b;exact ld.lt c.2 d' h r b
section
variable{P:Program}{H:jk}{n B bs:Nat}{O:Nat->Prop}{gl:eh}{dB:cx}{C:cT}{A:World}{c0:Nat->Nat}{w0:World}{z:List Nat}
theorem cL.SH(h:cL gl (dB,C,A,t) n B O g s a w){o o':Go.Obj}(u:B<=r)(c:¬gM g s.bC r)(ho:w.heap[r]? =some o)(d:∀i,w.cell? ⟨r,i,none⟩=none)
 (j:∀i,(w.putObj r o').cell? ⟨r,i,none⟩=none):cL gl (dB,C,A,t) n B O g s a (w.putObj r o')/\eM B O g.af w g.af (w.putObj r o'):=by
 have l:gA g.af w g.af (w.putObj r o'):=⟨by simp,λ_ _=>dn _,λb i _ _=>by by_cases e:b=r;subst e;rw[d,j];simp only[World.cell?,World.putObj_heap_other e]⟩
 refine⟨h.v3 s.bC (λ_=>False) l (gb.refl _ _) (λ_ _=>rfl) (λk _ p=>⟨rfl,rfl,rfl,World.putObj_heap_other (λe=>c ⟨k,p,e⟩)⟩) (λk q=>q.elim),
  ⟨rfl,rfl,rfl,by simp,λb x _=>World.putObj_heap_other (by omega),λ_ _ _=>rfl⟩⟩
theorem YP{x:Option (List Deferred)}(h:w.heap[r]? =some (.deferred x))(i:Nat):w.cell? ⟨r,i,none⟩=none:=by simp[World.cell?,h]
theorem Cn{x:Loop}(h:w.heap[r]? =some (.loop x))(i:Nat):w.cell? ⟨r,i,none⟩=none:=by simp[World.cell?,h]
set_option maxHeartbeats 1000000 in
theorem awy{x:Operand}{ps:Array Tmp}{assign:Code}{X:m4->cK->Prop}{Q:Exit->Act->World->Prop}(a4:c6 x=true)
 (b:iw gl P bs (S3 x) X s)(h:cL gl (dB,C,A,t) n B O g s a w)(Y:ld P B (gM g s.bC) w t)(a5:eM B O c0 w0 g.af w)
 (bd:∀g' N Z w' al,X .normal N->cL gl (dB,C,A,al) n B O g' N Z w'->ld P B (gM g' N.bC) w' al->eM B O c0 w0 g'.af w'->Q .normal Z w'):(Code.rangeFunc x ps assign body).wp P Q a w:=by
 simp only[S3,iw,kc,mW,lu]at b;obtain⟨_,b⟩:=b;split at b;rename_i bx cR c;simp only[jE,md,eX,mq,io,hV,yO,fE]at b;obtain⟨ev,cN,b1,_,b2⟩:=b;obtain⟨cc,cn⟩:=b1;have I:=h.ga a4;have cs:∃d:List Value,a.eval x= .func (.func bx) #[] d.toArray/\cR.length=d.length/\∀(j:Nat) (q:aT) (u:Value),cR[j]? =some q->d[j]? =some u->dZ g w s.bC q u:=by
  cases R:eX s.aI x with
  |ey f' ex=>
   rw[R]at I c;simp only[lO,dN,h4]at c;obtain⟨rfl,rfl⟩:=c;obtain⟨_,vs,cu,cY,c1⟩:=I.Kj;refine⟨vs,cu,cY,λj q u hq c2=>?_⟩;rcases c1 j q u hq c2 with⟨rfl,rfl⟩|y;exact dZ.bo rfl;refine .inr (.inl (.inr ?_));cases q with
   |ey=>exact y.elim
   |_=>exact y
  |bo v=>rw[R]at I c;obtain⟨c3,e0⟩:=I.fY;unfold lO at c;split at c;rename_i f0 S;cases S;cases c;exact⟨[],c3,rfl,by simp⟩;rename_i S;cases S;cases c
  |_=>rw[R]at c;simp[lO]at c
 obtain⟨d,c4,c5,dd⟩:=cs;refine axH c4 cc (λl _ _=>?_);have J:Below w.heap.size w ((w.alloc (.deferred (some []))).alloc (.loop l)):=((AT _ w).alloc (dn _) _).alloc (by simp) _;generalize T:((w.alloc (.deferred (some []))).alloc (.loop l))=D at J ⊢;have dt:D.heap[w.heap.size]? =some (.deferred (some [])):=by rw[<-T];exact(Below.heap_alloc _ _ _ (by simp)).trans (World.alloc_heap_new w _)
 have dz:D.heap[w.heap.size+1]? =some (.loop l):=by rw[<-T];have:=World.alloc_heap_new (w.alloc (.deferred (some []))) (.loop l);rwa [World.size_alloc]at this
 have fl:D.heap.size=w.heap.size+2:=by rw[<-T];simp
 obtain⟨g9,ee⟩:=h.xw (i9.below h.heap J);have em:(#[.func (.yield (w.heap.size+1)) #[] #[]]++d.toArray:Array Value)=(Value.func (.yield (w.heap.size+1)) #[] #[]::d).toArray:=by simp
 rw[em];refine(cn g D (Value.func (.yield (w.heap.size+1)) #[] #[]::d) g9.oR g9.heap ⟨by simp[c5],λi p v b hv=>?_⟩).mono ?_;cases i with
 |zero=>simp at b;subst b;exact .inl rfl
 |succ i=>simp at b hv;exact(dd i p v b hv).step (i9.below h.heap J).ext (gb.refl _ _)
 rintro e E ⟨v,g',rfl,o,_⟩;have K:∀r,w.heap.size<=r->¬gM g s.bC r:=by rintro r F ⟨k,V,rfl⟩;have:=(h.hP k V).2;omega
 have W:∀r,r<D.heap.size->¬gM g s.bC r->¬gM g' cN r:=by rintro r F L ⟨k,V,rfl⟩;rcases o.src k V with y|y;omega;exact L y
 obtain⟨n1,en⟩:=g9.xw o;have M:E.heap[w.heap.size+1]? =some (.loop l):=(o.iB.block _ (by omega) (K _ (by omega))).trans dz;have ar:E.heap[w.heap.size]? =some (.deferred (some [])):=(o.iB.block _ (by omega) (K _ (by omega))).trans dt;have hb:=h.jJ;have a1:=n1.SH (o':= .loop {l with state:= .exhausted}) (by omega) (W _ (by omega) (K _ (by omega))) M (Cn M) (λi=>Cn (World.putObj_heap_same (nA.1 M).1) i);generalize a2:E.putObj (w.heap.size+1) (.loop {l with state:= .exhausted})=G at a1 ⊢;have a3:∀r,r≠w.heap.size+1->G.heap[r]? =E.heap[r]? :=λr F=>by rw[<-a2];exact World.putObj_heap_other F
 have fn:G.heap.size=E.heap.size:=by rw[<-a2];simp
 obtain⟨iF,eq⟩:=a1;have lA:cL gl (dB,C,A,{target:= .collected w.heap.size,args:= #[]}::t) n B O g' ⟨s.aI,cN⟩ {a with defers:={target:= .collected w.heap.size,args:= #[]}::a.defers} G:=
  ⟨iF.size,oy (List.cons _) iF.defers,iF.jJ,iF.aI,iF.h1,iF.inj,iF.hP,iF.mO,iF.oR⟩
 have er:ld P B (gM g' cN) G ({target:= .collected w.heap.size,args:= #[]}::t):=by refine⟨.inl ⟨w.heap.size,rfl,hb,?_,?_,W _ (by omega) (K _ (dn _)),λd' es e=>?_⟩,?_⟩;have:=(nA.1 ar).1;omega;rw[a3 _ (by omega)];exact ar;have:=Y.lt d' es _ e;omega;refine ld.step ?_ (λr F L _=>⟨?_,W r (by omega) L⟩) Y;have:=o.ext.size;omega;rw[a3 _ (by omega),o.iB.block r (by omega) L,J.block r F]
 exact⟨⟨v,rfl⟩,M,bd g' ⟨s.aI,cN⟩ _ G _ b2 lA er (((a5.trans ee).trans en).trans eq)⟩;exact b.elim
theorem av8(hm:P.follows .mixedOrders=true)(al:∀L∈z,Enters P L/\yR P L):∀(c:Code) (p:m4->cK->Prop) (Q:Exit->Act->World->Prop) (g:cx) (s:cK) (a:Act) (w:World) (t:List Deferred),
 iw gl P bs (pU P H n z c) p s->cL gl (dB,C,A,t) n B O g s a w->ld P B (gM g s.bC) w t->eM B O c0 w0 g.af w->
 (∀x g' D E w' F,p x D->cL gl (dB,C,A,F) n B O g' D E w'->ld P B (gM g' D.bC) w' F->eM B O c0 w0 g'.af w'->Q (AE x) E w')->c.wp P Q a w:=by
 intro c;induction c with
 |skip=>intro p Q g s a w t d h q u j;exact wp_skip (j .normal g s a w t d h q u)
 |region id bS bu=>
  intro p Q g s a w t d h q u j;simp only[pU]at d;split at d;rename_i hd;obtain⟨o,L,x,bx,rfl,rfl,ho,hg,ar,a1⟩:=aml hd;obtain⟨a2,N⟩:=al L a1;refine wp_region ?_;have a3:(execOp a.eval o).run P w= .ok (.defer ⟨.fn (.func L) #[], #[a.eval x]⟩) w:=by simp only[execOp,ho,resolve];simp[Act.eval,go_sem]
  have hw:Region.wanted o (yielded #[o] a.tmps)=true:=by simp[Region.wanted,hg]
  simp only[vb,qw,List.length_nil,ou,List.range_one,wpOps,DO,List.getElem?_cons_zero,hw,gF];left;unfold Oper.wp;rw[a3,Oper.upon_defer,ar];refine j .normal g s _ w (⟨.fn (.func L) #[], #[a.eval x]⟩::t) d ⟨h.size,by simp[Act.put,h.defers],h.jJ,h.aI,h.h1,h.inj,h.hP,h.mO,h.oR⟩ ⟨.inr ⟨L,_,rfl,a2,N⟩,q⟩ u;refine Th hm d h.Mu (eM.refl _ _ _ _) (λx g' D E w' hq J I=>?_);obtain⟨gZ,a4⟩:=h.MZ J I;refine j x g' D E w' t hq gZ (q.step I.size (λr M Y _=>⟨I.block r M Y,?_⟩)) (u.trans a4);rintro⟨k,hl,rfl⟩;rcases(J.hP k hl).1 with Z|Z;omega;exact Y Z
 |seq x y R S=>
  intro p Q g s a w t d h q u j;refine wp_seq (R (tz (qq (iw gl P bs (pU P H n z y) p)) p) _ g s a w t d h q u (λe g' D E w' F G J K I=>?_));cases e with
  |normal=>obtain⟨T,V,G⟩:=G;exact S p Q g' ⟨T,D.bC⟩ E w' F G (J.qq V) K I j
  |exit i=>exact j (.exit i) g' D E w' F G J K I
  |ret=>exact j .ret g' D E w' F G J K I
 |cond c x y R S=>intro p Q g s a w t d h q u j;simp only[pU]at d;split at d;rename_i N;have e:=h.ga N;simp only[iw]at d;split at d;rename_i W;rw[W]at e;exact wp_cond_true e.fY.1 (R p Q g s a w t d h q u j);rename_i W;rw[W]at e;exact wp_cond_false e.fY.1 (S p Q g s a w t d h q u j);exact d.elim;exact(oo d).elim
 |block id b X=>
  intro p Q g s a w t d h q u j;refine wp_block (X (vR id p) _ g s a w t d h q u (λe g' D E w' F G J K I=>?_));cases e with
  |normal=>exact j .normal g' D E w' F G J K I
  |exit i=>simp only[vR]at G;simp only[AE,Exit.inBlock];by_cases hi:i=id;rw[dr hi]at G ⊢;exact j .normal g' D E w' F G J K I;rw[dU hi]at G ⊢;exact j (.exit i) g' D E w' F G J K I
  |ret=>exact j .ret g' D E w' F G J K I
 |loop b X=>
  intro p Q g s a w t d h q u j;obtain⟨m,M⟩:=d;refine wp_loop_rounds m ?_;induction m generalizing g s a w t with
  |zero=>exact M.elim
  |succ m a5=>
   obtain⟨T,V,M⟩:=M;refine X (tz (rounds (iw gl P bs (pU P H n z b)) p m) p) _ g ⟨T,s.bC⟩ a w t M (h.qq V) q u (λe g' D E w' F G J K I=>?_);cases e with
   |normal=>exact a5 g' D E w' F J K I G
   |exit i=>exact j (.exit i) g' D E w' F G J K I
   |ret=>exact j .ret g' D E w' F G J K I
 |exit id=>intro p Q g s a w t d h q u j;exact wp_exit (j (.exit id) g s a w t d h q u)
 |label l=>intro p Q g s a w t d h q u j;exact wp_label (j .normal g s a w t d h q u)
 |ret=>intro p Q g s a w t d h q u j;exact wp_ret (j .ret g s a w t d h q u)
 |rangeFunc b1 ps assign body=>intro p Q g s a w t d h q u j;simp only[pU]at d;split at d;rename_i bd;exact awy bd d h q u (λg' D E w' F=>j .normal g' D E w' F);exact(oo d).elim
 |scope _=>intro p Q g s a w t d;exact(oo d).elim
 |goto _=>intro p Q g s a w t d;exact(oo d).elim
 |refuse _=>intro p Q g s a w t d;exact(oo d).elim
theorem Ls{fn:Func}{R:Ending->World->Prop}{g:cx}{s:cK}{a:Act}{p:List Deferred}:∀{t:List Deferred}{w:World},cL gl (dB,C,A,p) n B O g s a w->ld P B (gM g s.bC) w t->eM B O c0 w0 g.af w->
 (∀w',cL gl (dB,C,A,p) n B O g s a w'->eM B O c0 w0 g.af w'->∃v,(results fn a.tmps).run P w'= .ok v w'/\R (.returned v) w')->yS P fn a.tmps R t w
 |[],w,h,_,b,c=>c w h b
 |d::t,w,h,j,b,c=>by rcases j.1 with⟨r,k,l,q,o,u,x⟩|⟨y,v,e,k,l⟩;have ho:=h.SH (o':= .deferred none) l u o (YP o) (λi=>YP (World.putObj_heap_same q) i);refine .inl ⟨r,_,k,run_takeDeferred o,Ls ho.1 (ld.step (by simp) (λG I D E=>⟨World.putObj_heap_other ?_,D⟩) j.2) (b.trans ho.2) c⟩;rintro rfl;obtain⟨d',F,e'⟩:=E;exact x d' F e';exact .inr ⟨y,v,e,k,l,Ls h j.2 b c⟩
end
theorem afk{P:Program}{gl:eh}{H:jk}{z:List Nat}{f:Nat}{fn:Func}{args:eb}{ob d:cT}{h:aT}(bs:Nat)(fj:List Bool)(fT:List jS)(M:P.follows .mixedOrders=true)(N:∀D∈z,Enters P D/\yR P D)(E:P.funcs[f]? =some fn)(F:fn.body=some body)
 (Q:(fn.name== "runtime.NumGoroutine")=false)(R:args.length<=fn.ntmps)(G:oq P fn.results.toList=some fT)
 (S:iw gl P bs (pU P H fn.ntmps z body) (Fin fj fT ob d h) (nM args ob)):lM gl P f args ob h d:=by
 refine⟨⟨fn,E,Q,by rw[F];rfl⟩,λg w vs T I V=>?_⟩;have rz:=cL.start T I V R;refine YM E F ?_;refine av8 (bs:=bs) (c0:=g.af) (w0:=w) M N body (Fin fj fT ob d h) _ g (nM args ob) _ w [] S rz trivial (eM.refl _ _ _ _) ?_;have J:∀g' b j w' k,(∃p o us,nX b fT=some p/\mN b.bC fj p=some (o,us)/\o.all nt=true/\h=tq o/\sF ob (fE b.bC us) d h)->cL gl (g,ob,w,k) fn.ntmps w.heap.size (gM g ob) g' b j w'->ld P w.heap.size (gM g' b.bC) w' k->eM w.heap.size (gM g ob) g.af w g'.af w'->
  yS P fn j.tmps (λe w'=>∃v g',e= .returned v/\i9 g w ob g' w' d/\dZ g' w' d h v) j.defers w':=by
  rintro g' ⟨aR,cN⟩ a w' k ⟨p,o,us,K,W,X,rfl,L⟩ c q l;rw[c.defers];refine Ls c q l (λa3 c l=>?_);obtain⟨u,Y,a4,Z,al,a5⟩:=S0 (fn:=fn) c G K;obtain⟨cX,gZ,ar,_,bd,a1,a2⟩:=HI fn.results.toList fj fT p o us u g' cN c (kG.refl cN) G K Z al W;refine⟨uR u,Y,uR u,cX,rfl,gZ.after I (l.trans ar) L,?_⟩;exact(dZ.Sz a1 a2 X).ed L.bW
 intro x g' b j w' k y c q l;cases x with
 |exit i=>exact y.elim
 |normal=>exact J g' b j w' k y c q l
 |ret=>exact J g' b j w' k y c q l
def bI.Kq(P:Program)(z:List Nat)(d:bI):jj:=rW d.h6 1000000 (jf (pU P d.aE d.fn.ntmps z (n9 d.fn)) d.kb).1 d.ff d.eW
theorem Ys{gl:eh}{P:Program}{z:List Nat}(d:bI){g:jj}(j:P.follows .mixedOrders=true)(k:∀c∈z,Enters P c/\yR P c)(l:P.funcs[d.f]? =some d.fn)(e:d.fn.body.isSome=true)
 (o:(d.fn.name== "runtime.NumGoroutine")=false)(p:Nat.ble d.h6 d.fn.ntmps=true)(q:oq P d.fn.results.toList=some d.ff)(x:g=d.Kq P z):iE gl P d.f g:=by
 intro u y args ub aC D I J K h;subst x;have E:d.fn.body=some (n9 d.fn):=by
  unfold n9;cases F:d.fn.body with
  |none=>rw[F]at e;cases e
  |some b=>rfl
 refine Zc y (m:=d.fn.ntmps) (λb=>sK gl b _ _) (dX p) (λub args ob L D G i=>?_) h;rw[qG]at i;exact afk ub d.eW d.ff j k l E o G q i
end
end
section
variable{gl:eh}{P:Program}{f:Nat}
section
variable[Tok]
theorem aa4(m v c:Nat)(a:c<256):∀n,n<=m->zQ m n v c=if Lib.indexByte (iq n v) (UInt8.ofNat c)= -1 then 18446744073709551615 else 18446744073709551616+(m-n)+(Lib.indexByte (iq n v) (UInt8.ofNat c)).toNat
 |0,_=>rfl
 |n+1,h=>by
  have b:=aa4 m v c a n (by omega);show @Bool.rec (λ_=>Nat) (zQ m n v c) (Nat.add 18446744073709551616 (Nat.sub m (Nat.succ n))) (Nat.beq (Nat.mod (Nat.div v (Nat.pow 256 n)) 256) c)=_;rw[<-Yx v n c a];have d:=Lib.indexByte_ge (iq n v) (UInt8.ofNat c);simp only[iq,Lib.indexByte];cases g:(UInt8.ofNat (v/256^n)==UInt8.ofNat c) with
  |true=>simp only[gF];show 18446744073709551616+(m-(n+1))=_;simp
  |false=>
   show zQ m n v c=_;rw[b];simp only[io,hV];by_cases e:Lib.indexByte (iq n v) (UInt8.ofNat c)= -1;simp[e];have e':(Lib.indexByte (iq n v) (UInt8.ofNat c)== -1)=false:=by simpa using e
   simp only[e,e',io,hV];have:¬(Lib.indexByte (iq n v) (UInt8.ofNat c)+1= -1):=by omega
   rw[dU this];omega
theorem aoq(n v c:Nat)(a:c<256):intOf (zQ n n v c)=Lib.indexByte (iq n v) (UInt8.ofNat c):=by have b:=Lib.indexByte_ge (iq n v) (UInt8.ofNat c);rw[aa4 n v c a n (dn _)];unfold intOf;split;rename_i e;rw[e];rfl;omega
theorem YW(v c:Nat)(a:c<256):∀n,vG n v c=(iq n v).count (UInt8.ofNat c)
 |0=>rfl
 |n+1=>by have b:=YW v c a n;show @Bool.rec (λ_=>Nat) (vG n v c) (Nat.succ (vG n v c)) (Nat.beq (Nat.mod (Nat.div v (Nat.pow 256 n)) 256) c)=_;rw[<-Yx v n c a,b];simp only[iq,List.count_cons];cases(UInt8.ofNat (v/256^n)==UInt8.ofNat c)<;>simp
def Tm(a:ay):ay:=a
def Ru(m v c:Nat)(k:Nat->ay)(n:Nat):ay:=
 @Nat.rec (λ_=>ay) (k 18446744073709551615) (λj a=> @Bool.rec (λ_=>ay) (Tm a) (gc (Nat.add 18446744073709551616 (Nat.sub m (Nat.succ j))) k) (Nat.beq (Nat.mod (Nat.div v (Nat.pow 256 j)) 256) c)) n
theorem aa5(m v c:Nat)(k:Nat->ay):∀n,Ru m v c k n=k (zQ m n v c)
 |0=>rfl
 |n+1=>by
  have a:=aa5 m v c k n;show @Bool.rec (λ_=>ay) (Ru m v c k n) (gc (Nat.add 18446744073709551616 (Nat.sub m (Nat.succ n))) k) (Nat.beq (Nat.mod (Nat.div v (Nat.pow 256 n)) 256) c)=
   k (@Bool.rec (λ_=>Nat) (zQ m n v c) (Nat.add 18446744073709551616 (Nat.sub m (Nat.succ n))) (Nat.beq (Nat.mod (Nat.div v (Nat.pow 256 n)) 256) c))
  rw[a,fN];cases Nat.beq (Nat.mod (Nat.div v (Nat.pow 256 n)) 256) c<;>rfl
def Kn(v c:Nat)(k:Nat->ay)(n:Nat):Nat->ay:=
 @Nat.rec (λ_=>Nat->ay) (λa=>k a) (λj b a=> @Bool.rec (λ_=>ay) (Tm (b a)) (gc (Nat.add a 1) λa=>Tm (b a)) (Nat.beq (Nat.mod (Nat.div v (Nat.pow 256 j)) 256) c)) n
theorem YX(v c:Nat)(k:Nat->ay):∀n a,Kn v c k n a=k (Nat.add a (vG n v c))
 |0,a=>rfl
 |n+1,a=>by
  have b:=YX v c k n;show @Bool.rec (λ_=>ay) (Kn v c k n a) (gc (Nat.add a 1) λa=>Kn v c k n a) (Nat.beq (Nat.mod (Nat.div v (Nat.pow 256 n)) 256) c)=
   k (Nat.add a (@Bool.rec (λ_=>Nat) (vG n v c) (Nat.succ (vG n v c)) (Nat.beq (Nat.mod (Nat.div v (Nat.pow 256 n)) 256) c)))
  rw[fN,b,b];cases Nat.beq (Nat.mod (Nat.div v (Nat.pow 256 n)) 256) c;rfl;show k _=k _;congr 1;show a+1+vG n v c=a+(vG n v c+1);omega
def Re:jj:=λ_ l b aC=>b0 l λx l=>b0 l λy l=>dF l (lU x λn v=>mT y λk c=>
 bB (pn k .u8) (bB (Nat.ble 18446744073709551616 c) (bB (Nat.ble c 18446744073709551871) (Ru n v (Nat.sub c 18446744073709551616) (λr=> .ok (.ag .i64 r) b aC []) n) .aF) .aF) .aF)
theorem anX(b:Enters P f)(h:∀(s:ByteArray) (c:Int) (w:World),Calls P f #[.string s,.int .u8 c] w λe w'=>e= .returned (.int .i64 (Lib.indexByte s.data.toList c.toNat.toUInt8))/\w'=w):iE gl P f Re:=by
 refine Lu b ?_;intro u args ub aC D E F G d;obtain⟨x,l,rfl,g⟩:=wV d;obtain⟨y,l,rfl,i⟩:=wV g;obtain⟨rfl,j⟩:=Bh i;obtain⟨n,v,rfl,o⟩:=L4 j;obtain⟨k,c,rfl,p⟩:=acU o;obtain⟨q,r⟩:=oM p;obtain⟨t,z⟩:=oM r;obtain⟨A,a⟩:=oM z;rw[aa5]at a;simp only[ay.ok.injEq]at a;obtain⟨rfl,rfl,rfl,rfl⟩:=a;obtain⟨rfl,_⟩:=zG q;have H:18446744073709551616<=c:=dX t;have I:c<=18446744073709551871:=dX A;refine⟨rfl,rfl,rfl,[.string (fd n v),.int .u8 (intOf c)],.int .i64 (intOf (zQ n n v (Nat.sub c 18446744073709551616))),rfl,rfl,rfl,λ_ w _=>(h _ _ w).mono ?_⟩;rintro e w' ⟨rfl,rfl⟩;refine⟨?_,AT _ _⟩;have B:(intOf c).toNat.toUInt8=UInt8.ofNat (c-18446744073709551616):=by
  have:(intOf c).toNat=c-18446744073709551616:=by unfold intOf;omega
  rw[this]
 have C:Nat.sub c 18446744073709551616<256:=by show c-18446744073709551616<256;omega
 rw[aoq n v _ C,sV,B];rfl
def Rd:jj:=λ_ l b aC=>b0 l λx l=>b0 l λy l=>dF l (lU x λn v=>lU y λm c=>
 bB (Nat.beq m 1) (Kn v (Nat.mod c 256) (λr=>gc r λr=> .ok (.ag .i64 r) b aC []) n 18446744073709551616) .aF)
theorem anV(b:Enters P f)(h:∀(s:ByteArray) (c:UInt8) (w:World),Calls P f #[.string s,.string ⟨#[c]⟩] w λe w'=>e= .returned (.int .i64 (Lib.countByte s.data.toList c))/\w'=w):iE gl P f Rd:=by
 refine Lu b ?_;intro u args ub aC z A B C d;obtain⟨x,l,rfl,g⟩:=wV d;obtain⟨y,l,rfl,i⟩:=wV g;obtain⟨rfl,j⟩:=Bh i;obtain⟨n,v,rfl,k⟩:=L4 j;obtain⟨m,c,rfl,o⟩:=L4 k;obtain⟨p,a⟩:=oM o;rw[YX,fN]at a;simp only[ay.ok.injEq]at a;obtain⟨rfl,rfl,rfl,rfl⟩:=a;have q:m=1:=e8 p;subst q;have r:Nat.mod c 256<256:=u5 _ (by omega);have e0:fd 1 c=⟨#[UInt8.ofNat c]⟩:=by unfold fd;simp[iq]
 refine⟨rfl,rfl,rfl,[.string (fd n v),.string (fd 1 c)],.int .i64 (intOf (Nat.add 18446744073709551616 (vG n v (Nat.mod c 256)))),rfl,rfl,rfl,λ_ w _=>?_⟩;show Calls P f #[.string (fd n v),.string (fd 1 c)] w _;rw[e0];refine(h (fd n v) (UInt8.ofNat c) w).mono ?_;rintro e w' ⟨rfl,rfl⟩;refine⟨?_,AT _ _⟩;rw[sV,YW v _ r n];have t:UInt8.ofNat (Nat.mod c 256)=UInt8.ofNat c:=Sx _ _ (Nat.mod_mod c 256);rw[t];unfold Lib.countByte intOf;congr 2;show _=((18446744073709551616+List.count (UInt8.ofNat c) (iq n v):Nat):Int)-18446744073709551616;omega
def uQ(l:List UInt8)(k:ao->ay):ay:=gc l.length λa=>gc (nk l) λv=>k (.s a v)
theorem SI(l:List UInt8)(k:ao->ay):uQ l k=k (Mz l):=by unfold uQ;rw[fN,fN];rfl
def NL(l:List UInt8):Bool:=l.all λc=>Nat.blt c.toNat 128
theorem af9{l:List UInt8}(h:NL l=true):∀(j:Nat) (b:UInt8),l[j]? =some b->b.toNat<128:=by intro j b a;have:=kg.1 h b (eH a);rw[m9]at this;simpa using this
def Gz(f:List UInt8->List UInt8)(a:List UInt8->Bool):jj:=λ_ l b aC=>b0 l λx l=>dF l (lU x λn v=>
 bB (Nat.ble n 4294967280) (bB (a (iq n v)) (uQ (f (iq n v)) λr=> .ok r b aC []) .aF) .aF)
theorem aaE{F:List UInt8->List UInt8}{b:List UInt8->Bool}(d:Enters P f)
 (h:∀(s:ByteArray) (c:Nat->Nat) (w:World),gl.p c w->s.size<4294967281->b s.data.toList=true->Calls P f #[.string s] w λe w'=>e= .returned (.string ⟨(F s.data.toList).toArray⟩)/\Below w.heap.size w w'):iE gl P f (Gz F b):=by
 refine Lu d ?_;intro u args ub aC t y z A g;obtain⟨x,l,rfl,i⟩:=wV g;obtain⟨rfl,j⟩:=Bh i;obtain⟨n,v,rfl,k⟩:=L4 j;obtain⟨o,p⟩:=oM k;obtain⟨q,a⟩:=oM p;rw[SI]at a;simp only[ay.ok.injEq]at a;obtain⟨rfl,rfl,rfl,rfl⟩:=a;have B:n<=4294967280:=dX o;exact⟨rfl,rfl,rfl,[.string (fd n v)],.string ⟨(F (iq n v)).toArray⟩,rfl,Tc _,rfl,λc w r=>h (fd n v) c w r (by rw[Kf];omega) (by rw[sV];exact q)⟩
end
end
section
variable{gl:eh}{P:Program}{f b q ub:Nat}{c:UInt8}{r:List UInt8}{aC s:cD}{o:fb}{a:ao}{d:List Nat}
section
variable[Tok]
def Rf(F:Int->List UInt8):jj:=λ_ l b aC=>b0 l λx l=>dF l (mT x λk n=>bB (pn k .i64) (bB (zR .i64 n) (uQ (F (intOf n)) λr=> .ok r b aC []) .aF) .aF)
theorem anY{F:Int->List UInt8}(j:Enters P f)
 (h:∀(n:Int) (c:Nat->Nat) (w:World),gl.p c w-> -9223372036854775808<=n->n<=9223372036854775807->Calls P f #[.int .i64 n] w λe w'=>e= .returned (.string ⟨(F n).toArray⟩)/\Below w.heap.size w w'):iE gl P f (Rf F):=by
 refine Lu j ?_;intro u args ub aC a D E G p;obtain⟨x,l,rfl,t⟩:=wV p;obtain⟨rfl,y⟩:=Bh t;obtain⟨k,n,rfl,z⟩:=acU y;obtain⟨A,B⟩:=oM z;obtain⟨g,i⟩:=oM B;rw[SI]at i;simp only[ay.ok.injEq]at i;obtain⟨rfl,rfl,rfl,rfl⟩:=i;obtain⟨rfl,_⟩:=zG A;rw[xV]at g;simp only[mP,cC,C0,GD]at g;have H:=dX g.1;have I:=dX g.2;exact⟨rfl,rfl,rfl,[.int .i64 (intOf n)],.string ⟨(F (intOf n)).toArray⟩,rfl,Tc _,rfl,λc w C=>h (intOf n) c w C (by unfold intOf;omega) (by unfold intOf;omega)⟩
def Ai(l:List UInt8):Bool:=l.all λc=>Nat.ble 32 c.toNat&&Nat.ble c.toNat 126&& !Nat.beq c.toNat 34&& !Nat.beq c.toNat 92
def Me(l:List UInt8):List UInt8:=34::(l++[34])
theorem at8(h:Ai (c::r)=true):(32<=c.toNat/\c.toNat<=126/\c.toNat≠34/\c.toNat≠92)/\Ai r=true:=by simp only[Ai,u4,cC,Bool.not_eq_true']at h;obtain⟨⟨⟨⟨j,k⟩,g⟩,i⟩,l⟩:=h;refine⟨⟨dX j,dX k,λe=>?_,λe=>?_⟩,l⟩;rw[e]at g;cases g;rw[e]at i;cases i
theorem awP(T:Lib.PrintTabs)(h:32<=c.toNat/\c.toNat<=126/\c.toNat≠34/\c.toNat≠92):
 Utf8.decode ⟨(c::r).toArray⟩ 0=(c.toNat,1)/\Lib.quoteStep T ⟨(c::r).toArray⟩=[(c.toNat:Int)]:=by
 have hd:Utf8.decode ⟨(c::r).toArray⟩ 0=(c.toNat,1):=by rw[Lib.decode_at];have e:(ByteArray.mk (c::r).toArray).get! 0=c:=rfl;rw[e];unfold Lib.decodeN;split;rfl;omega
 refine⟨hd,?_⟩;unfold Lib.quoteStep;rw[hd];simp only[true_and];rw[dU (by omega)];unfold Lib.escRune;rw[dU (by omega)];have g:Lib.isPrintR T (c.toNat:Int)=true:=by unfold Lib.isPrintR;rw[dr (by omega)];unfold Lib.isPrintLatin;simp;omega
 rw[dr g];unfold Lib.encodeRuneZ;rw[dr (by omega)]
theorem Kc(l:List UInt8):(ByteArray.mk l.toArray).size=l.length:=rfl
theorem adk(T:Lib.PrintTabs):∀(l:List UInt8) (f:Nat),l.length<=f->Ai l=true->Lib.quoteFrom T f ⟨l.toArray⟩=l.map λc=>(c.toNat:Int)
 |[],0,_,_=>rfl
 |[],f+1,_,_=>by unfold Lib.quoteFrom;rw[Kc,dU (by simp)];rfl
 |c::r,0,h,_=>by simp at h
 |c::r,f+1,h,e=>by
  obtain⟨g,i⟩:=at8 e;obtain⟨j,k⟩:=awP T (r:=r) g;have n:=adk T r f (by simpa using h) i;unfold Lib.quoteFrom;rw[dr (by rw[Kc];simp),j,k];have p:(ByteArray.mk (c::r).toArray).extract 1 (ByteArray.mk (c::r).toArray).size=⟨r.toArray⟩:=by apply ByteArray.ext;rw[Kc];simp[ByteArray.data_extract]
  rw[p,n];rfl
theorem auF(T:Lib.PrintTabs)(l:List UInt8)(h:Ai l=true):strOfNums (Lib.quoteZ T ⟨l.toArray⟩)=⟨(Me l).toArray⟩:=by
 unfold Lib.quoteZ;rw[Kc,adk T l l.length (dn _) h];unfold strOfNums Me;have e:(l.map λc:UInt8=>(c.toNat:Int)).map (λn:Int=>UInt8.ofNat n.toNat)=l:=by
  rw[yK]
  conv=>rhs;rw[<-List.map_id l]
  apply AX;intro c _;simp
 simp only[hN,oz,e,ny];rfl
def Cp(T q s:Nat):az->Option (Option az)
 |[.bo (.pointer none),c1]=>bif Nat.beq (Nat.mod s 65536) T then some (some [.aQ q s 0,c1]) else none
 |[.aQ e g 0,_]=>bif Nat.beq e q&&Nat.beq g s then some none else none
 |_=>none
def QA(q s:Nat)(b:Nat)(aC:cD)(x:Option (Option az)):ay:=
 @Option.rec (Option az) (λ_=>ay) .aF (λy=> @Option.rec az (λ_=>ay) (.ok (.bD []) b aC []) (λcs=> .ok (.bD []) b (aC.set q (.ae (.box s cs))) [q]) y) x
def Gy(T:Nat):jj:=λ_ l b aC=>b0 l λx l=>dF l (pE x (λ_ _=> .aF) (λq s o=>bB (Nat.beq o 0) (bB (Nat.ble (Nat.succ q) b)
 (mS (aC.get q).aj λe cs=>bB (Nat.beq s e) (QA q s b aC (Cp T q s cs)) .aF) .aF) .aF) (λ_ _ _ _=> .aF))
theorem Gj(h:q<b):g4 b aC q=fz (aC.get q).aj:=by show fz (b9 b aC q)=_;rw[h7 h]
theorem Zn(h:q<b):g4 b (aC.set q o)=dk (g4 b aC) q (fz o.aj):=by
 funext k;by_cases g:k<b;rw[Gj g,cD.CF];by_cases e:k=q;subst e;rw[dr rfl,jc];rw[dU e,h9 _ _ e,Gj g];have e:k≠q:=by omega
 rw[h9 _ _ e];show fz (b9 b _ k)=fz (b9 b _ k);rw[mh (by omega),mh (by omega)]
theorem acE{k:Nat}(h:k<b)(e:k≠q):b9 b (aC.set q o) k=b9 b aC k:=by rw[h7 h,h7 h,cD.CF,dU e]
theorem acV{x:ao}{e:az->Nat->ay}{f:Nat->Nat->Nat->ay}{g:Nat->Nat->Nat->Nat->ay}(h:pE x e f g= .ok a ub s d)(l:∀cs o,e cs o= .aF)(n:∀k s i o,g k s i o= .aF):
 ∃k s o,x= .aQ k s o/\f k s o= .ok a ub ‹cD› d:=by
 rcases Df (by rw[h];simp:pE x e f g≠ .aF) with⟨cs,o,rfl,j⟩|⟨k,s,o,rfl,j⟩|⟨k,s,i,o,rfl,j⟩;rw[j,l]at h;cases h;exact⟨k,s,o,rfl,by rw[<-j];exact h⟩;rw[j,n]at h;cases h
theorem acR{o:eQ}{f:Nat->az->ay}(h:mS o f= .ok a ub s d):∃g cs,o= .box g cs/\f g cs= .ok a ub s d:=by obtain⟨g,cs,e,i⟩:=L1 (by rw[h];simp:mS o f≠ .aF);exact⟨g,cs,e,by rw[<-i];exact h⟩
theorem anW{T:Nat}(n:Enters P f)
 (t:∀b w,w.cell? ⟨b,0,none⟩=some (.pointer (some ⟨b,0,none⟩))->Calls P f #[.pointer (some ⟨b,0,none⟩)] w λe w'=>e= .returned (.tuple #[])/\w'=w)
 (z:∀b w,w.cell? ⟨b,0,none⟩=some (.pointer none)->w.shape? b=some (T,2)->w.frozen? ⟨b,0,none⟩=false->
  Calls P f #[.pointer (some ⟨b,0,none⟩)] w λe w'=>e= .returned (.tuple #[])/\w'=w.setCell ⟨b,0,none⟩ (.pointer (some ⟨b,0,none⟩))):iE gl P f (Gy T):=by
 intro u _ args ub aC a R S V A;obtain⟨x,l,rfl,B⟩:=wV A;obtain⟨rfl,C⟩:=Bh B;obtain⟨q,s,o,rfl,D⟩:=acV C (λ_ _=>rfl) (λ_ _ _ _=>rfl);obtain⟨E,F⟩:=oM D;obtain⟨G,H⟩:=oM F;obtain⟨I,cs,J,K⟩:=acR H;obtain⟨L,h⟩:=oM K;have ho:o=0:=e8 E;have M:s=I:=e8 L;have p:q<ub:=dX G;subst ho M;have hd:g4 ub aC q= .box s (g0 cs):=by rw[Gj p,J];rfl
 unfold QA at h;cases g:Cp T q s cs with
 |none=>rw[g]at h;cases h
 |some y=>
  rw[g]at h;unfold Cp at g;split at g;rename_i c1;cases i:Nat.beq (Nat.mod s 65536) T with
  |false=>rw[i]at g;cases g
  |true=>rw[i]at g;simp only[e6,dN]at g;subst g;change (.ok (.bD []) ub (aC.set q (.ae (.box s [.aQ q s 0,c1]))) [q]:ay)=_ at h;simp only[ay.ok.injEq]at h;obtain⟨rfl,rfl,rfl,rfl⟩:=h;refine⟨?_,λk j N=>acE j (λe=>N (by rw[e];exact List.mem_singleton.2 rfl)),λk j=>by simp[ao.dl]at j⟩;rw[Zn p];exact afg n z (c1:=bk c1) (by exact e8 i) hd
  rename_i O Q c1;cases i:Nat.beq O q&&Nat.beq Q s with
  |false=>rw[i]at g;cases g
  |true=>rw[i]at g;simp only[e6,dN]at g;subst g;simp only[cC,k9]at i;obtain⟨rfl,rfl⟩:=i;change (.ok (.bD []) ub aC []:ay)=_ at h;simp only[ay.ok.injEq]at h;obtain⟨rfl,rfl,rfl,rfl⟩:=h;exact⟨afn n t (c1:=bk c1) hd,λ_ _ _=>rfl,λk j=>by simp[ao.dl]at j⟩
  cases g
def ue:bg->Option (List UInt8)
 |[]=>some []
 |[.ag .u8 n]::r=>bif Nat.ble 18446744073709551616 n&&Nat.ble n 18446744073709551871 then(match ue r with|some l=>some (UInt8.ofNat (Nat.sub n 18446744073709551616)::l)|none=>none) else none
 |_=>none
theorem Yy:∀{es:bg}{l:List UInt8},ue es=some l->lH es=l.map λc=>[aT.bo (.int .u8 c.toNat)]
 |[],l,h=>by simp only[ue,dN]at h;subst h;rfl
 |e::r,l,h=>by
  unfold ue at h;split at h;rename_i i;cases i;rename_i n p i;cases i;cases g:Nat.ble 18446744073709551616 n&&Nat.ble n 18446744073709551871 with
  |false=>rw[g]at h;cases h
  |true=>
   rw[g]at h;simp only[e6]at h;split at h;rename_i l' j;cases h;have k:=Yy j;simp only[cC]at g;have t:=dX g.1;have u:=dX g.2;rw[oO,hN,<-oO,k];simp only[hN,g0,bk,intOf];congr 4;have e:(UInt8.ofNat (Nat.sub n 18446744073709551616)).toNat=n-18446744073709551616:=by have:Nat.sub n 18446744073709551616=n-18446744073709551616:=rfl;rw[this];simp;omega
   rw[e];omega;cases h
  cases h
def MH(e b:Nat)(aC:cD)(cs:az):ay:=
 @Option.rec (Nat×List UInt8×Nat) (λ_=>ay) .aF (λp=>uQ p.2.1 λr=> .ok r b (aC.set p.1 (.ae (.aF p.2.2))) [p.1])
  (match cs with
   |[_,.aV g bZ 0 len]=>(match(aC.get g).aj with
    | .aV h e' 1 es _=>(match ue es with
      |some (c::l)=>bif Nat.beq bZ h&&Nat.beq e' e&&Nat.beq len (List.length (c::l))&&Nat.ble (Nat.succ g) b then some (g,c::l,bZ) else none
      |_=>none)
    |_=>none)
   |_=>none)
def GA(e:Nat):jj:=λ_ l b aC=>b0 l λx l=>dF l (pE x (λ_ _=> .aF) (λq s o=>bB (Nat.beq o 0) (bB (Nat.ble (Nat.succ q) b)
 (mS (aC.get q).aj λg cs=>bB (Nat.beq s g) (MH e b aC cs) .aF) .aF) .aF) (λ_ _ _ _=> .aF))
theorem anZ{e:Nat}(A:Enters P f)(B:∀(b r h:Nat) (p:Value) (t:Array Value) (T:TypeId) (l:List UInt8) (w:World),l≠[]->w.heap[b]? =some (.cells #[p,.slice (some ⟨r,0,none⟩) l.length h] T (0,0))->
 w.heap[r]? =some (.cells t e (0,0))->l.length<=h->h<=maxLen->t.size=h->(∀(j:Nat) (x:UInt8),l[j]? =some x->t[j]? =some (.int .u8 x.toNat))->
 Calls P f #[.pointer (some ⟨b,0,none⟩)] w λe w'=>e= .returned (.string ⟨l.toArray⟩)/\w'=w.drew.freeze ⟨r,0,none⟩ l.length):iE gl P f (GA e):=by
 intro u _ args ub aC a Z al ar C;obtain⟨x,l,rfl,D⟩:=wV C;obtain⟨rfl,E⟩:=Bh D;obtain⟨q,s,o,rfl,F⟩:=acV E (λ_ _=>rfl) (λ_ _ _ _=>rfl);obtain⟨G,H⟩:=oM F;obtain⟨I,J⟩:=oM H;obtain⟨K,cs,L,M⟩:=acR J;obtain⟨N,g⟩:=oM M;have ho:o=0:=e8 G;have O:s=K:=e8 N;have Q:q<ub:=dX I;subst ho O;have hd:g4 ub aC q= .box s (g0 cs):=by rw[Gj Q,L];rfl
 unfold MH at g;split at g;rename_i c0 i bZ len;split at g;rename_i R e' es bL S;split at g;rename_i c l V;cases n:Nat.beq bZ R&&Nat.beq e' e&&Nat.beq len (List.length (c::l))&&Nat.ble (Nat.succ i) ub with
 |false=>rw[n]at g;cases g
 |true=>rw[n]at g;simp only[cC,k9]at n;obtain⟨⟨⟨rfl,rfl⟩,W⟩,X⟩:=n;have z:i<ub:=dX X;change uQ (c::l) (λr=> .ok r ub (aC.set i (.ae (.aF bZ))) [i])=_ at g;rw[SI]at g;simp only[ay.ok.injEq]at g;obtain⟨rfl,rfl,rfl,rfl⟩:=g;refine⟨?_,λk y Y=>acE y (λe=>Y (by rw[e];exact List.mem_singleton.2 rfl)),λk y=>by simp[Mz,ao.dl,ao.fe,ao.key,ao.cJ]at y⟩;rw[Zn z,Tc];refine afm A B (c0:=bk c0) (l:=c::l) (bL:=bL) (by simp) ?_ ?_;rw[hd,W];rfl;rw[Gj z,S,<-Yy V];rfl
 cases g;cases g;cases g
end
end
section
variable{args:Array Value}
section
variable[Tok]
def qr(ro:Option Nat):Fence:={Fence.wide with round:=ro}
section
variable{P:Program}{n:Nat}{o:Oper}{a:Act}{w:World}{K:Act->World->Prop}{Q:Exit->Act->World->Prop}{ro:Option Nat}
theorem alE{f:FuncId}{R:Ending->World->Prop}(h:Calls P f args w R):CallsIn (qr ro) n P f args w R:=callsIn_wide.2 h
theorem avp{row:String}{R:Value->World->Prop}(h:Rows P row args w R):RowsIn (qr ro) n P row args w R:=λc cs _=>
 let⟨v,w',r,s⟩:=h c cs
 ⟨v,w',r,(stepsIn_wide (P:=P)).2 s⟩
def Sn:Exit->Act->World->Prop:=λ_ _ _=>False
theorem axG(hd:ro=none\/∀c,o.op≠ .defer c)(h:o.wp P a w K Sn):o.wpIn (qr ro) n P a w K Q:=by
 refine⟨λ_ _=>trivial,?_⟩;have e:o.semAt (qr ro).round a.eval=execOp a.eval o:=by rcases hd with rfl|hd;rfl;exact Oper.semAt_eq _ _ _ hd
 rw[e];unfold Oper.wp at h;generalize (execOp a.eval o).run P w=r at h ⊢;cases r with
 |ok x w'=>
  cases x with
  |enter f args=>
   refine⟨λh=>(by cases h),alE (Calls.mono h λe g b=>?_)⟩;cases e with
   |returned v=>exact b
   |panicked c=>exact b.elim
   |outgrown=>obtain⟨_,_,b⟩:=b;exact b.elim
  |row row args=>exact⟨λh=>(by cases h),avp h⟩
  |value v=>exact h
  |skip=>exact h
  |defer d=>exact h
  |_=>exact h.elim
 |halt x w'=>cases x<;>exact h.elim
theorem aeW{bS:Array Oper}{i:Nat}(hd:ro=none\/∀o c,bS[i]? =some o->o.op≠ .defer c)(h:wpOp P bS Sn i K a w):wpOpIn (qr ro) n P bS Q i K a w:=by
 unfold wpOpIn;unfold wpOp at h;cases ho:bS[i]? with
 |none=>rw[ho]at h;exact h
 |some o=>
  rw[ho]at h;simp only[]at h ⊢;cases b:Region.wanted o (yielded bS a.tmps) with
  |true=>rw[b]at h;rcases h with h|⟨_,_,_,h⟩;exact axG (hd.imp id λhd c=>hd o c ho) h;exact h.elim
  |false=>rw[b]at h;exact⟨λ_ _=>trivial,h⟩
theorem TN{bS:Array Oper}(hd:ro=none\/∀(i:Nat) (o:Oper) c,bS[i]? =some o->o.op≠ .defer c)(g:∀a w,K a w->Q .normal a w):∀(l:List Nat) (a:Act) (w:World),wpOps P bS (λe a w=>e= .normal/\K a w) l a w->wpOpsIn (qr ro) n P bS Q l a w
 |[],a,w,h=>g a w h.2
 |i::l,a,w,h=>by
  rw[wpOpsIn_cons];rw[wpOps_cons]at h;have h':wpOp P bS Sn i (wpOps P bS (λe a w=>e= .normal/\K a w) l) a w:=by
   unfold wpOp at h ⊢;cases ho:bS[i]? with
   |none=>rw[ho]at h;exact h
   |some o=>
    rw[ho]at h;simp only[]at h ⊢;cases j:Region.wanted o (yielded bS a.tmps) with
    |true=>
     rw[j]at h;left;rcases h with h|⟨_,_,_,h⟩;unfold Oper.wp at h ⊢;generalize (execOp a.eval o).run P w=r at h ⊢;cases r with
     |ok x w'=>
      cases x with
      |enter f args=>
       refine Calls.mono h λe k b=>?_;cases e with
       |returned v=>exact b
       |panicked c=>cases b.1
       |outgrown=>obtain⟨_,_,b⟩:=b;cases b.1
      |row row args=>exact h
      |value v=>exact h
      |skip=>exact h
      |defer d=>exact h
      |_=>exact h.elim
     |halt x w'=>
      cases x with
      |panic v=>cases h.1
      |_=>exact h.elim
     cases h.1
    |false=>rw[j]at h;exact h
  exact wpOpIn_mono (λa w h=>TN hd g l a w h) (aeW (hd.imp id λhd o c ho=>hd i o c ho) h')
end
section
variable{P:Program}{n m:Nat}{gl:eh}
theorem avi{l:Nat}{p:Loop}{B u:Array Oper}{F D:List dg}{bx N G:Nat}{H:jk}
 (hA:qd P H m false B B.toList=some F)(hB:qd P H m false u u.toList=some D)(kn:∀(i:Nat) (o:Oper) c,B[i]? =some o->o.op≠ .defer c)(zP:∀(i:Nat) (o:Oper) c,u[i]? =some o->o.op≠ .defer c)
 (b1:p.assign= .region bx B false)(b2:p.body= .block G (.region N u false))(cc:p.state= .ready)(em:p.pending=none)
 {g:cx}{w:World}{ob:cT}(I:n2 g w ob)(cn:gl.p g.af w)(O:w.heap[l]? =some (.loop p))(R:¬gM g ob l)
 {tmps:Array Value}(cs:tmps.size=m){aR:Nat->aT}(cu:∀i,dZ g w ob (aR i) (tmps.getD i undef))
 {S:Nat}{y:cT}(hp:kc gl P S false F ⟨aR,ob⟩ λq=>kc gl P S false D q λT=>sF ob T.bC y (.bo (.bool true))):
 RoundIn (qr none) n P l p.fn tmps p.assign p.body w λe w'=>e= .returned (.bool true)/\∃g',i9 g w ob g' w' y:=by
 have V:l<w.heap.size:=(nA.1 O).1;have rz:cL gl (g,ob,w,[]) m w.heap.size (gM g ob) g ⟨aR,ob⟩ {tmps:=tmps,defers:=[]} w:=
  ⟨cs,rfl,dn _,cu,I.h1,I.inj,λk C=>⟨.inr ⟨k,C,rfl⟩,I.lt k C⟩,⟨gb.refl _ _,gA.refl _ _⟩,cn⟩
 refine roundIn_of_wpIn trivial ?_;rw[b1,b2];obtain⟨cY,c0⟩:=Hi hA;obtain⟨c1,c2⟩:=Hi hB;refine wpIn_region ?_;have c3:∀c8 q t d,kc gl P S false D q (λT=>sF ob T.bC y (.bo (.bool true)))->cL gl (g,ob,w,[]) m w.heap.size (gM g ob) c8 q t d->eM w.heap.size (gM g ob) g.af w c8.af d->
  ∃J,(Instr.beginRound l).run P d= .ok () J/\(Code.block G (.region N u false)).wpIn ((qr none).inRound l) n P (roundPost P l λe w'=>e= .returned (.bool true)/\∃g',i9 g w ob g' w' y) t J:=by
  intro c8 q t d c4 g9 r;have z:d.heap[l]? =some (.loop p):=(r.block l V R).trans O;refine⟨_,run_beginRound z cc,?_⟩;have L:¬gM c8 q.bC l:=g9.yg V R;have put:∀{c8:cx}{q:cK}{t:Act}{d:World}{a2:Loop} (W:Loop),cL gl (g,ob,w,[]) m w.heap.size (gM g ob) c8 q t d->d.heap[l]? =some (.loop a2)->¬gM c8 q.bC l->cL gl (g,ob,w,[]) m w.heap.size (gM g ob) c8 q t (d.putObj l (.loop W)):=by
   intro c8 q t d a2 W g9 z L;have c5:gA c8.af d c8.af (d.putObj l (.loop W)):=⟨by simp,λ_ _=>dn _,λb i _ _=>by by_cases e:b=l;subst e;rw[Cn z,Cn (World.putObj_heap_same (nA.1 z).1)];simp only[World.cell?,World.putObj_heap_other e]⟩
   exact g9.v3 q.bC (λ_=>False) c5 (gb.refl _ _) (λ_ _=>rfl) (λk _ C=>⟨rfl,rfl,rfl,World.putObj_heap_other (λe=>L ⟨k,C,e⟩)⟩) (λk C=>C.elim)
  have gZ:=put {p with state:= .busy} g9 z L;refine wpIn_block (wpIn_region (TN (ro:=some l) (Q:=Exit.inBlock G (roundPost P l λe w'=>e= .returned (.bool true)/\∃g',i9 g w ob g' w' y)) (K:=λX w'=>roundPost P l (λe w'=>e= .returned (.bool true)/\∃g',i9 g w ob g' w' y) .normal X w') (.inr zP) (λX w' h=>h) _ _ _ ?_));have dd:(d.putObj l (.loop {p with state:= .busy})).heap.size=d.heap.size:=by simp
  have a4:(d.putObj l (.loop {p with state:= .busy})).heap[l]? =some (.loop {p with state:= .busy}):=World.putObj_heap_same (nA.1 z).1;have a5:∀b,b≠l->(d.putObj l (.loop {p with state:= .busy})).heap[b]? =d.heap[b]? :=λb A=>World.putObj_heap_other A;have M:(d.putObj l (.loop {p with state:= .busy})).os=d.os/\(d.putObj l (.loop {p with state:= .busy})).tape=d.tape/\(d.putObj l (.loop {p with state:= .busy})).output=d.output:=⟨rfl,rfl,rfl⟩;generalize d.putObj l (.loop {p with state:= .busy})=J at gZ dd a4 a5 M ⊢;have en:l<d.heap.size:=(nA.1 z).1;rw[List.range_eq_range',show u.size=D.length by simpa using c1];refine MD (P:=P) (n:=m) (bS:=u) (bu:=false) D 0 c8 q t J (λj Y Z=>by obtain⟨o,ho,hr⟩:=c2 j Y Z;exact⟨o,by simpa using ho,hr⟩) c4 gZ.Mu (eM.refl _ _ _ _) (λih s3 a3 bd al n1 x=>⟨rfl,?_⟩);have ar:bd.heap[l]? =some (.loop {p with state:= .busy}):=(x.block l (by omega) L).trans a4;obtain⟨bs,_⟩:=gZ.MZ n1 x;have ds:¬gM ih s3.bC l:=bs.yg V R;refine⟨_,_,run_endRound none ar,rfl,ih,?_⟩;have iF:=put {p with state:= .ready,pending:=none} bs ar ds;have dt:({p with state:= .ready,pending:=none}:Loop)=p:=by cases p;simp_all
  rw[dt]at iF;have dz:({({p with state:= .busy}:Loop) with state:=if(none:Option Code).isNone then .ready else .done,pending:=none}:Loop)=p:=by cases p;simp_all
  rw[dz];have ee:l<bd.heap.size:=(nA.1 ar).1;refine cL.after I iF ⟨?_,?_,?_,?_,λb A E=>?_,λb A E=>?_⟩ al;exact x.os.trans (M.1.trans r.os);exact x.tape.trans (M.2.1.trans r.tape);exact x.output.trans (M.2.2.trans r.output);have eq:=r.size;have h3:=x.size;simp;omega;by_cases e:b=l;subst e;rw[World.putObj_heap_same ee,O];rw[World.putObj_heap_other e,x.block b (by have:=r.size;omega) (g9.yg A E),a5 b e,r.block b A E];rw[x.af b (by have:=r.size;omega) (g9.yg A E),r.af b A E]
 refine TN (ro:=some l) (K:=λa₁ w₁=>∃w₂,(Instr.beginRound l).run P w₁= .ok () w₂/\(Code.block G (.region N u false)).wpIn ((qr none).inRound l) n P (roundPost P l λe w'=>e= .returned (.bool true)/\∃g',i9 g w ob g' w' y) a₁ w₂) (.inr kn) (λX w' h=>h) _ _ _ ?_;rw[List.range_eq_range',show B.size=F.length by simpa using cY];exact MD (P:=P) (n:=m) (bS:=B) (bu:=false) F 0 g ⟨aR,ob⟩ _ w (λj Y Z=>by obtain⟨o,ho,hr⟩:=c0 j Y Z;exact⟨o,by simpa using ho,hr⟩) hp rz (eM.refl _ _ _ _) (λc8 q t d al g9 r=>⟨rfl,c3 c8 q t d al g9 r⟩)
end
end
end
section
variable[Tok]
def yV(bs:Nat)(a:dg)(d:cK->cK->Prop)(s b:cK):Prop:=
 d s b/\(∀l,l∉hj a->e2 bs b l=e2 bs s l)/\
 ∀t,(∀l∈o7 a++hj a,e2 bs t l=e2 bs s l)->∃c,d t c/\(∀l∈hj a,e2 bs c l=e2 bs b l)/\∀l,l∉hj a->e2 bs c l=e2 bs t l
def sG(jF:Value)(k0 s0 sz bs:Nat)(b:dg)(s d:cK):Prop:=
 ∃f x g,b.ak= .hK f [x] g/\
 ((lu s.aI b.guard=some false/\d=⟨put s.aI b.dst (.bD []),s.bC⟩)\/
  (lu s.aI b.guard=some true/\eX s.aI f= .bo jF/\∃cs a c r e,eX s.aI x= .agg (.bo c::cs)/\(.bo c::cs:eb).flatMap aT.dl=[]/\cs.length=sz/\s.bC k0= .box s0 [.bo a]/\Az .and a c=some r/\
   e+10≠k0/\¬(s.bC (e+10)).gg/\d=⟨put s.aI b.dst (.bo (.bool true)),dk s.bC k0 (.box s0 [.bo r])⟩))
theorem sG.uE{jF:Value}{k0 s0 sz bs:Nat}{d:dg}{s p:cK}(D:4097∈d.cb)(E:nb d.cb=[])(q:gj bs k0∈d.bG)(h:sG jF k0 s0 sz bs d s p):yV bs d (sG jF k0 s0 sz bs d) s p:=by
 have Q:∀(f:cT) (o:Obj) (k:Nat),k≠k0->dk f k0 o k=f k:=λf o k F=>h9 _ _ F;refine⟨h,λl b=>?_,λt g=>?_⟩;obtain⟨f,x,i,e,⟨_,rfl⟩|⟨_,_,cs,a,c,r,u,_,_,_,_,_,_,_,rfl⟩⟩:=h;exact tx (us:=[]) (by simp) l b;exact tx (us:=[(k0,.box s0 [.bo r])]) (by simpa using q) l b;have w:t.bC=s.bC:=by funext k;have:=g (.inr (gj bs k)) (by simp only[o7,fq,ia];exact .inl (.inr ⟨_,ab4 D (by rw[E];simp),rfl⟩));simp only[e2,st,tm]at this;exact this k rfl
 have z:lu t.aI d.guard=lu s.aI d.guard:=TL (λl b=>g l (by simp[b]));have A:∀y∈d.ak.eY,eX t.aI y=eX s.aI y:=ZC (λl b=>g l (by simp[b]));have C:∀l∈hj d,e2 bs t l=e2 bs s l:=λl b=>g l (by simp[b]);obtain⟨f,x,i,e,⟨j,rfl⟩|⟨j,G,cs,a,c,r,u,H,I,J,K,L,M,N,rfl⟩⟩:=h;exact⟨_,⟨f,x,i,e,.inl ⟨by rw[z];exact j,rfl⟩⟩,λl b=>Dx (us:=[]) C l b,λl b=>tx (us:=[]) (by simp) l b⟩;refine⟨⟨put t.aI d.dst (.bo (.bool true)),dk t.bC k0 (.box s0 [.bo r])⟩,⟨f,x,i,e,.inr ⟨by rw[z];exact j,?_,cs,a,c,r,u,?_,I,J,by rw[w];exact K,L,M,by rw[w];exact N,rfl⟩⟩,λl b=>Dx (us:=[(k0,.box s0 [.bo r])]) C l b,λl b=>tx (us:=[(k0,.box s0 [.bo r])]) (by simpa using q) l b⟩;rw[A f (by rw[e];simp[dO.eY])];exact G;rw[A x (by rw[e];simp[dO.eY])];exact H
section
variable{P:Program}{gl:eh}{n m bs B:Nat}{O:Nat->Prop}{ph:cx×cT×World×List Deferred}{c0:Nat->Nat}{w0:World}
def qj(gl:eh)(P:Program)(bs:Nat)(b:dg->cK->cK->Prop)(jW:dg->Bool):List dg->cK->(cK->Prop)->Prop
 |[],s,K=>K s
 |o::os,s,K=>if jW o then∃a,b o s a/\qj gl P bs b jW os a K else mW gl P bs true o s λa=>qj gl P bs b jW os a K
theorem aez{c:dg->cK->cK->Prop}{jW:dg->Bool}{e:cK->Prop}(k:∀a s b,jW a=true->c a s b->yV bs a (c a) s b):∀(du:List dg) (s:cK),(∀a∈du,a.ak.sc=true->gj bs (bs+a.ak.off+a.dst.getD 0)∈a.bG)->qj gl P bs c jW du s e->
 ∃gx:Nat->cK,gx 0=s/\e (gx du.length)/\∀(i:Nat) (a:dg),du[i]? =some a->yV bs a (if jW a then c a else rG gl P bs true a) (gx i) (gx (i+1))
 |[],s,_,h=>⟨λ_=>s,rfl,h,by simp⟩
 |a::du,s,l,h=>by
  have step:∃b,yV bs a (if jW a then c a else rG gl P bs true a) s b/\qj gl P bs c jW du b e:=by unfold qj at h;by_cases hi:jW a=true;rw[dr hi]at h ⊢;obtain⟨b,o,p⟩:=h;exact⟨b,k a s b hi o,p⟩;rw[dU hi]at h ⊢;obtain⟨b,g,j⟩:=y1.LW (l a (by simp)) h;exact⟨b,g,j⟩
  obtain⟨b,g,j⟩:=step;obtain⟨gx,r,t,u⟩:=aez k du b (λq d=>l q (by simp[d])) j;refine⟨λi=>match i with|0=>s|i+1=>gx i,rfl,t,λi q d=>?_⟩;cases i with
  |zero=>simp at d;subst d;show yV bs a _ s (gx 0);rw[r];exact g
  |succ i=>exact u i q (by simpa using d)
theorem af1{Q:Exit->Act->World->Prop}{bS:Array Oper}{du:List dg}{gx:Nat->cK}{E:dg->cK->cK->Prop}{bt:Nat}(A:wD bs bS du)(M:∀(j:Nat) (c:dg),du[j]? =some c->∃o,bS[j]? =some o/\rK P n bS o c)
 (F:∀(i:Nat) (c:dg),du[i]? =some c->yV bs c (E c) (gx i) (gx (i+1)))
 (N:∀(i:Nat) (c:dg) (o:Oper) (t u:cK) (g:cx) (a:Act) (w:World) (K:Act->World->Prop),du[i]? =some c->bS[i]? =some o->rK P n bS o c->E c t u->cL gl ph n B O g t a w->eM B O c0 w0 g.af w->qD gl ph n B O g w u K->wpOpIn (qr none) bt P bS Q i K a w)
 (R:∀g' C w',cL gl ph n B O g' (gx du.length) C w'->eM B O c0 w0 g'.af w'->Q .normal C w'):
 ∀(fuel:Nat) (b:Array Bool) (t:cK) (g:cx) (a:Act) (w:World),b.toList.count false<=fuel->n4 bs bS du gx b t->cL gl ph n B O g t a w->eM B O c0 w0 g.af w->wpAnyIn (qr none) bt P .any bS Q fuel b a w:=by
 have G:∀(i:Nat) (c:dg),du[i]? =some c->∀l,l∉hj c->e2 bs (gx (i+1)) l=e2 bs (gx i) l:=λi c h=>(F i c h).2.1;have H:∀(b:Array Bool) (t:cK) (g:cx) (a:Act) (w:World),n4 bs bS du gx b t->cL gl ph n B O g t a w->eM B O c0 w0 g.af w->Region.ready .any bS b=[]->Q .normal a w:=by intro b t g a w d k p D;have e:=n4.done G d (Uv A d.size D);rw[e]at k;exact R g a w k p
 intro fuel;induction fuel with
 |zero=>
  intro b t g a w S d k p;have D:Region.ready .any bS b=[]:=by
   refine DJ.2 (λj x=>?_);rw[DN]at x;obtain⟨q,o,ho,_⟩:=x;have r:j<b.size:=by rw[d.size];exact(nA.1 ho).1
   have:false∈b.toList:=by simp[l1,r]at q;exact q▸(by simp)
   have:=List.count_pos_iff.2 this;omega
  exact⟨D,H b t g a w d k p D⟩
 |succ fuel T=>
  intro b t g a w S d k p;refine⟨H b t g a w d k p,λj x=>?_⟩;rw[DN]at x;obtain⟨q,o,ho,V⟩:=x;have I:j<bS.size:=(nA.1 ho).1;have r:j<b.size:=by rw[d.size];exact I
  have W:j<du.length:=by rw[<-A.size];exact I
  have y:=fo W;have J:¬iJ b j:=by simp[l1,r]at q;simp[iJ,l1,r,q]
  have L:∀o' e,bS[j]? =some o'->e∈o'.after->Region.binds .any e=true->iJ b e.on:=by intro o' e z X Y;rw[ho]at z;cases z;exact V e X Y
  obtain⟨u,Z,al,ar⟩:=(F j _ y).2.2 t (n4.Bf A G d y J L);obtain⟨o',z,a1⟩:=M j _ y;rw[ho]at z;cases z;refine N j _ o t u g a w _ y ho a1 Z k p (λg' C w' a2 a3=>?_);refine T _ u g' C w' ?_ (n4.next A d y J L al ar) a2 (p.trans a3);have a4:b.toList[j]? =some false:=by simp[l1,r]at q;simp[r,q]
  have:=Qz b.toList j a4;rw[Array.toList_setIfInBounds];omega
end
end
section
variable{o:Oper}{a:Act}{w:World}{l k0 s0:Nat}{L:Loop}{bS:Array Oper}{g:cx}{Q:Exit->Act->World->Prop}
section
variable[Tok]
structure yZ (P:Program) (m:Nat) where
 qe:Array Oper
 o0:Array Oper
 ym:List dg
 v4:List dg
 CL:Nat
 xT:Nat
 vP:Nat
 aE:jk
 q8:Nat
 k8:Nat
 au:Nat
 df:qd P aE m false qe qe.toList=some ym
 dq:qd P aE m false o0 o0.toList=some v4
 kn:∀(i:Nat) (o:Oper) c,qe[i]? =some o->o.op≠ .defer c
 zP:∀(i:Nat) (o:Oper) c,o0[i]? =some o->o.op≠ .defer c
 aa0:q8<m
 vO:k8≠q8
 pure:∀(gl:eh) (k0 s0 kf:Nat) (cs:eb) (a c r:Value) (ob:cT),ob k0= .box s0 [.bo a]->Az .and a c=some r->cs.length=au->kf+10≠k0->¬(ob (kf+10)).gg->(.bo c::cs:eb).flatMap aT.dl=[]->
  kc gl P kf false ym ⟨λi=>if i=k8 then .aQ k0 s0 0 else if i=q8 then .agg (.bo c::cs) else .undef,ob⟩ λs1=>kc gl P kf false v4 s1 λs2=>sF ob s2.bC (dk ob k0 (.box s0 [.bo r])) (.bo (.bool true))
structure IN {P:Program}{m:Nat} (D:yZ P m) (L:Loop):Prop where
 assign:L.assign= .region D.CL D.qe false
 body:L.body= .block D.vP (.region D.xT D.o0 false)
 state:L.state= .ready
 pending:L.pending=none
 params:L.params= #[D.q8]
 size:L.tmps.size=m
section
variable{P:Program}{gl:eh}{n m bs B:Nat}{O:Nat->Prop}{ph:cx×cT×World×List Deferred}{c0:Nat->Nat}{w0:World}
theorem avE{f x:Operand}{c:Array TypeId}{p:Nat}(ho:o.op= .call {callee:= .value f,args:=[x].toArray,argTypes:=c})(d:a.eval f= .func (.yield l) #[] #[])
 (e:w.heap[l]? =some (.loop L))(b:L.params= #[p]):(execOp a.eval o).run P w= .ok (.round l L.fn (L.tmps.setIfInBounds p (a.eval x)) L.assign L.body) w:=by
 have h:=run_yield (P:=P) (args:= #[a.eval x]) e (by rw[b];rfl);rw[b]at h;simp only[execOp,ho,resolve,d,Deferred.ofValue,fy,g7,fU,invoke];simpa using h
theorem awF(D:yZ P m)(b:IN D L){i bt:Nat}{E:dg}{t G:cK}{K:Act->World->Prop}
 (T:w0.heap[l]? =some (.loop L))(I:l<B)(J:¬O l)(V:dZ ph.1 ph.2.2.1 ph.2.1 (.aQ k0 s0 0) (L.tmps.getD D.k8 undef))(hi:bS[i]? =some o)(j:rK P n bS o E)
 (W:sG (.func (.yield l) #[] #[]) k0 s0 D.au bs E t G)(F:cL gl ph n B O g t a w)(X:eM B O c0 w0 g.af w)(d:qD gl ph n B O g w G K):wpOpIn (qr none) bt P bS Q i K a w:=by
 obtain⟨M,hd,N,hg⟩:=id j;obtain⟨f,x,b2,Y,h⟩:=W;unfold wpOpIn;rw[hi];simp only[];rcases h with⟨k,rfl⟩|⟨k,Z,cs,a',c,r,kf,h3,al,ar,a1,a2,a3,a4,rfl⟩;rw[DG F j k];simp only[io,hV];refine⟨λ_ _=>trivial,?_⟩;rw[M]at d;exact d g _ w (F.put o.dst hd (p:= .bD []) (v:=undef) (.inr (.inr (.inr (.inl ⟨[],[],rfl,rfl,rfl,by simp⟩))))) (eM.refl _ _ _ _);rw[DG F j k];simp only[gF];rw[Y]at N;obtain⟨cc,ho,a5,bd⟩:=N;have y:=F.ga a5;change dZ g w t.bC (eX t.aI f) _ at y;rw[Z]at y;have R:w.heap[l]? =some (.loop L):=(X.block l I J).trans T;have S:=F.ga (kg.1 bd x (by simp));change dZ g w t.bC (eX t.aI x) _ at S;refine⟨λ_ _=>trivial,?_⟩;show o.uponIn (qr none) bt P a K Q ((execOp a.eval o).run P w);rw[avE ho y.fY.1 R b.params];refine⟨λh=>(by cases h),?_⟩;refine RoundIn.mono (avi D.df D.dq D.kn D.zP b.assign b.body b.state b.pending F.heap F.oR R (F.yg I J) (by simp[b.size]) (λi=>?_) (D.pure gl k0 s0 kf cs a' c r t.bC a1 a2 ar a3 a4 al)) ?_;show dZ g w t.bC (if i=D.k8 then .aQ k0 s0 0 else if i=D.q8 then .agg (.bo c::cs) else .undef) _;by_cases A:i=D.k8;rw[dr A,A];have e:(L.tmps.setIfInBounds D.q8 (a.eval x)).getD D.k8 undef=L.tmps.getD D.k8 undef:=by rw[l1,l1,Array.getElem?_setIfInBounds_ne (Ne.symm D.vO)]
 rw[e];exact V.step F.mO.2 F.mO.1;rw[dU A];by_cases C:i=D.q8;rw[dr C,C];have e:(L.tmps.setIfInBounds D.q8 (a.eval x)).getD D.q8 undef=a.eval x:=by
  have bx:D.q8<L.tmps.size:=by rw[b.size];exact D.aa0
  rw[l1];simp[bx]
 rw[e,<-h3];exact S;rw[dU C];exact .inl rfl;rintro e w' ⟨rfl,g',hA⟩;obtain⟨gZ,b1⟩:=F.xw hA;rw[M]at d;exact d g' _ w' (gZ.put o.dst hd (dZ.bo rfl)) b1
def jW(b:dg):Bool:=match b.ak with
 | .hK (.tmp _) [_] _=>b.cb.contains 4097&&(nb b.cb).isEmpty&&b.bG.contains 4096&&b.bG.contains 4098
 |_=>false
theorem aoz{jF:Value}{sz:Nat}(p:k0<bs)(b:dg)(s c:cK)(h:jW b=true)(d:sG jF k0 s0 sz bs b s c):yV bs b (sG jF k0 s0 sz bs b) s c:=by unfold jW at h;split at h;simp only[cC,List.contains_iff_mem,List.isEmpty_iff]at h;obtain⟨⟨⟨e,i⟩,j⟩,k⟩:=h;refine sG.uE e i ?_ d;unfold gj;rw[dU (by omega)];split;exact j;exact k;cases h
theorem awb(D:yZ P m)(I:IN D L){id:Nat}{du:List dg}{s:cK}{y:cK->Prop}
 (J:w0.heap[l]? =some (.loop L))(M:l<B)(N:¬O l)(R:dZ ph.1 ph.2.2.1 ph.2.1 (.aQ k0 s0 0) (L.tmps.getD D.k8 undef))(S:k0<bs)(T:P.follows .mixedOrders=true)(A:wD bs bS du)
 (V:∀(j:Nat) (b:dg),du[j]? =some b->∃o,bS[j]? =some o/\rK P n bS o b)(W:qj gl P bs (sG (.func (.yield l) #[] #[]) k0 s0 D.au bs) jW du s y)(h:cL gl ph n B O g s a w)(X:eM B O c0 w0 g.af w)
 (Y:∀g' d e w',y d->cL gl ph n B O g' d e w'->eM B O c0 w0 g'.af w'->Q .normal e w'):(Code.region id bS true).wp P Q a w:=by
 obtain⟨gx,Z,hn,al⟩:=aez (gl:=gl) (P:=P) (λb s d=>aoz S b s d) du s A.sc W;refine(wpIn_wide (n:=0)).1 (wpIn_region_any T ?_);show wpAnyIn (qr none) 0 P .any bS Q bS.size (Array.replicate bS.size false) a {w with drawn:=w.drawn+1};refine af1 A V al (λi b o t t' g a w K ar ho C k r x E=>?_) (λg' e w' r x=>Y g' _ e w' hn r x) bS.size _ s g a _ ?_ ?_ (h.drew _) (X.trans (eM.drew _ _ _ _ _));by_cases F:jW b=true;rw[dr F]at k;exact awF D I J M N R ho C k r x E;rw[dU F]at k;exact aeW (.inl rfl) (Ti r ho C k E);simp;have G:∀j,¬iJ (Array.replicate bS.size false) j:=by intro j c;simp only[iJ,l1,Array.getElem?_replicate]at c;split at c<;>simp at c
 refine⟨by simp,λj c=>?_,λl _=>by rw[Z],λl i p hi=>?_⟩;exact absurd c (G j);exact absurd hi (G i)
end
def lG(P:Program)(H:jk)(n:Nat)(q:Code->Option Nat):Code->hJ
 | .skip=> .skip
 | .region id bS bu=>match q (.region id bS bu) with|some k=> .mI k|none=>Ax P H n bS bu
 | .seq a b=> .seq (lG P H n q a) (lG P H n q b)
 | .cond c a b=>if c6 c then .cond c (lG P H n q a) (lG P H n q b) else oL
 | .block id b=> .block id (lG P H n q b)
 | .loop b=> .loop (lG P H n q b)
 | .exit id=> .exit id
 | .label _=> .skip
 | .ret=> .ret
 | .rangeFunc g ps a c=>match q (.rangeFunc g ps a c) with|some k=> .mI k|none=>oL
 |_=>oL
section
variable{P:Program}{H:jk}{n B bs:Nat}{O:Nat->Prop}{gl:eh}{dB:cx}{z:cT}{u:World}{c0:Nat->Nat}{w0:World}{q:Code->Option Nat}
def Nn(gl:eh)(P:Program)(n bs B:Nat)(O:Nat->Prop)(dB:cx)(z:cT)(u:World)(c0:Nat->Nat)(w0:World)(c:Code)(k:Nat):Prop:=
 ∀(d:cK->Prop) (Q:Exit->Act->World->Prop) (g:cx) (s:cK) (a:Act) (w:World) (e:List Deferred),gl.ig k bs s d->cL gl (dB,z,u,e) n B O g s a w->ld P B (gM g s.bC) w e->eM B O c0 w0 g.af w->
  (∀g' b h w' i,d b->cL gl (dB,z,u,i) n B O g' b h w'->ld P B (gM g' b.bC) w' i->eM B O c0 w0 g'.af w'->Q .normal h w')->c.wp P Q a w
def tL(q:Code->Option Nat)(e:Code->Nat->Prop):Code->Prop
 | .region id bS d=>∀k,q (.region id bS d)=some k->e (.region id bS d) k
 | .rangeFunc g ps a c=>∀k,q (.rangeFunc g ps a c)=some k->e (.rangeFunc g ps a c) k
 | .seq a b=>tL q e a/\tL q e b
 | .cond _ a b=>tL q e a/\tL q e b
 | .block _ b=>tL q e b
 | .loop b=>tL q e b
 |_=>True
theorem av9(hm:P.follows .mixedOrders=true):∀(c:Code),tL q (Nn gl P n bs B O dB z u c0 w0) c->∀(t:m4->cK->Prop) (Q:Exit->Act->World->Prop) (g:cx) (s:cK) (a:Act) (w:World) (j:List Deferred),
 iw gl P bs (lG P H n q c) t s->cL gl (dB,z,u,j) n B O g s a w->ld P B (gM g s.bC) w j->eM B O c0 w0 g.af w->
 (∀x g' A C w' G,t x A->cL gl (dB,z,u,G) n B O g' A C w'->ld P B (gM g' A.bC) w' G->eM B O c0 w0 g'.af w'->Q (AE x) C w')->c.wp P Q a w:=by
 intro c M;induction c with
 |skip=>intro t Q g s a w j d h D E p;exact wp_skip (p .normal g s a w j d h D E)
 |region id bS bu=>intro t Q g s a w j d h D E p;simp only[lG]at d;split at d;rename_i k F;exact M _ F (t .normal) Q g s a w j d h D E (λg' A C w' G=>p .normal g' A C w' G);refine Th hm d h.Mu (eM.refl _ _ _ _) (λx g' A C w' hq J I=>?_);obtain⟨gZ,al⟩:=h.MZ J I;refine p x g' A C w' j hq gZ (D.step I.size (λr T Y _=>⟨I.block r T Y,?_⟩)) (E.trans al);rintro⟨k,hl,rfl⟩;rcases(J.hP k hl).1 with Z|Z;omega;exact Y Z
 |seq x y N R=>
  intro t Q g s a w j d h D E p;have N:=N M.1;have R:=R M.2;refine wp_seq (N (tz (qq (iw gl P bs (lG P H n q y) t)) t) _ g s a w j d h D E (λe g' A C w' G F J K I=>?_));cases e with
  |normal=>obtain⟨V,W,F⟩:=F;exact R t Q g' ⟨V,A.bC⟩ C w' G F (J.qq W) K I p
  |exit i=>exact p (.exit i) g' A C w' G F J K I
  |ret=>exact p .ret g' A C w' G F J K I
 |cond c x y N R=>intro t Q g s a w j d h D E p;have N:=N M.1;have R:=R M.2;simp only[lG]at d;split at d;rename_i hc;have e:=h.ga hc;simp only[iw]at d;split at d;rename_i X;rw[X]at e;exact wp_cond_true e.fY.1 (N t Q g s a w j d h D E p);rename_i X;rw[X]at e;exact wp_cond_false e.fY.1 (R t Q g s a w j d h D E p);exact d.elim;exact(oo d).elim
 |block id b S=>
  intro t Q g s a w j d h D E p;have S:=S M;refine wp_block (S (vR id t) _ g s a w j d h D E (λe g' A C w' G F J K I=>?_));cases e with
  |normal=>exact p .normal g' A C w' G F J K I
  |exit i=>simp only[vR]at F;simp only[AE,Exit.inBlock];by_cases hi:i=id;rw[dr hi]at F ⊢;exact p .normal g' A C w' G F J K I;rw[dU hi]at F ⊢;exact p (.exit i) g' A C w' G F J K I
  |ret=>exact p .ret g' A C w' G F J K I
 |loop b S=>
  intro t Q g s a w j d h D E p;have S:=S M;obtain⟨m,T⟩:=d;refine wp_loop_rounds m ?_;induction m generalizing g s a w j with
  |zero=>exact T.elim
  |succ m ar=>
   obtain⟨V,W,T⟩:=T;refine S (tz (rounds (iw gl P bs (lG P H n q b)) t m) t) _ g ⟨V,s.bC⟩ a w j T (h.qq W) D E (λe g' A C w' G F J K I=>?_);cases e with
   |normal=>exact ar g' A C w' G J K I F
   |exit i=>exact p (.exit i) g' A C w' G F J K I
   |ret=>exact p .ret g' A C w' G F J K I
 |exit id=>intro t Q g s a w j d h D E p;exact wp_exit (p (.exit id) g s a w j d h D E)
 |label l=>intro t Q g s a w j d h D E p;exact wp_label (p .normal g s a w j d h D E)
 |ret=>intro t Q g s a w j d h D E p;exact wp_ret (p .ret g s a w j d h D E)
 |rangeFunc a1 ps assign body=>intro t Q g s a w j d h D E p;simp only[lG]at d;split at d;rename_i k F;exact M _ F (t .normal) Q g s a w j d h D E (λg' A C w' G=>p .normal g' A C w' G);exact(oo d).elim
 |scope _=>intro t Q g s a w j d;exact(oo d).elim
 |goto _=>intro t Q g s a w j d;exact(oo d).elim
 |refuse _=>intro t Q g s a w j d;exact(oo d).elim
end
theorem YL{P:Program}{gl:eh}{H:jk}{q:Code->Option Nat}{f:Nat}{fn:Func}{body:Code}{args:eb}{ob d:cT}{h:aT}(bs:Nat)(fj:List Bool)(fT:List jS)(J:P.follows .mixedOrders=true)(K:P.funcs[f]? =some fn)(M:fn.body=some body)
 (N:args.length<=fn.ntmps)(D:oq P fn.results.toList=some fT){vs:List Value}(R:gl.p g.af w)(E:n2 g w ob)(S:tJ g w ob args vs)
 (T:tL q (Nn gl P fn.ntmps bs w.heap.size (gM g ob) g ob w g.af w) body)
 (V:iw gl P bs (lG P H fn.ntmps q body) (Fin fj fT ob d h) (nM args ob)):Calls P f vs.toArray w λe w'=>∃v g',e= .returned v/\i9 g w ob g' w' d/\dZ g' w' d h v:=by
 have rz:=cL.start R E S N;refine YM K M ?_;refine av9 (bs:=bs) (c0:=g.af) (w0:=w) J body T (Fin fj fT ob d h) _ g (nM args ob) _ w [] V rz trivial (eM.refl _ _ _ _) ?_;have F:∀g' b j w' k,(∃t r us,nX b fT=some t/\mN b.bC fj t=some (r,us)/\r.all nt=true/\h=tq r/\sF ob (fE b.bC us) d h)->cL gl (g,ob,w,k) fn.ntmps w.heap.size (gM g ob) g' b j w'->ld P w.heap.size (gM g' b.bC) w' k->eM w.heap.size (gM g ob) g.af w g'.af w'->
  yS P fn j.tmps (λe w'=>∃v g',e= .returned v/\i9 g w ob g' w' d/\dZ g' w' d h v) j.defers w':=by
  rintro g' ⟨aR,cN⟩ a w' k ⟨t,r,us,G,W,X,rfl,I⟩ c y p;rw[c.defers];refine Ls c y p (λa3 c p=>?_);obtain⟨A,Y,a4,Z,al,a5⟩:=S0 (fn:=fn) c D G;obtain⟨cX,gZ,ar,_,bd,a1,a2⟩:=HI fn.results.toList fj fT t r us A g' cN c (kG.refl cN) D G Z al W;refine⟨uR A,Y,uR A,cX,rfl,gZ.after E (p.trans ar) I,?_⟩;exact(dZ.Sz a1 a2 X).ed I.bW
 intro x g' b j w' k C c y p;cases x with
 |exit i=>exact C.elim
 |normal=>exact F g' b j w' k C c y p
 |ret=>exact F g' b j w' k C c y p
end
end
end Go.Hf

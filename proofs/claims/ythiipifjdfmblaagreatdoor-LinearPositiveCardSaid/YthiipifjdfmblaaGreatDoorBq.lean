import Derived.Test.YthiipifjdfmblaaGreatDoorBo
import Derived.Test.YthiipifjdfmblaaGreatDoorBp
import Derived.Test.YthiipifjdfmblaaGreatDoorCards
set_option linter.all false
namespace Go.Proofs.YthiipifjdfmblaaGreatDoor
open Go Go.Hf Go.ChangeShapes Go.WideShapes Go.ChangeAt Go.WideMaps Go.WideElems Go.RowKit
set_option maxRecDepth 100000
variable{aR:World} {v v0:Value}
theorem jv:ownKnob Tryz.prog.godebug=none:=by kernel_rfl
theorem apd:Tryz.prog.globalNamed ya=some 0:=by kernel_rfl
theorem aot:(Tryz.prog.globals[0]?).map (·.type)=some 372:=by kernel_rfl
section
variable{H:Type} {enc:TypeId×Value->H} {P:Program}
theorem aBK{f:Func}{s:ChangeSpec}{l z A B:Bool}{e:World}{args:Array Value}{g h:List (DataW H)}{c pa iV:List MemPlace}
 (k:DataW.Whole enc P f.params.toList s.vars l aR args.toList g h c)
 (n:∀(b:Nat) (d:Nat->Bool) (hd:Bool),DataW.TrodAll enc P e b d hd f.resultTypes.toList (v.resultList f.resultTypes.size) (s.fn H (g++h)).results [])
 (o:∀d:Nat->Bool,(∀p∈c,d p.block=true)->DataW.TrodAll enc P e 0 d true f.params.toList args.toList (s.fn H (g++h)).args pa)
 (q:∀d:Nat->Bool,(∀p∈c,d p.block=true)->DataW.TrodVars enc P e d s.vars (s.fn H (g++h)).vars iV)
 (i:c=pa++iV)(u:Below aR.heap.size aR e)
 (C:∀(j:Nat) (t:TypeId) (r:Value),f.resultTypes[j]? =some t->(v.resultList f.resultTypes.size)[j]? =some r->Value.okWide P e .any 0 t r):
 s.post enc P f l z A B aR args v e:=by
 have w:∀p∈c,p.block<aR.heap.size:=λp a=>k.lt p a;have x:∀p∈c,(λb=>decide (b<aR.heap.size)) p.block=true:=λp a=>by simpa using w p a
 refine⟨g,h,c,[],pa,iV,k,n _ _ _,o _ x,q _ x,World.keptBut_mono (λp a=>⟨a,?_⟩) (u.frame (· ∈c)),λ_=>?_⟩
 ·rw[i,Ic] at a;exact Or.inr a
 ·obtain⟨_,_,_,_,_,D,E⟩:=k;refine⟨C,_,_,([]++pa)++iV,⟨[]++pa,iV,trodAll_append (o _ (λ_ _=>rfl)) (n _ _ _),q _ (λ_ _=>rfl),rfl,?_,?_⟩,?_⟩
  ·intro b off a;have y:MemPlace.cell b off∈c:=by rw[i];simpa using a
   rw[u.frozen (w _ y)];exact D b off y
  ·intro F;have:=E F;rw[i] at this;simpa using this
  ·intro p a _;rw[i];simpa using a
end
theorem ar0:Tryz.prog.cellsOf 372=20:=by kernel_rfl
theorem aEt:Tryz.prog.cellsOf 78=1:=by kernel_rfl
theorem acj:Tryz.prog.cellsOf 5=1:=by kernel_rfl
theorem ayN(h:laidMetH Tryz.prog Rows.linearPositiveRow.laid aR):Lib.TabIs Tryz.prog aR ya .u64 Lib.pow10Tab:=by rw[MakeChecks.laidMetH_plain _ _ _ (by kernel_rfl)] at h;obtain⟨l,⟨eO,t0,n,f0,o,p,q,r,t,u,⟨dB,t1,w,f1,x,y,z,A,B,C,⟨cT,t2,a,f2,b,D,c,d,e,g,_,_⟩,_⟩,_⟩,_⟩:=h;have i:Tryz.prog.globalNamed ya=some cT:=c;obtain rfl:=jZ (apd.symm.trans i);obtain rfl:=jZ (aot.symm.trans d);have j:DataW.trod _ Tryz.prog aR _ _ _ f2 372 a.toList=some (Lib.tabData .u64 Lib.pow10Tab,b):=g;have k:aR.var? Tryz.prog ya=some a:=e;unfold Lib.TabIs;rw[k,<-Lib.cells_of_tab Tryz.underlying372 Tryz.underlying78 aEt ar0 j]
theorem agV{n:Int}(h:(Lit.int .u8 n).wf=true):0<=n/\n<=255:=by
 simp only[Lit.wf,Hi,fo] at h;have a:IntKind.u8.min=0:=by decide
 have b:IntKind.u8.max=255:=by decide
 rw[a,b] at h;exact h
def FY(aR:World)(b:Nat):Nat:=match aR.heap[b]? with|some (.cells cs _ _)=>cs.size|_=>0
theorem TF{b i:Nat}(h:aR.cell? ⟨b,i,none⟩=some v):i<FY aR b:=by
 simp only[World.cell?] at h;unfold FY;split at h
 ·rename_i cs dh c a;rw[a];exact(Gk.1 h).1
 ·cases h
def zX(aR:World)(b:Nat):Nat:=FY aR b+1
theorem start(h:H0 aR):kC.ak (zX aR) aR:=
 ⟨aR,FY aR,h,⟨λ_ _ _ a=>TF a,sm _,λ_ _=>⟨Nat.lt_succ_self _,λ_ _=>rfl⟩⟩⟩
theorem SO{B C:aG}{g:Value}(l:uP kC Tryz.prog 6 [B,C] (.bu (.bool true)))(n:H0 aR)(o:eZ (zX aR) aR B v0)(q:eZ (zX aR) aR C g):
 Calls Tryz.prog 6 #[v0,g] aR λe j=>e= .returned (.bool true)/\Below aR.heap.size aR j:=by
 refine(l.1.2 ⟨zX aR,λ_=>0,λ_=>0⟩ aR [v0,g] (start n) oC.none ⟨rfl,λi p v a c=>?_⟩).mono ?_
 ·match i,a,c with
  |0,a,c=>cases a;cases c;exact .inr (.inl (.inl o))
  |1,a,c=>cases a;cases c;exact .inr (.inl (.inl q))
  |_+2,a,_=>simp at a
 ·rintro e j ⟨v,g',rfl,d,r⟩;obtain⟨rfl,_⟩:=r.fB;have t:∀b,¬nZ ⟨zX aR,λ_=>0,λ_=>0⟩ qY b:=λb h=>by obtain⟨k,u,_⟩:=h;exact u
  exact⟨rfl,⟨d.jh.os,d.jh.tape,d.jh.output,d.jh.size,λb h=>d.jh.block b h (t b)⟩⟩
section
variable[Hf.Tok]
theorem akB{H:Type}{enc:TypeId×Value->H}{kK:Nat}{d0:DataW H}{p:List MemPlace}(D:Value.okWide Tryz.prog aR .any kK 22 v0)(t1:DataW.Trod enc Tryz.prog aR 0 (λ_=>true) true 22 v0 d0 p):
 ∃x N,vP x N/\eZ (zX aR) aR (bi x) v0/\∀w,Below aR.heap.size aR w->∀k:Nat->Bool,(∀q∈p,k q.block=true)->DataW.Trod enc Tryz.prog w 0 k true 22 v0 d0 p:=by
 obtain⟨a1,len,l,rfl⟩:=okWide_slice Tryz.underlying22 D;obtain⟨fuel,O⟩:=t1;rcases open_ints Tryz.underlying22 Tryz.underlying5 acj O with⟨n,d⟩|⟨a,bs,bx,g,n,_,Q,E,F,d,A,G⟩
 ·simp[Value.cells] at n;obtain⟨rfl,rfl,rfl⟩:=n;simp only[pV] at d;obtain⟨rfl,rfl⟩:=d;refine⟨.aE,0,.inl ⟨rfl,rfl⟩,?_,λw I k _=>⟨1,by simp[DataW.trod,Value.cells,Tryz.underlying22]⟩⟩;have e:bi .aE=i0:=by simp only[bi]
  rw[e];exact .bu rfl
 ·simp[Value.cells] at n;obtain⟨rfl,rfl,rfl⟩:=n;simp only[pV] at d;obtain⟨rfl,rfl⟩:=d;simp only[w6] at F;obtain⟨b,o,J⟩:=a;have R:len<=l/\(l:Int)<=IntKind.i64.max/\aR.has Tryz.prog .any kK ⟨b,o,J⟩ 5 l:=by simpa[Value.okWide,Tryz.underlying22,Cell.okWide,Cell.ok] using D
  obtain⟨_,_,_,B,S,T,X,_⟩:=R;have B:J=none:=B;subst B;have K:b<aR.heap.size:=by
   have C:aR.shape? b=some (S,T):=X;unfold World.shape? at C;by_cases I:b<aR.heap.size
   ·exact I
   ·rw[DX.2 (by omega)] at C;simp at C
  have L:∀x∈g.take len,0<=x/\x<=255:=λx d=>by exact agV (G x (qc d))
  have cc:(g.take len).length=len:=by simp;omega
  have e:bi (.aQ 1 (((g.take len).map Int.toNat).map λc=>[.V .u8 (18446744073709551616+c)]))= .aQ 1 ((g.take len).map λx=>[aG.bu (.int .u8 x)]):=by
   simp only[bi,mB,kW];congr 1;apply rH;intro x d;have:=L x d;show[bi (.V .u8 (18446744073709551616+x.toNat))]=_;have Z:Hf.intOf (18446744073709551616+x.toNat)=x:=by unfold Hf.intOf;omega
   simp only[bi,Z]
  have ar:((g.take len).map λx=>[aG.bu (.int .u8 x)]).length=len:=by simp;omega
  have M:eZ (zX aR) aR (.aQ 1 ((g.take len).map λx=>[aG.bu (.int .u8 x)])) (.slice (some ⟨b,o,none⟩) ((g.take len).map λx=>[aG.bu (.int .u8 x)]).length l):=by
   have y:∀(i:Nat) (cs:dA),((g.take len).map λx=>[aG.bu (.int .u8 x)])[i]? =some cs->i<len/\cs=[aG.bu (.int .u8 (g.getD i 0))]:=by
    intro i cs hi;have t:i<len:=by have:=(e6.1 hi).1;omega
    simp only[O8,eS,t,w6,Pq] at hi;obtain⟨x,d,rfl⟩:=hi;exact⟨t,by simp[List.getD,d]⟩
   refine .aQ (λi _=> .int .u8 (g.getD i 0)) (by omega) E K (λcl=>?_) (λi cs hi=>?_) (λi j cs q hi h=>?_) (λi j cs q hi h=>?_) (λi j cs q hi h=>?_)
   ·have z:=A (len-1) (by omega);rw[Addr.add_lit] at z;have:=TF z;unfold zX;omega
   ·rw[(y i cs hi).2];rfl
   ·obtain⟨t,rfl⟩:=y i cs hi;have u:j=0:=by have:=(e6.1 h).1;simp at this;omega
    subst u;have:=A i (by omega);rw[Addr.add_lit] at this;simpa using this
   ·obtain⟨t,rfl⟩:=y i cs hi;have u:j=0:=by have:=(e6.1 h).1;simp at this;omega
    subst u;cases h;rfl
   ·obtain⟨t,rfl⟩:=y i cs hi;have u:j=0:=by have:=(e6.1 h).1;simp at this;omega
    subst u;cases h;exact .bu rfl
  rw[ar] at M;refine⟨.aQ 1 (((g.take len).map Int.toNat).map λc=>[.V .u8 (18446744073709551616+c)]),len,.inr ⟨_,rfl,by simp;omega,λr hr=>by obtain⟨c,z,rfl⟩:=yd.1 hr;obtain⟨x,d,rfl⟩:=yd.1 z;have:=L x d;exact⟨_,by omega,rfl⟩⟩,by rw[e];exact M,λw a2 k a3=>⟨2,?_⟩⟩
  refine shut_ints 0 Tryz.underlying22 Tryz.underlying5 acj (xW _) Q E ?_ (λi hi=>?_) G
  ·by_cases a4:g.length=0
   ·have a5:l=0:=by omega
    have bd:len=0:=by omega
    rw[a4,a5,bd];split<;>rfl
   ·have:=a3 (.cell b o) (by simp only[MemPlace.row,yd,List.mem_range];exact⟨0,by omega,rfl⟩);rw[y1 (show k b=true from this)];exact F
  ·rw[<-A i hi];exact a2.cell (p:=Addr.add ⟨b,o,none⟩ i) (by rw[Addr.add_lit];exact K)
end
theorem azi(H:Type)(enc:TypeId×Value->H)(aR:World)(kK:Nat)(args:Array Value)(i w:List (DataW H))(z:List MemPlace)
 (c:∀(j:Nat) t v,Tryz.f6.params[j]? =some t->args[j]? =some v->Value.okWide Tryz.prog aR .any kK t v)
 (k:DataW.Whole enc Tryz.prog Tryz.f6.params.toList Rows.linearPositiveSpec.vars false aR args.toList i w z)(A:laidMetH Tryz.prog Rows.linearPositiveRow.laid aR):
 Calls Tryz.prog 6 args aR λe a=>∃v,e= .returned v/\Rows.linearPositiveSpec.post enc Tryz.prog Tryz.f6 false true false false aR args v a:=by
 have l:=k;obtain⟨p,q,n,B,rfl,Q,R⟩:=k;have d:DataW.TrodAll enc Tryz.prog aR 0 (λ_=>true) true Tryz.f6.params.toList args.toList i p:=n;rw[Tryz.params6] at d c;obtain⟨v0,C,d0,d1,D,E,rfl,rfl,rfl,t0,t1⟩:=trodAll_two d;obtain⟨rfl,rfl⟩:=trodVars_none B;have F:=ayN A
 letI:=Tw
 obtain⟨x,N,G,I,J⟩:=akB (c 0 22 v0 rfl rfl) t0;obtain⟨y,N',K,L,M⟩:=akB (c 1 22 C rfl rfl) t1;clear n d;simp only[fr] at l;have o:=adX G K;have O:bi (.a9 true)= .bu (.bool true):=by simp only[bi]
 rw[O] at o;refine(SO o F I L).mono ?_;rintro e a ⟨rfl,g⟩;refine⟨_,rfl,?_⟩;refine aBK (pa:=D++E) (iV:=[]) l (λ_ _ _=>trodAll_mk1 (shut_bool Tryz.underlying4 _)) (λr u=>?_) (λ_ _=>rfl) (by simp) g (ok_one (by kernel_rfl) rfl (okWide_bool_mk Tryz.underlying4 _));exact trodAll_mk2 (J a g r λq h=>u q (by simp[h])) (M a g r λq h=>u q (by simp[h]))
theorem lifted(os:Os)(a:os.Started)(H:Type)(enc:TypeId×Value->H):
 ReturnsInHanded {} Tryz.checked os 6 .any (λw args=>(Rows.linearPositiveSpec.pre enc Tryz.prog Tryz.f6 [] false w args/\laidMetH Tryz.prog Rows.linearPositiveRow.laid w)/\sizedMet enc Tryz.prog Tryz.f6 (OpenSpec.ofChange Rows.linearPositiveSpec) false w args)
  (Rows.linearPositiveSpec.post enc Tryz.prog Tryz.f6 false true false false):=by
 refine returnsInHanded_of_change_and (C:=Tryz.checked) (X:=λw _=>laidMetH Tryz.prog Rows.linearPositiveRow.laid w) (λ_ _ _ b h=>h.of_heap b) jv a (by as_aux_lemma=>kernel_rfl) Tryz.func6
  (ChangeSpec.witness_shaped (enc:=enc) (C:=Tryz.checked) (os:=os) (X:=λw _=>laidMetH Tryz.prog Rows.linearPositiveRow.laid w) false (World.doorLaid Tryz.prog 65 os) BJ 8 rfl (World.shaped_of_RefB (aoY os) (an8 os)) (ajn os) (aCK os) (ah8 os) (ak1 os)) ?_
 intro aR kK args c d e g i _ _ j _;exact azi H enc aR kK args c d e g i j
theorem aAA:Rows.LinearPositiveSaid:=
 OpenClaim.holds_of_wide 6 Tryz.f6 rfl rfl rfl rfl rfl rfl rfl ⟨rfl,rfl,rfl,rfl,rfl⟩ rfl rfl rfl rfl rfl (by kernel_rfl) Tryz.func6 aCN
  (gd (by kernel_rfl)) (by unfold Func.isWrapper;first|(rw[if_pos (by decide+kernel)];kernel_rfl)|(rw[if_neg (by decide+kernel)];exact⟨rfl,rfl⟩))
  (λos a H enc _=>lifted os a H enc)
end Go.Proofs.YthiipifjdfmblaaGreatDoor

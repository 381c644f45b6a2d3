import Derived.Test.YthiipifjdfmblaaGreatDoorBs
import Derived.Test.YthiipifjdfmblaaGreatDoorBt
import Derived.Test.YthiipifjdfmblaaGreatDoorCards
import Derived.Test.YthiipifjdfmblaaGreatDoorTie
import Derived.ProofKit
import Derived.LaidMore
import Derived.OpenShut
import Derived.Stop.Joined
import Derived.Below
import Derived.ChangeSame
import Derived.SevenTiedAt
import Derived.Lib.LaidTab
set_option linter.all false
namespace Go.Proofs.YthiipifjdfmblaaGreatDoor
open Go Go.Hf Go.ChangeShapes Go.WideShapes Go.ChangeAt Go.WideMaps Go.WideElems Go.RowKit
set_option maxRecDepth 100000
variable{aR:World} {v:Value}
theorem jv:ownKnob Tryz.prog.godebug=none:=by kernel_rfl
theorem apd:Tryz.prog.globalNamed ya=some 0:=by kernel_rfl
theorem aot:(Tryz.prog.globals[0]?).map (·.type)=some 372:=by kernel_rfl
section
variable{H:Type} {enc:TypeId×Value->H} {P:Program}
theorem aBK{f:Func}{s:ChangeSpec}{l z A B:Bool}{e:World}{args:Array Value}{g h:List (DataW H)}{c pa pv:List MemPlace}
 (k:DataW.Whole enc P f.params.toList s.vars l aR args.toList g h c)
 (n:∀(b:Nat) (d:Nat->Bool) (C:Bool),DataW.TrodAll enc P e b d C f.resultTypes.toList (v.resultList f.resultTypes.size) (s.fn H (g++h)).results [])
 (o:∀d:Nat->Bool,(∀p∈c,d p.block=true)->DataW.TrodAll enc P e 0 d true f.params.toList args.toList (s.fn H (g++h)).args pa)
 (q:∀d:Nat->Bool,(∀p∈c,d p.block=true)->DataW.TrodVars enc P e d s.vars (s.fn H (g++h)).vars pv)
 (i:c=pa++pv)(u:Below aR.heap.size aR e)
 (D:∀(j:Nat) (t:TypeId) (r:Value),f.resultTypes[j]? =some t->(v.resultList f.resultTypes.size)[j]? =some r->Value.okWide P e .any 0 t r):
 s.post enc P f l z A B aR args v e:=by
 have w:∀p∈c,p.block<aR.heap.size:=λp a=>k.lt p a;have x:∀p∈c,(λb=>decide (b<aR.heap.size)) p.block=true:=λp a=>by simpa using w p a
 refine⟨g,h,c,[],pa,pv,k,n _ _ _,o _ x,q _ x,World.keptBut_mono (λp a=>⟨a,?_⟩) (u.frame (· ∈c)),λ_=>?_⟩
 ·rw[i,fr] at a;exact Or.inr a
 ·obtain⟨_,_,_,_,_,E,G⟩:=k;refine⟨D,_,_,([]++pa)++pv,⟨[]++pa,pv,trodAll_append (o _ (λ_ _=>rfl)) (n _ _ _),q _ (λ_ _=>rfl),rfl,?_,?_⟩,?_⟩
  ·intro b off a;have y:MemPlace.cell b off∈c:=by rw[i];simpa using a
   rw[u.frozen (w _ y)];exact E b off y
  ·intro I;have:=G I;rw[i] at this;simpa using this
  ·intro p a _;rw[i];simpa using a
end
theorem ar0:Tryz.prog.cellsOf 372=20:=by kernel_rfl
theorem aEt:Tryz.prog.cellsOf 78=1:=by kernel_rfl
theorem acj:Tryz.prog.cellsOf 5=1:=by kernel_rfl
theorem ayN(h:laidMetH Tryz.prog Rows.linearProductsRow.laid aR):Lib.TabIs Tryz.prog aR ya .u64 Lib.pow10Tab:=by rw[MakeChecks.laidMetH_plain _ _ _ (by kernel_rfl)] at h;obtain⟨ps,⟨eO,t0,l,f0,n,o,p,q,r,t,⟨dB,t1,u,f1,w,x,y,z,A,B,⟨cT,t2,a,f2,b,C,c,d,e,g,_,_⟩,_⟩,_⟩,_⟩:=h;have i:Tryz.prog.globalNamed ya=some cT:=c;obtain rfl:=pl (apd.symm.trans i);obtain rfl:=pl (aot.symm.trans d);have j:DataW.trod _ Tryz.prog aR _ _ _ f2 372 a.toList=some (Lib.tabData .u64 Lib.pow10Tab,b):=g;have k:aR.var? Tryz.prog ya=some a:=e;unfold Lib.TabIs;rw[k,<-Lib.cells_of_tab Tryz.underlying372 Tryz.underlying78 aEt ar0 j]
theorem agV{n:Int}(h:(Lit.int .u8 n).wf=true):0<=n/\n<=255:=by
 simp only[Lit.wf,cg,nm] at h;have a:IntKind.u8.min=0:=by decide
 have b:IntKind.u8.max=255:=by decide
 rw[a,b] at h;exact h
def FY(aR:World)(b:Nat):Nat:=match aR.heap[b]? with|some (.cells cs _ _)=>cs.size|_=>0
theorem TF{b i:Nat}(h:aR.cell? ⟨b,i,none⟩=some v):i<FY aR b:=by
 simp only[World.cell?] at h;unfold FY;split at h
 ·rename_i cs dh c a;rw[a];exact(Gk.1 h).1
 ·cases h
def zX(aR:World)(b:Nat):Nat:=FY aR b+1
theorem start(h:H0 aR):kC.ak (zX aR) aR:=
 ⟨aR,FY aR,h,⟨λ_ _ _ a=>TF a,cY _,λ_ _=>⟨Nat.lt_succ_self _,λ_ _=>rfl⟩⟩⟩
theorem SO{B:aG}{v0:Value}(j:uP kC Tryz.prog 5 [B] (.bu (.bool true)))(l:H0 aR)(n:eZ (zX aR) aR B v0):
 Calls Tryz.prog 5 #[v0] aR λe h=>e= .returned (.bool true)/\Below aR.heap.size aR h:=by
 refine(j.1.2 ⟨zX aR,λ_=>0,λ_=>0⟩ aR [v0] (start l) oC.none ⟨rfl,λi p v a d=>?_⟩).mono ?_
 ·match i,a,d with
  |0,a,d=>cases a;cases d;exact .inr (.inl (.inl n))
  |_+1,a,_=>simp at a
 ·rintro e h ⟨v,g',rfl,c,o⟩;obtain⟨rfl,_⟩:=o.fB;have q:∀b,¬nZ ⟨zX aR,λ_=>0,λ_=>0⟩ qY b:=λb g=>by obtain⟨k,r,_⟩:=g;exact r
  exact⟨rfl,⟨c.jh.os,c.jh.tape,c.jh.output,c.jh.size,λb g=>c.jh.block b g (q b)⟩⟩
theorem azi(H:Type)(enc:TypeId×Value->H)(aR:World)(kK:Nat)(args:Array Value)(L cc:List (DataW H))(cl:List MemPlace)
 (M:∀(j:Nat) t v,Tryz.f5.params[j]? =some t->args[j]? =some v->Value.okWide Tryz.prog aR .any kK t v)
 (O:DataW.Whole enc Tryz.prog Tryz.f5.params.toList Rows.linearProductsSpec.vars false aR args.toList L cc cl)(cn:laidMetH Tryz.prog Rows.linearProductsRow.laid aR):
 Calls Tryz.prog 5 args aR λe h=>∃v,e= .returned v/\Rows.linearProductsSpec.post enc Tryz.prog Tryz.f5 false true false false aR args v h:=by
 have Q:=O;obtain⟨p,q,R,cp,rfl,eq,es⟩:=O;have D:DataW.TrodAll enc Tryz.prog aR 0 (λ_=>true) true Tryz.f5.params.toList args.toList L p:=R;rw[Tryz.params5] at D M;obtain⟨v0,d0,rfl,rfl,t1⟩:=trodAll_one D;obtain⟨rfl,rfl⟩:=trodVars_none cp;have S:=ayN cn;have T:=M 0 22 v0 rfl rfl;obtain⟨a1,len,k,rfl⟩:=okWide_slice Tryz.underlying22 T;obtain⟨fuel,hf⟩:=t1;clear R D;simp only[nj] at Q;have X:∀(h:World),Below aR.heap.size aR h->(∀l:Nat->Bool,(∀q∈p,l q.block=true)->DataW.Trod enc Tryz.prog h 0 l true 22 (.slice a1 len k) d0 p)->
  Rows.linearProductsSpec.post enc Tryz.prog Tryz.f5 false true false false aR #[.slice a1 len k] (.bool true) h:=by
  intro h u c0;refine aBK (pa:=p) (pv:=[]) Q (λ_ _ _=>trodAll_mk1 (shut_bool Tryz.underlying4 _)) (λl E=>?_) (λ_ _=>rfl) (by simp) u (ok_one (by kernel_rfl) rfl (okWide_bool_mk Tryz.underlying4 _));exact trodAll_mk1 (c0 l (by simpa using E))
 rcases open_ints Tryz.underlying22 Tryz.underlying5 acj hf with⟨w,d⟩|⟨a,ev,ex,g,w,_,hl,Z,hz,d,G,a2⟩
 ·simp[Value.cells] at w;obtain⟨rfl,rfl,rfl⟩:=w;simp only[io] at d;obtain⟨rfl,rfl⟩:=d
  letI:=Tw
  have y:=adX (x:= .aE) (N:=0) (.inl ⟨rfl,rfl⟩);have e:bi .aE=i0:=by simp only[bi]
  have I:bi (.F true)= .bu (.bool true):=by simp only[bi]
  rw[e,I] at y;refine(SO y S (v0:= .slice none 0 0) (.bu rfl)).mono ?_;rintro e h ⟨rfl,u⟩;exact⟨_,rfl,X h u (λl _=>⟨1,by simp[DataW.trod,Value.cells,Tryz.underlying22]⟩)⟩
 ·simp[Value.cells] at w;obtain⟨rfl,rfl,rfl⟩:=w;simp only[io] at d;obtain⟨rfl,rfl⟩:=d;simp only[fP] at hz;obtain⟨b,o,a3⟩:=a;have c1:len<=k/\(k:Int)<=IntKind.i64.max/\aR.has Tryz.prog .any kK ⟨b,o,a3⟩ 5 k:=by simpa[Value.okWide,Tryz.underlying22,Cell.okWide,Cell.ok] using T
  obtain⟨_,_,_,J,c2,c3,c4,_⟩:=c1;have J:a3=none:=J;subst J;have a4:b<aR.heap.size:=by
   have K:aR.shape? b=some (c2,c3):=c4;unfold World.shape? at K;by_cases u:b<aR.heap.size
   ·exact u
   ·rw[DX.2 (by omega)] at K;simp at K
  have a5:∀x∈g.take len,0<=x/\x<=255:=λx d=>by exact agV (a2 x (Nr d))
  have fn:(g.take len).length=len:=by simp;omega
  letI:=Tw
  have y:=adX (x:= .aQ 1 (((g.take len).map Int.toNat).map λc=>[.V .u8 (18446744073709551616+c)])) (N:=len) (.inr ⟨_,rfl,by simp;omega,λr hr=>by obtain⟨c,B,rfl⟩:=gp.1 hr;obtain⟨x,d,rfl⟩:=gp.1 B;have:=a5 x d;exact⟨_,by omega,rfl⟩⟩)
  have I:bi (.F true)= .bu (.bool true):=by simp only[bi]
  have e:bi (.aQ 1 (((g.take len).map Int.toNat).map λc=>[.V .u8 (18446744073709551616+c)]))= .aQ 1 ((g.take len).map λx=>[aG.bu (.int .u8 x)]):=by
   simp only[bi,mB,yy];congr 1;apply Io;intro x d;have:=a5 x d;show[bi (.V .u8 (18446744073709551616+x.toNat))]=_;have c5:Hf.intOf (18446744073709551616+x.toNat)=x:=by unfold Hf.intOf;omega
   simp only[bi,c5]
  rw[e,I] at y;have dq:((g.take len).map λx=>[aG.bu (.int .u8 x)]).length=len:=by simp;omega
  have bs:eZ (zX aR) aR (.aQ 1 ((g.take len).map λx=>[aG.bu (.int .u8 x)])) (.slice (some ⟨b,o,none⟩) ((g.take len).map λx=>[aG.bu (.int .u8 x)]).length k):=by
   have C:∀(i:Nat) (cs:dA),((g.take len).map λx=>[aG.bu (.int .u8 x)])[i]? =some cs->i<len/\cs=[aG.bu (.int .u8 (g.getD i 0))]:=by
    intro i cs hi;have z:i<len:=by have:=(e6.1 hi).1;omega
    simp only[fo,nh,z,fP,iL] at hi;obtain⟨x,d,rfl⟩:=hi;exact⟨z,by simp[List.getD,d]⟩
   refine .aQ (λi _=> .int .u8 (g.getD i 0)) (by omega) Z a4 (λge=>?_) (λi cs hi=>?_) (λi j cs q hi n=>?_) (λi j cs q hi n=>?_) (λi j cs q hi n=>?_)
   ·have B:=G (len-1) (by omega);rw[Addr.add_lit] at B;have:=TF B;unfold zX;omega
   ·rw[(C i cs hi).2];rfl
   ·obtain⟨z,rfl⟩:=C i cs hi;have A:j=0:=by have:=(e6.1 n).1;simp at this;omega
    subst A;have:=G i (by omega);rw[Addr.add_lit] at this;simpa using this
   ·obtain⟨z,rfl⟩:=C i cs hi;have A:j=0:=by have:=(e6.1 n).1;simp at this;omega
    subst A;cases n;rfl
   ·obtain⟨z,rfl⟩:=C i cs hi;have A:j=0:=by have:=(e6.1 n).1;simp at this;omega
    subst A;cases n;exact .bu rfl
  rw[dq] at bs;refine(SO y S bs).mono ?_;rintro e h ⟨rfl,bx⟩;refine⟨_,rfl,X h bx (λl E=>⟨2,?_⟩)⟩;refine shut_ints 0 Tryz.underlying22 Tryz.underlying5 acj (ik _) hl Z ?_ (λi hi=>?_) a2
  ·by_cases ee:g.length=0
   ·have em:k=0:=by omega
    have en:len=0:=by omega
    rw[ee,em,en];split<;>rfl
   ·have:=E (.cell b o) (by simp only[MemPlace.row,gp,List.mem_range];exact⟨0,by omega,rfl⟩);rw[cv (show l b=true from this)];exact hz
  ·rw[<-G i hi];exact bx.cell (p:=Addr.add ⟨b,o,none⟩ i) (by rw[Addr.add_lit];exact a4)
theorem lifted(os:Os)(a:os.Started)(H:Type)(enc:TypeId×Value->H):
 ReturnsInHanded {} Tryz.checked os 5 .any (λw args=>(Rows.linearProductsSpec.pre enc Tryz.prog Tryz.f5 [] false w args/\laidMetH Tryz.prog Rows.linearProductsRow.laid w)/\sizedMet enc Tryz.prog Tryz.f5 (OpenSpec.ofChange Rows.linearProductsSpec) false w args)
  (Rows.linearProductsSpec.post enc Tryz.prog Tryz.f5 false true false false):=by
 refine returnsInHanded_of_change_and (C:=Tryz.checked) (X:=λw _=>laidMetH Tryz.prog Rows.linearProductsRow.laid w) (λ_ _ _ b h=>h.of_heap b) jv a (by as_aux_lemma=>kernel_rfl) Tryz.func5
  (ChangeSpec.witness_shaped (enc:=enc) (C:=Tryz.checked) (os:=os) (X:=λw _=>laidMetH Tryz.prog Rows.linearProductsRow.laid w) false (World.doorLaid Tryz.prog 65 os) BJ 8 rfl (World.shaped_of_RefB (aoY os) (an8 os)) (ajn os) (aCK os) (ah8 os) (ak1 os)) ?_
 intro aR kK args c d e g i _ _ j _;exact azi H enc aR kK args c d e g i j
theorem aAA:Rows.LinearProductsSaid:=
 OpenClaim.holds_of_wide 5 Tryz.f5 rfl rfl rfl rfl rfl rfl rfl ⟨rfl,rfl,rfl,rfl,rfl⟩ rfl rfl rfl rfl rfl (by kernel_rfl) Tryz.func5 aCN
  (nM (by kernel_rfl)) (by unfold Func.isWrapper;first|(rw[if_pos (by decide+kernel)];kernel_rfl)|(rw[if_neg (by decide+kernel)];exact⟨rfl,rfl⟩))
  (λos a H enc _=>lifted os a H enc)
end Go.Proofs.YthiipifjdfmblaaGreatDoor

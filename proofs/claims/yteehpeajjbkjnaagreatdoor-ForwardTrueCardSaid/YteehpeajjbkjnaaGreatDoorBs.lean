/- For every input the law ForwardTrue returns true, and leaves its arguments as they were: the statement ForwardTrueCardSaid. Its conditions are those of the given card: the listed package variables hold what the program's text lays. -/
import Derived.Test.YteehpeajjbkjnaaGreatDoorBi
import Derived.Test.YteehpeajjbkjnaaGreatDoorBp
import Derived.Below
import Derived.ChangeSame
import Derived.Test.YteehpeajjbkjnaaGreatDoorBq
import Derived.Test.YteehpeajjbkjnaaGreatDoorBo
import Derived.Test.YteehpeajjbkjnaaGreatDoorBk
import Derived.Test.YteehpeajjbkjnaaGreatDoorRows
import GoSem.ClaimGoes
import GoSem.ClaimSeven
import Derived.SevenTiedAt
import Derived.Test.YteehpeajjbkjnaaGreatDoorBr
import Derived.Test.YteehpeajjbkjnaaGreatDoorCards
set_option linter.all false
namespace Go.Hf
end Go.Hf
namespace Go.Proofs.YteehpeajjbkjnaaGreatDoor
open Go Go.Hf Go.ChangeShapes Go.WideShapes Go.ChangeAt Go.WideMaps Go.WideElems Go.RowKit Go.Lib Go.Shelf
set_option maxRecDepth 100000
variable{bH:World}{n:Int}{v l:Value}
theorem L8:ownKnob Tryz.prog.godebug=none:=by kernel_rfl
theorem YQ:Tryz.prog.cellsOf 5=1:=by kernel_rfl
theorem axh:U8Extra Tryz.prog Tryz.lays177_ren:=⟨by kernel_rfl,by kernel_rfl,by kernel_rfl,by kernel_rfl,by kernel_rfl,by kernel_rfl,by kernel_rfl⟩
theorem axg:U8Types Tryz.prog Tryz.lays177_ren:=⟨by kernel_rfl,by kernel_rfl,by kernel_rfl,by kernel_rfl⟩
theorem aer{name:String}{k:IntKind}{a:List Int}{g:Nat}{t e:TypeId}{n:Nat}(b:Tryz.prog.globalNamed name=some g)(c:(Tryz.prog.globals[g]?).map (·.type)=some t)
 (d:Tryz.prog.underlying t=some (.array n e))(i:Tryz.prog.underlying e=some (.int k))(j:Tryz.prog.cellsOf e=1)(o:Tryz.prog.cellsOf t=n)(h:VarReads Tryz.prog bH name (tabData k a)):TabIs Tryz.prog bH name k a:=by
 obtain⟨g',y,cs,fuel,p,q,r,u,hd⟩:=h;obtain rfl:=l2 (b.symm.trans q);obtain rfl:=l2 (c.symm.trans r);have w:=cells_of_tab d i j o hd;unfold TabIs;rw[u,<-w]
def G4(i:Nat):String:=(Rows.forwardTrueRow.laid.map (λp=>p.1)).getD i ""
theorem ans(h:laidMetH Tryz.prog Rows.forwardTrueRow.laid bH):D6 bH:=by
 rw[MakeChecks.laidMetH_plain _ _ _ acY]at h;have kN:∀(i:Nat) (n:String) (d:DataW Unit),Rows.forwardTrueRow.laid[i]? =some (n,d)->VarReads Tryz.prog bH n d:=λi n d hi=>laidMet.reads h (eH hi);refine⟨aer (g:=1) (t:=392) (e:=5) (n:=256) (by kernel_rfl) (by kernel_rfl) (by kernel_rfl) (by kernel_rfl) (by kernel_rfl) (by kernel_rfl) (kN 3 _ _ (by kernel_rfl)),
  aer (g:=0) (t:=335) (e:=71) (n:=20) (by kernel_rfl) (by kernel_rfl) (by kernel_rfl) (by kernel_rfl) (by kernel_rfl) (by kernel_rfl) (kN 0 _ _ (by kernel_rfl)),⟨goPrintTabs,?_⟩,?_⟩
 exact⟨tabSlice_of_reads (t:=467) (e:=466) (by kernel_rfl) (by kernel_rfl) (by kernel_rfl) (by kernel_rfl) (by kernel_rfl) (by decide) (Pinned.isPrint16_eq▸kN 9 (G4 9) Pinned.isPrint16 (by kernel_rfl)),
  tabSlice_of_reads (t:=467) (e:=466) (by kernel_rfl) (by kernel_rfl) (by kernel_rfl) (by kernel_rfl) (by kernel_rfl) (by decide) (Pinned.isNotPrint16_eq▸kN 10 (G4 10) Pinned.isNotPrint16 (by kernel_rfl)),
  tabSlice_of_reads (t:=469) (e:=22) (by kernel_rfl) (by kernel_rfl) (by kernel_rfl) (by kernel_rfl) (by kernel_rfl) (by decide) (Pinned.isPrint32_eq▸kN 11 (G4 11) Pinned.isPrint32 (by kernel_rfl)),
  tabSlice_of_reads (t:=467) (e:=466) (by kernel_rfl) (by kernel_rfl) (by kernel_rfl) (by kernel_rfl) (by kernel_rfl) (by decide) (Pinned.isNotPrint32_eq▸kN 12 (G4 12) Pinned.isNotPrint32 (by kernel_rfl)),
  by decide,by decide,by decide⟩
 exact utf8Tabs_of_readsT axg axh (Pinned.utf8First_eq▸kN 4 (G4 4) Pinned.utf8First (by kernel_rfl)) (kN 5 _ _ (by kernel_rfl))
section
variable{H:Type}{enc:TypeId×Value->H}{P:Program}
theorem auf{f:Func}{s:ChangeSpec}{o A B C:Bool}{e:World}{args:Array Value}{g h:List (DataW H)}{c pa pv:List MemPlace}
 (k:DataW.Whole enc P f.params.toList s.vars o bH args.toList g h c)
 (q:∀(b:Nat) (d:Nat->Bool) (hd:Bool),DataW.TrodAll enc P e b d hd f.resultTypes.toList (v.resultList f.resultTypes.size) (s.fn H (g++h)).results [])
 (u:∀d:Nat->Bool,(∀p∈c,d p.block=true)->DataW.TrodAll enc P e 0 d true f.params.toList args.toList (s.fn H (g++h)).args pa)
 (w:∀d:Nat->Bool,(∀p∈c,d p.block=true)->DataW.TrodVars enc P e d s.vars (s.fn H (g++h)).vars pv)
 (i:c=pa++pv)(x:Below bH.heap.size bH e)
 (D:∀(j:Nat) (t:TypeId) (r:Value),f.resultTypes[j]? =some t->(v.resultList f.resultTypes.size)[j]? =some r->Value.okWide P e .any 0 t r):
 s.post enc P f o A B C bH args v e:=by
 have y:∀p∈c,p.block<bH.heap.size:=λp a=>k.lt p a;have ta:∀p∈c,(λb=>decide (b<bH.heap.size)) p.block=true:=λp a=>by simpa using y p a
 refine⟨g,h,c,[],pa,pv,k,q _ _ _,u _ ta,w _ ta,World.keptBut_mono (λp a=>⟨a,?_⟩) (x.frame (· ∈c)),λ_=>?_⟩;rw[i,fq]at a;exact Or.inr a;obtain⟨_,_,_,_,_,E,F⟩:=k;refine⟨D,_,_,([]++pa)++pv,⟨[]++pa,pv,trodAll_append (u _ (λ_ _=>rfl)) (q _ _ _),w _ (λ_ _=>rfl),rfl,?_,?_⟩,?_⟩;intro b off a;have z:MemPlace.cell b off∈c:=by rw[i];simpa using a
 rw[x.frozen (y _ z)];exact E b off z;intro G;have:=F G;rw[i]at this;simpa using this;intro p a _;rw[i];simpa using a
end
theorem axw(h:(Lit.int .u8 n).wf=true):0<=n/\n<=255:=by
 simp only[Lit.wf,cC,nB]at h;have a:IntKind.u8.min=0:=by decide
 have b:IntKind.u8.max=255:=by decide
 rw[a,b]at h;exact h
def Kh(bH:World)(b:Nat):Nat:=match bH.heap[b]? with|some (.cells cs _ _)=>cs.size|_=>0
theorem YJ{b i:Nat}(h:bH.cell? ⟨b,i,none⟩=some v):i<Kh bH b:=by simp only[World.cell?]at h;unfold Kh;split at h;rename_i cs dx fr a;rw[a];exact(nA.1 h).1;cases h
def vE(bH:World)(b:Nat):Nat:=Kh bH b+1
theorem start[Hf.Tok](h:D6 bH):jw.p (vE bH) bH:=
 ⟨bH,Kh bH,h,⟨λ_ _ _ a=>YJ a,dn _,λ_ _=>⟨Nat.lt_succ_self _,λ_ _=>rfl⟩⟩⟩
section
variable[Hf.Tok]
theorem avD{o B C:aT}{g h:Value}(r:wH jw Tryz.prog 3 [o,B,C] (.bo (.bool true)))(t:D6 bH)(u:fM (vE bH) bH o l)(w:fM (vE bH) bH B g)(x:fM (vE bH) bH C h):
 Calls Tryz.prog 3 #[l,g,h] bH λe q=>e= .returned (.bool true)/\Below bH.heap.size bH q:=by
 refine(r.1.2 ⟨vE bH,λ_=>0,λ_=>0⟩ bH [l,g,h] (start t) n2.none ⟨rfl,λi p v a c=>?_⟩).mono ?_
 match i,a,c with
 |0,a,c=>cases a;cases c;exact .inr (.inl (.inl u))
 |1,a,c=>cases a;cases c;exact .inr (.inl (.inl w))
 |2,a,c=>cases a;cases c;exact .inr (.inl (.inl x))
 |_+3,a,_=>simp at a
 rintro e q ⟨v,g',rfl,d,y⟩;obtain⟨rfl,_⟩:=y.fY;have z:∀b,¬gM ⟨vE bH,λ_=>0,λ_=>0⟩ tk b:=λb j=>by obtain⟨k,A,_⟩:=j;exact A
 exact⟨rfl,⟨d.iB.os,d.iB.tape,d.iB.output,d.iB.size,λb j=>d.iB.block b j (z b)⟩⟩
theorem aef{H:Type}{enc:TypeId×Value->H}{F:Nat}{d0:DataW H}{p:List MemPlace}(G:Value.okWide Tryz.prog bH .any F 23 l)(t1:DataW.Trod enc Tryz.prog bH 0 (λ_=>true) true 23 l d0 p):
 ∃x N,qA x N/\fM (vE bH) bH (bk x) l/\∀z,Below bH.heap.size bH z->∀k:Nat->Bool,(∀q∈p,k q.block=true)->DataW.Trod enc Tryz.prog z 0 k true 23 l d0 p:=by
 obtain⟨a1,len,t,rfl⟩:=okWide_slice Tryz.underlying23 G;obtain⟨fuel,S⟩:=t1;rcases open_ints Tryz.underlying23 Tryz.underlying5 YQ S with⟨u,d⟩|⟨a,a5,bd,g,u,_,T,I,J,d,C,K⟩;simp[Value.cells]at u;obtain⟨rfl,rfl,rfl⟩:=u;simp only[h4]at d;obtain⟨rfl,rfl⟩:=d;refine⟨.ba,0,.inl ⟨rfl,rfl⟩,?_,λz L k _=>⟨1,by simp[DataW.trod,Value.cells,Tryz.underlying23]⟩⟩;have e:bk .ba=kv:=by simp only[bk]
 rw[e];exact .bo rfl;simp[Value.cells]at u;obtain⟨rfl,rfl,rfl⟩:=u;simp only[h4]at d;obtain⟨rfl,rfl⟩:=d;simp only[gF]at J;obtain⟨b,o,M⟩:=a;have V:len<=t/\(t:Int)<=IntKind.i64.max/\bH.has Tryz.prog .any F ⟨b,o,M⟩ 5 t:=by simpa[Value.okWide,Tryz.underlying23,Cell.okWide,Cell.ok] using G
 obtain⟨_,_,_,D,row,X,Y,_⟩:=V;have D:M=none:=D;subst D;have O:b<bH.heap.size:=by have E:bH.shape? b=some (row,X):=Y;unfold World.shape? at E;by_cases L:b<bH.heap.size;exact L;rw[DR.2 (by omega)]at E;simp at E
 have Q:∀x∈g.take len,0<=x/\x<=255:=λx d=>by exact axw (K x (List.mem_of_mem_take d))
 have bs:(g.take len).length=len:=by simp;omega
 have e:bk (.aN 1 (((g.take len).map Int.toNat).map λc=>[.ag .u8 (18446744073709551616+c)]))= .aN 1 ((g.take len).map λx=>[aT.bo (.int .u8 x)]):=by
  simp only[bk,oO,yK];congr 1;apply AX;intro x d;have:=Q x d;show[bk (.ag .u8 (18446744073709551616+x.toNat))]=_;have Z:Hf.intOf (18446744073709551616+x.toNat)=x:=by unfold Hf.intOf;omega
  simp only[bk,Z]
 have al:((g.take len).map λx=>[aT.bo (.int .u8 x)]).length=len:=by simp;omega
 have R:fM (vE bH) bH (.aN 1 ((g.take len).map λx=>[aT.bo (.int .u8 x)])) (.slice (some ⟨b,o,none⟩) ((g.take len).map λx=>[aT.bo (.int .u8 x)]).length t):=by
  have A:∀(i:Nat) (cs:eb),((g.take len).map λx=>[aT.bo (.int .u8 x)])[i]? =some cs->i<len/\cs=[aT.bo (.int .u8 (g.getD i 0))]:=by
   intro i cs hi;have w:i<len:=by have:=(g8.1 hi).1;omega
   simp only[lx,nz,w,gF,jG]at hi;obtain⟨x,d,rfl⟩:=hi;exact⟨w,by simp[List.getD,d]⟩
  refine .aN (λi _=> .int .u8 (g.getD i 0)) (by omega) I O (λbx=>?_) (λi cs hi=>?_) (λi j cs q hi h=>?_) (λi j cs q hi h=>?_) (λi j cs q hi h=>?_);have B:=C (len-1) (by omega);rw[Addr.add_lit]at B;have:=YJ B;unfold vE;omega;rw[(A i cs hi).2];rfl;obtain⟨w,rfl⟩:=A i cs hi;have y:j=0:=by have:=(g8.1 h).1;simp at this;omega
  subst y;have:=C i (by omega);rw[Addr.add_lit]at this;simpa using this;obtain⟨w,rfl⟩:=A i cs hi;have y:j=0:=by have:=(g8.1 h).1;simp at this;omega
  subst y;cases h;rfl;obtain⟨w,rfl⟩:=A i cs hi;have y:j=0:=by have:=(g8.1 h).1;simp at this;omega
  subst y;cases h;exact .bo rfl
 rw[al]at R;refine⟨.aN 1 (((g.take len).map Int.toNat).map λc=>[.ag .u8 (18446744073709551616+c)]),len,.inr ⟨_,rfl,by simp;omega,λr hr=>by obtain⟨c,B,rfl⟩:=ia.1 hr;obtain⟨x,d,rfl⟩:=ia.1 B;have:=Q x d;exact⟨_,by omega,rfl⟩⟩,by rw[e];exact R,λz ar k a2=>⟨2,?_⟩⟩
 refine shut_ints 0 Tryz.underlying23 Tryz.underlying5 YQ (pg _) T I ?_ (λi hi=>?_) K;by_cases h0:g.length=0;have a3:t=0:=by omega
 have a4:len=0:=by omega
 rw[h0,a3,a4];split<;>rfl;have:=a2 (.cell b o) (by simp only[MemPlace.row,ia,List.mem_range];exact⟨0,by omega,rfl⟩);rw[dr (show k b=true from this)];exact J;rw[<-C i hi];exact ar.cell (p:=Addr.add ⟨b,o,none⟩ i) (by rw[Addr.add_lit];exact O)
end
theorem axv(h:(Lit.int .u32 n).wf=true):0<=n:=by
 simp only[Lit.wf,cC,nB]at h;have a:IntKind.u32.min=0:=by decide
 rw[a]at h;exact h.1
theorem alX(H:Type)(enc:TypeId×Value->H)(bH:World)(E:Nat)(args:Array Value)(r F:List (DataW H))(G:List MemPlace)
 (a:∀(j:Nat) t v,Tryz.f3.params[j]? =some t->args[j]? =some v->Value.okWide Tryz.prog bH .any E t v)
 (u:DataW.Whole enc Tryz.prog Tryz.f3.params.toList Rows.forwardTrueSpec.vars false bH args.toList r F G)(I:laidMetH Tryz.prog Rows.forwardTrueRow.laid bH):
 Calls Tryz.prog 3 args bH λe c=>∃v,e= .returned v/\Rows.forwardTrueSpec.post enc Tryz.prog Tryz.f3 false true false false bH args v c:=by
 have w:=u;obtain⟨p,q,z,J,rfl,Z,al⟩:=u;have g:DataW.TrodAll enc Tryz.prog bH 0 (λ_=>true) true Tryz.f3.params.toList args.toList r p:=z;rw[Tryz.params3]at g a;obtain⟨w0,l,K,d,d0,d1,ar,L,M,rfl,rfl,rfl,t,t0,t1⟩:=trodAll_three g;obtain⟨rfl,rfl⟩:=trodVars_none J;have O:=ans I
 letI:=aw8
 obtain⟨n,rfl,rfl,rfl,A⟩:=open_int Tryz.underlying22 (a 0 22 w0 rfl rfl) t;obtain⟨x,N,Q,R,S⟩:=aef (a 1 23 l rfl rfl) t0;obtain⟨y,N',T,V,X⟩:=aef (a 2 23 K rfl rfl) t1;clear z g;simp only[qy,yO]at w;have hn:=axv A;have B:=aqM (m:=n.toNat) Q T;have Y:bk (.U true)= .bo (.bool true):=by simp only[bk]
 have h:bk (.ag .u32 (18446744073709551616+n.toNat))= .bo (.int .u32 n):=by
  have h:Hf.intOf (18446744073709551616+n.toNat)=n:=by unfold Hf.intOf;omega
  simp only[bk,h]
 rw[Y,h]at B;refine(avD B O (.bo rfl) R V).mono ?_;rintro e c ⟨rfl,k⟩;refine⟨_,rfl,?_⟩;refine auf (pa:=[]++(L++M)) (pv:=[]) w (λ_ _ _=>trodAll_mk1 (shut_bool Tryz.underlying4 _)) (λC D=>?_) (λ_ _=>rfl) (by simp) k (ok_one (by kernel_rfl) rfl (okWide_bool_mk Tryz.underlying4 _));exact trodAll_mk3 (shut_int Tryz.underlying22 A) (S c k C λq o=>D q (by simp[o])) (X c k C λq o=>D q (by simp[o]))
end Go.Proofs.YteehpeajjbkjnaaGreatDoor
namespace Go.Hf
end Go.Hf
namespace Go.Proofs.YteehpeajjbkjnaaGreatDoor
open Go Go.ChangeShapes Go.WideShapes Go.ChangeAt Go.WideMaps Go.WideElems Go.RowKit
set_option maxRecDepth 100000
theorem lifted(os:Os)(a:os.Started)(H:Type)(enc:TypeId×Value->H):
 ReturnsInHanded {} Tryz.checked os 3 .any (λw args=>(Rows.forwardTrueSpec.pre enc Tryz.prog Tryz.f3 [] false w args/\laidMetH Tryz.prog Rows.forwardTrueRow.laid w)/\sizedMet enc Tryz.prog Tryz.f3 (OpenSpec.ofChange Rows.forwardTrueSpec) false w args)
  (Rows.forwardTrueSpec.post enc Tryz.prog Tryz.f3 false true false false):=by
 refine returnsInHanded_of_change_and (C:=Tryz.checked) (X:=λw _=>laidMetH Tryz.prog Rows.forwardTrueRow.laid w) (λ_ _ _ b h=>h.of_heap b) L8 a (by as_aux_lemma=>kernel_rfl) Tryz.func3
  (ChangeSpec.witness_shaped (enc:=enc) (C:=Tryz.checked) (os:=os) (X:=λw _=>laidMetH Tryz.prog Rows.forwardTrueRow.laid w) false (World.laidAll Tryz.prog os Rows.forwardTrueRow.laid) H6 8 (axx os)
   (avR os) (axA os) (axB os) (axC os) (axD os)) ?_
 intro bH c args d e g i j _ _ k _;exact alX H enc bH c args d e g i j k
theorem avG:Rows.ForwardTrueSaid:=
 OpenClaim.holds_of_wide 3 Tryz.f3 rfl rfl rfl rfl rfl rfl rfl ⟨rfl,rfl,rfl,rfl,rfl⟩ rfl rfl rfl rfl rfl (by as_aux_lemma=>kernel_rfl) Tryz.func3 avj
  (of_decide_eq_true (by as_aux_lemma=>kernel_rfl)) (by unfold Func.isWrapper;first|(rw[if_pos (by decide+kernel)];kernel_rfl)|(rw[if_neg (by decide+kernel)];exact⟨rfl,rfl⟩))
  (λos a H enc _=>lifted os a H enc)
end Go.Proofs.YteehpeajjbkjnaaGreatDoor
namespace Go.Hf
end Go.Hf
set_option maxRecDepth 100000
namespace Go.Proofs.YteehpeajjbkjnaaGreatDoor
open Go Go.Hf
theorem an5:(Nj.any λg=>(Tryz.prog.funcs[g]?).any Func.goes)=false:=by kernel_rfl
theorem an6:Tryz.prog.funcs.any Func.goes=false:=by kernel_rfl
theorem acs:Tryz.prog.funcNamed Rows.forwardTrueRow.func=some 3:=by kernel_rfl
end Go.Proofs.YteehpeajjbkjnaaGreatDoor
namespace Go.Hf
end Go.Hf
set_option maxRecDepth 100000
namespace Go.Proofs.YteehpeajjbkjnaaGreatDoor
open Go Go.Hf
theorem ard:true=Tryz.prog.looks []:=by kernel_rfl
theorem an7:Tryz.prog.goes 3=false:=by unfold Program.goes;rw[Gf,an5,an6,Bool.and_false,Bool.or_false]
theorem an8(P:Program)(c:OpenClaim)(f:Nat)(a:P.funcNamed c.func=some f)(b:c.start= .entering)(d:P.goes f=false):false=c.goesBy P:=by unfold OpenClaim.goesBy Program.goesAt Program.goesFrom;rw[a,b];simp[d]
theorem an4:false=Rows.forwardTrueRow.goesBy Tryz.prog:=an8 _ _ 3 acs rfl an7
theorem at7(f:FuncId)(fn:Func)(b:Tryz.prog.funcNamed Rows.forwardTrueRow.func=some f)(c:Tryz.prog.funcs[f]? =some fn):
 true=Tryz.prog.looks []/\∀(j:Nat) t,fn.params[j]? =some t->Tryz.prog.wantsStandIn t=false:=by
 obtain rfl:f=3:=l2 (acs.symm.trans b)|>.symm;obtain rfl:fn=Tryz.f3:=(l2 (Tryz.func3.symm.trans c)).symm;refine⟨ard,λj t a=>?_⟩;rw[Tryz.params3]at a;have d:t∈[22,23,23]:=by simpa using Array.mem_of_getElem? a
 have e:([22,23,23].all λu=> !Tryz.prog.wantsStandIn u)=true:=by as_aux_lemma=>kernel_rfl
 exact(show Tryz.prog.wantsStandIn t=false by simpa using kg.1 e t d)
end Go.Proofs.YteehpeajjbkjnaaGreatDoor
namespace Go.Hf
end Go.Hf
namespace Go.Proofs.YteehpeajjbkjnaaGreatDoor
open Go Go.ChangeShapes Go.WideShapes Go.ChangeAt Go.WideMaps Go.WideElems Go.RowKit
set_option maxRecDepth 100000
theorem axu:Rows.forwardTrueRow.wfByText (OpenSpec.ofChange Rows.forwardTrueSpec)=true:=by kernel_rfl
theorem arl:Tryz.prog.mainIs=some (true, "1172aa7986709a29e68a3c4b1fe57063addca7aca3f7588cf4c4655975e51210".toList):=by kernel_rfl
theorem card:Rows.ForwardTrueCardSaid:=
 Claim7.holds_tied_plain_at .later [] _ _ _ _ avG (λ_ h=>by cases h) axu (λ_ h=>by cases h) anE rfl ⟨rfl,rfl⟩ arl rfl at7 an4
end Go.Proofs.YteehpeajjbkjnaaGreatDoor
namespace Go.Hf
end Go.Hf

import Derived.Test.YthiipifjdfmblaaGreatDoorBe
import Derived.Test.YthiipifjdfmblaaGreatDoorBl
import Derived.Test.YthiipifjdfmblaaGreatDoorBm
import Derived.Test.YthiipifjdfmblaaGreatDoorBa
import Derived.Test.YthiipifjdfmblaaGreatDoorAq
import Derived.Test.YthiipifjdfmblaaGreatDoorAg
import Derived.Shelf.Strings.Builder1
import Derived.Tactics
import Derived.Tactics2
import Derived.WalkKit
import Derived.Test.YthiipifjdfmblaaGreatDoorProg
import Derived.Test.YthiipifjdfmblaaGreatDoorBf
import Derived.Test.YthiipifjdfmblaaGreatDoorBg
import Derived.Test.YthiipifjdfmblaaGreatDoorBh
import Derived.Test.YthiipifjdfmblaaGreatDoorBi
import Derived.Test.YthiipifjdfmblaaGreatDoorBj
import Derived.Test.YthiipifjdfmblaaGreatDoorBk
import Derived.Test.YthiipifjdfmblaaGreatDoorBn
import Derived.Test.YthiipifjdfmblaaGreatDoorBo
import Derived.Test.YthiipifjdfmblaaGreatDoorBp
import Derived.Test.YthiipifjdfmblaaGreatDoorBq
import Derived.Test.YthiipifjdfmblaaGreatDoorBr
set_option linter.all false
set_option maxRecDepth 100000
namespace Go.Hf
open Go.RowKit
section
variable[Tok]
noncomputable def qJ(L a:Nat):Fn:=λf=>if f=7 then bB bD 300 f else if f=8 then bB EQ 300 f else if f=9 then bB bD L f else bB bD a f
theorem Ut:∀d:List Nat,gZ 0 d=[]
 |[]=>rfl
 |k::d=>Ut d
theorem aaG{a b:Bool}(h:cS a b=true):a=true/\b=true:=by cases a<;>cases b<;>first|exact⟨rfl,rfl⟩|cases h
theorem akl:∃w,(∃n l,w= .aQ n l)/\aK (bB EQ 300) 8 [.V .u32 18446744073709551616] w/\bl λu=>Lv u w:=by
 have h:=akF;unfold aK;cases e:bB EQ 300 8 [.V .u32 18446744073709551616] 0 .nil with
 |ax=>have:=h 0;rw[e] at this;cases this
 |ok w ub s d=>
  have j:∀n,adP n (.ok w ub s d)=true:=λn=>by have:=h n;rwa [e] at this
  have k:∀n,(cS (Nat.beq ub 0) (cS (Wp w) ((iu++i1++lS).all λh=>dy (bB bD (n+60) 153 [w,.agg [.s h.1 h.2.1,.s h.2.2.1 h.2.2.2.1]] 0 .nil) (.a0 [ao h.2.2.2.2,.F true]))))=true:=j;have a:=λn=>aaG (k n);have c:=λn=>aaG (a n).2;have o:ub=0:=gz (a 0).1;have g:∃n l,w= .aQ n l:=by have:=(c 0).1;cases w<;>first|exact⟨_,_,rfl⟩|cases this
  subst o;exact⟨w,g,⟨s,d,rfl⟩,bl.kQ 60 λn=>⟨λq p=>eN (cB (c n).2 p),g⟩⟩
theorem fD(u:Fn)(a:an)(b:Nat)(aET:b1):D9 u [a] b aET=IB u b a (ba b aET):=rfl
theorem ou{x:an}{N:Nat}(g:(x= .aE/\N=0)\/∃l,x= .aQ 1 l/\l.length=N/\∀r∈l,∃c:Nat,c<256/\r=[.V .u8 (18446744073709551616+c)]):∃L e,∃s d,D9 (qJ L e) [x] 0 .nil= .ok (.F true) 0 s d:=by
 obtain⟨w,D,E,aR⟩:=akl;obtain⟨L,G⟩:=ahv aR;obtain⟨h,j,H⟩:=D;subst H;have hh:∀ob (f:jm),aD ob x f=f x []:=λob f=>by rcases g with⟨rfl,_⟩|⟨l,rfl,_⟩<;>rfl
 have n:∀k:an->aw,bq false x k=k (ao N):=λk=>by
  rcases g with⟨rfl,rfl⟩|⟨l,rfl,n,_⟩
  ·exact hy k
  ·rw[<-n];exact eA _ _ k
 have I:∀f:aB->aw,cC 0 1 x [.aE,aL] f=f [x,aL]:=λf=>by rcases g with⟨rfl,_⟩|⟨l,rfl,_⟩<;>rfl
 have u:∀e,aK (qJ L e) 7 [] (.F true):=λe=>eN (a:=bB bD 300 7 [] 0 .nil) aAM;have J:∀e,aK (qJ L e) 8 [.V .u32 18446744073709551616] (.aQ h j):=λe=>E;by_cases bx:60<N
 ·refine⟨L,0,?_⟩;have y:=u 0;rw[fD,IB,aT,hj,iz,a6,Q7,n,Bp,hH,bN,bL,fp,gE,bj,fO,av];exact b9
 ·have K:oi x N:=⟨by omega,g⟩;have M:=G L (cY L) x N;have O:(ba 0 .nil).fz 0 14 29 [x,aL]=(ba 0 .nil).fz 0 14 29 [x,ao 0]:=by rw[bF]
  obtain⟨ub,a8,p,t⟩:∃ub a8 p,(ba 0 .nil).fz 0 14 29 [x,ao 0]= .mk ub a8 p:=⟨_,_,_,rfl⟩;have A:((ba 0 .nil).fz 0 14 29 [x,ao 0]).aj (0+14)= .box (qk (ba 0 .nil) 0 14 29) [x,ao 0]:=fE;have B:((ba 0 .nil).fz 0 14 29 [x,ao 0]).ar=4096:=by rw[aI.fz,Kf];rfl
  rw[t] at A B;have P:ub=4096:=B;subst P;obtain⟨r,o,d',z',zI,⟨cl,rfl,Q,R⟩,_⟩:=M K (b:=4096) (aET:=a8) (q:=0+14) (s:=qk (ba 0 .nil) 0 14 29) (z:=0) (by omega) (by omega) (by omega) A;obtain⟨e,S⟩:=aoH R Q;obtain⟨v,C,⟨a1,a2⟩,T,X,Z⟩:=S e (cY _);refine⟨L,e,?_⟩;have y:=u e;have a3:=J e;have Il:aK (qJ L e) 16 [.aQ 11 cl] v:=T;have Ge:aK (qJ L e) 17 [.aQ 11 cl] C:=X;have GX:aK (qJ L e) 15 [v,C] (.F true):=Z;have a4:p=[]:=by have:da ((ba 0 .nil).fz 0 14 29 [x,ao 0]):=inferInstance;rw[t] at this;exact this.eq
  have a5:∀k:dg,dd (qJ L e) 0 9 [.bn (0+14) (qk (ba 0 .nil) 0 14 29) 0,.aQ h j,rz] [] ((ba 0 .nil).fz 0 14 29 [x,aL]) k=k (.aQ 11 cl) (.mk 4096 o []):=λk=>by rw[O,t,au0,a4];have fD:dd (qJ L e) 0 9 [.bn (0+14) (qk (ba 0 .nil) 0 14 29) 0,.aQ h j,ao 5] [] (.mk 4096 a8 []) k=jT 0 4096 [] k (bB bD L 9 [.bn (0+14) (qk (ba 0 .nil) 0 14 29) 0,.aQ h j,ao 5] 4096 a8):=rfl;rw[fD,zI];have bs:jT 0 4096 [] k (.ok (.aQ 11 cl) 4096 o d')=bf (Nat.ble 4096 4096) (k (.aQ 11 cl) (.mk 4096 o (aA (gZ 0 d') []))) .ax:=rfl;rw[bs,Ut];rfl
  have cc:da (.mk 4096 o []):=⟨rfl⟩;rw[fD,IB,aT y,hj,iz,a6,Q7,n,Bp,hH,bk,a6,Yo,aT a3,I,hL,abN,cy,mg];rw[av,a5,bg,mg,av,aT Il,bg,mg,av,aT Ge,ce,a1,a2,av,av,aT GX,fp,bj,fO,av];exact b9
end
section
variable{gl:eI} {P:Program} {f:Nat} {g:jq}
section
variable[Tok]
theorem ae8{args:dA}{a:aG}(h:uP gl P f args a)(ob:cD)
 (d:∀(g:ck) (w:World) (p:aG) (v:Value),p∈args->dT g w ob p v->dT g w qY p v):lx gl P f args ob a ob:=by
 obtain⟨⟨j,k⟩,l⟩:=h;refine⟨j,λg w vs n o b=>?_⟩;refine(k g w vs n oC.none ⟨b.1,λi p v c q=>d g w p v (dr c) (b.2 i p v c q)⟩).mono ?_;rintro e w' ⟨v,g',rfl,r,t⟩;exact⟨v,⟨g'.U,g.b3,g.cap⟩,rfl,ml.frame o r,t.adW l rfl⟩
theorem Tq:∀{l:aB},rm l=true->∀x∈l,DT x=true
 |[],_,x,h=>by cases h
 |y::l,h,x,a=>by
  have e: @Bool.rec (λ_=>Bool) false (rm l) (DT y)=true:=h;cases b:DT y with
  |false=>rw[b] at e;cases e
  |true=>
   rw[b] at e;rcases gy.1 a with rfl|a
   ·exact b
   ·exact Tq e x a
theorem ach:∀{cs:aB},b8 cs=true->cs.flatMap an.key=[]
 |[],_=>rfl
 |c::r,h=>by
  have a:b8 r=true/\an.key c=[]:=by cases c<;>first|exact⟨h,rfl⟩|exact absurd h (by intro h;cases h)
  rw[kh,a.2,ach a.1];rfl
theorem aqA{x:an}(h:DT x=true):x.cR=[]:=by cases x<;>first|exact ach h|rfl|cases h
theorem acA(h:∀u,mD gl P u->∀args b s d,g u args 0 .nil= .ok b 0 s d->uP gl P f (args.map bi) (bi b)):i5 gl P f (me g):=by intro u c args ub aET b q r t i;obtain⟨j,rfl,rfl,rfl,s,d,e⟩:=Xi i;have c1:=h u c args b s d e;refine⟨ae8 c1 _ λg w p v l n=>n.fg λk a=>?_,λ_ _ _=>rfl,λk a=>by rw[<-pb,c1.2] at a;cases a⟩;obtain⟨x,o,rfl⟩:=gp.1 l;rw[pb,aqA (Tq j x o)] at a;cases a
theorem MQ(h:i5 gl P f g):i5 gl P f (me g):=acA λu a args b s d e=>by obtain⟨c1,_,c⟩:=h u a args 0 .nil b 0 s d e;rw[vD,vD] at c1;refine⟨c1,?_⟩;rw[pb];exact AY.2 λk i=>absurd (c k i) (Nat.not_lt_zero _)
end
end
end Go.Hf
namespace Go.Proofs
open Go Go.Hf Go.RowKit Go.Shelf
def Tryz.TV:Go.Shelf.Ren:=⟨λ |169=>323|n=>n,λ |70=>355|9=>9|0=>0|72=>357|37=>22|127=>378|3=>3|5=>5|n=>n,λ |n=>n⟩
theorem Tryz.apk:Go.Proofs.Lays.n169 Tryz.prog Tryz.TV:={
 mixed:=by kernel_rfl
 f169:=Tryz.func323.trans (dt some (by kernel_rfl))
 t0:=Tryz.underlying0
 a0:=Tryz.isAgg0
 z0:=Tryz.sizeOf0
 v0:=Tryz.zeroValue0
 t3:=Tryz.underlying3
 a3:=Tryz.isAgg3
 z3:=Tryz.sizeOf3
 v3:=Tryz.zeroValue3
 t9:=Tryz.underlying9
 a9:=Tryz.isAgg9
 z9:=Tryz.sizeOf9
 v9:=Tryz.zeroValue9
 t37:=Tryz.underlying22
 a37:=Tryz.isAgg22
 z37:=Tryz.sizeOf22
 v37:=Tryz.zeroValue22
 t70:=Tryz.underlying355
 a70:=Tryz.isAgg355
 z70:=Tryz.sizeOf355
 v70:=Tryz.zeroValue355
 t72:=Tryz.underlying357
 a72:=Tryz.isAgg357
 z72:=Tryz.sizeOf357
 v72:=Tryz.zeroValue357
 t127:=Tryz.underlying378
 a127:=Tryz.isAgg378
 z127:=Tryz.sizeOf378
 v127:=Tryz.zeroValue378}
theorem Tryz.alv:Builder.Extra Tryz.prog Tryz.TV:={
 sizeBuilder:=by kernel_rfl
 liesBuilder:=by kernel_rfl
 t5:=Tryz.underlying5
 a5:=Tryz.isAgg5
 z5:=Tryz.sizeOf5
 v5:=Tryz.zeroValue5
 infoByte:=by kernel_rfl
 cellsByte:=by kernel_rfl
 sizeByte:=by kernel_rfl
 neB5:=by decide}
set_option maxHeartbeats 1000000 in
set_option maxRecDepth 100000 in
theorem ayC(b:Nat)(w:World)(c:w.cell? ⟨b,0,none⟩=some (.pointer (some ⟨b,0,none⟩))):
 Calls Tryz.prog 354 #[.pointer (some ⟨b,0,none⟩)] w λe w'=>e= .returned (.tuple #[])/\w'=w:=by
 obtain⟨j,a,_⟩:∃j,Tryz.prog.info? 357=some j/\j.size=2:=iL.1 (by kernel_rfl:(Tryz.prog.info? 357).map (·.size)=some 2)
 go_enter Tryz.func354,Tryz.ntmps354
 go_wp2
 rw[Lib.run_neq_ptr_same w _ Tryz.underlying355 a]
 go_wp2
 go_end0
 exact⟨rfl,rfl⟩
set_option maxHeartbeats 1000000 in
set_option maxRecDepth 100000 in
theorem amt(b:Nat)(w:World)(h:w.cell? ⟨b,0,none⟩=some (.pointer none))(a:w.shape? b=some (357,2))(i:w.frozen? ⟨b,0,none⟩=false):
 Calls Tryz.prog 354 #[.pointer (some ⟨b,0,none⟩)] w λe w'=>e= .returned (.tuple #[])/\w'=w.setCell ⟨b,0,none⟩ (.pointer (some ⟨b,0,none⟩)):=by
 obtain⟨j,c,d⟩:∃j,Tryz.prog.info? 357=some j/\j.size=2:=iL.1 (by kernel_rfl:(Tryz.prog.info? 357).map (·.size)=some 2);have g:liesAt Tryz.prog Tryz.prog.depth 357 (2/Tryz.prog.cellsOf 357) 0 357 1=true:=by kernel_rfl
 go_enter Tryz.func354,Tryz.ntmps354
 go_wp2
 rw[Lib.run_to_unsafe w ⟨b,0,none⟩ Tryz.underlying355 Tryz.underlying386 c (by rw[d];decide) a (Nat.zero_lt_succ 1)];simp only[Result.andThen];rw[Oper.upon_value]
 go_wp2
 rw[run_callFunc_extern Tryz.func370 (by kernel_rfl) (by kernel_rfl) (by kernel_rfl) (e:=Extern.AbiNoEscape.same) (by kernel_rfl)];rw[Lib.run_noEscape];simp only[Result.andThen];rw[Oper.upon_value]
 go_wp2
 rw[Lib.run_from_unsafe w ⟨b,0,none⟩ Tryz.underlying386 Tryz.underlying355 c a g];simp only[Result.andThen];rw[Oper.upon_value]
 go_wp2
 go_end0
 exact⟨rfl,rfl⟩
set_option maxHeartbeats 1000000 in
set_option maxRecDepth 100000 in
theorem apW(b r a:Nat)(p:Value)(c:Array Value)(T:TypeId)(l:List UInt8)(w:World)(h:l≠[])(i:w.heap[b]? =some (.cells #[p,.slice (some ⟨r,0,none⟩) l.length a] T (0,0)))
 (d:w.heap[r]? =some (.cells c 5 (0,0)))(q:l.length<=a)(n:a<=maxLen)(t:c.size=a)(k:∀(j:Nat) (x:UInt8),l[j]? =some x->c[j]? =some (.int .u8 x.toNat)):
 Calls Tryz.prog 323 #[.pointer (some ⟨b,0,none⟩)] w λe w'=>e= .returned (.string ⟨l.toArray⟩)/\w'=w.drew.freeze ⟨r,0,none⟩ l.length:=by
 have L:=Tryz.apk;have X:=Tryz.alv;have u:l.length≠0:=by simpa using h
 have c1:w.drew.cell? ⟨b,1,none⟩=some (.slice (some ⟨r,0,none⟩) l.length a):=by have:w.drew.heap[b]? =some (.cells #[p,.slice (some ⟨r,0,none⟩) l.length a] T (0,0)):=i;rw[Lib.cell_of_heap this];rfl
 have y:(Builtin.unsafeSliceData_ #[22] 378 #[.slice (some ⟨r,0,none⟩) l.length a]).run Tryz.prog w.drew= .ok (.pointer (some ⟨r,0,none⟩)) w.drew:=
  Lib.run_unsafeSliceData_row _ _ _ _ _ _ (by omega)
 have z:(Builtin.unsafeString_ #[378,3] 9 #[.pointer (some ⟨r,0,none⟩),.int .i64 l.length]).run Tryz.prog w.drew= .ok (.string ⟨l.toArray⟩) (w.drew.freeze ⟨r,0,none⟩ l.length):=by
  refine Lib.run_unsafeString_row w.drew 378 3 9 5 L.t127 X.cellsByte r c.size (by have g:w.drew.heap[r]? =some (.cells c 5 (0,0)):=d;simp[World.shape?,g]) l h (by omega) (by unfold maxLen at n;omega) ?_;intro j x o;have g:w.drew.heap[r]? =some (.cells c 5 (0,0)):=d;have:=k j x o;have e:(⟨r,0,none⟩:Addr).add j=⟨r,j,none⟩:=by unfold Addr.add;split<;>simp_all
  rw[e];simp only[World.cell?,g];simpa using this
 have A:Tryz.prog.follows .mixedOrders=true:=by kernel_rfl
 clear L X k i d
 go_enter Tryz.func323,Tryz.ntmps323
 go_wp2
 go_region
 all_goals(go_wp2;go_ret;exact⟨rfl,rfl⟩)
end Go.Proofs
namespace Go.Hf
open Go.RowKit
section
open Go Go.Proofs
def H0(w:World):Prop:=Lib.TabIs Tryz.prog w ya .u64 Lib.pow10Tab
def kC:eI:=awT H0
section
variable[Tok]
theorem VC{c:Nat->Nat}{w:World}(h:kC.ak c w):H0 w:=by obtain⟨w0,c0,a,b⟩:=h;exact azw b a
theorem aEA{f:Nat}{fn:Func}(h:Tryz.prog.funcs[f]? =some fn)(a:(fn.name== "runtime.NumGoroutine")=false)(b:fn.body.isNone=false):Hf.Enters Tryz.prog f:=⟨fn,h,a,b⟩
theorem ad1(w:World)(k:Nat)(os:Array Go.Obj):Below w.heap.size w (Sort.grow (w.drewN k) os):=by
 have a:Below w.heap.size w (w.drewN k):=by unfold World.drewN;exact⟨rfl,rfl,rfl,cY _,λ_ _=>rfl⟩
 refine a.trans ⟨rfl,rfl,rfl,by simp[Sort.grow],λb c=>?_⟩;simp only[Sort.grow];rw[Array.getElem?_append_left (by simpa using c)]
theorem aBr:i5 kC Tryz.prog 157 Iu:=aqe (aEA Tryz.func157 (by kernel_rfl) (by kernel_rfl)) λn c w a b d=>by refine(Tryz.strconv_Itoa n b d w (VC a)).mono ?_;rintro e w' ⟨rfl,k,os,rfl⟩;exact⟨rfl,ad1 w k os⟩
theorem aA7:i5 kC Tryz.prog 267 FZ:=ap4 (aEA Tryz.func267 (by kernel_rfl) (by kernel_rfl)) λn c w a b d=>by refine(Tryz.strconv_FormatInt_10 n b d w (VC a)).mono ?_;rintro e w' ⟨rfl,k,os,rfl⟩;exact⟨rfl,ad1 w k os⟩
theorem anw:i5 kC Tryz.prog 317 NH:=axr (aEA Tryz.func317 (by kernel_rfl) (by kernel_rfl)) Tryz.strconv_ParseInt_10_at64_ok
theorem auK:i5 kC Tryz.prog 319 Mz:=amQ (aEA Tryz.func319 (by kernel_rfl) (by kernel_rfl)) Tryz.strconv_ParseUint_10_at32_ok
theorem avj:i5 kC Tryz.prog 334 Pz:=atP (aEA Tryz.func334 (by kernel_rfl) (by kernel_rfl)) Tryz.strings_Compare
theorem agY:i5 kC Tryz.prog 354 (L7 357):=avw (aEA Tryz.func354 (by kernel_rfl) (by kernel_rfl)) ayC amt
theorem azZ:i5 kC Tryz.prog 323 (Qx 5):=awh (aEA Tryz.func323 (by kernel_rfl) (by kernel_rfl)) apW
theorem L4{g dB:jq}(h:i5 kC Tryz.prog 69 g)(b:i5 kC Tryz.prog 70 dB):qf kC Tryz.prog (Co g dB):=(MX (a:=[]) (by simp only[Co,Gf,JJ];exact⟨acS,azs,afQ,aC9,ara,aut,aBW,aw1,aj7,aAG,akS,aDn,alE,aAh,arF,ajm,anv,aB3,auL,ajZ,aCp,aDd,aq2,akE,akb,atJ,apI,aBs,aol,azb,aEv,ahJ,agn,aA9,axV,asF,aqD,anh,aCs,ay7,at8,apc,au8,az3,agU,h,b,aAt,agw,awH,avN,agj,ak9,ax6,axC,agB,awG,akg,ahs,aBk,ah4,ajS,ajd,aAu,akn,akY,aAW,awY,al7,af7,ayD,axW,afO,aDp,axy,asc,azl,avY,aid,ary,av2,auH,aoZ,arB,akO,ajw,azK,aDz,ax1,aug,aqo,ami,aop,aiC,an7,auu,au4,asH,aou,axw,aqS,ajW,aq5,am7,aDZ,aoO,alI,aDl,aCc,aDu,akx,aBr,alc,at2,afn,ah5,aqn,avU,aoD,apy,anP,aie,atn,axj,ahe,ahK,azy,aCQ,ayn,ahF,ah9,asG,aDs,ayU,aBo,awV,(MQ aCT),ajX,aoi,agf,apa,amy,aqi,azX,ang,ahp,amN,auV,awJ,aCb,art,ak3,akP,amO,atF,aCE,anz,arv,anR,aCm,aAa,awy,afw,ago,asP,amP,avR,aue,axg,atK,aiZ,aB1,aBP,anF,avL,aBB,ag5,ae6,aCt,axp,(MQ atk),ah1,(MQ aup),ahq,aiw,aCD,akX,as8,anD,ao3,aqr,ahN,asy,aBD,axB,auP,afC,auW,air,ar6,axe,ank,aqM,agR,axM,aA7,ar9,amr,axq,azI,ahP,aAs,azk,auv,ahn,arf,alb,amk,aiR,aoo,aky,arS,axk,aDk,alC,akU,alJ,aqg,afh,aoW,ag7,aqv,agl,aqW,aDI,aBm,as2,ahy,af9,asA,anw,atj,auK,alk,akG,aj8,azZ,aml,ato,aC1,asL,aEd,avj,aBb,aDw,axQ,ana,agA,arL,asY,apP,agY,aur,ayX,aoK,aEi,aB6,atM,trivial⟩)).1
theorem Ho:qf kC Tryz.prog bD:=L4 aC2 Zr
end
end
section
open Go Go.Proofs
variable{l:List (aB×an)}
section
variable[Tok]
theorem Wm{l:aB}{a:an}{s:b1}{d:List Nat}:∀{K:List (aB×an)},fJ K l= .ok a 0 s d->(l,a)∈K
 |[],h=>by have e:aw.ax= .ok a 0 s d:=h;cases e
 |p::K,h=>by
  have e: @Bool.rec (λ_=>aw) (fJ K l) (.ok p.2 0 .nil []) (vS (.a0 p.1.reverse) (.a0 l.reverse))= .ok a 0 s d:=h;cases b:vS (.a0 p.1.reverse) (.a0 l.reverse) with
  |false=>rw[b] at e;exact .tail _ (Wm e)
  |true=>rw[b] at e;have c:=RA _ _ b;cases p;cases e;cases List.reverse_inj.1 (an.a0.inj c);exact .head _
theorem adz{f:Nat}{K:List (aB×an)}{T:lZ}(a:qf kC Tryz.prog T)(h:∀p∈K,dy (bB T 300 f p.1 0 .nil) p.2=true):i5 kC Tryz.prog f (mY K):=acA λu c args g s d e=>by obtain⟨i,d',b⟩:=eN (h _ (Wm e));exact ayQ a b
theorem acb:i5 kC Tryz.prog 69 (mY QW):=adz Ho λp a=>by obtain rfl:=List.mem_singleton.1 a;exact azu
theorem ao9:qf kC Tryz.prog Mn:=L4 acb Zr
theorem K4{n:Nat}(h:wA (l.take n)=true)(g:wA (l.drop n)=true):wA l=true:=by have e:=List.all_append (xs:=l.take n) (ys:=l.drop n) (f:=λp=>dy (bB Mn 300 70 p.1 0 .nil) p.2);rw[Es] at e;exact e.trans (by rw[cg];exact⟨h,g⟩)
theorem aEC(h:wA l=true):∀p∈l,dy (bB Mn 300 70 p.1 0 .nil) p.2=true:=jl.1 h
theorem aqC:qf kC Tryz.prog EQ:=L4 acb (adz ao9 (aEC (K4 asR (K4 awe (K4 ahO aEo)))))
theorem asi(L e:Nat):mD kC Tryz.prog (qJ L e):=by
 intro f args ub aET a b c d h;unfold qJ at h;split at h
 ·exact zg Ho 300 f args ub aET a b c d h
 split at h
 ·exact zg aqC 300 f args ub aET a b c d h
 split at h
 ·exact zg Ho L f args ub aET a b c d h
 ·exact zg Ho e f args ub aET a b c d h
theorem adX{x:an}{N:Nat}(h:(x= .aE/\N=0)\/∃l,x= .aQ 1 l/\l.length=N/\∀r∈l,∃c:Nat,c<256/\r=[.V .u8 (18446744073709551616+c)]):uP kC Tryz.prog 5 [bi x] (bi (.F true)):=by obtain⟨L,a,s,d,e⟩:=ou h;obtain⟨g,_,j⟩:=acS (gl:=kC) (qJ L a) (asi L a) [x] 0 .nil (.F true) 0 s d e;rw[vD,vD] at g;refine⟨g,?_⟩;rw[pb];rfl
end
@[reducible] def Tw:Tok:=⟨λ_=>i0,λ_=>rfl⟩
end
end Go.Hf

import Derived.Test.YteehpeajjbkjnaaGreatDoorAy
import Derived.Test.YteehpeajjbkjnaaGreatDoorAw
import Derived.Test.YteehpeajjbkjnaaGreatDoorAv
import Derived.Test.YteehpeajjbkjnaaGreatDoorAz
import Derived.Test.YteehpeajjbkjnaaGreatDoorAm
import Derived.Test.YteehpeajjbkjnaaGreatDoorAt
import Derived.Test.YteehpeajjbkjnaaGreatDoorAi
import Derived.Test.YteehpeajjbkjnaaGreatDoorAj
import Derived.Test.YteehpeajjbkjnaaGreatDoorAk
import Derived.Test.YteehpeajjbkjnaaGreatDoorProg
import Derived.Test.YteehpeajjbkjnaaGreatDoorAh
import Derived.Test.YteehpeajjbkjnaaGreatDoorBa
import Derived.Tactics
import Derived.Tactics2
import Derived.WalkKit
set_option maxHeartbeats 1000000
set_option maxRecDepth 1000000
set_option linter.all false
noncomputable section
namespace Go.Hf
open Go.RowKit
section
variable[Tok]
def i6:az:=(qs (gK 14)).headD []
def lc:az:=((qs (gK 14)).drop 1).headD []
theorem arz(n:Nat)(w:bg)(c:Bool)(e:bf (bR bX (n+58)) 59 [.aN 32 w,.agg (cw (gs (i6.drop 1)))] (.U false))(g:bf (bR bX (n+58)) 59 [.aN 32 w,.agg (cw (gs (lc.drop 1)))] (.U c)):oZ oX (tZ (bR bX (n+58)) [.aN 32 w,.agg (rH 14 7),.agg (gK 14)] 0 .nil)=true:=by
 have t:hG.length=34:=rfl;have x:(rH 14 7).length=34:=by kernel_rfl
 have y:(gK 14).length=11:=by kernel_rfl
 have z:cg (gK 14)=true:=by kernel_rfl
 have A:i6.length=11:=by kernel_rfl
 have B:lc.length=11:=by kernel_rfl
 have f10:(gK 14)[0+10]? =some (.aN 11 [i6,lc]):=by kernel_rfl
 have h:i6[0+10]? =some (.aN 11 (qs i6)):=by kernel_rfl
 have pl:lc[0+10]? =some (.aN 11 (qs lc)):=by kernel_rfl
 have i:(qs i6).length=2:=by kernel_rfl
 have j:(qs lc).length=2:=by kernel_rfl
 have k:i6[0+0]? =some eB:=by kernel_rfl
 have l:lc[0+0]? =some eB:=by kernel_rfl
 have o:(i6.drop (0+1)).take 2=cw (gs (i6.drop 1)):=by kernel_rfl
 have C:(lc.drop (0+1)).take 2=cw (gs (lc.drop 1)):=by kernel_rfl
 have p:0+1+2<=i6.length:=by omega
 have D:0+1+2<=lc.length:=by omega
 obtain⟨R,q,r⟩:∃R:Fn->ay,(∀u:Fn,bf u 60 [.agg (gK 14),.s 7 0x696d706c696573,dM] (.U true)->bf u 59 [.aN 32 w,.agg (cw (gs (i6.drop 1)))] (.U false)->bf u 59 [.aN 32 w,.agg (cw (gs (lc.drop 1)))] (.U c)->
  tZ u [.aN 32 w,.agg (rH 14 7),.agg (gK 14)] 0 .nil=ta (R u))/\oZ oX (R (bR bX (n+58)))=true:=by
  refine⟨?_,λu d E F=>?_,?_⟩
  rotate_left
  rw[tZ,iY,PB];rw[b3,b3,cF,PA,dy,av,aU,a6,aq,a0 d,e1,gX,bc,Pz,aH,aS,bO,aP,av,aL f10,be,aP,b7,gQ,aS,be,aP,cI,aU,aH,aS,bO,aP,av,aL f10,Py,be,aP,b8,jC,aS,be,aP,cI,aU,hL,hL,bO,aP,eS,bO,aP,eS,Px,dy,bn,aH,av,aL k,fu,eL,dy,bA,cV,aH,av,aL l,fu,eL,Pw,cf,ch,dy,bA,cV,aH,av,aL h,gC,i,e4,eL,Pv,cf,ch,dy,bA,cV,aH,av,aL pl,gC,j,e4,eL,Pu,cf,ch,dy,bA,cV,Pt,aH,av,dG p,o,b4,i2,a6,aq,aq,a0,e1,jI,Ps,cf,ch,dy,gf];exact(rfl:_=ta _);cases c<;>kernel_rfl
 have d:bf (bR bX (n+58)) 60 [.agg (gK 14),.s 7 0x696d706c696573,dM] (.U true):=hF (a:=bR bX (n+58) 60 [.agg (gK 14),.s 7 0x696d706c696573,dM] 0 .nil) (by kernel_rfl);rw[q _ d e g];exact r
theorem arA(n:Nat)(w:bg)(c:Bool)(e:bf (bR bX (n+58)) 59 [.aN 32 w,.agg (cw (gs (i6.drop 1)))] (.U true))(g:bf (bR bX (n+58)) 59 [.aN 32 w,.agg (cw (gs (lc.drop 1)))] (.U c)):oZ oX (tZ (bR bX (n+58)) [.aN 32 w,.agg (rH 14 7),.agg (gK 14)] 0 .nil)=true:=by
 have y:hG.length=34:=rfl;have z:(rH 14 7).length=34:=by kernel_rfl
 have A:(gK 14).length=11:=by kernel_rfl
 have B:cg (gK 14)=true:=by kernel_rfl
 have C:i6.length=11:=by kernel_rfl
 have D:lc.length=11:=by kernel_rfl
 have f10:(gK 14)[0+10]? =some (.aN 11 [i6,lc]):=by kernel_rfl
 have h:i6[0+10]? =some (.aN 11 (qs i6)):=by kernel_rfl
 have pl:lc[0+10]? =some (.aN 11 (qs lc)):=by kernel_rfl
 have i:(qs i6).length=2:=by kernel_rfl
 have j:(qs lc).length=2:=by kernel_rfl
 have k:i6[0+0]? =some eB:=by kernel_rfl
 have l:lc[0+0]? =some eB:=by kernel_rfl
 have o:(i6.drop (0+1)).take 2=cw (gs (i6.drop 1)):=by kernel_rfl
 have p:(lc.drop (0+1)).take 2=cw (gs (lc.drop 1)):=by kernel_rfl
 have q:0+1+2<=i6.length:=by omega
 have r:0+1+2<=lc.length:=by omega
 obtain⟨R,t,x⟩:∃R:Fn->ay,(∀u:Fn,bf u 60 [.agg (gK 14),.s 7 0x696d706c696573,dM] (.U true)->bf u 59 [.aN 32 w,.agg (cw (gs (i6.drop 1)))] (.U true)->bf u 59 [.aN 32 w,.agg (cw (gs (lc.drop 1)))] (.U c)->
  tZ u [.aN 32 w,.agg (rH 14 7),.agg (gK 14)] 0 .nil=ta (R u))/\oZ oX (R (bR bX (n+58)))=true:=by
  refine⟨?_,λu d E F=>?_,?_⟩
  rotate_left
  rw[tZ,iY,PB];rw[b3,b3,cF,PA,dy,av,aU,a6,aq,a0 d,e1,gX,bc,Pz,aH,aS,bO,aP,av,aL f10,be,aP,b7,gQ,aS,be,aP,cI,aU,aH,aS,bO,aP,av,aL f10,Py,be,aP,b8,jC,aS,be,aP,cI,aU,hL,hL,bO,aP,eS,bO,aP,eS,Px,dy,bn,aH,av,aL k,fu,eL,dy,bA,cV,aH,av,aL l,fu,eL,Pw,cf,ch,dy,bA,cV,aH,av,aL h,gC,i,e4,eL,Pv,cf,ch,dy,bA,cV,aH,av,aL pl,gC,j,e4,eL,Pu,cf,ch,dy,bA,cV,Pt,aH,av,dG q,o,b4,i2,a6,aq,aq,a0,e1,gX,Ps,cf,ch,dy,cV,XB,aH,av,dG r,p,b4,i2,a6,aq,aq,a0,e1];exact(rfl:_=ta _);cases c<;>kernel_rfl
 have d:bf (bR bX (n+58)) 60 [.agg (gK 14),.s 7 0x696d706c696573,dM] (.U true):=hF (a:=bR bX (n+58) 60 [.agg (gK 14),.s 7 0x696d706c696573,dM] 0 .nil) (by kernel_rfl);rw[t _ d e g];exact x
theorem akF{u:Fn}{row y:ao}{rw:az}{e:Int}(i:rw.length=34)(j:cg rw=true)(k: -100<e/\e<100)(l:bf u 57 [.agg (gK 14)] (.bD [hQ 14,.agg (it 14)]))(o:bf u 58 [hQ 14] (sb (hQ 14)))(p:bf u 58 [.aN 11 [it 14]] (sb (.aN 11 [it 14])))(a:∀(ob:dE) (f:gI),bi ob y f=f y [])
 (r:bf u 70 [y,.agg (rH 14 7),.agg (gK 14)] (.bD [.agg rw,aA e])):∃s d,n8 u [y,.agg (jD 14),.agg (gK 14),aA 7] 0 .nil= .ok (.bD [.agg rw,aA e]) 0 s d:=by
 have t:hG.length=34:=rfl;have q:∀f:az->ay,(eu 0 2 (.agg (jD 14)) hG λc=>eu 2 1 (aA 7) c λc=>eu 3 1 (hQ 14) c f)=f (rI (jD 14) (aA 7) (hQ 14)):=λf=>by kernel_rfl
 have w:(rI (jD 14) (aA 7) (hQ 14)).length=34:=by kernel_rfl
 have b:0+3+1<=(rI (jD 14) (aA 7) (hQ 14)).length:=by omega
 have g:(rI (jD 14) (aA 7) (hQ 14)).take (0+3)++[.ba]++(rI (jD 14) (aA 7) (hQ 14)).drop (0+3+1)=rH 14 7:=rfl;have gD:(rH 14 7).length=34:=by kernel_rfl
 have x:cg (rH 14 7)=true:=by kernel_rfl
 have z:(jD 14).length=2:=by kernel_rfl
 have A:(gK 14).length=11:=by kernel_rfl
 have B:cg (gK 14)=true:=by kernel_rfl
 have C:(it 14).length=11:=by kernel_rfl
 have D:cg (it 14)=true:=by kernel_rfl
 have h:∀(ob:dE) (f:gI),bi ob (hQ 14) f=f (hQ 14) []:=λob f=>by kernel_rfl
 have E:hQ 14≠ .undef:=So (by kernel_rfl);rw[n8,Ek,Jv];rw[b3,b3,cF,av,aU,bE,a6,aq,a0,ez _ _,eA _ _,Ju,cF,cM,bE,h,aq,a0,av,aU,jB,aq,iR,bE,jY,aq,a0,av,aU,Jt,q,iZ,cF,cM,dy,b8,cd,bA,bc,Oz,e4,cd,bA,bc,Oy,fu,cd,bA,bc,Ox,nU,cd,bA,bc,Ow,z9,cd,bA,bc,Ov,uM,cd,bA,bc,VU,C7,cd,bM,bw,aH,V6,abD,RJ (n:=1) (off:=0+3) (new:=[.ba]) (gn ec) rfl b,g,av,aU,av,aU,a,a6,a6,aq,aq,aq,a0,ez _ _,eA _ _,cM,lX,eU,aU,a6,ei,aq,aq];exact b6
end
section
variable[Tok]
structure Ud (r:az):Prop where
 len:r.length=13
 gL:∃a c,r[0+0]? =some (.s a c)/\r.headD .ba= .s a c
 ul:((r.drop (0+1)).take 11).length=11
 aaq:cg ((r.drop (0+1)).take 11)=true
 jx:∃k:Int,-100<k/\k<100/\r[0+12]? =some (aA k)/\(r.drop 12).headD .ba=aA k
def RV(r:az):Bool:=Nat.beq r.length 13&&((match r with| .s _ _::_=>true|_=>false)&&(cg ((r.drop (0+1)).take 11)&&([(0:Int),1,2,3,4,5,6,7,8].any λk=>kI [aA k] (r.drop 12))))
theorem aqU{r:az}(h:RV r=true):Ud r:=by
 simp only[RV,cC]at h;obtain⟨b,c,e,g⟩:=h;have b:=e8 b;obtain⟨k,i,a⟩:=nC.1 g;have a:=na a;have d: -100<k/\k<100:=by simp only[e9,iV,iU]at i;omega
 refine⟨b,?_,by rw[AY,List.length_drop];omega,e,k,d.1,d.2,?_,by rw[<-a];rfl⟩;split at c;exact⟨_,_,rfl,rfl⟩;cases c;have:=oy (λl=>l[0]?) a;simpa using this.symm
theorem Ea:pQ.length=20:=by kernel_rfl
theorem afE:pQ.all RV=true:=by kernel_rfl
theorem afD(i:Nat)(hi:i<20):pQ[i]? =some (uH i):=by unfold uH;rw[fo (by rw[Ea];exact hi)];rfl
theorem arD(w:ao):se w (uH 15)=[w,.agg (jD 15),.agg (gK 15),aA 1]:=by kernel_rfl
theorem arE(w:ao):se w (uH 18)=[w,.agg (jD 18),.agg (gK 18),aA 1]:=by kernel_rfl
theorem arB(w:ao):se w (uH 13)=[w,.agg (jD 13),.agg (gK 13),aA 6]:=by kernel_rfl
theorem arC(w:ao):se w (uH 14)=[w,.agg (jD 14),.agg (gK 14),aA 7]:=by kernel_rfl
theorem G0{a:ay}(h:oZ oX a=true):∃v,wG v/\∃s d,a= .ok v 0 s d:=by obtain⟨v,b,c⟩:=atG h;exact⟨v,arF b,c⟩
theorem anh:bV λu=>∀(w:bg) (c:Bool),bf u 59 [.aN 32 w,.agg (cw (gs ((it 15).drop 1)))] (.U c)->oZ oX (n8 u [.aN 32 w,.agg (jD 15),.agg (gK 15),aA 1] 0 .nil)=true:=bV.hE 59 λn w c h=>by exact aci 15 (.inl rfl) n w c h
theorem ani:bV λu=>∀(w:bg) (c:Bool),bf u 59 [.aN 32 w,.agg (cw (gs ((it 18).drop 1)))] (.U c)->oZ oX (n8 u [.aN 32 w,.agg (jD 18),.agg (gK 18),aA 1] 0 .nil)=true:=bV.hE 59 λn w c h=>by exact aci 18 (.inr rfl) n w c h
theorem anj:bV λu=>∀(w:bg) (F:az) (e:Bool),F.length=37->bf u 69 [.aN 32 w,.agg (cw (gs (rD.drop 1)))] (.bD [.agg F,.U e])->oZ oX (n8 u [.aN 32 w,.agg (jD 13),.agg (gK 13),aA 6] 0 .nil)=true:=bV.hE 59 λn w F e l h=>by exact ary n w e F l h
theorem ank:bV λu=>∀(w:bg) (c c':Bool),bf u 59 [.aN 32 w,.agg (cw (gs (i6.drop 1)))] (.U c)->bf u 59 [.aN 32 w,.agg (cw (gs (lc.drop 1)))] (.U c')->oZ oX (tZ u [.aN 32 w,.agg (rH 14 7),.agg (gK 14)] 0 .nil)=true:=bV.hE 58 λn w c c' h h'=>by cases c;exact arz n w c' h h';exact arA n w c' h h'
theorem anl:bV λu=>(bf u 57 [.agg (gK 14)] (.bD [hQ 14,.agg (it 14)])/\bf u 58 [hQ 14] (sb (hQ 14)))/\bf u 58 [.aN 11 [it 14]] (sb (.aN 11 [it 14])):=bV.hE 60 λn=>⟨⟨hF (a:=bR bX (n+60) 57 [.agg (gK 14)] 0 .nil) (by kernel_rfl),hF (a:=bR bX (n+60) 58 [hQ 14] 0 .nil) (by kernel_rfl)⟩,hF (a:=bR bX (n+60) 58 [.aN 11 [it 14]] 0 .nil) (by kernel_rfl)⟩
theorem am4:bV λu=>∀w:bg,w.length<=900->(∀e∈w,tM e)->∃v,wG v/\bf u 70 [.aN 32 w,.agg (rH 14 7),.agg (gK 14)] v:=(ZR.and ank).up λn h w a b=>by obtain⟨c,d⟩:=h.1 w a b (gs (i6.drop 1));obtain⟨c',g⟩:=h.1 w a b (gs (lc.drop 1));obtain⟨v,i,j⟩:=G0 (h.2 w c c' d g);exact⟨v,i,eO tZ j⟩
theorem Z1{w:bg}(bH:qF w){t:dc}:∃F e,Mq (pX w t)= .bD [.agg F,.U e]/\F.length=37:=by
 cases h:pX w t with
 |none=>exact⟨nZ,false,rfl,rfl⟩
 |some F=>have:=List.mem_of_find?_eq_some h;obtain⟨e,a,c⟩:=pO.1 this;exact⟨F,true,rfl,((bH.2 e a).1.row F c).1⟩
theorem amO:bV λu=>∀w:bg,qF w->(∀e∈w,tM e)->∀r∈pQ,∃v,wG v/\bf u 19 (se (.aN 32 w) r) v:=by
 have z:bV λu=>∀w:bg,∀i∈Qv,∃v,wG v/\bf u 19 (se (.aN 32 w) (uH i)) v:=bV.hE 60 λn w i hi=>G0 (gp (auS n w) hi);have j:bV λu=>∀w:bg,qF w->(∀e∈w,tM e)->∀i,(i=13\/i=14\/i=15\/i=18)->∃v,wG v/\bf u 19 (se (.aN 32 w) (uH i)) v:=(((ZR.and anh).and (ani.and anj)).and ((QU.and am4).and anl)).up λn h w bH a i hi=>by obtain⟨⟨⟨q,A⟩,B,C⟩,⟨D,E⟩,⟨G,H⟩,I⟩:=h;rcases hi with rfl|rfl|rfl|rfl;obtain⟨F,e,nK,J⟩:=Z1 bH (t:=gs (rD.drop 1));have g:=D w bH (gs (rD.drop 1));rw[nK]at g;obtain⟨v,b,d⟩:=G0 (C w F e J g);rw[arB];exact⟨v,b,eO n8 d⟩;obtain⟨v,⟨r,e,rfl,x,y,l,p,k⟩,K⟩:=E w bH.1 a;rw[arC];exact⟨_,⟨r,e,rfl,x,y,l,p,k⟩,eO n8 (akF (row:= .ba) l p ⟨x,y⟩ G H I (λob f=>i2 ob _ _ f) K)⟩;obtain⟨c,o⟩:=q w bH.1 a (gs ((it 15).drop 1));obtain⟨v,b,d⟩:=G0 (A w c o);rw[arD];exact⟨v,b,eO n8 d⟩;obtain⟨c,o⟩:=q w bH.1 a (gs ((it 18).drop 1));obtain⟨v,b,d⟩:=G0 (B w c o);rw[arE];exact⟨v,b,eO n8 d⟩
 refine(z.and j).imp λn h w bH a r k=>?_;obtain⟨i,hi,e⟩:=yM.1 k |>.imp λi h=>(⟨(g8.1 h).1,h⟩:i<pQ.length/\pQ[i]? =some r);rw[Ea]at hi;rw[afD i hi]at e;obtain rfl:=l2 e;by_cases j:i=13\/i=14\/i=15\/i=18;exact h.2 w bH a i j;refine h.1 w i ?_;have:i=0\/i=1\/i=2\/i=3\/i=4\/i=5\/i=6\/i=7\/i=8\/i=9\/i=10\/i=11\/i=12\/i=16\/i=17\/i=19:=by omega
 simp only[Qv,e9,iV,iU];exact this
end
section
variable{ob:dE}{q s e sz p j d:Nat}{es ca:bg}{cs:az}{gL:dc}{h:aO}{x:ao}
section
variable[Tok] {u:Fn}
def mJ(gL:dc)(a c:ao):az:=[ku,.s gL.1 gL.2.1,.s gL.2.2.1 gL.2.2.2,.s 0 0,.ba,.s 0 0,.s 0 0,.ba,cQ,bt,.s 0 0,.s 0 0,bt,.s 0 0,.s 0 0,.s 0 0,.s 0 0,.s 0 0,.ba,.ba,.ba,a,.ba,.ba,.s 0 0,.s 0 0,.ba,c,.ba,.ba,.s 0 0,(.ag .u64 18446744073709551616)]
def qE(e:az):Prop:=∃gL b a rs,e=mJ gL (.aN 11 [b]) a/\cE 34 a rs/\rs.length<=1/\∀r∈rs,Ei r
theorem Rb(ho:ob q= .aV s e sz es false)(r:az)(f:az->fk->ay):jV ob (.aV q s 0 es.length::r) f=jV ob r λa us=>f (.aN sz es::a) us:=by have b:jV ob (.aV q s 0 es.length::r) f=lq (ob q) λj e sz ea bL=>bB (Nat.beq s j) (bB (Nat.ble (Nat.add 0 es.length) (eJ ea)) (jV ob r λa us=>f (.aN sz (mU ea 0 es.length)::a) (@Bool.rec (λ_=>fk) us ((q,.aV j e sz ea false)::us) bL)) .aF) .aF:=rfl;rw[b,ho,uO,fI,da,gV,eT,dJ (by rw[h5];omega),da,Ah]
theorem aas{l:az}(h:cg l=true)(f:az->fk->ay):jV ob l f=f l []:=by have:=CD ob (pre:=l) [] f h;rw[qy]at this;rw[this];show f (l++[]) []=_;rw[qy]
theorem abn{hu z:az}{f:bg->fk->ay}(a:cg cs=false)(b:hu.length=32)(c:∀g:az->fk->ay,jV ob cs g=g hu []):eo ob 32 0 (.agg cs) (eF 1 z) f=f [hu] []:=by have i:eo ob 32 0 (.agg cs) (eF 1 z) f=bB (cg cs) (oh (.agg cs) λnew=>bB (Nat.beq (eJ new) 32) (bB (Nat.blt 0 (eJ (eF 1 z))) (f (wh (eF 1 z) 0 new) []) .aF) .aF) (jV ob cs λk us=>oh (.agg k) λnew=>bB (Nat.beq (eJ new) 32) (bB (Nat.blt 0 (eJ (eF 1 z))) (f (wh (eF 1 z) 0 new) us) .aF) .aF):=rfl;rw[i,a,Qg,c,Lc,gV,b,fI,da];rfl
def aaD(gL:dc):az:=[ku,.s gL.1 gL.2.1,.s gL.2.2.1 gL.2.2.2,.s 0 0,.ba,.s 0 0,.s 0 0,.ba,cQ,bt,.s 0 0,.s 0 0,bt,.s 0 0,.s 0 0,.s 0 0,.s 0 0,.s 0 0,.ba,.ba,.ba]
def aaC:az:=[.ba,.ba,.s 0 0,.s 0 0,.ba]
def aaB:az:=[.ba,.ba,.s 0 0,(.ag .u64 18446744073709551616)]
theorem anH(ho:ob q= .aV s e 11 es false)(g:az->fk->ay):jV ob (mJ gL (.aV q s 0 es.length) .ba) g=g (mJ gL (.aN 11 es) .ba) []:=by show jV ob (aaD gL++(.aV q s 0 es.length::(aaC++ .ba::aaB))) g=_;rw[CD ob _ _ (by rfl),Rb ho,aas (by rfl)];rfl
theorem anI{e':Nat}{ea:bg}(ho:ob q= .aV s e 11 es false)(a:ob p= .aV j e' 34 ea false)(g:az->fk->ay):jV ob (mJ gL (.aV q s 0 es.length) (.aV p j 0 ea.length)) g=g (mJ gL (.aN 11 es) (.aN 34 ea)) []:=by show jV ob (aaD gL++(.aV q s 0 es.length::(aaC++ .aV p j 0 ea.length::aaB))) g=_;rw[CD ob _ _ (by rfl),Rb ho,CD ob _ _ (by rfl),Rb a,aas (by rfl)];rfl
theorem hS.cB{t:Nat}(bH:hS q h x ca)(hd:d<4096:=by decide):hS q (h.cB 0 d t cs) x ca:=bH.dP hd
theorem hS.dp(bH:hS q h x ca)(hd:d<4096:=by decide):hS q (h.dp 0 d cs) x ca:=bH.dP hd
theorem hS.fc{bL:Bool}(bH:hS q h x ca)(hd:d<4096:=by decide):hS q (h.fc 0 d e sz es bL) x ca:=bH.dP hd
theorem ap4{b n off l:Nat}{wk:Option (List Nat)}{k:dv}:bl b wk n (.aQ q s off) (.aV p j 0 l) h k=bl b wk n (.aQ q s off) (.agg [.aV p j 0 l]) h k:=rfl
theorem YG{P:ay->Prop}{bZ:Nat}{bits c i:ao}{k r:az}{g:iF}(bH:hS q h x ca)(l:ca.length<900)(ho:h.am (0+8)= .box bZ k)(B:k.length=32)(n:∀(z:az) (f:bg->fk->ay),eo h.am 32 0 (.agg k) (eF 1 z) f=f [r] [])
 (t:∀a b,hS q b a (ca++[r])->P (g bits a c i b)):P (JU u 0 g bits x c i (.aQ (0+8) bZ 0) h):=by
 haveI:=bH.ax
 haveI:=bH.b5
 obtain⟨a,b,w,A⟩:=hS.g3 (d':=2132) (wk:=none) (bH.fc (d:=2131) (e:=73) (sz:=32) (es:=[r]) (bL:=false)) (y:= .aV (0+2131) (ie h 0 2131) 0 1) (r:=r) (λf=>pt (hX (h:=h)) rfl f) l (λo=>kC 0 _);have e:JU u 0 g bits x c i (.aQ (0+8) bZ 0) h=g bits a c i b:=by rw[JU];rw[av,aU,n,aq,iR,A]
 rw[e];exact t a b w
end
end
section
variable[Tok] {u:Fn}
theorem ab9(b:Nat)(rk:List Nat)(a c:Nat):k3 b rk (.s a c)=true:=rfl
def Ba(hC:bg)(m:Nat)(a:ay):Prop:=∃T,(∀e∈T,qE e)/\T.length<=m/\∃s d,a= .ok (.aN 32 (hC++T)) 0 s d
theorem aqB{m q:Nat}{hC tD:bg}(b2:tD.length<=30)(y:∀r∈tD,Ud r)(A:∀a c,bf u 15 [.s a c] (.agg (cw (4,0x75736572,a,c))))(B:∀T,(∀e∈T,qE e)->T.length<=30->∀r∈tD,∃v,wG v/\bf u 19 (se (.aN 32 (hC++T)) r) v)(cc:hC.length<=800):
 ∀(n i N:Nat) (h:aO) (x:ao) (T:bg),n+i=tD.length->n<N->hS q h x (hC++T)->(∀e∈T,qE e)->T.length+n<=30->Ba hC 30 (gd 0 3 6 7 N (zu u 0 (λg i=>hM 0 g i)) (.ag .u32 (18446744073709551616+m)) x (.aN 13 tD) (aA ((i:Nat):Int)) h):=by
 intro n;induction n with
 |zero=>
  intro i N h x T Z al bH o H;obtain⟨N,rfl⟩:=eC N;have hi:i=tD.length:=by omega
  subst hi
  haveI:=bH.ax
  haveI:=bH.b5
  rw[jt];generalize gd 0 3 6 7 N (zu u 0 (λg i=>hM 0 g i))=C;rw[zu,gC,cz,bA,bc,hM,bJ,bH.Ag.fh,aq];exact⟨T,o,by omega,b6⟩
 |succ n ar=>
  intro i N h x T Z al bH o H;obtain⟨N,rfl⟩:=eC N;obtain⟨r,a1⟩:∃r,tD[i]? =some r:=⟨_,fo (by omega)⟩;have J:=eH a1;have R:=y r J;obtain⟨a,c,K,a2⟩:=R.gL;obtain⟨k,cn,k2,Mf,rk⟩:=R.jx;have cs:=R.len;have a3:=R.ul;have a4:=R.aaq;obtain⟨v,⟨row,e,rfl,cu,cY,c0,c1,a5⟩,B⟩:=B T o (by omega) r J;have hA:se (.aN 32 (hC++T)) r=[.aN 32 (hC++T),.agg (cw (4,0x75736572,a,c)),.agg ((r.drop (0+1)).take 11),aA k]:=by unfold se;rw[a2,rk];rfl
  rw[hA]at B;have A:=A a c;have D:0+1+11<=r.length:=by omega
  generalize E:(r.drop (0+1)).take 11=t at a3 a4 B;generalize c2:((4,0x75736572,a,c):dc)=gL at A B;have c3:cg (cw gL)=true:=rfl;have bd:((i+1:Nat):Int)=(i:Int)+1:=by omega
  have F:=λh x T bH o H=>ar (i+1) N h x T (by omega) (by omega) bH o H;rw[bd]at F;obtain⟨bs,L⟩:=ajW m i
  haveI:=bH.ax
  haveI:=bH.b5
  have c4:nx.length=32:=rfl;have c5:hG.length=34:=rfl;have p:∀(Q ST:Nat) (f:az->ay),(eu 0 1 ku nx λc=>eu 1 2 (.agg (cw gL)) c λc=>eu 21 1 (.aV Q ST 0 1) c f)=f (mJ gL (.aV Q ST 0 1) .ba):=λQ ST f=>rfl;have M:∀X c:ao,(mJ gL X c).length=32:=λ_ _=>rfl;have O:∀X c:ao,0+1+2<=(mJ gL X c).length:=λX c=>by rw[M];omega
  have S:∀X c:ao,((mJ gL X c).drop (0+1)).take 2=cw gL:=λ_ _=>rfl;have bx:∀X c:ao,0+27+1<=(mJ gL X c).length:=λX c=>by rw[M];omega
  have b1:∀X c:ao,(mJ gL X .ba).take (0+27)++[c]++(mJ gL X .ba).drop (0+27+1)=mJ gL X c:=λ_ _=>rfl;have V:(hC++T).length<900:=by rw[u7];omega
  rw[jt];generalize gd 0 3 6 7 N (zu u 0 (λg i=>hM 0 g i))=C at F ⊢;have I:∀x h,dT (aA ((i:Nat):Int)) br (λl=>C (.ag .u32 (18446744073709551616+m)) x (.aN 13 tD) l h)=C (.ag .u32 (18446744073709551616+m)) x (.aN 13 tD) (aA ((i:Int)+1)) h:=λx h=>by rw[b8,fV]
  have Y:∀b j G,hS q j b ((hC++T)++[G])->qE G->Ba hC 30 (C (.ag .u32 (18446744073709551616+m)) b (.aN 13 tD) (aA ((i:Int)+1)) j):=λb j G w ht=>by rw[DT]at w;exact F j b (T++[G]) w (λe he=>(fq.1 he).elim (o e) λh=>by rw[List.mem_singleton.1 h];exact ht) (by simp;omega)
  cases bs;rw[zu,gC,cz,bM,bw,Pp,L,bc];by_cases e0:e=0;subst e0;rw[Po,dW,be,be,aP,fH,iQ,aS,be,aP,cI,aL K,Pn,be (ab9 _ _ _ _),aP,qV,aq,a0 A,dW,be,be,aP,fH,iQ,aS,be,aP,cI,dG D,E,be,aP,jB,aq,x1,Pm,p _ _,iZ,hL,bO,aP,eS,aH,aS,bO,aP,av,dG (O _ _),S,Pl,dW,be,be,aP,fH,iQ,aS,be,aP,cI,dG D,E,dW,be,be,aP,fH,iQ,aS,be,aP,cI,aL Mf,Pk,bH.met,be,be,be,aP,(hS.dp (d:=8) (hS.cB (d:=8) (hS.fc (d:=2105) bH))).Ag.fh,a6,a6,ei,aq,aq,aq,aq,a0,ez _ _,eA _ _,hL,bO,aP,eS,b7,cd,bM,bw,Xq,av,aU,jB,aq,iR,aH,ap4,RJ (n:=1) (off:=0+27) (new:=[_]) (fJ (fS (fZ (gn ec)))) rfl (bx _ _),b1];refine YG (P:=Ba hC 30) (r:=mJ gL (.aN 11 [t]) (.aN 34 [row])) (hS.dp (d:=8) (hS.fc (d:=2127) (hS.dp (d:=9) (hS.cB (d:=9) (hS.dp (d:=8) (hS.cB (d:=8) (hS.fc (d:=2105) bH))))))) V (gn (fJ (fS (fZ (gn ec))))) rfl (λz f=>abn rfl rfl (anI (es:=[t]) (ea:=[row]) (fS (fJ (fS (fZ (fS (fZ hX)))))) (fS hX))) ?_;exactλb j w=>(I _ _).symm▸Y b j _ w ⟨gL,t,_,[row],rfl,.inr rfl,by simp,λr y=>by rw[List.mem_singleton.1 y];exact a5 rfl⟩;rw[Po,dW,be,be,aP,fH,iQ,aS,be,aP,cI,aL K,Pn,be (ab9 _ _ _ _),aP,qV,aq,a0 A,dW,be,be,aP,fH,iQ,aS,be,aP,cI,dG D,E,be,aP,jB,aq,x1,Pm,p _ _,iZ,hL,bO,aP,eS,aH,aS,bO,aP,av,dG (O _ _),S,Pl,dW,be,be,aP,fH,iQ,aS,be,aP,cI,dG D,E,dW,be,be,aP,fH,iQ,aS,be,aP,cI,aL Mf,Pk,bH.met,be,be,be,aP,(hS.dp (d:=8) (hS.cB (d:=8) (hS.fc (d:=2105) bH))).Ag.fh,a6,a6,ei,aq,aq,aq,aq,a0,ez _ _,eA _ _,hL,bO,aP,eS,b7,cd,bA,bc];refine YG (P:=Ba hC 30) (r:=mJ gL (.aN 11 [t]) .ba) (hS.dp (d:=9) (hS.cB (d:=9) (hS.dp (d:=8) (hS.cB (d:=8) (hS.fc (d:=2105) bH))))) V (fS (fZ (gn ec))) rfl (λz f=>abn rfl rfl (anH (es:=[t]) (fS (fZ (fS (fZ hX)))))) ?_;exactλb j w=>(I _ _).symm▸Y b j _ w ⟨gL,t,_,[],rfl,.inl ⟨rfl,rfl⟩,by simp,λr y=>by cases y⟩;rw[zu,gC,cz,bM,bw,Pp,L,bw,I];exact F h x T bH o (by omega)
end
section
variable{e:az}{hC T:bg}
section
variable[Tok] {u:Fn}
def ru(e:az):Prop:=A1 e/\(jM e).length<=900/\¬e[0+0]? =some (aA 4)
def Ky(e:az):Bool:=QM e&&(Nat.ble (jM e).length 900&& !kI [aA 4] (e.take 1))
theorem QL(h:Ky e=true):ru e:=by
 simp only[Ky,cC]at h;refine⟨amr h.1,dX h.2.1,λb=>?_⟩;have:e.take 1=[aA 4]:=by
  cases e with
  |nil=>cases b
  |cons a r=>
   have:a=aA 4:=by simpa using b
   rw[this];rfl
 rw[this,show kI [aA 4] [aA 4]=true by kernel_rfl]at h;simp at h
theorem My(gL:dc)(a c:ao):jM (mJ gL a c)=[]:=by
 have:K1 (mJ gL a c)=false:=by kernel_rfl
 unfold jM;rw[this];rfl
theorem qE.amq(h:qE e):A1 e/\(jM e).length<=900:=by
 obtain⟨gL,b,c,rs,rfl,d,g,i⟩:=h;have p:cg (mJ gL (.aN 11 [b]) c)=true:=by rcases d with⟨rfl,_⟩|rfl<;>rfl
 refine⟨⟨rfl,p,⟨4,by simp[uA],by rw[<-nU];rfl,λh=>by omega,λ_=>My _ _ _⟩,λF a=>?_⟩,by rw[My];exact pg _⟩;rw[My]at a;cases a
theorem qE.Gl(h:qE e):tM e:=by
 obtain⟨gL,c,a,rs,rfl,b,g,d⟩:=h;have p:cg (mJ gL (.aN 11 [c]) a)=true:=by rcases b with⟨rfl,_⟩|rfl<;>rfl
 exact⟨rfl,p,4,by simp[uA],by rw[<-nU];rfl,λ_=>⟨a,rs,rfl,b,by omega,d⟩⟩
theorem qE.Gp(h:qE e):wE e:=by
 obtain⟨gL,c,a,rs,rfl,b,i,d⟩:=h;have p:cg (mJ gL (.aN 11 [c]) a)=true:=by rcases b with⟨rfl,_⟩|rfl<;>rfl
 exact⟨rfl,p,4,by omega,by omega,by rw[<-nU];rfl,λ_=>⟨_,_,_,_,rfl,a,rs,rfl,b,by omega,λr g=>(d r g).1⟩⟩
theorem ru.dV{e:az}(h:ru e):∃k:Int,k∈uA/\e[0+0]? =some (aA k)/\k≠4:=by obtain⟨k,b,a,_⟩:=h.1.dV;exact⟨k,b,a,λc=>h.2.2 (by rw[a,c])⟩
theorem ru.Gl(h:ru e):tM e:=by obtain⟨k,a,b,c⟩:=h.dV;exact⟨h.1.len,h.1.ja,k,a,b,λd=>absurd d c⟩
theorem ru.Gp(h:ru e):wE e:=by
 obtain⟨k,b,c,d⟩:=h.dV;have a:0<=k/\k<=20:=by simp only[uA,e9,iV,iU]at b;omega
 exact⟨h.1.len,h.1.ja,k,a.1,a.2,c,λg=>absurd g d⟩
structure rN (hC T:bg):Prop where
 ew:∀e∈hC,ru e
 t:∀e∈T,qE e
 hU:hC.length<=200
 lt:T.length<=30
theorem rN.TO(H:rN hC T):qF (hC++T):=
 ⟨by rw[u7];have:=H.hU;have:=H.lt;omega,λe a=>(fq.1 a).elim (λh=>⟨(H.ew e h).1,(H.ew e h).2.1⟩) λh=>(H.t e h).amq⟩
theorem rN.TP(H:rN hC T):qF hC:=⟨by have:=H.hU;omega,λe h=>⟨(H.ew e h).1,(H.ew e h).2.1⟩⟩
theorem rN.Gl{hC T:bg}(H:rN hC T):∀e∈hC++T,tM e:=λe a=>(fq.1 a).elim (λh=>(H.ew e h).Gl) λh=>(H.t e h).Gl
theorem rN.Gp{hC T:bg}(H:rN hC T):∀e∈hC++T,wE e:=λe a=>(fq.1 a).elim (λh=>(H.ew e h).Gp) λh=>(H.t e h).Gp
theorem Z2(a:∀e∈T,qE e)(t:dc):pX (hC++T) t=pX hC t:=by
 have:T.flatMap jM=[]:=by rw[wu];intro e b;obtain⟨gL,c,d,rs,rfl,_⟩:=a e b;exact My _ _ _
 unfold pX;rw[List.flatMap_append,this,qy]
def Uo(u:Fn)(ca:bg):Prop:=∃q s ub aC d,u 16 [] 4096 (.cons 0 .nil .nil)= .ok (.aV q s 0 ca.length) ub aC d/\4096<=ub/\4096<=q/\q<ub/\ir 0 q=4098/\b9 ub aC q= .aV s 73 32 ca false
def pj:bg:=abX (bR bX 60 17 [] 0 .nil)
theorem avs(n:Nat):iu (bR bX (n+60) 17 [] 0 .nil) (.aN 1 pj)=true:=by kernel_rfl
theorem D9:pj.length=9:=by kernel_rfl
def Q7(r:az):Bool:=match r with
 |[.aN n (F::_)]=>Nat.beq n 37&&(Nat.beq F.length 37&&kI ((F.drop (0+0)).take 2) (cw (gs F)))
 |_=>false
theorem anA{r:az}(h:Q7 r=true):T6 r:=by unfold Q7 at h;split at h;rename_i n F a;simp only[cC]at h;have:=e8 h.1;subst this;exact⟨F,a,rfl,e8 h.2.1,na h.2.2⟩;cases h
theorem afC:pj.all Q7=true:=by kernel_rfl
theorem Ua:pj.all (λr=>Ky (qO r))=true:=by kernel_rfl
theorem ale{m:Nat}{ca:bg}(N:ca.length<=150)(k:∀e∈ca,ru e)(l:Uo u ca)(n:bf u 17 [] (.aN 1 pj))(o:bf u 18 [] (.aN 13 pQ))(p:∀a c,bf u 15 [.s a c] (.agg (cw (4,0x75736572,a,c))))
 (t:∀w:bg,qF w->(∀e∈w,tM e)->∀r∈pQ,∃v,wG v/\bf u 19 (se (.aN 32 w) r) v):Ba (ca++pj.map qO) 30 (jU u [.ag .u32 (18446744073709551616+m)] 0 .nil):=by
 obtain⟨q,s,ub,aC,d,x,y,z,A,B,C⟩:=l;have D:∀K:dv,dC u 0 16 [] [] (bN 0 .nil) K=K (.aV q s 0 ca.length) (.mk ub aC []):=λK=>by have f1:dC u 0 16 [] [] (bN 0 .nil) K=js 0 4096 [] K (u 16 [] 4096 (.cons 0 .nil .nil)):=rfl;rw[f1,x];have f2:js 0 4096 [] K (.ok (.aV q s 0 ca.length) ub aC d)=bB (Nat.ble 4096 ub) (K (.aV q s 0 ca.length) (.mk ub aC (aZ (fA 0 d) []))) .aF:=rfl;rw[f2,eT,dJ y,da,f0];rfl
 have bH:hS q (.mk ub aC []) (.aV q s 0 ca.length) ca:=⟨⟨by show 0+4096<=ub;omega⟩,⟨rfl⟩,A,z,B,⟨s,rfl,C⟩⟩;have E:∀e∈ca++pj.map qO,ru e:=λe j=>(fq.1 j).elim (k e) λh=>by obtain⟨r,b,rfl⟩:=ia.1 h;exact QL (gp Ua b)
 have G:(ca++pj.map qO).length<=200:=by rw[u7,mw,D9];omega
 obtain⟨I,c8,g,J⟩:=aqA (u:=u) (bits:= .ag .u32 (18446744073709551616+m)) (rn:=pj) (λr b=>anA (gp afC b)) (by rw[D9];omega) (Ph u 0) pj.length 0 1000000 _ _ ca rfl (by rw[D9];omega) bH (by rw[D9];omega);rw[sA]at g
 haveI:=g.ax
 haveI:=g.b5
 have F:=aqB (u:=u) (m:=m) (hC:=ca++pj.map qO) (tD:=pQ) (by rw[Ea];omega) (λr b=>aqU (gp afE b)) p (λT L M r b=>by have H:rN (ca++pj.map qO) T:=⟨E,L,G,M⟩;exact t _ H.TO H.Gl r b) (by omega) pQ.length 0 1000000 c8 I [] rfl (by rw[Ea];omega) (by rw[qy];exact g) (λe j=>by cases j) (by rw[Ea];simp)
 have e0:jU u [.ag .u32 (18446744073709551616+m)] 0 .nil=Pj u 0 (.ag .u32 (18446744073709551616+m)) (bN 0 .nil):=rfl;rw[e0,Pj,D,a0 n,b7];rw[show(aA 0:ao)=aA ((0:Nat):Int) from rfl,J,Ph,a0 o,b7];exact F
end
end
section
variable[Tok]
def rJ:ay:=bR NG 300 16 [] 4096 (.cons 0 .nil .nil)
def zJ(o:eQ):bg:=match o with
 | .aV _ _ _ es _=>es
 |_=>[]
def SQ(x:ao):Nat:=match x with
 | .aV q _ _ _=>q
 |_=>0
def El(a:ay):bg:= @ay.rec (λ_=>bg) [] (λx _ bj _=>zJ (bj.get (SQ x)).aj) a
def TI(s n:Nat)(o:eQ):Bool:=match o with
 | .aV a 73 32 es false=>Nat.beq s a&&(Nat.beq es.length n&&(Nat.ble n 150&&es.all Ky))
 |_=>false
def TJ(ub:Nat)(bj:cD)(v:ao):Bool:=match v with
 | .aV q s 0 n=>Nat.blt q ub&&(Nat.ble 4096 q&&(Nat.beq (ir 0 q) 4098&&TI s n (bj.get q).aj))
 |_=>false
def axr(a:ay):Bool:= @ay.rec (λ_=>Bool) false (λr ub bj _=>c7 (Nat.ble 4096 ub) (TJ ub bj r)) a
def zP(n:Nat)(w:ao)(h:eZ):Bool:=c7 (iu (bR bX (n+60) 37 [w,.agg (cw (km h))] 0 .nil) (.bD [aA h.2.2.2.2,.U true])) (CC h (nh 60 w h) (nh (n+60) w h))
def TK(p:ao->Bool)(a b:ay):Bool:= @ay.rec (λ_=>Bool) false (λx _ bj _=> @ay.rec (λ_=>Bool) false (λy _ _ _=>p (.aN 32 (zJ (bj.get (SQ x)).aj++(match y with| .aN _ l=>l|_=>[]).map qO))) b) a
end
section
variable[Tok]
theorem axK:axr rJ=true:=by kernel_rfl
end
section
variable[Tok]
theorem axJ(n:Nat):TK (λw=>hT.all (zP n w)) rJ (bR bX 60 17 [] 0 .nil)=true:=by kernel_rfl
theorem axL(n:Nat):TK (λw=>iu (bR bX (n+60) 37 [w,.agg (cw p5)] 0 .nil) (.bD [aA 0,.U false])) rJ (bR bX 60 17 [] 0 .nil)=true:=by kernel_rfl
end
section
variable[Tok]
def hC:bg:=El rJ++pj.map qO
theorem axs{s n:Nat}{o:eQ}(h:TI s n o=true):o= .aV s 73 32 (zJ o) false/\(zJ o).length=n/\n<=150/\∀e∈zJ o,ru e:=by unfold TI at h;split at h;rename_i i es;simp only[cC]at h;obtain⟨a,b,c,d⟩:=h;have a:=e8 a;subst a;exact⟨rfl,e8 b,dX c,λe g=>QL (gp d g)⟩;cases h
theorem ari{a c:Nat}(h:Nat.blt a c=true):a<c:=dX h
theorem aeZ(g:Fn)(b:g 16 [] 4096 (.cons 0 .nil .nil)=rJ):Uo g (El rJ)/\(El rJ).length<=150/\∀e∈El rJ,ru e:=by
 have h:=axK;revert b;generalize rJ=R at h ⊢;intro b;cases R with
 |aF=>cases h
 |ok x ub bj d=>have h:c7 (Nat.ble 4096 ub) (TJ ub bj x)=true:=h;obtain⟨c,a⟩:=sH h;have c:=dX c;unfold TJ at a;split at a;rename_i q s n k;simp only[cC]at a;obtain⟨c8,cX,ih,og⟩:=a;obtain⟨fP,i,l,j⟩:=axs og;have e:El (.ok (.aV q s 0 n) ub bj d)=zJ (bj.get q).aj:=rfl;rw[e];have c8:=ari c8;refine⟨⟨q,s,ub,bj,d,by rw[b,i],c,dX cX,c8,e8 ih,?_⟩,by omega,j⟩;rw[h7 c8];exact fP;cases a
theorem aeV{p:ao->Bool}(h:TK p rJ (bR bX 60 17 [] 0 .nil)=true):p (.aN 32 hC)=true:=by
 unfold hC pj;generalize rJ=R at h ⊢;generalize bR bX 60 17 [] 0 .nil=a at h ⊢;cases R with
 |aF=>cases h
 |ok x ub bj d=>
  cases a with
  |aF=>cases h
  |ok y b c d'=>have h:p (.aN 32 (zJ (bj.get (SQ x)).aj++(match y with| .aN _ l=>l|_=>[]).map qO))=true:=h;rw[<-h];congr 3;cases y<;>rfl
theorem Um(n:Nat):∀h∈hT,c7 (iu (bR bX (n+60) 37 [.aN 32 hC,.agg (cw (km h))] 0 .nil) (.bD [aA h.2.2.2.2,.U true])) (CC h (nh 60 (.aN 32 hC) h) (nh (n+60) (.aN 32 hC) h))=true:=λh a=>gp (aeV (p:=λw=>hT.all (zP n w)) (axJ n)) a
theorem afO(n:Nat):bf (bR bX (n+60)) 37 [.aN 32 hC,.agg (cw p5)] (.bD [aA 0,.U false]):=hF (a:=bR bX (n+60) 37 [.aN 32 hC,.agg (cw p5)] 0 .nil) (aeV (p:=λw=>iu (bR bX (n+60) 37 [w,.agg (cw p5)] 0 .nil) (.bD [aA 0,.U false])) (axL n))
theorem ann:bV λu=>∀bH T,rN bH T->∀(s:dc) r,bf u 69 [.aN 32 bH,.agg (cw s)] r->bf u 69 [.aN 32 (bH++T),.agg (cw s)] r:=QU.imp λn h bH T H s r b=>by have c:=h bH H.TP s;have a:=h (bH++T) H.TO s;rw[Z2 H.t,<-amA b c]at a;exact a
theorem ZX:bV λu=>∀bH T,rN bH T->∀(s:dc),(s=p5\/∃h∈hT,s=km h)->∀r,bf u 37 [.aN 32 bH,.agg (cw s)] r->bf u 37 [.aN 32 (bH++T),.agg (cw s)] r:=by
 have p:bV λu=>∀(s:dc),(s=p5\/∃h∈hT,s=km h)->∃(k:Int) (c:Bool),bf u 96 [.agg (cw s)] (.bD [aA k,.U c]):=bV.hE 30 λn s d=>by
  rcases d with rfl|⟨h,q,rfl⟩;exact⟨0,false,hF (a:=bR bX (n+30) 96 [.agg (cw p5)] 0 .nil) (by kernel_rfl)⟩;have:=hF (gp (abc n) q);cases l:ko.any (λg=>of g h) with
  |true=>rw[l]at this;exact⟨_,_,this⟩
  |false=>rw[l]at this;exact⟨_,_,this⟩
 refine(QU.and p).up λn h bH T H s d r i=>?_;obtain⟨k,c,w⟩:=h.2 s d;obtain⟨F,e,nK,y⟩:=Z1 H.TP (t:=s);have o:=h.1 bH H.TP s;have j:=h.1 (bH++T) H.TO s;rw[Z2 H.t]at j;rw[nK]at o j;have z:=ak9 (x:= .aN 32 bH) (x':= .aN 32 (bH++T)) w (λob f=>i2 ob _ _ f) (λob f=>i2 ob _ _ f) (λ_=>⟨F,e,rfl,y⟩) (λ_=>o) (λ_=>j);unfold bf at i ⊢;rw[bZ 37 vA]at i ⊢;rw[<-z];exact i
theorem axM{T:bg}(a:∀e∈T,qE e)(c:T.length<=30):Un (hC++T) (Is (.aN 32 hC)):=by
 obtain⟨_,k,d⟩:=aeZ (λ_ _ _ _=>rJ) rfl;have H:rN hC T:=by refine⟨λe g=>(fq.1 g).elim (d e) λh=>?_,a,?_,c⟩;obtain⟨r,i,rfl⟩:=ia.1 h;exact QL (gp Ua i);unfold hC;rw[List.length_append,List.length_map,D9];omega
 refine⟨anp ⟨_,_,rfl⟩ Um ((ZX.and ann).imp λn h hd j=>⟨h.1 hC T H _ (.inr ⟨hd,j,rfl⟩),h.2 hC T H _⟩),?_,amk (Um 0),?_,H.Gp⟩;exact(ZX.and (bV.hE (C:=λu=>bf u 37 [.aN 32 hC,.agg (cw p5)] (.bD [aA 0,.U false])) 60 afO)).imp λn h=>⟨0,h.1 hC T H _ (.inl rfl) _ h.2⟩;rw[u7];have:=H.hU;omega
def wo(a:Nat):Fn:=λf=>if f=16 then bR NG 300 f else bR bX a f
theorem aoM(n a c:Nat):nj (bR bX (n+9) 15 [.s a c] 0 .nil)= .ok (.agg (cw (4,0x75736572,a,c))) 0 .nil []:=by kernel_rfl
theorem amI:bV λu=>∀a c,bf u 15 [.s a c] (.agg (cw (4,0x75736572,a,c))):=bV.hE 9 λn a c=>lN (aoM n a c)
theorem axF:∃b,∀m,Ba hC 30 (jU (wo b) [.ag .u32 (18446744073709551616+m)] 0 .nil):=by
 obtain⟨b,e⟩:=((bV.hE (C:=λu=>bf u 17 [] (.aN 1 pj)) 60 λn=>hF (avs n)).and (bV.hE (C:=λu=>bf u 18 [] (.aN 13 pQ)) 60 λn=>hF (avt n))).and (amI.and amO);obtain⟨⟨g,j⟩,k,l⟩:=e b (dn _);have d:∀{f:Nat}{a:az}{r:ao},f≠16->bf (bR bX b) f a r->bf (wo b) f a r:=λo h=>by unfold bf wo at*;rw[dU o];exact h
 obtain⟨p,q,t⟩:=aeZ (wo b) (by unfold wo;rw[if_pos rfl];rfl);refine⟨b,λm=>ale q t p (d (by decide) g) (d (by decide) j) (λa c=>d (by decide) (k a c)) λw x y r z=>?_⟩;obtain⟨v,A,B⟩:=l w x y r z;exact⟨v,A,d (by decide) B⟩
end
section
variable[Tok]
def x5(a b:Nat):Fn:=λf=>if f=4 then bR (wJ (r7 A3) (r7 oE) zv FW) 300 4 else if f=5 then jU (wo a) else bR bX b f
theorem p4{m:Nat}{x y:ao}{N N':Nat}(g:qA x N)(j:qA y N'):∃c a,∃s d,ik (x5 c a) [.ag .u32 (18446744073709551616+m),x,y] 0 .nil= .ok (.U true) 0 s d:=by obtain⟨c,k⟩:=axF;obtain⟨T,l,n,s,d,e⟩:=k m;obtain⟨a,h⟩:=aqN (axM l n) (m:=18446744073709551616+m);refine⟨c,a,h a (dn _) (x5 c a) (λf o p=>by unfold x5;rw[if_neg o,if_neg p]) ?_ ?_ x y N N' g j⟩;have:=hF avu;unfold bf x5;rw[dr rfl];exact this;unfold bf x5;rw[dU (by decide),dr rfl];exact⟨s,d,e⟩
end
section
variable{g:jj}{gl:eh}{P:Program}{f:Nat}
section
variable[Tok]
theorem aus{u:Fn}{ps:az}{r:ao}{b ub:Nat}{aC c:cD}{dd:List Nat}(h:v8 g u ps b aC= .ok r ub c dd):Hm ps=true/\ub=b/\c=aC/\dd=[]/\∃s d,g u ps 0 .nil= .ok r 0 s d:=by
 have i:v8 g u ps b aC=bB (Hm ps) (@ay.rec (λ_=>ay) .aF (λr ub _ _=>bB (Nat.beq ub 0) (.ok r b aC []) .aF) (g u ps 0 .nil)) .aF:=rfl;rw[i]at h;obtain⟨j,a⟩:=oM h;cases e:g u ps 0 .nil with
 |aF=>rw[e]at a;cases a
 |ok k l n d'=>rw[e]at a;obtain⟨o,p⟩:=oM (show bB (Nat.beq l 0) (ay.ok k b aC []) .aF= .ok r ub c dd from a);cases p;exact⟨j,rfl,rfl,rfl,n,d',by rw[e8 o]⟩
theorem afi{args:eb}{a:aT}(h:wH gl P f args a)(ob:cT)
 (d:∀(g:cx) (w:World) (p:aT) (v:Value),p∈args->dZ g w ob p v->dZ g w tk p v):lM gl P f args ob a ob:=by
 obtain⟨⟨j,k⟩,l⟩:=h;refine⟨j,λg w vs n o b=>?_⟩;refine(k g w vs n n2.none ⟨b.1,λi p v c q=>d g w p v (eH c) (b.2 i p v c q)⟩).mono ?_;rintro e w' ⟨v,g',rfl,r,t⟩;exact⟨v,⟨g'.af,g.cr,g.cap⟩,rfl,i9.frame o r,t.acA l rfl⟩
theorem adf:∀{l:az},Hm l=true->∀x∈l,Ho x=true
 |[],_,x,h=>by cases h
 |y::l,h,x,a=>by
  have e: @Bool.rec (λ_=>Bool) false (Hm l) (Ho y)=true:=h;cases b:Ho y with
  |false=>rw[b]at e;cases e
  |true=>rw[b]at e;rcases e9.1 a with rfl|a;exact b;exact adf e x a
theorem auu{x:ao}(h:Ho x=true):x.dl=[]:=by cases x<;>first|exact ade h|rfl|cases h
theorem ac5(h:∀u,kS gl P u->∀args b s d,g u args 0 .nil= .ok b 0 s d->wH gl P f (args.map bk) (bk b)):iE gl P f (v8 g):=by intro u c args ub aC b q r t i;obtain⟨j,rfl,rfl,rfl,s,d,e⟩:=aus i;have c1:=h u c args b s d e;refine⟨afi c1 _ λg w p v l n=>n.ed λk a=>?_,λ_ _ _=>rfl,λk a=>by rw[<-p3,c1.2]at a;cases a⟩;obtain⟨x,o,rfl⟩:=ia.1 l;rw[p3,auu (adf j x o)]at a;cases a
theorem aur(h:iE gl P f g):iE gl P f (v8 g):=ac5 λu a args b s d e=>by obtain⟨c1,_,c⟩:=h u a args 0 .nil b 0 s d e;rw[xC,xC]at c1;refine⟨c1,?_⟩;rw[p3];exact DJ.2 λk i=>absurd (c k i) (Nat.not_lt_zero _)
end
end
section
open Go.Proofs
section
variable[Tok]
def sZ:bI:=⟨95,Tryz.f95,⟨[45],Rp,[],[(3,[3]),(5,[5]),(8,[2093]),(10,[10]),(12,[3]),(15,[3]),(19,[3]),(24,[3]),(31,[3]),(39,[3]),(45,[2093]),(46,[2093]),(51,[2093]),(53,[2093]),(55,[3]),(57,[2093]),(61,[4096,4098]),(64,[10])],[]⟩,2,[.tmp 4],[],[none,none,some [0,3,5],none,none,none,none,none,some [0,3,5,8],none,some [0,3,5,8,47,48],none,some [0,3,5,8,47,48],some [0,3,5,8,47,48],none,some [5],none,none]⟩
def xD:bI:=⟨168,Tryz.f168,⟨[],Rp,[],[(0,[4096,4098]),(1,[4096]),(2,[4096]),(5,[5]),(7,[7]),(9,[4098]),(13,[4098]),(14,[4096,4098]),(16,[4096,4098]),(17,[4096,4098]),(24,[4096,4098]),(27,[4096,4098]),(30,[4096,4098])],[]⟩,3,[],[],[none,some [0,2,9,10,11],none,some [0,2,9,10,11],some [0,2,9,10,11],none,none,none]⟩
def zL:Code->Option (Operand×Array Tmp×Code×Code)
 | .rangeFunc g ps a c=>some (g,ps,a,c)
 | .seq a b=>(zL a).orElse λ_=>zL b
 | .cond _ a b=>(zL a).orElse λ_=>zL b
 | .block _ b=>zL b
 | .loop b=>zL b
 |_=>none
def zK:Code->Option (Nat×Array Oper)
 | .region i bS true=>some (i,bS)
 | .seq a b=>(zK a).orElse λ_=>zK b
 | .cond _ a b=>(zK a).orElse λ_=>zK b
 | .block _ b=>zK b
 | .loop b=>zK b
 |_=>none
def SG:Code->Array Oper
 | .region _ bS _=>bS
 | .block _ c=>SG c
 |_=> #[]
def Mw:Operand×Array Tmp×Code×Code:=(zL (n9 sZ.fn)).getD default
def G9:Nat×Array Oper:=(zK (n9 xD.fn)).getD default
def arS(bS:Array Oper):Bool:=bS.toList.all λo=>match o.op with| .defer _=>false|_=>true
theorem acz{bS:Array Oper}(h:arS bS=true)(i:Nat)(o:Oper)(c:Call)(hi:bS[i]? =some o):o.op≠ .defer c:=by intro e;have:=kg.1 h o (by rw[<-AV]at hi;exact eH hi);rw[e]at this;cases this
def ae3:List Value:=[(.int .i64 0),(.string ⟨#[]⟩),(.string ⟨#[]⟩),(.int .i64 0),(.string ⟨#[]⟩),(.string ⟨#[]⟩),(.string ⟨#[]⟩),(.string ⟨#[]⟩),(.string ⟨#[]⟩),(.slice none 0 0),(.slice none 0 0)]
def axS:List Value:=[.int .i64 0]++ae3++ae3
def atV:List dg:=[⟨some 10,none,.alloc 195 axS,[],[]⟩,⟨none,none,.store 23 (.tmp 10) (.tmp 62),[],[]⟩]
def atW:List dg:=[⟨some 63,none,.load false 1 (.tmp 5),[],[]⟩,⟨some 64,none,.pW 0 (.tmp 10),[],[]⟩,⟨some 65,none,.load false 1 (.tmp 64),[],[]⟩,⟨some 66,none,.bits .and (.tmp 63) (.tmp 65),[],[]⟩,⟨none,none,.store 1 (.tmp 5) (.tmp 66),[],[]⟩]
def afd:yZ Tryz.prog 68 where
 qe:=SG Mw.2.2.1
 o0:=SG Mw.2.2.2
 ym:=atV
 v4:=atW
 CL:=15
 xT:=16
 vP:=4
 aE:=sZ.aE
 q8:=62
 k8:=5
 au:=22
 df:=by kernel_rfl
 dq:=by kernel_rfl
 kn:=acz (by kernel_rfl)
 zP:=acz (by kernel_rfl)
 aa0:=by decide
 vO:=by decide
 pure:=λgl k0 s0 i cs a c r ob b d e g h _=>afW (by decide) b d e g h
def afP:wO Tryz.prog where
 f:=168
 fn:=Tryz.f168
 aE:=xD.aE
 body:=n9 xD.fn
 bQ:=G9.2
 di:=(qd Tryz.prog xD.aE 34 true G9.2 G9.2.toList).getD []
 id:=4
 bY:=by kernel_rfl
 aY:=by kernel_rfl
 oT:=by kernel_rfl
 lI:=by kernel_rfl
 qT:=by kernel_rfl
 aD:=by kernel_rfl
 all:=λb h=>by repeat' first|exact trivial|refine And.intro ?_ ?_|(intro k a;first|(cases a;exact h)|(cases a;done))
def afJ:List dg:=(qd Tryz.prog xD.aE 34 true G9.2 G9.2.toList).getD []
def Uj:wP Tryz.prog where
 et:=afP
 pre:=afJ.take 8
 an:=⟨some 30,some (23,true),.hK (.tmp 24) [.tmp 29] [],[4097],[4096,4098]⟩
 post:=[⟨some 31,some (23,true),.pd .not (.tmp 30),[],[]⟩,⟨some 32,none,.pick (.tmp 23) (.tmp 31) (.const (.bool false)),[],[]⟩]
 xJ:=24
 mY:=29
 gt:=23
 CH:=true
 xS:=by kernel_rfl
 aa2:=by kernel_rfl
 aa1:=by kernel_rfl
 bb:=by kernel_rfl
 aJ:=⟨[],rfl⟩
 ce:=rfl
def Y0:hH:=(jf (lG Tryz.prog xD.aE 34 xy (n9 xD.fn)) xD.kb).1
def Y1:hH:=(jf (lG Tryz.prog sZ.aE 68 QB (n9 sZ.fn)) sZ.kb).1
def aaA:jj:=λu=>rW 2 1000000 (rf (λ_=>Ko Uj 3 1000000 22 Y0 5 5 61 u) Y1) sZ.ff sZ.eW u
theorem atI{gl:eh}:iE gl Tryz.prog 95 aaA:=
 auU (fn:=Tryz.f95) (body:=n9 sZ.fn) (H:=sZ.aE) (fT:=sZ.ff) (fj:=sZ.eW) (TU:=Mw.2.2.2) (assign:=Mw.2.2.1) ya afd Uj (np:=2) (kO:=5) (tG:=61) (c:=Y1) (TV:=3) (n:=1000000) (cY:=Y0) (qG _ _) (dX (by kernel_rfl)) (by kernel_rfl) (by kernel_rfl) (by kernel_rfl) (by kernel_rfl) (dX (by kernel_rfl)) (qG _ _) (by kernel_rfl) (by decide) (by kernel_rfl) (by kernel_rfl)
  λb h=>by repeat' first|exact trivial|refine And.intro ?_ ?_|(intro k a;first|(cases a;exact h)|(cases a;done))
end
end
section
open Go.Proofs
section
variable[Tok]
theorem axN:aaA=ws:=by kernel_rfl
theorem SC{gl:eh}:iE gl Tryz.prog 95 ws:=axN▸atI
end
end
section
open Go.Proofs
noncomputable section
section
variable(u:Fn) (M:az) (b:Nat) (J:rz) (O:g9) (L:gZ) (a:n1) (j:iF) (V:lA) (j6:rB) (N:IC) (R:vg) (S:ID) (kE:rA) (F:Iu) (W:Iv) (Z:Iw) (X:sE) (P:Iy) (Q:Iz) (T:IA) (Y:IB) (j19:Nr) (c d e f g i k l m n o p q r s t v w x y z A B C D E G H I K:ao) (h:aO) (bj:cD)
def afq:ci (u,i,k,l,m,n,o,p,q,r,s):=cS c t cQ λv=>bp v (qk b dx h) (j d e f g h)
def aft:ci u:=aS b [] false 1 c h λk=>dW b [] 34 k d h λl=>bz 4 l λm=>aS b [] true 2 m h λn=>aS b [3] true 2 e h λo=>iP false n o λp=>F f g i c k d l m n o p h
def afu:=bz 2 c λi=>aS b [] false 1 i h λk=>cj k uL λl=>dy (afq u b j l d e f g) λF=>cZ l true (dW b [] 32 d f h λm=>bz 27 m λn=>aft u b F n g e d f m h) (F aK aK aK aK aK aK aK aK aK aK aK h)
def afv:=dy (λg i k l m=>dT l br λn=>j g i k n m) λal=>dW b [] 32 c e h λo=>bz 27 o λp=>aS b [] false 1 p h λq=>dW b [] 34 q f h λr=>afu u b al r c d e f h
def afw:=dy (afv u b j) λal=>de h.am 32 c e λg=>bn 27 g h λk=>cv false k λl=>fi f l λm=>bp m (al c d e f h) (a c d e h)
def afx:=dy (λf g i k=>dT i br λl=>a f g l k) λal=>dy (λm n o p=>lj [0,3,5,6] 1000000 (afw u b al) m n o bt p) λar=>de h.am 32 c e λq=>bn 0 q h λs=>gJ s ku λt=>bp t (al c d e h) (ar c d e h)
def afy:=dy (afx u b a) λal=>cv false c λf=>fi e f λg=>bp g (al c d e h) (J h)
def afz:=dy (λe=>qk b cQ e) λJ=>lj [0,3,5] 1000000 (afy u b J) c d bt h
def afA:ci (u,f,g):=cS c dx i λk=>bp k (qk b dx h) (L d e h)
def afr:=dy (afz u b) λL=>aS b [3] true 2 c h λe=>cm u b (some []) 47 [(.s 5 0x657175616c)] [] h λf g=>iP false e f λi=>dy (afA u b L i d c) λa=>cZ i false (aS b [3] true 2 c g λk=>cm u b (some []) 47 [(.s 3 0x696666)] [] g λl m=>iP false k l λn=>a k l n m) (a aK aK aK g)
def afs:=eR 39 b 3 none c h λe f=>afr u b e d f
def T8:=b0 M λc l=>b0 l λd l=>dF l (afs u b d c (bN b bj))
end
variable[Tok] {gl:eh}
def d59:bI:=bm 59 Tryz.f59 2 [.tmp 4] 0x4203 0x400018a30140628c053146028005180851808028c0428c040040018060
theorem afB:T8=d59.den Tryz.prog:=by kernel_rfl
theorem aje:xf=T8:=by kernel_rfl
theorem atk:ef gl 59 xf:=eg d59 Tryz.func59 (aje.trans afB)
end
end
end Go.Hf
namespace Go.Proofs
open Go Go.Hf Go.RowKit Go.Shelf
theorem alG:yR Tryz.prog 390:=by
 intro v w;refine callsD_of_wpS Tryz.func390 rfl λa cs b=>?_;apply wpS_seq;apply wpS_region;simp[wpOpsS,go_sem,recoverD,b,Tryz.ntmps390,Exit.thenS];apply wpS_seq;apply wpS_seq;apply wpS_region;simp[wpOpsS,go_sem,Exit.thenS];refine wpS_cond (t:=true) (by simp[Act.eval,Array.replicate]) ?_;simp only[gF];refine wpS_of_wp (wp_ret ?_);cases a
 simp_all [Exit.thenS,bodyPostS,results,Tryz.results390]
set_option maxHeartbeats 1000000 in
set_option maxRecDepth 100000 in
theorem al0(b:Nat)(w:World)(c:w.cell? ⟨b,0,none⟩=some (.pointer (some ⟨b,0,none⟩))):
 Calls Tryz.prog 205 #[.pointer (some ⟨b,0,none⟩)] w λe w'=>e= .returned (.tuple #[])/\w'=w:=by
 obtain⟨j,a,_⟩:∃j,Tryz.prog.info? 183=some j/\j.size=2:=jG.1 (by kernel_rfl:(Tryz.prog.info? 183).map (·.size)=some 2)
 go_enter Tryz.func205,Tryz.ntmps205
 go_wp2
 rw[Lib.run_neq_ptr_same w _ Tryz.underlying181 a]
 go_wp2
 go_end0
 exact⟨rfl,rfl⟩
set_option maxHeartbeats 1000000 in
set_option maxRecDepth 100000 in
theorem alZ(b:Nat)(w:World)(h:w.cell? ⟨b,0,none⟩=some (.pointer none))(a:w.shape? b=some (183,2))(i:w.frozen? ⟨b,0,none⟩=false):
 Calls Tryz.prog 205 #[.pointer (some ⟨b,0,none⟩)] w λe w'=>e= .returned (.tuple #[])/\w'=w.setCell ⟨b,0,none⟩ (.pointer (some ⟨b,0,none⟩)):=by
 obtain⟨j,c,d⟩:∃j,Tryz.prog.info? 183=some j/\j.size=2:=jG.1 (by kernel_rfl:(Tryz.prog.info? 183).map (·.size)=some 2);have g:liesAt Tryz.prog Tryz.prog.depth 183 (2/Tryz.prog.cellsOf 183) 0 183 1=true:=by kernel_rfl
 go_enter Tryz.func205,Tryz.ntmps205
 go_wp2
 rw[Lib.run_to_unsafe w ⟨b,0,none⟩ Tryz.underlying181 Tryz.underlying304 c (by rw[d];decide) a (Nat.zero_lt_succ 1)];simp only[Result.andThen];rw[Oper.upon_value]
 go_wp2
 rw[run_callFunc_extern Tryz.func262 (by kernel_rfl) (by kernel_rfl) (by kernel_rfl) (e:=Extern.AbiNoEscape.same) (by kernel_rfl)];rw[Lib.run_noEscape];simp only[Result.andThen];rw[Oper.upon_value]
 go_wp2
 rw[Lib.run_from_unsafe w ⟨b,0,none⟩ Tryz.underlying304 Tryz.underlying181 c a g];simp only[Result.andThen];rw[Oper.upon_value]
 go_wp2
 go_end0
 exact⟨rfl,rfl⟩
set_option maxHeartbeats 1000000 in
set_option maxRecDepth 100000 in
theorem awR(b r a:Nat)(p:Value)(c:Array Value)(T:TypeId)(l:List UInt8)(w:World)(h:l≠[])(i:w.heap[b]? =some (.cells #[p,.slice (some ⟨r,0,none⟩) l.length a] T (0,0)))
 (d:w.heap[r]? =some (.cells c 5 (0,0)))(t:l.length<=a)(o:a<=maxLen)(u:c.size=a)(k:∀(j:Nat) (x:UInt8),l[j]? =some x->c[j]? =some (.int .u8 x.toNat)):
 Calls Tryz.prog 119 #[.pointer (some ⟨b,0,none⟩)] w λe w'=>e= .returned (.string ⟨l.toArray⟩)/\w'=w.drew.freeze ⟨r,0,none⟩ l.length:=by
 have n:=Tryz.lays169;have X:=Tryz.Builder_Extra_169;have y:l.length≠0:=by simpa using h
 have c1:w.drew.cell? ⟨b,1,none⟩=some (.slice (some ⟨r,0,none⟩) l.length a):=by have:w.drew.heap[b]? =some (.cells #[p,.slice (some ⟨r,0,none⟩) l.length a] T (0,0)):=i;rw[Lib.cell_of_heap this];rfl
 have z:(Builtin.unsafeSliceData_ #[23] 233 #[.slice (some ⟨r,0,none⟩) l.length a]).run Tryz.prog w.drew= .ok (.pointer (some ⟨r,0,none⟩)) w.drew:=
  Lib.run_unsafeSliceData_row _ _ _ _ _ _ (by omega)
 have A:(Builtin.unsafeString_ #[233,3] 9 #[.pointer (some ⟨r,0,none⟩),.int .i64 l.length]).run Tryz.prog w.drew= .ok (.string ⟨l.toArray⟩) (w.drew.freeze ⟨r,0,none⟩ l.length):=by
  refine Lib.run_unsafeString_row w.drew 233 3 9 5 n.t127 X.cellsByte r c.size (by have g:w.drew.heap[r]? =some (.cells c 5 (0,0)):=d;simp[World.shape?,g]) l h (by omega) (by unfold maxLen at o;omega) ?_;intro j x q;have g:w.drew.heap[r]? =some (.cells c 5 (0,0)):=d;have:=k j x q;have e:(⟨r,0,none⟩:Addr).add j=⟨r,j,none⟩:=by unfold Addr.add;split<;>simp_all
  rw[e];simp only[World.cell?,g];simpa using this
 have B:Tryz.prog.follows .mixedOrders=true:=by kernel_rfl
 clear n X k i d
 go_enter Tryz.func119,Tryz.ntmps119
 go_wp2
 go_region
 all_goals(go_wp2;go_ret;exact⟨rfl,rfl⟩)
end Go.Proofs
namespace Go.Hf
open Go.RowKit
end Go.Hf

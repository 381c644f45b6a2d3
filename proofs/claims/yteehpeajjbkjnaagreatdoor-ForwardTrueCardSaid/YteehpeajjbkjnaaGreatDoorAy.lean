import Derived.Test.YteehpeajjbkjnaaGreatDoorAx
set_option maxRecDepth 1000000
set_option linter.all false
noncomputable section
namespace Go.Hf
open Go.RowKit
variable{b n s off:Nat}{h:aO}
section
variable[Tok]
theorem RJ{d:Nat}{cs new:az}[cp h b](ho:h.am (b+d)= .box s cs)(a:new.length=n)(c:off+n<=cs.length)(k:dv)(hd:d<4096:=by decide):bl b none n (.aQ (b+d) s off) (.agg new) h k=k .undef (h.dp b d (cs.take off++new++cs.drop (off+n))):=by rw[z1 (b:=b) (n:=n) (off:=off) (wk:=none) (new:=new) ho a c (λo=>kC b _) (cp.lt hd)];unfold aO.dp;rw[ho];rfl
theorem abD{q:Nat}{wk:Option (List Nat)}{k:dv}:bl b wk n (.aQ q s off) .ba h k=bl b wk n (.aQ q s off) (.agg [.ba]) h k:=rfl
def qs(F:az):bg:=vY F[10]?
def vh:az:=(qs (gK 13)).headD []
def rD:az:=(qs vh).headD []
def rH(i:Nat)(k:Int):az:=(rI (jD i) (aA k) (hQ i)).take (0+3)++[.ba]++(rI (jD i) (aA k) (hQ i)).drop (0+3+1)
theorem ary(n:Nat)(w:bg)(e:Bool)(F:az)(B:F.length=37)(k:bf (bR bX (n+59)) 69 [.aN 32 w,.agg (cw (gs (rD.drop 1)))] (.bD [.agg F,.U e])):oZ oX (n8 (bR bX (n+59)) [.aN 32 w,.agg (jD 13),.agg (gK 13),aA 6] 0 .nil)=true:=by
 have C:nZ.length=37:=rfl;have D:hG.length=34:=rfl;have q:∀f:az->ay,(eu 0 2 (.agg (jD 13)) hG λc=>eu 2 1 (aA 6) c λc=>eu 3 1 (hQ 13) c f)=f (rI (jD 13) (aA 6) (hQ 13)):=λf=>by kernel_rfl
 have E:(rI (jD 13) (aA 6) (hQ 13)).length=34:=by kernel_rfl
 have l:0+3+1<=(rI (jD 13) (aA 6) (hQ 13)).length:=by omega
 have G:(jD 13).length=2:=by kernel_rfl
 have H:(gK 13).length=11:=by kernel_rfl
 have I:cg (gK 13)=true:=by kernel_rfl
 have J:(it 13).length=11:=by kernel_rfl
 have K:cg (it 13)=true:=by kernel_rfl
 have L:vh.length=11:=by kernel_rfl
 have M:cg vh=true:=by kernel_rfl
 have N:rD.length=11:=by kernel_rfl
 have f10:(gK 13)[0+10]? =some (.aN 11 (vh::(qs (gK 13)).tail)):=by kernel_rfl
 have iM:vh[0+10]? =some (.aN 11 (rD::(qs vh).tail)):=by kernel_rfl
 have o:rD[0+0]? =some eB:=by kernel_rfl
 have p:(rD.drop (0+1)).take 2=cw (gs (rD.drop 1)):=by kernel_rfl
 have r:0+1+2<=rD.length:=by omega
 have O:(cw (gs (rD.drop 1))).length=2:=rfl;have t:∀(ob:dE) (f:gI),bi ob (hQ 13) f=f (hQ 13) []:=λob f=>by kernel_rfl
 have P:hQ 13≠ .undef:=So (by kernel_rfl);obtain⟨R,x,y⟩:∃R:Fn->ay,(∀u:Fn,bf u 57 [.agg (gK 13)] (.bD [hQ 13,.agg (it 13)])->bf u 58 [hQ 13] (sb (hQ 13))->bf u 58 [.aN 11 [it 13]] (sb (.aN 11 [it 13]))->bf u 60 [.agg (gK 13),.s 2 0x6966,eB] (.U true)->bf u 60 [.agg vh,.s 8 0x626f6f6c65616e70,br] (.U true)->bf u 69 [.aN 32 w,.agg (cw (gs (rD.drop 1)))] (.bD [.agg F,.U e])->
  n8 u [.aN 32 w,.agg (jD 13),.agg (gK 13),aA 6] 0 .nil=ta (R u))/\oZ oX (R (bR bX (n+59)))=true:=by
  refine⟨?_,λu g i j d z Q=>?_,?_⟩
  rotate_left
  rw[n8,Ek,Jv];rw[b3,b3,cF,av,aU,bE,a6,aq,a0,ez _ _,eA _ _,Ju,cF,cM,bE,t,aq,a0,av,aU,jB,aq,iR,bE,jY,aq,a0,av,aU,Jt,q,iZ,cF,cM,dy,b8,cd,bA,bc,Oz,e4,cd,bA,bc,Oy,fu,cd,bA,bc,Ox,nU,cd,bA,bc,Ow,z9,cd,bA,bc,Ov,uM,cd,bM,bw,V5,aH,abD,RJ (n:=1) (off:=0+3) (new:=[.ba]) (gn ec) rfl l,av,aU,cF,V4,cM,dy,av,aU,a6,aq,a0 d,e1,gX,dy,cV,V3,aH,av,aL f10,b7,gQ,cI,aU,a6,aq,a0 z,e1,gX,V2,cf,ch,dy,cV,V1,aH,av,aL f10,b7,gQ,iQ,cI,aL iM,gQ,iQ,cI,aL o,fu,eL,V0,cf,ch,bA,bc,VZ,bn,aH,av,aL f10,b7,gQ,bn,iQ,cI,aL iM,gQ,VY,iQ,cI,dG r,p,cF,cM,dy,av,aU,b4,i2,a6,aq,aq,a0,VX,ez _ _,eA _ _,cF,cM,e1,dy];exact(rfl:_=ta _);cases e<;>kernel_rfl
 have g:bf (bR bX (n+59)) 57 [.agg (gK 13)] (.bD [hQ 13,.agg (it 13)]):=hF (a:=bR bX (n+59) 57 [.agg (gK 13)] 0 .nil) (by kernel_rfl);have i:bf (bR bX (n+59)) 58 [hQ 13] (sb (hQ 13)):=hF (a:=bR bX (n+59) 58 [hQ 13] 0 .nil) (by kernel_rfl);have j:bf (bR bX (n+59)) 58 [.aN 11 [it 13]] (sb (.aN 11 [it 13])):=hF (a:=bR bX (n+59) 58 [.aN 11 [it 13]] 0 .nil) (by kernel_rfl);have d:bf (bR bX (n+59)) 60 [.agg (gK 13),.s 2 0x6966,eB] (.U true):=hF (a:=bR bX (n+59) 60 [.agg (gK 13),.s 2 0x6966,eB] 0 .nil) (by kernel_rfl);have A:bf (bR bX (n+59)) 60 [.agg vh,.s 8 0x626f6f6c65616e70,br] (.U true):=hF (a:=bR bX (n+59) 60 [.agg vh,.s 8 0x626f6f6c65616e70,br] 0 .nil) (by kernel_rfl);rw[x _ g i j d A k];exact y
end
end Go.Hf

import Derived.Test.YteehpeajjbkjnaaGreatDoorAw
set_option maxRecDepth 1000000
set_option linter.all false
noncomputable section
namespace Go.Hf
open Go.RowKit
section
variable[Tok]
def aeQ(a:ay):ao:=match a with
 | .ok v _ _ _=>v
 |_=> .ba
def uH(i:Nat):az:=(pQ[i]?).getD []
def gK(i:Nat):az:=((uH i).drop (0+1)).take 11
def jD(i:Nat):az:=[.s 4 0x75736572,(uH i).headD .ba]
def abY(i:Nat):ao:=aeQ (bR bX 60 57 [.agg (gK i)] 0 .nil)
def anJ(x:ao):ao:=match x with
 | .bD [a,_]=>a
 |_=> .ba
def awH(x:ao):az:=match x with
 | .bD [_,.agg c]=>c
 |_=>[]
def hQ(i:Nat):ao:=anJ (abY i)
def it(i:Nat):az:=awH (abY i)
def z5(i:Nat):bg:=vY (it i)[10]?
def arX(x:ao):Bool:=match x with
 | .undef=>false
 |_=>true
theorem So{x:ao}(h:arX x=true):x≠ .undef:=λe=>by rw[e]at h;cases h
def rI(gL:az)(k a:ao):az:=gL++[k,a]++hG.drop 4
def ta(a:ay):ay:=a
def sb(x:ao):ao:=aeQ (bR bX 60 58 [x] 0 .nil)
theorem aci(i:Nat)(hi:i=15\/i=18)(n:Nat)(w:bg)(c:Bool)(h:bf (bR bX (n+59)) 59 [.aN 32 w,.agg (cw (gs ((it i).drop 1)))] (.U c)):oZ oX (n8 (bR bX (n+59)) [.aN 32 w,.agg (jD i),.agg (gK i),aA 1] 0 .nil)=true:=by
 have t:hG.length=34:=rfl;have q:∀f:az->ay,(eu 0 2 (.agg (jD i)) hG λc=>eu 2 1 (aA 1) c λc=>eu 3 1 (hQ i) c f)=f (rI (jD i) (aA 1) (hQ i)):=λf=>by rcases hi with rfl|rfl<;>kernel_rfl
 have x:(rI (jD i) (aA 1) (hQ i)).length=34:=by rcases hi with rfl|rfl<;>kernel_rfl
 have y:(jD i).length=2:=by rcases hi with rfl|rfl<;>kernel_rfl
 have z:(gK i).length=11:=by rcases hi with rfl|rfl<;>kernel_rfl
 have A:cg (gK i)=true:=by rcases hi with rfl|rfl<;>kernel_rfl
 have B:(it i).length=11:=by rcases hi with rfl|rfl<;>kernel_rfl
 have C:cg (it i)=true:=by rcases hi with rfl|rfl<;>kernel_rfl
 have c0:(it i)[0+0]? =some eB:=by rcases hi with rfl|rfl<;>kernel_rfl
 have j:(it i)[0+10]? =some (.aN 11 (z5 i)):=by rcases hi with rfl|rfl<;>kernel_rfl
 have c1:((it i).drop (0+1)).take 2=cw (gs ((it i).drop 1)):=by rcases hi with rfl|rfl<;>kernel_rfl
 have k:0+1+2<=(it i).length:=by omega
 have l:(z5 i).length=2:=by rcases hi with rfl|rfl<;>kernel_rfl
 have o:∀(ob:dE) (f:gI),bi ob (hQ i) f=f (hQ i) []:=λob f=>by rcases hi with rfl|rfl<;>kernel_rfl
 have D:hQ i≠ .undef:=So (by rcases hi with rfl|rfl<;>kernel_rfl);obtain⟨R,p,r⟩:∃R:Fn->ay,(∀u:Fn,bf u 57 [.agg (gK i)] (.bD [hQ i,.agg (it i)])->bf u 58 [hQ i] (sb (hQ i))->bf u 58 [.aN 11 [it i]] (sb (.aN 11 [it i]))->bf u 59 [.aN 32 w,.agg (cw (gs ((it i).drop 1)))] (.U c)->
  n8 u [.aN 32 w,.agg (jD i),.agg (gK i),aA 1] 0 .nil=ta (R u))/\oZ oX (R (bR bX (n+59)))=true:=by
  refine⟨?_,λu d e g E=>?_,?_⟩
  rotate_left
  rw[n8,Ek,Jv];rw[b3,b3,cF,av,aU,bE,a6,aq,a0,ez _ _,eA _ _,Ju,cF,cM,bE,o,aq,a0,av,aU,jB,aq,iR,bE,jY,aq,a0,av,aU,Jt,q,iZ,cF,cM,dy,b8,cd,bM,bw,VW,dy,bn,aH,av,aL c0,fu,cd,dy,bM,dR,aH,av,aL j,gC,l,e4,cd,VV,cl,cA,dy,bM,dR,aH,av,dG k,c1,b4,i2,a6,aq,aq,a0];exact(rfl:_=ta _);rcases hi with rfl|rfl<;>cases c<;>kernel_rfl
 have d:bf (bR bX (n+59)) 57 [.agg (gK i)] (.bD [hQ i,.agg (it i)]):=hF (a:=bR bX (n+59) 57 [.agg (gK i)] 0 .nil) (by rcases hi with rfl|rfl<;>kernel_rfl);have e:bf (bR bX (n+59)) 58 [hQ i] (sb (hQ i)):=hF (a:=bR bX (n+59) 58 [hQ i] 0 .nil) (by rcases hi with rfl|rfl<;>kernel_rfl);have g:bf (bR bX (n+59)) 58 [.aN 11 [it i]] (sb (.aN 11 [it i])):=hF (a:=bR bX (n+59) 58 [.aN 11 [it i]] 0 .nil) (by rcases hi with rfl|rfl<;>kernel_rfl);rw[p _ d e g h];exact r
end
end Go.Hf

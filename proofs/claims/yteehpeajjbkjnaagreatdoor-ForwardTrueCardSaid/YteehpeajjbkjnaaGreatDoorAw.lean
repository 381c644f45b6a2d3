import Derived.Test.YteehpeajjbkjnaaGreatDoorAv
import Derived.Test.YteehpeajjbkjnaaGreatDoorAu
import Derived.Test.YteehpeajjbkjnaaGreatDoorAm
import Derived.Test.YteehpeajjbkjnaaGreatDoorAq
set_option maxRecDepth 1000000
set_option linter.all false
noncomputable section
namespace Go.Hf
open Go.RowKit
section
variable{w:bg}{t:dc}{h:aO}
section
variable[Tok] {u:Fn}
def Ei(r:az):Prop:=wI r/\(∃k:Int,-100<k/\k<100/\r[0+2]? =some (aA k))/\∃s:dc,(r.drop (0+4)).take 2=cw s
structure tM (e:az):Prop where
 len:e.length=32
 ja:cg e=true
 dV:∃k:Int,k∈uA/\e[0+0]? =some (aA k)/\(k=4->∃rv rs,e[0+27]? =some rv/\cE 34 rv rs/\rs.length<=2/\∀r∈rs,Ei r)
theorem aw7{F:az}(h:F.length=34):0+4+2<=F.length:=by omega
theorem aqz{e:az}{i:Nat}(H:w[i]? =some e)[cp h 0][dS h](ho:h.am (0+3)= .box (fK (bN 0 .nil) 0 3 39) (cw t)){l:ao}{rs:bg}(I:e[0+27]? =some l)(q:cE 34 l rs)(J:rs.length<=2)(y:∀F∈rs,Ei F)(a:n1):
 ∀(n j N:Nat),n+j=rs.length->n<N->
 (∃s d,gd 0 3 5 6 N (rQ u 0 a) (.aN 32 w) (.aQ (0+3) (fK (bN 0 .nil) 0 3 39) 0) (aA ((i:Nat):Int)) (aA ((j:Nat):Int)) h= .ok (.U true) 0 s d)\/
 gd 0 3 5 6 N (rQ u 0 a) (.aN 32 w) (.aQ (0+3) (fK (bN 0 .nil) 0 3 39) 0) (aA ((i:Nat):Int)) (aA ((j:Nat):Int)) h=a (.aN 32 w) (.aQ (0+3) (fK (bN 0 .nil) 0 3 39) 0) (aA ((i:Nat):Int)) h:=by
 have z:=cE.len q;intro n;induction n with
 |zero=>
  intro j N A B;obtain⟨N,rfl⟩:=eC N;have C:j=rs.length:=by omega
  subst C;right;rw[jt];generalize gd 0 3 5 6 N (rQ u 0 a)=c;rw[rQ];rw[fH,bn,iQ,cI,aL,z,cz,bA,bc]
 |succ n D=>
  intro j N A B;obtain⟨N,rfl⟩:=eC N;obtain⟨F,o⟩:∃F,rs[j]? =some F:=⟨_,fo (by omega)⟩;obtain⟨f1,⟨k,K,L,M⟩,s,f3⟩:=y F (eH o);have E:l= .aN 34 rs:=q.elim (λh=>by rw[h.2]at o;cases o) id;subst E;have r:=aw7 f1.1;have g:=D (j+1) N (by omega) (by omega);have G:((j+1:Nat):Int)=(j:Int)+1:=by omega
  rw[G]at g;rw[jt];generalize gd 0 3 5 6 N (rQ u 0 a)=c at g ⊢;have es:∀k:ao->ay,iP false (.agg (cw s)) (.agg (cw t)) k=k (.U (q4 s t)):=λk=>rfl;by_cases O:k=6;cases x:q4 s t;rw[x]at es;have p:rQ u 0 a c (.aN 32 w) (.aQ (0+3) (fK (bN 0 .nil) 0 3 39) 0) (aA ((i:Nat):Int)) (aA ((j:Nat):Int)) h=c (.aN 32 w) (.aQ (0+3) (fK (bN 0 .nil) 0 3 39) 0) (aA ((i:Nat):Int)) (aA ((j:Int)+1)) h:=by rw[rQ];rw[fH,bn,iQ,cI,aL,gC,cz,bM,bw,JT,dW,be,be,aP,fH,iQ,aS,be,aP,cI,aL,dW,be,be,aP,fH,JS,iQ,aS,be,aP,cI,aL,uM,cd,bM,dR,dW,be,be,aP,fH,iQ,Pe,aS,be,aP,cI,aL,dW,be,be,aP,fH,iQ,aS,be,aP,cI,dG r,f3,aS,bO,aP,av,aU (by rfl),es,FE,cl,cA,bc,b8,fV]
  rw[p];exact g;rw[x]at es;left;rw[rQ];rw[fH,bn,iQ,cI,aL,gC,cz,bM,bw,JT,dW,be,be,aP,fH,iQ,aS,be,aP,cI,aL,dW,be,be,aP,fH,JS,iQ,aS,be,aP,cI,aL,uM,cd,bM,dR,dW,be,be,aP,fH,iQ,Pe,aS,be,aP,cI,aL,dW,be,be,aP,fH,iQ,aS,be,aP,cI,dG r,f3,aS,bO,aP,av,aU (by rfl),es,FE,cl,cA,bw,qk,bJ,cf,dh,aq];exact b6;have p:rQ u 0 a c (.aN 32 w) (.aQ (0+3) (fK (bN 0 .nil) 0 3 39) 0) (aA ((i:Nat):Int)) (aA ((j:Nat):Int)) h=c (.aN 32 w) (.aQ (0+3) (fK (bN 0 .nil) 0 3 39) 0) (aA ((i:Nat):Int)) (aA ((j:Int)+1)) h:=by rw[rQ];rw[fH,bn,iQ,cI,aL,gC,cz,bM,bw,JT,dW,be,be,aP,fH,iQ,aS,be,aP,cI,aL,dW,be,be,aP,fH,JS,iQ,aS,be,aP,cI,aL,uM,cd,bA,gB,FE,cl,ch,bc,b8,fV]
  rw[p];exact g
theorem aqy(P:w.length<=900)(q:∀e∈w,tM e)[cp h 0][dS h](ho:h.am (0+3)= .box (fK (bN 0 .nil) 0 3 39) (cw t)):
 ∀(n i N:Nat),n+i=w.length->n<N->∃c s d,ji 0 3 5 N (xg u 0 (λh=>qk 0 cQ h)) (.aN 32 w) (.aQ (0+3) (fK (bN 0 .nil) 0 3 39) 0) (aA ((i:Nat):Int)) h= .ok (.U c) 0 s d:=by
 intro n;induction n with
 |zero=>
  intro i N z A;obtain⟨N,rfl⟩:=eC N;have B:i=w.length:=by omega
  subst B;refine⟨false,?_⟩;rw[oW];generalize ji 0 3 5 N (xg u 0 (λh=>qk 0 cQ h))=a;rw[xg,gC,cz,bA,bc];rw[qk,bJ,cl,dh,aq];exact b6
 |succ n C=>
  intro i N z A;obtain⟨N,rfl⟩:=eC N;obtain⟨e,j⟩:∃e,w[i]? =some e:=⟨_,fo (by omega)⟩;obtain⟨el,Q,k,D,e0,E⟩:=q e (eH j);have R: -100<k/\k<100:=by simp only[uA,e9,iV,iU]at D;omega
  have g:=C (i+1) N (by omega) (by omega);have F:((i+1:Nat):Int)=(i:Int)+1:=by omega
  rw[F]at g;rw[oW];generalize ji 0 3 5 N (xg u 0 (λh=>qk 0 cQ h))=a at g ⊢;obtain⟨c,g⟩:=g;by_cases G:k=4;obtain⟨S,rs,I,J,K,L⟩:=E G;have M:∀x y,dT (aA ((i:Nat):Int)) br (λr=>a x y r h)=a x y (aA ((i:Int)+1)) h:=λx y=>by rw[b8,fV]
  have O:xg u 0 (λh=>qk 0 cQ h) a (.aN 32 w) (.aQ (0+3) (fK (bN 0 .nil) 0 3 39) 0) (aA ((i:Nat):Int)) h=gd 0 3 5 6 1000000 (rQ u 0 (λm n o p=>dT o br λl=>a m n l p)) (.aN 32 w) (.aQ (0+3) (fK (bN 0 .nil) 0 3 39) 0) (aA ((i:Nat):Int)) (aA ((0:Nat):Int)) h:=by rw[xg,gC,cz,bM,bw,Pf];rw[fH,bn,iQ,cI,aL,nU,eL,bA,bc];rw[b7];rfl
  rw[O];rcases aqz (u:=u) j ho I J K L (λm n o p=>dT o br λl=>a m n l p) rs.length 0 1000000 rfl (by omega) with H|H;exact⟨true,H⟩;rw[H];simp only[M];exact⟨c,g⟩;refine⟨c,?_⟩;rw[xg,gC,cz,bM,bw,Pf];rw[fH,bn,iQ,cI,aL,nU,eL,bM,bw,b8,fV];exact g
theorem ald(q:w.length<=900)(r:∀e∈w,tM e){i j:dc}(l:bf u 47 [.s 5 0x657175616c] (.agg (cw i)))(n:bf u 47 [.s 3 0x696666] (.agg (cw j))):∃c s d,xf u [.aN 32 w,.agg (cw t)] 0 .nil= .ok (.U c) 0 s d:=by have es:∀(s:dc) (k:ao->ay),iP false (.agg (cw t)) (.agg (cw s)) k=k (.U (q4 t s)):=λs k=>rfl;have a:=es i;have g:=es j;cases o:q4 t i;rw[o]at a;cases p:q4 t j;rw[p]at g;obtain⟨c,x⟩:=aqy (u:=u) q r (t:=t) (h:=(bN 0 .nil).cB 0 3 39 (cw t)) ec w.length 0 1000000 rfl (by omega);refine⟨c,?_⟩;rw[xf,ep,JR];rw[b3,JQ,aS,bO,aP,av,aU (by rfl),a0 l,a,cV,aS,bO,aP,av,aU (by rfl),a0 n,g,FF,cf,ch,bc,Pg];rw[b7];exact x;rw[p]at g;refine⟨true,?_⟩;rw[xf,ep,JR];rw[b3,JQ,aS,bO,aP,av,aU (by rfl),a0 l,a,cV,aS,bO,aP,av,aU (by rfl),a0 n,g,FF,cf,ch,bw,qk,bJ,dh,aq];exact b6;rw[o]at a;refine⟨true,?_⟩;rw[xf,ep,JR];rw[b3,JQ,aS,bO,aP,av,aU (by rfl),a0 l,a,gf,FF,cf,cA,bw,qk,bJ,dh,aq];exact b6
theorem amZ:bV λu=>bf u 47 [.s 5 0x657175616c] (.agg (cw (4,0x6c697370,5,0x657175616c))):=bV.hE 9 λn=>hF (a:=bR bX (n+9) 47 [.s 5 0x657175616c] 0 .nil) (by kernel_rfl)
theorem am0:bV λu=>bf u 47 [.s 3 0x696666] (.agg (cw (4,0x6c697370,3,0x696666))):=bV.hE 9 λn=>hF (a:=bR bX (n+9) 47 [.s 3 0x696666] 0 .nil) (by kernel_rfl)
theorem ZR:bV λu=>∀w:bg,w.length<=900->(∀e∈w,tM e)->∀t:dc,∃c,bf u 59 [.aN 32 w,.agg (cw t)] (.U c):=
 (amZ.and am0).up λn h w a d t=>by obtain⟨c,F⟩:=ald (u:=bR bX n) a d (t:=t) h.1 h.2;exact⟨c,eO xf F⟩
end
end
section
open Go.Proofs
section
variable[Tok]
def Dh(n k:Nat):az:=[dM,.s 0 0,.s 0 0,.s 4 0x6c697370,.s n k,.s 0 0,.ba]
def Ad(l:bg):az:=l.foldr (λx r=>[ku,.s 0 0,.s 0 0,.s 0 0,.s 0 0,.s 0 0,.aN 7 [x,r]]) (Dh 3 0x6e696c)
def gE(n k:Nat)(s:List bg):List bg:=match n,s with
 |_+1,l::r=>((match k%256 with|48=>[br,.s n k,.s 1 49,.s 0 0,.s 0 0,.s 0 0,.ba]|49=>[br,.s n k,.s 1 49,.s 0 0,.s 0 0,.s 0 0,.ba]|_=>Dh n k)::l)::r
 |_,_=>s
def tR{α a:Type}(f:α->a)(x:α):a:=f x
def kN(t:Nat):Nat->Nat->Nat->Nat->List bg->List bg
 |0,_,_,_,s=>s
 |m+1,i,n,k,s=>match t/256^i%256 with
  |40=>match gE n k s with
   |l::x::r=>tR (kN t m (i+1) 0 0) ((Ad l::x)::r)
   |_=>[]
  |41=>tR (kN t m (i+1) 0 0) ([]::gE n k s)
  |32=>tR (kN t m (i+1) 0 0) (gE n k s)
  |10=>tR (kN t m (i+1) 0 0) (gE n k s)
  |c=>tR (kN t m (i+1) (n+1) (k+c*256^n)) s
def No:ao:=match bR bX 9 100 [] 0 .nil with
 | .ok (.s n t) _ _ _=> .aN 7 ((kN t n 0 0 0 [[]]).headD [])
 |_=> .ba
def yE(k:Nat)(o:az):ao:=(o.drop k).headD .ba
def nI(x:ao):bg:=match x with| .aN _ l=>l|_=>[]
def vS:Nat->az->bg
 |0,_=>[]
 |n+1,o=>match nI (yE 6 o) with|[h,t]=>h::vS n t|_=>[]
def gx:Nat->az->az
 |0,_=>[]
 |n+1,o=>
  let c:=λx l=>dI dH x l
  match vS 9 o with
  |[]=>match bo (yE 4 o) with|0=>fg o|0x74=>fg o|0x6e696c=>fg o|_=>kQ dH (yE 4 o)
  |h::t=>
   let l:=t.map (gx n);let p:=λf=>l.dropLast.foldr f (l.getLastD []);let i:=λx y z=>c (.s 2 0x6966) [x,y,z]
   match bo (yE 4 h) with
   |0x636f6e64=>t.foldr (λx r=>c (.s 2 0x6966) ((vS 3 x).map (gx n)++[r])) (fg (Dh 3 0x6e696c))
   |0x616e64=>p λx r=>i x r (fg (Dh 3 0x6e696c))
   |0x6f72=>p λx r=>i x x r
   |0x2b=>p λx r=>c (.s 8 0x62696e6172792d2b) [x,r]
   |0x617070656e64=>c (.s 13 0x62696e6172792d617070656e64) l
   |0x6c697374=>l.foldr (λx r=>c (.s 4 0x636f6e73) [x,r]) (fg (Dh 3 0x6e696c))
   |_=>c (yE 4 h) l
def Zx(o:az):az:=
 let l:=vS 9 o;let g:=λc d=>((l.filter λx=>bo (yE 4 ((vS 2 x).headD []))==c).map λx=>gx 30 ((vS 2 x).getLastD [])).headD d;let n:=yE 4 (l.getD 1 [])
 [eB,dH,n,.s 0 0,.ba,.s 0 0,.s 0 0,.ba,cQ]++t0++[.aN 37 [[dH,n,.aN 2 ((vS 9 (l.getD 2 [])).map λp=>[dH,yE 4 p]),br]++g 0x6775617264 (fg (Dh 1 0x74))++gx 30 (l.getLastD [])++g 0x6d656173757265 t0],.ba,.ba,.ba,.s 0 0,.s 0 0,.ba,.ba,.ba,.ba,.s 0 0,.ag .u64 18446744073709551616]
def Zy(w:bg):bg->List (az×ao)
 |[]=>[]
 |f::r=>([match w with|[]=> .ba|_=> .aN 32 w,.agg f],.agg (Zx f))::Zy (w++[Zx f]) r
def A3:List (az×ao):=[([],No)]
def oE:List (az×ao):=Zy [] (nI No)
def dA(K:List (az×ao))(l:az):ay:= @List.rec _ (λ_=>ay) .aF (λp _ a=> @Bool.rec (λ_=>ay) a (.ok p.2 0 .nil []) (vL (.bD p.1.reverse) (.bD l.reverse))) K
def r7(K:List (az×ao)):jj:=v8 λ_ l _ _=>dA K l
def NF:my:=wJ (r7 A3) Pd zv ws
def oi(l:List (az×ao)):Bool:=l.all λp=>iu (bR NF 300 46 p.1 0 .nil) p.2
def NG:my:=wJ (r7 A3) (r7 oE) zv ws
end
end
section
variable[Tok]
theorem auA:oi ((oE.drop 19).take 2)=true:=by kernel_rfl
theorem auB:oi ((oE.drop 21).take 2)=true:=by kernel_rfl
theorem auC:oi ((oE.drop 23).take 2)=true:=by kernel_rfl
theorem auD:oi ((oE.drop 25).take 2)=true:=by kernel_rfl
theorem auE:oi (oE.drop 27)=true:=by kernel_rfl
end
section
variable[Tok]
theorem auz:oi ((oE.drop 18).take 1)=true:=by kernel_rfl
end
section
variable{q d':Nat}{wk:Option (List Nat)}{h:aO}{x y:ao}{r xs:az}{ca:bg}{rk:List Nat}{z:ay}
section
variable[Tok] {u:Fn}{b:Nat}
theorem n3.af7{e sz bytes:Nat}{es:bg}(H:n3 q e sz h x es)(a:q<h.ax)(c:∀f:bg->ay,i0 h.am sz y f=f [r])(j:es.length<1000)(l:bytes<1000)(d:∀o,ke b wk [(q,o)]=true):
 ∃s,∀k:dv,fW b d' wk e sz bytes x y false h k=k (.aV q s 0 (es++[r]).length) (h.g1 b q (nr s e sz (es++[r]) false)):=by
 have p:(es.length+1)*bytes<=1000*1000:=AZ (by omega) (by omega);obtain⟨s,rfl,ho⟩:=H;refine⟨Nat.add s 1,λk=>?_⟩;have e0:fW b d' wk e sz bytes (.aV q s 0 es.length) y false h k=i0 h.am sz y λys=>mr ys λys=>gc (eJ ys) λn=>
  bB (Nat.beq 0 0) (uP (h.yA q) λg e' i rs r=>bB (Nat.beq s g) (bB (Nat.beq e' e) (bB (Nat.beq i sz)
   (@Bool.rec (λ_=>ay) (bB r (bB (Nat.ble es.length (eJ rs)) (jr b wk bytes q s e sz (mb (Nat.sub (eJ rs) es.length) rs) n ys r es.length h k) .aF) .aF) (jr b wk bytes q s e sz rs n ys r es.length h k) (Nat.beq es.length (eJ rs))) .aF) .aF) .aF) .aF:=rfl
 rw[e0,c,ms,fN,gV,fI,da,Dg (by rw[aO.AB];exact ho),fI,da,fI,da,fI,da,gV,u6,fI];show jr b wk bytes q s e sz es.reverse [r].length [r] false es.length h k=_;unfold jr;rw[fN,eT,dJ (by rw[tE,h5];simp;omega),da,eT,dJ (by rw[h5];simp;omega),da,fN,sp,uC (d _) a];unfold nr;rw[List.reverse_append,List.length_append];rfl
structure hS (q:Nat) (h:aO) (x:ao) (ca:bg):Prop where
 ax:cp h 0
 b5:dS h
 SS:q<h.ax
 SR:4096<=q
 Md:ir 0 q=4098
 Ag:n3 q 73 32 h x ca
theorem hS.dP{d:Nat}{o:fb}(bH:hS q h x ca)(hd:d<4096:=by decide):hS q (h.dP 0 d o) x ca:=by
 haveI:=bH.ax
 haveI:=bH.b5
 exact⟨inferInstance,inferInstance,by rw[lC];exact bH.SS,bH.SR,bH.Md,bH.Ag.NJ bH.SR hd⟩
theorem hS.g3(bH:hS q h x ca)(c:∀f:bg->ay,i0 h.am 32 y f=f [r])(i:ca.length<900)(d:∀o,ke 0 wk [(q,o)]=true):
 ∃x' h',hS q h' x' (ca++[r])/\∀k:dv,fW 0 d' wk 73 32 568 x y false h k=k x' h':=by
 obtain⟨s,e⟩:=bH.Ag.af7 (b:=0) (d':=d') (bytes:=568) bH.SS c (by omega) (by omega) d;have a:=bH.SS;have g:=bH.SR;exact⟨_,_,⟨⟨by rw[aO.lY];exact bH.ax.eq⟩,⟨by rw[rl,dU (by omega)];exact bH.b5.eq⟩,by rw[aO.lY];exact a,g,bH.Md,⟨s,rfl,(nv a).trans (yv _ _ _ _ _)⟩⟩,e⟩
def nK(s:dc)(a:bg):az:=[eB,.s s.1 s.2.1,.s s.2.2.1 s.2.2.2,.s 0 0,.ba,.s 0 0,.s 0 0,.ba,cQ,bt,.s 0 0,.s 0 0,bt,.s 0 0,.s 0 0,.s 0 0,.s 0 0,.s 0 0,.ba,.ba,.aN 37 a,.ba,.ba,.ba,.s 0 0,.s 0 0,.ba,.ba,.ba,.ba,.s 0 0,(.ag .u64 18446744073709551616)]
def qO(r:az):az:=match r with
 |[.aN _ (F::a)]=>nK (gs F) (F::a)
 |_=>[]
def T6(r:az):Prop:=∃F a,r=[.aN 37 (F::a)]/\F.length=37/\(F.drop (0+0)).take 2=cw (gs F)
theorem arw{s o l:Nat}(h:ir 0 q=4098)(a:e3 rk 4098=true:=by rfl):met 0 rk (.aV q s o l::xs) z=met 0 rk xs z:=be (by rw[ab6,h];exact a) xs z
theorem hS.met(bH:hS q h x ca)(a:e3 rk 4098=true:=by rfl):met 0 rk (x::xs) z=met 0 rk xs z:=by obtain⟨s,rfl,_⟩:=bH.Ag;exact arw bH.Md a
theorem aqA{bits:ao}{rn:bg}(A:∀r∈rn,T6 r)(P:rn.length<=100)(K:gZ):∀(n i N:Nat) (h:aO) (x:ao) (ca:bg),n+i=rn.length->n<N->hS q h x ca->ca.length+n<=800->
 ∃x' h',hS q h' x' (ca++(rn.drop i).map qO)/\gd 0 3 4 5 N (B4 u 0 K) bits x (.aN 1 rn) (aA ((i:Nat):Int)) h=K bits x' h':=by
 intro n;induction n with
 |zero=>
  intro i N h x ca B C bH e;obtain⟨N,rfl⟩:=eC N;have hi:i=rn.length:=by omega
  subst hi;refine⟨x,h,by rw[List.drop_length,ny,qy];exact bH,?_⟩;rw[jt];generalize gd 0 3 4 5 N (B4 u 0 K)=D;rw[B4,gC,cz,bA,bc]
 |succ n E=>
  intro i N h x ca B C bH e;obtain⟨N,rfl⟩:=eC N;obtain⟨r,p⟩:∃r,rn[i]? =some r:=⟨_,fo (by omega)⟩;have G:rn.drop i=r::rn.drop (i+1):=by rw[sy (by omega)];congr 1;have:=fo (l:=rn) (i:=i) (by omega);rw[p]at this;exact(l2 this).symm
  obtain⟨F,a,rfl,f1,f3⟩:=A r (eH p);have H:=aeu f1;have I:((i+1:Nat):Int)=(i:Int)+1:=by omega
  have g:=λh x ca bH e=>E (i+1) N h x ca (by omega) (by omega) bH e;rw[I]at g;rw[jt];generalize gd 0 3 4 5 N (B4 u 0 K)=D at g ⊢
  haveI:=bH.ax
  haveI:=bH.b5
  have Q:(F::a)[0]? =some F:=rfl;have J:∀f:az->ay,eu 0 1 eB nx f=f [eB,.s 0 0,.s 0 0,.s 0 0,.ba,.s 0 0,.s 0 0,.ba,cQ,bt,.s 0 0,.s 0 0,bt,.s 0 0,.s 0 0,.s 0 0,.s 0 0,.s 0 0,.ba,.ba,.ba,.ba,.ba,.ba,.s 0 0,.s 0 0,.ba,.ba,.ba,.ba,.s 0 0,(.ag .u64 18446744073709551616)]:=λf=>rfl;have L:∀(f:az->ay) (z:az),eu 1 2 (.agg (cw (gs F))) [eB,.s 0 0,.s 0 0,.s 0 0,.ba,.s 0 0,.s 0 0,.ba,cQ,bt,.s 0 0,.s 0 0,bt,.s 0 0,.s 0 0,.s 0 0,.s 0 0,.s 0 0,.ba,.ba,.ba,.ba,.ba,.ba,.s 0 0,.s 0 0,.ba,.ba,.ba,.ba,.s 0 0,(.ag .u64 18446744073709551616)] (λc=>eu 20 1 (.aN 37 (F::a)) c f)=f (nK (gs F) (F::a)):=λf z=>rfl;have R:=bH.Ag.fh;obtain⟨t,w,M,j⟩:=hS.g3 (d':=2081) (wk:=some [2081,4096,4098,2081,2132]) (bH.dP (d:=2080) (o:= .ae (.aV (ie h 0 2080) 73 32 [nK (gs F) (F::a)] false))) (y:= .aV (0+2080) (ie h 0 2080) 0 1) (r:=nK (gs F) (F::a)) (λf=>pt (hX (h:=h)) rfl f) (by omega) (λo=>by show c7 (e3 _ (ir 0 q)) true=true;rw[bH.Md];rfl)
  have j:∀k:dv,fW 0 2081 (some [2081,4096,4098,2081,2132]) 73 32 568 x (.aV (0+2080) (ie h 0 2080) 0 1) false (h.fc 0 2080 73 32 [nK (gs F) (F::a)] false) k=k t w:=j;have S:cg (nK (gs F) (F::a))=true:=rfl;have T:(nK (gs F) (F::a)).length=32:=rfl;obtain⟨x',h',O,gZ⟩:=g w t _ M (by simp;omega);refine⟨x',h',?_,?_⟩;rw[G];have:(ca++[nK (gs F) (F::a)])++(rn.drop (i+1)).map qO=ca++([.aN 37 (F::a)]::rn.drop (i+1)).map qO:=by simp[qO]
  rw[<-this];exact O;rw[B4,gC,cz,bM,bw,Xp];rw[dW,be,be,aP,fH,aS,be,aP,cI,aL,be,aP,b7,gQ,iQ,aS,be,aP,cI,dG H,f3,dW,be,be,aP,fH,Xo,aS,be,aP,cI,aL,J,L _ [],iZ,be,aP,jB,aq,x1,bH.met,x8,aP,j,b8,fV];exact gZ
end
end
section
variable{M:Nat}
section
variable[Tok] {u:Fn}
theorem aou(m:Nat):intOf (18446744073709551616+m)=(m:Int):=by unfold intOf;omega
theorem Zv(x:Nat):mL (.int .u32 (x:Int))=some (.ag .u32 (18446744073709551616+x)):=by show(if-18446744073709551616<=(x:Int) then some (ao.ag .u32 ((x:Int)+18446744073709551616).toNat) else none)=_;rw[dr (by omega)];congr 2;omega
theorem awG(f:Value->Value->Option Value)(k b:IntKind)(a c:Nat):wi f (.ag k a) (.ag b c)=(f (.int k (intOf a)) (.int b (intOf c))).bind mL:=rfl
theorem axm{i m:Nat}(a:intOf M=(m:Int)):∃ll:Nat,yF .shr (.ag .u32 M) (aA ((i:Nat):Int))=some (.ag .u32 (18446744073709551616+ll)):=by
 have e:yF .shr (.ag .u32 M) (aA ((i:Nat):Int))=(Dw .shr (.int .u32 (m:Int)) (.int .i64 ((i:Nat):Int))).bind mL:=by rw[db];unfold yF;rw[awG,a,GI]
 have b:((2:Int)^min (i:Int).toNat (IntKind.bits .u32))=((2^min (i:Int).toNat (IntKind.bits .u32):Nat):Int):=by rw[Int.natCast_pow];rfl
 have c:Dw .shr (.int .u32 (m:Int)) (.int .i64 ((i:Nat):Int))=some (.int .u32 (((m/2^min (i:Int).toNat (IntKind.bits .u32):Nat)):Int)):=by show(if(i:Int)<0 then none else some (Value.int .u32 ((m:Int).fdiv (2^min (i:Int).toNat (IntKind.bits .u32)))))=_;rw[dU (by omega)];show some (Value.int .u32 ((m:Int).fdiv (2^min (i:Int).toNat (IntKind.bits .u32))))=_;rw[b,Int.fdiv_eq_ediv_of_nonneg _ (Int.natCast_nonneg _),Int.natCast_ediv]
 rw[e,c];exact⟨_,Zv _⟩
theorem axk{M':Nat}:∃a:Nat,lZ .and (.ag .u32 M) (.ag .u32 M')=some (.ag .u32 (18446744073709551616+a)):=by
 have e:lZ .and (.ag .u32 M) (.ag .u32 M')=mL (.int .u32 (IntKind.wrap .u32 ((BitVec.ofInt (IntKind.bits .u32) (intOf M)&&& BitVec.ofInt (IntKind.bits .u32) (intOf M')).toNat:Int))):=rfl;generalize (BitVec.ofInt (IntKind.bits .u32) (intOf M)&&& BitVec.ofInt (IntKind.bits .u32) (intOf M')).toNat=z at e;have:IntKind.wrap .u32 (z:Int)=((z%4294967296:Nat):Int):=by show(z:Int) %4294967296=_;omega
 rw[e,this];exact⟨_,Zv _⟩
theorem ajW(m i:Nat):∃c:Bool,∀k:ao->ay,(dj (yF .shr (.ag .u32 (18446744073709551616+m)) (aA ((i:Nat):Int))) λg=>dj (lZ .and g (.ag .u32 18446744073709551617)) λx=>cj x (.ag .u32 18446744073709551616) k)=k (.U c):=by have a:=aou m;generalize 18446744073709551616+m=M at a;obtain⟨ll,d⟩:=axm (i:=i) a;generalize 18446744073709551616+ll=Ec at d;generalize 18446744073709551617=Ed;obtain⟨h,e⟩:=axk (M:=Ec) (M':=Ed);generalize 18446744073709551616+h=Ee at e;generalize 18446744073709551616=j;refine⟨Nat.beq Ee j,λk=>?_⟩;rw[d,nR,e,nR];rfl
end
end
section
variable{r:az}
section
variable[Tok] {u:Fn}
def abX(a:ay):bg:=match a with
 | .ok (.aN _ l) _ _ _=>l
 |_=>[]
def pQ:bg:=abX (bR bX 60 18 [] 0 .nil)
theorem avt(n:Nat):iu (bR bX (n+60) 18 [] 0 .nil) (.aN 13 pQ)=true:=by kernel_rfl
def alJ(r:az):Bool:=[(0:Int),1,4,5,6,7,8,9,10].any λk=>kI [aA k] ((r.drop (0+2)).take 1)
def Hx(k:Int)(a:ao)(b c r:az):Bool:=kI ((r.drop (0+2)).take 2) [aA k,a]&&(kI ((r.drop (0+17)).take 11) b&&kI ((r.drop (0+28)).take 1) [.aN 11 [c]])
def S5(r:az):Bool:=Nat.beq r.length 34&&(cg r&&(kI ((r.drop 0).take 2) (cw (gs r))&&(kI ((r.drop (0+4)).take 2) (cw (gs (r.drop (0+4))))&&(alJ r||(Hx 2 .ba (ej 8 0x696e746567657270 (ej 3 0x6c656e (hR 0x78))) (ej 3 0x6c656e (hR 0x78)) r||
 (Hx 3 (.aN 11 [ej 4 0x706f7370 (hR 0x6e)]) (ej 4 0x6e617470 (hR 0x6e)) (ej 4 0x706f7370 (hR 0x6e)) r||Hx 3 (.aN 11 [ej 4 0x6e617470 (hR 0x6e)]) (ej 8 0x696e746567657270 (hR 0x6e)) (ej 4 0x6e617470 (hR 0x6e)) r))))))
def wG(v:ao):Prop:=∃r e,v= .bD [.agg r,aA e]/\ -100<e/\e<100/\r.length=34/\cg r=true/\(e=0->Ei r)
def oX(v:ao):Bool:=match v with
 | .bD [.agg r,e]=>Nat.beq r.length 34&&(cg r&&(([(0:Int),24,40,41].any λk=>kI [aA k] [e])&&(S5 r|| !kI [aA 0] [e])))
 |_=>false
def oZ(p:ao->Bool)(a:ay):Bool:=match a with
 | .ok v ub _ _=>Nat.beq ub 0&&p v
 |_=>false
def se(w:ao)(r:az):az:=[w,.agg [.s 4 0x75736572,(r.headD .ba)],.agg ((r.drop (0+1)).take 11),(r.drop 12).headD .ba]
theorem SX{k:Int}{a:ao}{b c:az}(h:Hx k a b c r=true):r[0+2]? =some (aA k)/\r[0+3]? =some a/\(r.drop (0+17)).take 11=b/\r[0+28]? =some (.aN 11 [c]):=by simp only[Hx,cC]at h;have d:=na h.1;refine⟨Bi (m:=[a]) d,?_,na h.2.1,Bi (m:=[]) (na h.2.2)⟩;have:=oy (λl=>l[1]?) d;simpa[nz] using this
theorem avq(h:S5 r=true):Ei r:=by
 simp only[S5,cC,oA]at h;obtain⟨c,l,o,d,a⟩:=h;have c:=e8 c;have o:=na o;have d:=na d;have ih:(r.drop 0).take 2=[.s (gs r).1 (gs r).2.1,.s (gs r).2.2.1 (gs r).2.2.2]:=o;rcases a with a|a|a|a;obtain⟨k,p,e⟩:=nC.1 a;have e:=Bi (m:=[]) (na e).symm;have n:0<=k/\k<=20/\k≠2/\k≠3:=by simp only[e9,iV,iU]at p;omega
 exact⟨⟨c,l,.inl ⟨k,n.1,n.2.1,n.2.2.1,n.2.2.2,e⟩⟩,⟨k,by omega,by omega,e⟩,_,d⟩;obtain⟨b,g,i,j⟩:=SX a;exact⟨⟨c,l,.inr (.len _ _ _ _ ih b g i j)⟩,⟨2,by omega,by omega,b⟩,_,d⟩;obtain⟨b,g,i,j⟩:=SX a;exact⟨⟨c,l,.inr (.di _ _ _ _ ih b g i j)⟩,⟨3,by omega,by omega,b⟩,_,d⟩;obtain⟨b,g,i,j⟩:=SX a;exact⟨⟨c,l,.inr (.G2 _ _ _ _ ih b g i j)⟩,⟨3,by omega,by omega,b⟩,_,d⟩
theorem arF{v:ao}(h:oX v=true):wG v:=by
 unfold oX at h;split at h;rename_i r e;simp only[cC]at h;obtain⟨d,g,i,a⟩:=h;obtain⟨k,j,b⟩:=nC.1 i;have b:=na b;obtain rfl:aA k=e:=by simpa using b
 have c: -100<k/\k<100:=by simp only[e9,iV,iU]at j;omega
 refine⟨r,k,rfl,c.1,c.2,e8 d,g,λl=>?_⟩;subst l;rw[oA]at a;rcases a with a|a;exact avq a;rw[show kI [aA 0] [aA 0]=true by kernel_rfl]at a;cases a;cases h
theorem atG{p:ao->Bool}{a:ay}(h:oZ p a=true):∃v,p v=true/\∃s d,a= .ok v 0 s d:=by unfold oZ at h;split at h;rename_i v ub s d;rw[cC]at h;have:=e8 h.1;subst this;exact⟨v,h.2,s,d,rfl⟩;cases h
def Qv:List Nat:=[0,1,2,3,4,5,6,7,8,9,10,11,12,16,17,19]
theorem auS(n:Nat)(w:bg):Qv.all (λi=>oZ oX (bR bX (n+60) 19 (se (.aN 32 w) ((pQ[i]?).getD [])) 0 .nil))=true:=by kernel_rfl
end
end
end Go.Hf

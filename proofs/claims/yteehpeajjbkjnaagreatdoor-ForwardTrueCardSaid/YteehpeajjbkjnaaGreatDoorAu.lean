import Derived.Test.YteehpeajjbkjnaaGreatDoorAt
set_option maxRecDepth 100000
set_option linter.all false
noncomputable section
namespace Go.Hf
open Go.RowKit
variable{q:Nat}{w:bg}
section
variable[Tok] {u:Fn}{b:Nat}
inductive y0 (r:az):Prop
 |len (a1 c1 a2 c2:Nat) (h0:(r.drop 0).take 2=[.s a1 c1,.s a2 c2]) (h2:r[0+2]? =some (aA 2)) (h3:r[0+3]? =some .ba) (h17:(r.drop (0+17)).take 11=ej 8 0x696e746567657270 (ej 3 0x6c656e (hR 0x78))) (h28:r[0+28]? =some (.aN 11 [ej 3 0x6c656e (hR 0x78)]))
 |di (a1 c1 a2 c2:Nat) (h0:(r.drop 0).take 2=[.s a1 c1,.s a2 c2]) (h2:r[0+2]? =some (aA 3)) (h3:r[0+3]? =some (.aN 11 [ej 4 0x706f7370 (hR 0x6e)])) (h17:(r.drop (0+17)).take 11=ej 4 0x6e617470 (hR 0x6e)) (h28:r[0+28]? =some (.aN 11 [ej 4 0x706f7370 (hR 0x6e)]))
 |G2 (a1 c1 a2 c2:Nat) (h0:(r.drop 0).take 2=[.s a1 c1,.s a2 c2]) (h2:r[0+2]? =some (aA 3)) (h3:r[0+3]? =some (.aN 11 [ej 4 0x6e617470 (hR 0x6e)])) (h17:(r.drop (0+17)).take 11=ej 8 0x696e746567657270 (hR 0x6e)) (h28:r[0+28]? =some (.aN 11 [ej 4 0x6e617470 (hR 0x6e)]))
def wI(r:az):Prop:=r.length=34/\cg r=true/\((∃k:Int,0<=k/\k<=20/\k≠2/\k≠3/\r[0+2]? =some (aA k))\/y0 r)
def wE(e:az):Prop:=e.length=32/\cg e=true/\∃k:Int,0<=k/\k<=20/\e[0+0]? =some (aA k)/\(k=4->∃c c1 d g,(e.drop (0+1)).take 2=[.s c c1,.s d g]/\∃a rs,e[0+27]? =some a/\cE 34 a rs/\rs.length<=2/\∀r∈rs,wI r)
def NO(r:az):Bool:=Nat.beq r.length 34&&(cg r&&(match r.drop 2 with
 | .ag .i64 m::_=>Nat.beq m 18446744073709551617||Nat.beq m 18446744073709551621
 |_=>false))
def UG(s n:Nat)(o:eQ):Bool:=match o with
 | .aV a 81 34 es false=>Nat.beq s a&&(Nat.beq es.length n&&(Nat.ble n 20&&es.all NO))
 |_=>false
def NP(ub:Nat)(bj:cD)(v:ao):Bool:=match v with
 | .aV q s 0 n=>Nat.blt q ub&&(Nat.ble 4096 q&&UG s n (bj.get q).aj)
 |_=>false
def agc(a:ay):Bool:= @ay.rec (λ_=>Bool) false (λr ub bj _=>c7 (Nat.ble 4096 ub) (NP ub bj r)) a
theorem ao9(n:Nat):agc (bR bX (n+100) 78 [.ba] 4096 (.cons 0 .nil .nil))=true:=by kernel_rfl
theorem agd{r:az}(h:NO r=true):wI r:=by
 unfold NO at h;rw[cC,cC]at h;obtain⟨c,d,a⟩:=h;have c:=e8 c;split at a;rename_i m j e;have g:r[0+2]? =some (.ag .i64 m):=by
  have:(r.drop 2)[0]? =some (.ag .i64 m):=by rw[e];rfl
  rwa [u9]at this
 rw[oA]at a;rcases a with a|a;have:=e8 a;subst this;exact⟨c,d,.inl ⟨1,by omega,by omega,by omega,by omega,by rw[g,db];rfl⟩⟩;have:=e8 a;subst this;exact⟨c,d,.inl ⟨5,by omega,by omega,by omega,by omega,by rw[g,db];rfl⟩⟩;cases a
def T1(u:Fn):Prop:=∃q s es ub aC d,u 78 [.ba] 4096 (.cons 0 .nil .nil)= .ok (.aV q s 0 es.length) ub aC d/\4096<=ub/\4096<=q/\q<ub/\b9 ub aC q= .aV s 81 34 es false/\es.length<=20/\∀r∈es,wI r
theorem am5:bV T1:=bV.hE 100 λn=>by
 have h:=ao9 n;cases e:bR bX (n+100) 78 [.ba] 4096 (.cons 0 .nil .nil) with
 |aF=>rw[e]at h;cases h
 |ok r ub bj d=>rw[e]at h;have h':c7 (Nat.ble 4096 ub) (NP ub bj r)=true:=h;clear h;rw[hY,cC]at h';obtain⟨g,a⟩:=h';have g:=dX g;unfold NP at a;split at a;rename_i q s n;rw[cC,cC]at a;obtain⟨a,i,c⟩:=a;have a:=F7 a;have i:=dX i;unfold UG at c;split at c;rename_i t es l;rw[cC,cC,cC]at c;obtain⟨c,j,k,o⟩:=c;have c:=e8 c;have j:=e8 j;have k:=dX k;subst c j;exact⟨q,s,es,ub,bj,d,e,g,i,a,by rw[h7 a];exact l,k,λr p=>agd (gp o p)⟩;cases c;cases a
theorem alj{a c1 c e:Nat}:∃s d,FL u [.ba,.agg [.s a c1,.s c e]] 0 .nil= .ok (.U false) 0 s d:=by have g:∀k:ao->ay,cv false .ba k=k (aA ((0:Nat):Int)):=λk=>li k;have e0:((0:Nat):Int)=0:=rfl;rw[FL,ep,XP,b3,g,p7,jt];generalize gd 3 7 8 9 999999 (PG u 0 (λi=>Mo 0 cQ i))=h;rw[e0];rw[PG,b7,cz,bA,bc,Mo,bJ,cl,dh,aq];exact b6
def TZ(a:ay):Prop:=∃es,es.length<=900/\(∀r∈es,wI r)/\∃s d,a= .ok (.aN 34 es) 0 s d
theorem n3.NJ{e sz d:Nat}{h:aO}{o:fb}{x:ao}{es:bg}[cp h 0](H:n3 q e sz h x es)(a:4096<=q)(hd:d<4096:=by decide):n3 q e sz (h.dP 0 d o) x es:=H.am (Us (cp.lt hd) (by omega))
theorem aqv(hw:w.length<=300)(J:∀e∈w,wE e)(L:∀y c1 z A,bf u 79 [.ba,.agg [.s y c1,.s z A]] (.U false))(H:4096<=q):∀(n i N:Nat) (h:aO) (x:ao) (es:bg),n+i=w.length->n<N->cp h 0->dS h->q<h.ax->n3 q 81 34 h x es->es.length<=20+2*i->(∀r∈es,wI r)->
 TZ (fm 1 5 10 11 12 N (BO u 0 (λl m=>Hv 0 l m)) .ba x (.aN 32 w) (aA w.length) (aA ((i:Nat):Int)) h):=by
 intro n;induction n with
 |zero=>
  intro i N h x es B M ub b5 a O P g;obtain⟨N,rfl⟩:=eC N;have hi:i=w.length:=by omega
  subst hi;rw[iz];generalize fm 1 5 10 11 12 N (BO u 0 (λl m=>Hv 0 l m))=Q;rw[BO,cz,bA,bc,Hv,bJ,O.fh];exact⟨es,by omega,g,b6⟩
 |succ n R=>
  intro i N h x es B M ub b5 a O P g;obtain⟨N,rfl⟩:=eC N;obtain⟨e,S⟩:∃e,w[i]? =some e:=⟨_,fo (by omega)⟩;obtain⟨I,a3,k,k0,a4,dB,T⟩:=J e (eH S);have V:((i+1:Nat):Int)=(i:Int)+1:=by omega
  have C:n3 q 81 34 ((h.cB 0 7 73 nx).dp 0 7 e) x es:=(O.NJ (d:=7) (o:= .ae (.box (fK h 0 7 73) nx)) H).NJ H;have c:((h.cB 0 7 73 nx).dp 0 7 e).ax=h.ax:=(lC _ _ _ _).trans (lC _ _ _ _);have j:((h.cB 0 7 73 nx).dp 0 7 e).am (0+7)= .box (fK h 0 7 73) e:=gn ec;have a5:nx.length=32:=rfl;rw[iz];have p:=λh x es=>R (i+1) N h x es (by omega) (by omega);rw[V]at p;generalize fm 1 5 10 11 12 N (BO u 0 (λl m=>Hv 0 l m))=Q at p ⊢;rw[BO,cz,bM,bw,WT,fH ‹_›,cI,aU I,cF,cM I,bn,aH,av j,aL dB,nU,cd];have D:cp ((h.cB 0 7 73 nx).dp 0 7 e) 0:=inferInstance;have E:dS ((h.cB 0 7 73 nx).dp 0 7 e):=inferInstance;generalize (h.cB 0 7 73 nx).dp 0 7 e=h' at C c j D E ⊢;by_cases G:k=4;obtain⟨y,c1,z,A,B,t,rs,Rc,W,bd,X⟩:=T G;have Y:=L y c1 z A;have Z:0+1+2<=e.length:=by omega
  have hy:∀f:bg->ay,i0 h'.am 34 t f=f rs:=λf=>by rcases W with⟨rfl,rfl⟩|rfl;rfl;exact CR _ _ _ f
  obtain⟨bZ,rfl,ho⟩:=C;have e0:∀K:dv,fW 0 2077 none 81 34 544 (.aV q bZ 0 es.length) t false h' K=K (.aV q (Nat.add bZ 1) 0 (es++rs).length) (h'.g1 0 q (nr (Nat.add bZ 1) 81 34 (es++rs) false)):=λK=>by
   have e0:fW 0 2077 none 81 34 544 (.aV q bZ 0 es.length) t false h' K=i0 h'.am 34 t λys=>mr ys λys=>gc (eJ ys) λn=>
    bB (Nat.beq 0 0) (uP (h'.yA q) λal e' ar rs r=>bB (Nat.beq bZ al) (bB (Nat.beq e' 81) (bB (Nat.beq ar 34)
     (@Bool.rec (λ_=>ay) (bB r (bB (Nat.ble es.length (eJ rs)) (jr 0 none 544 q bZ 81 34 (mb (Nat.sub (eJ rs) es.length) rs) n ys r es.length h' K) .aF) .aF) (jr 0 none 544 q bZ 81 34 rs n ys r es.length h' K) (Nat.beq es.length (eJ rs))) .aF) .aF) .aF) .aF:=rfl
   rw[e0,hy,ms,fN,gV,fI,da,Dg (by rw[aO.AB];exact ho),fI,da,fI,da,fI,da,gV,u6,fI];show jr 0 none 544 q bZ 81 34 es.reverse rs.length rs false es.length h' K=_;unfold jr;rw[fN,eT,dJ (by rw[tE,h5];omega),da,eT,dJ (by rw[h5];omega),da,fN,sp,uC (kC 0 _) (by rw[c];exact a)];unfold nr;rw[List.reverse_append,List.length_append];rfl
  have F:=p (h'.g1 0 q (nr (Nat.add bZ 1) 81 34 (es++rs) false)) (.aV q (Nat.add bZ 1) 0 (es++rs).length) (es++rs) ⟨by rw[aO.lY];exact D.eq⟩ ⟨by rw[rl,dU (by omega)];exact E.eq⟩ (by rw[aO.lY,c];exact a) ⟨_,rfl,(nv (by rw[c];exact a)).trans (yv _ _ _ _ _)⟩ (by simp;omega) (λr hr=>(fq.1 hr).elim (g r) (X r));rw[dJ G,dR,WS,aH,av j,dG Z,B,b4,uz,a6 rfl,aq,aq,a0 Y,e1,JE,cA,jI,bw,WR,bn,aH,av j,aL Rc,e0,b8,fV];exact F;have F:=p h' x es D E (by rw[c];exact a) C (by omega) g;rw[gy G,gB,JE,ch,cl,bc,b8,fV];exact F
theorem akX(a:w.length<=300)(c:∀e∈w,wE e)(g:∀h c1 i j,bf u 79 [.ba,.agg [.s h c1,.s i j]] (.U false))(k:T1 u):TZ (Fk u [.aN 32 w,.ba] 0 .nil):=by
 obtain⟨q,s,es,ub,aC,d,l,n,o,p,r,y,t⟩:=k;have e0:Fk u [.aN 32 w,.ba] 0 .nil=OW u 0 .ba (.aN 32 w) (bN 0 .nil):=rfl;have x:∀K:dv,dC u 0 78 [.ba] [] (bN 0 .nil) K=K (.aV q s 0 es.length) (.mk ub aC []):=λK=>by have f1:dC u 0 78 [.ba] [] (bN 0 .nil) K=js 0 4096 [] K (u 78 [.ba] 4096 (.cons 0 .nil .nil)):=rfl;rw[f1,l];have f2:js 0 4096 [] K (.ok (.aV q s 0 es.length) ub aC d)=bB (Nat.ble 4096 ub) (K (.aV q s 0 es.length) (.mk ub aC (aZ (fA 0 d) []))) .aF:=rfl;rw[f2,eT,dJ n,da,f0];rfl
 rw[e0,OW,uz,aq,x,gC,b7];exact aqv a c g o w.length 0 1000000 (.mk ub aC []) _ es rfl (by omega) ⟨by show 0+4096<=ub;omega⟩ ⟨rfl⟩ p ⟨s,rfl,r⟩ (by omega) t
theorem amR:bV λu=>∀w:bg,w.length<=300->(∀e∈w,wE e)->∃es,es.length<=900/\(∀r∈es,wI r)/\bf u 25 [.aN 32 w,.ba] (.aN 34 es):=by have g:bV λu=>∀a c1 c d,bf u 79 [.ba,.agg [.s a c1,.s c d]] (.U false):=bV.lL.up λz _ a c1 c d=>eO FL alj;refine(g.and am5).up λz h w i j=>?_;obtain⟨es,k,l,n⟩:=akX (u:=bR bX z) i j h.1 h.2;exact⟨es,k,l,eO Fk n⟩
end
end Go.Hf

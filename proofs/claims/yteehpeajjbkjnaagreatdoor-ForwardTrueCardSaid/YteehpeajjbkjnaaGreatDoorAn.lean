import Derived.Test.YteehpeajjbkjnaaGreatDoorAm
set_option maxRecDepth 100000
set_option linter.all false
noncomputable section
namespace Go.Hf
open Go.RowKit
section
variable[Tok]
theorem qN{f n N:Nat}{args:az}{BX:ao}{R:ao->Prop}(g:jj)
 (h:ly BX->∀{b:Nat}{aC:cD}{q s z:Nat},q<b->q%4096<2048->z<=N->b9 b aC q= .box s [BX,aA z]->gY (g (bR bX n) (.aQ q s 0::args) b aC) b aC q s BX N R)(e:bR bX (n+1) f=g (bR bX n):=by kernel_rfl):gG (bR bX (n+1)) f args BX N R:=by
 intro a b aC q s z c d i j;rw[e];exact h a c d i j
def afa(u:Fn):Prop:=∀BX N,oB BX N->∀(n:Int),1<=n/\n<=100->gG u 21 [aA n] BX N (rE n)
theorem uk:bV afa:=bV.lL.up λn _ BX N a k b=>qN BJ λ_ _ _ _ _ _ c d e g=>ak5 b a c d e g
theorem KM:bV λu=>(∀a c l,bf u 13 [.s a c,.aN 11 l] (.agg (dI dH (.s a c) l)))/\(∀a c l,bf u 23 [.s a c,.aN 11 l] (.agg (dI kD (.s a c) l)))/\∀i,i<3->bf u 12 [.s 1 (0x78+i)] (.agg (gS i)):=
 bV.run λn=>⟨λa c l=>lN (aoS n a c l),λa c l=>lN (ao8 n a c l),λi _=>lN (aoR n 1 (0x78+i))⟩
theorem aoU(n:Nat):([-4,-3,-2,-1,0,1,2,3,4].all λz:Int=>iu (bR bX (n+30) 52 [aA z] 0 .nil) (.agg (fg (fw z 1)))&&iu (bR bX (n+30) 72 [aA z] 0 .nil) (.agg (fw z 1)))=true:=by kernel_rfl
theorem arm{z:Int}(h:z.natAbs<=4):z∈([-4,-3,-2,-1,0,1,2,3,4]:List Int):=by
 have:z= -4\/z= -3\/z= -2\/z= -1\/z=0\/z=1\/z=2\/z=3\/z=4:=by omega
 simpa using this
theorem ZN:bV λu=>(∀z:Int,z.natAbs<=4->bf u 52 [aA z] (.agg (fg (eK z))))/\∀z:Int,z.natAbs<=4->bf u 72 [aA z] (.agg (fw z 1)):=bV.hE 30 λn=>by have a:=λ(z:Int) (h:z.natAbs<=4)=>gp (aoU n) (arm h);simp only[cC]at a;exact⟨λz h=>by rw[G8];exact hF (a z h).1,λz h=>hF (a z h).2⟩
def afb(u:Fn):Prop:=∀BX N,oB BX N->gG u 22 [] BX N wL
theorem Gu:bV afb:=(uk.and KM).up λn h BX N a=>qN E5 λb _ _ _ _ _ c d e g=>ak8 (h.1 BX N a) h.2.2.2 b c d e g
theorem KN:bV A6:=by
 have k:bV λu=>bf u 41 [] (.agg e5):=bV.run λn=>lN (abe n);have o:bV λu=>∀a d,(a.length=7/\cg a=true)->(d.length=7/\cg d=true)->bf u 77 [.agg a,.agg d] (.agg (il a d)):=bV.lL.up λn _ a d b hd=>eO B7 (YD b.1 b.2 hd.1 hd.2);have q:bV λu=>∀v l,cE 7 v l->l.length<=3->(∀a∈l,a.length=7/\cg a=true)->bf u 76 [v] (.agg (lk l)):=(k.and o).up λn h v l r H p=>eO FK (akh r (by omega) p h.1 λa b i=>h.2 a _ (p a b) (C2 _));have t:bV λu=>(bf u 73 [.s 1 0x31,.s 1 0x32] (.agg (fw 1 2))/\bf u 73 [.s 2 0x2d35,.s 1 0x33] (.agg (fw (-5) 3))):=bV.hE 20 λn=>⟨lN (aoD n),lN (aoE n)⟩;have w:bV λu=>(bf u 62 [] (.agg (iD 4 0x6c697370 1 0x74))/\∀a c,bf u 15 [.s a c] (.agg [kD,.s a c]))/\(∀e c1 g j,bf u 74 [.agg [.s e c1,.s g j]] (.agg (iD e c1 g j)))/\∀a c,bf u 75 [.s a c] (.agg (pM a c)):=
  bV.run λn=>⟨⟨lN (K7 n),λa c=>lN (RC n a c)⟩,λe c1 g j=>lN (aoF n e c1 g j),λa c=>lN (aoG n a c)⟩
 refine(((k.and o).and (q.and ZN)).and (t.and w)).imp λn h=>?_;obtain⟨⟨⟨x,y⟩,z,A⟩,⟨B,C⟩,⟨D,E⟩,F,G⟩:=h;exact⟨x,D,A.2,B,C,E,F,G,z,y⟩
def afc(u:Fn):Prop:=∀BX N,oB BX N->gG u 24 [aA 1] BX N Ef
theorem QT:bV afc:=by have z:bV λu=>∀BX N,oB BX N->gG u 24 [aA 0] BX N yU:=(KN.and uk).up λn h BX N a=>qN sS λb _ _ _ _ _ c d e g=>YI h.1 (h.2 BX N a) b c d e g;exact((KN.and uk).and z).up λn h BX N a=>qN sS λb _ _ _ _ _ c d e g=>alf h.1.1 (h.1.2 BX N a) (h.2 BX N a) b c d e g
structure Be (u:Fn) (w:ao):Prop where
 GB:∀h∈kn++lQ++lP,bf u 37 [w,.agg [.s h.1 h.2.1,.s h.2.2.1 h.2.2.2.1]] (.bD [aA h.2.2.2.2,.U true])
 bv:∃n l,w= .aN n l
theorem ZV{w:ao}(bH:bV λu=>Be u w):bV λu=>A7 u w:=by
 have g:bV λu=>(bf u 34 [] (.aN 1 (Sl.map HB))/\bf u 35 [] (.aN 1 (Sm.map HB)))/\(∀a c,bf u 36 [.s a c] (.agg [dH,.s a c]))/\∀a c,bf u 15 [.s a c] (.agg [kD,.s a c]):=
  bV.run λn=>⟨⟨hF (aoN n),hF (aoO n)⟩,λa c=>lN (aoP n a c),λa c=>lN (RC n a c)⟩
 have i:bV λu=>∀b c1 d e l,bf u 38 [.agg [.s b c1,.s d e],.aN 11 l] (.agg (dI (.s b c1) (.s d e) l)):=bV.lL.up λn _ b c1 d e l=>eO FA (alm (v:= .ba) rfl);exact((bH.and ZW).and (g.and i)).imp λn h=>⟨h.1.2,h.2.1.1.1,h.2.1.1.2,h.2.1.2.1,h.2.1.2.2,h.1.1.GB,h.2.2,h.1.1.bv⟩
end
section
variable{v:ao}{l:List Nat}{n:Int}{d i:Nat}
def gh[Tok](d:Nat):az:=[aA d]
section
variable[Tok] {u:Fn}{b:Nat}
def ek(v:ao)(l:List Nat):Prop:=cE 1 v (l.map gh)
theorem ek.len{v:ao}{l:List Nat}(h:ek v l)(k:ao->ay):cv false v k=k (aA l.length):=by rw[cE.len h,mw]
theorem ek.at{v:ao}{l:List Nat}(h:ek v l){i d:Nat}(hi:l[i]? =some d)(ob:dE)(k:ao->ay):de ob 1 v (aA i) k=k (.gk (gh d) 0):=by rcases h with⟨rfl,h⟩|rfl;rw[DQ]at h;subst h;simp at hi;exact fH (by simp[hi]) k
theorem ek.k4{v:ao}{l:List Nat}(h:ek v l):v≠ .undef:=cE.k4 h
theorem ek.met{v:ao}{l:List Nat}(h:ek v l){rk:List Nat}(xs:az)(z:ay):Go.Hf.met b rk (v::xs) z=Go.Hf.met b rk xs z:=be (cE.met h b rk) xs z
theorem kL(ob:dE)(d:Nat)(k:ao->ay):bh ob false 1 (.gk (gh d) 0) k=k (aA d):=by rw[cI,aL (v:=aA d) rfl]
theorem axb(k:ek v l)(G:l.length<100000):∀(n N:Nat) (h:aO),n<=l.length->n<N->cp h 0->dS h->
 ∃w s d,ek w (lr (l.take n))/\lK 0 3 N (zh u 0 (λe f g=>td g.am 1 e none (some f) λi=>Dn 0 i g)) v (aA n) h= .ok w 0 s d:=by
 intro n;induction n with
 |zero=>intro N h z C ub b5;obtain⟨N,rfl⟩:=eC N;obtain⟨w,j,o⟩:=abC (sz:=1) k h.am (lo:=none) (hi:=some (aA (0:Nat))) (a:=0) (c:=0) (λf=>rfl) (λd f _=>abj d 0 f) (dn _) (pg _);have p:=cE.fh j;rw[vX];generalize lK 0 3 N (zh u 0 (λe f g=>td g.am 1 e none (some f) λi=>Dn 0 i g))=D;obtain⟨s,d,e⟩:=b6 (r:=w) (h:=h);refine⟨w,s,d,j,?_⟩;rw[zh,b7,b8,i1,bA,gB,EV,cl,ch,bc,o,Dn,bJ,p,aq];exact e
 |succ n E=>
  intro N h z C ub b5;obtain⟨N,rfl⟩:=eC N;have hi:l[n]? =some (l[n]'(by omega)):=fo _;have F:lr (l.take (n+1))=if l[n]'(by omega)=0 then lr (l.take n) else l.take (n+1):=by rw[List.take_succ_eq_append_getElem (by omega),Ts]
  obtain⟨w,j,o⟩:=abC (sz:=1) k h.am (lo:=none) (hi:=some (aA ((n+1:Nat):Int))) (a:=0) (c:=n+1) (λf=>rfl) (λd f _=>abj d (n+1) f) (pg _) (by rw[mw];exact z);have p:=cE.fh j;have A:=E N h (by omega) (by omega) ub b5;have q:=k.at hi h.am;rw[F];generalize l[n]'(by omega)=c at hi q;have t:((n+1:Nat):Int)-1=(n:Int):=by omega
  rw[vX];generalize lK 0 3 N (zh u 0 (λe f g=>td g.am 1 e none (some f) λi=>Dn 0 i g))=D at A;by_cases B:c=0;rw[dr B];obtain⟨w,s,d,x,y⟩:=A;refine⟨w,s,d,x,?_⟩;rw[zh,b7,b8,i1,bM,dR,g5,t,q,kL,cd,EV,cl,cA,bM,bw,g5,t];exact y;rw[dU B];obtain⟨s,d,e⟩:=b6 (r:=w) (h:=h);refine⟨w,s,d,by simpa[ek,Ib] using j,?_⟩;rw[zh,b7,b8,i1,bM,dR,g5,t,q,kL,cd,EV,cl,cA,bA,bc,o,Dn,bJ,p,aq];exact e
theorem akU(a:ek v l)(c:l.length<100000):∃w,ek w (lr l)/\∃s d,EU u [v] 0 .nil= .ok w 0 s d:=by have F:=λ(h:aO) (ub:cp h 0) (b5:dS h)=>axb (u:=u) a c l.length 1000000 h (dn _) (by omega) ub b5;rw[vd]at F;obtain⟨w,s,d,e,g⟩:=F (bN 0 .nil) inferInstance inferInstance;have j:=a.len;refine⟨w,e,s,d,?_⟩;rw[EU,jp];rw[VR,j];exact g
end
theorem Tr:∀l:List Nat,(lr l).length<=l.length
 |[]=>dn _
 |d::r=>by have:=Tr r;unfold lr;split<;>simp;omega
theorem axa(n:Nat):lr (bF n)=bF n:=by rw[AF (jy n),nm]
theorem xA{n:Nat}(h:n≠0):(bF n).length≠0:=by rw[vJ h];simp
theorem QJ{n k:Nat}(j:(bF n).length=k+1)(h:(bF n)[k]? =some d):d≠0:=by
 rintro rfl;have e:bF n=(bF n).take k++[0]:=by have:=List.take_succ_eq_append_getElem (l:=bF n) (i:=k) (by omega);rw[fo (by omega)]at h;rw[l2 h,TX (by omega)]at this;exact this
 have a:=axa n;rw[e,Ts,dr rfl]at a;have g:=Tr ((bF n).take k);have c:=oy List.length a;rw[u7]at c;simp at c g;omega
def jq(n:Int):Nat:=if n<0 then 1 else 0
theorem Kv(n:Int):jq n<=1:=by unfold jq;split<;>omega
theorem zV(h:n≠0):(Lib.itoa n).length=jq n+(bF n.natAbs).length:=by rw[GL h];unfold jq;split<;>simp;omega
theorem DH(h:d<10):(UInt8.ofNat (48+d)).toNat=48+d:=by rw[Ik];omega
theorem GK(h:n≠0)(hi:i<(bF n.natAbs).length)(hd:(bF n.natAbs)[(bF n.natAbs).length-1-i]? =some d):(Lib.itoa n)[jq n+i]? =some (UInt8.ofNat (48+d)):=by
 have e:((bF n.natAbs).reverse.map λd=>UInt8.ofNat (48+d))[i]? =some (UInt8.ofNat (48+d)):=by rw[lx,List.getElem?_reverse hi,hd];rfl
 rw[GL h];unfold jq;split;rw[wv (by simp)];simpa using e;simpa using e
theorem K6(h:n<0):(Lib.itoa n)[0]? =some 45:=by rw[GL (by omega),dr h];rfl
section
variable[Tok] {u:Fn}{b:Nat}
theorem Lp(h:n≠0)(hi:i<(bF n.natAbs).length)(hd:(bF n.natAbs)[(bF n.natAbs).length-1-i]? =some d)(k:ao->ay):ne (dQ n) (aA ((jq n+i:Nat):Int)) k=k (jO (48+d)):=by have a:=jy n.natAbs d (eH hd);have:=RI (GK h hi hd) k;rw[DH a]at this;exact this
theorem axp(a:n≠0)(y:(bF n.natAbs).length<1000):∀(j i N:Nat) (h:aO),j+i=(bF n.natAbs).length->j<N->cp h 0->dS h->
 ∃s d,lK 0 4 N (BG u 0 (λe=>wa 0 dx e)) (dQ n) (aA ((jq n+i:Nat):Int)) h= .ok (.U true) 0 s d:=by
 intro j;induction j with
 |zero=>intro i N h hi q ub b5;obtain⟨N,rfl⟩:=eC N;have e0:=zV a;have g:=λk=>MG (n:=n) k;rw[vX];generalize lK 0 4 N (BG u 0 (λe=>wa 0 dx e))=r;rw[BG,g,cz,bA,bc,wa,bJ,cf,dh,aq];exact b6
 |succ j t=>
  intro i N h hi q ub b5;obtain⟨N,rfl⟩:=eC N;have e0:=zV a;have hd:(bF n.natAbs)[(bF n.natAbs).length-1-i]? =some ((bF n.natAbs)[(bF n.natAbs).length-1-i]'(by omega)):=fo _;have o:=λk=>Lp a (i:=i) (by omega) hd k;have w:=jy n.natAbs _ (eH hd);generalize (bF n.natAbs)[(bF n.natAbs).length-1-i]'(by omega)=c at o w;have g:=λk=>MG (n:=n) k;have z:=Kv n;have p:=t (i+1) N h (by omega) (by omega) ub b5;have x:((jq n+(i+1):Nat):Int)=((jq n+i:Nat):Int)+1:=by omega
  rw[x]at p;rw[vX];generalize lK 0 4 N (BG u 0 (λe=>wa 0 dx e))=r at p;rw[BG,g,cz,bM,bw,VQ,o,MV,apP,bA,cV,o,axe,apE,On,cf,cl,ch,bA,bc,b8,fV];exact p
theorem RB:Lib.itoa n=[48]↔n=0:=by constructor;intro h;apply Classical.byContradiction;intro a;have c:=zV a;have j:=xA (n:=n.natAbs) (by omega);rw[h]at c;simp at c;have hd:(bF n.natAbs)[0]? =some ((bF n.natAbs)[0]'(by omega)):=fo _;have e:=GK a (i:=0) (by omega) (d:=(bF n.natAbs)[0]'(by omega)) (by rw[show(bF n.natAbs).length-1-0=0 by omega];exact hd);have o:=QJ (n:=n.natAbs) (k:=0) (by omega) hd;have g:=jy n.natAbs _ (eH hd);rw[h,show jq n+0=0 by omega]at e;have:=oy UInt8.toNat (l2 e);rw[DH g]at this;simp at this;omega;rintro rfl;exact K5
theorem aeh(k:ao->ay):cj (dQ n) (.s 1 0x30) k=k (.U (decide (n=0))):=by have:=abo (Lib.itoa n) [48] k;rw[sw.2 RB]at this;exact this
theorem akT(r:(bF n.natAbs).length<1000):∃s d,ET u [dQ n] 0 .nil= .ok (.U true) 0 s d:=by
 have j:=λk=>aeh (n:=n) k;rw[ET,jp];by_cases o:n=0;rw[Jq,j,bM,bw,wa,bJ,cf,dh,aq];exact b6;have e:=λk=>MG (n:=n) k;have e0:=zV o;have z:=xA (n:=n.natAbs) (by omega);have A:=Kv n;have F:=λ(h:aO) (ub:cp h 0) (b5:dS h)=>axp (u:=u) o r (bF n.natAbs).length 0 1000000 h (by omega) (by omega) ub b5;have hd:(bF n.natAbs)[(bF n.natAbs).length-1-0]? =some ((bF n.natAbs)[(bF n.natAbs).length-1-0]'(by omega)):=fo _;have a:=λk=>Lp o (i:=0) (by omega) hd k;have t:=QJ (n:=n.natAbs) (k:=(bF n.natAbs).length-1-0) (by omega) hd;have w:=jy n.natAbs _ (eH hd);generalize (bF n.natAbs)[(bF n.natAbs).length-1-0]'(by omega)=c at a t w;by_cases p:n<0;have x:=λk=>RI (K6 p) k;have y:∀k,ne (dQ n) (aA 0) k=k (jO 45):=λk=>x k;have q:jq n=1:=by unfold jq;rw[if_pos p]
 rw[q]at a F;have g:∀k,ne (dQ n) (aA 1) k=k (jO (48+c)):=a;rw[Jq,j,bA,bc,Oo,e,b7,i1,bM,dR,y,HY,CT,Jp,cl,cA,bM,bw,Jo,e,b8,p1,bA,cV,g,MV,CT,Jn,cf,cl,ch,bA,bc,Jm];exact F _ inferInstance inferInstance;have q:jq n=0:=by unfold jq;rw[if_neg p]
 rw[q]at a F;have g:∀k,ne (dQ n) (aA 0) k=k (jO (48+c)):=a;rw[Jq,j,bA,bc,Oo,e,b7,i1,bM,dR,g,HY,CT,Jp,cl,cA,bA,bc,Jo,e,b7,p1,bA,cV,g,MV,CT,Jn,cf,cl,ch,bA,bc,Jm];exact F _ inferInstance inferInstance
end
end
section
variable{n:Int}{v:ao}
section
variable[Tok] {u:Fn}{b:Nat}
theorem amm(x:n≠0)(K:(bF n.natAbs).length<1000)(neg:Bool):∀(j N:Nat) (h:aO) (ca:ao),j<=(bF n.natAbs).length->j<N->cp h 0->dS h->gm 0 2082 3 1 h ca (((bF n.natAbs).take ((bF n.natAbs).length-j)).map gh)->
 ∃w s d,ek w (bF n.natAbs)/\fm 0 4 5 6 7 N (Bu u 0 (λi k l=>Aq 0 i k l)) (dQ n) (.U neg) (aA (jq n)) ca (aA ((jq n:Int)+j-1)) h= .ok (.bD [.U neg,w]) 0 s d:=by
 intro j;induction j with
 |zero=>intro N h ca y A ub b5 O;obtain⟨N,rfl⟩:=eC N;obtain⟨w,g,B⟩:=O.fh;rw[Ie,vd]at g;obtain⟨s,d,e⟩:=b6 (r:= .bD [.U neg,w]) (h:=h);refine⟨w,s,d,g,?_⟩;rw[iz];generalize fm 0 4 5 6 7 N (Bu u 0 (λi k l=>Aq 0 i k l))=C;rw[Bu,lR,bA,bc,Aq,dh,B,aq,aq];exact e
 |succ j D=>
  intro N h ca y A ub b5 O;obtain⟨N,rfl⟩:=eC N;have L:=Kv n;have hd:(bF n.natAbs)[(bF n.natAbs).length-1-j]? =some ((bF n.natAbs)[(bF n.natAbs).length-1-j]'(by omega)):=fo _;have o:=λk=>Lp x (i:=j) (by omega) hd k;have E:=jy n.natAbs _ (eH hd);have p:(bF n.natAbs).take ((bF n.natAbs).length-j)=(bF n.natAbs).take ((bF n.natAbs).length-(j+1))++[(bF n.natAbs)[(bF n.natAbs).length-1-j]'(by omega)]:=by have:=List.take_succ_eq_append_getElem (l:=bF n.natAbs) (i:=(bF n.natAbs).length-1-j) (by omega);rw[show(bF n.natAbs).length-1-j+1=(bF n.natAbs).length-j by omega]at this;rw[this,show(bF n.natAbs).length-(j+1)=(bF n.natAbs).length-1-j by omega]
  generalize (bF n.natAbs)[(bF n.natAbs).length-1-j]'(by omega)=c at o E p;obtain⟨q,h',F,G,t,-,P⟩:=GS (d1:=2081) (bytes:=8) (z:=[bt]) (Dv (c:=(48+c-48:Nat))) O (by simp;omega);have H:gm 0 2082 3 1 h' q (((bF n.natAbs).take ((bF n.natAbs).length-j)).map gh):=by rw[p,oz];rw[show 48+c-48=c by omega]at t;exact t
  have a:=D N h' q (by omega) (by omega) F G H;have I:(jq n:Int)+((j+1:Nat):Int)-1=((jq n+j:Nat):Int):=by omega
  have J:((jq n+j:Nat):Int)-1=(jq n:Int)+j-1:=by omega
  rw[I];rw[<-J]at a;rw[iz];generalize fm 0 4 5 6 7 N (Bu u 0 (λi k l=>Aq 0 i k l))=C at a;rw[Bu,lR,bM,bw,U9,o,MV,ap6,apq,P,b8,g5];exact a
theorem akw(H:bf u 190 [dQ n] (.U true))(x:(bF n.natAbs).length<1000):∃w,ek w (bF n.natAbs)/\∃s d,EI u [dQ n] 0 .nil= .ok (.bD [.U (decide (n<0)),w]) 0 s d:=by
 have l:=λk=>aeh (n:=n) k;rw[EI,jp];by_cases o:n=0;have y:decide (n<0)=false:=gy (by omega);have el:bF n.natAbs=[]:=by rw[show n.natAbs=0 by omega];rfl
 obtain⟨s,d,e⟩:=b6 (r:= .bD [.U false,.ba]) (h:=bN 0 .nil);rw[y,el];refine⟨.ba,.inl ⟨rfl,rfl⟩,s,d,?_⟩;rw[Ja,bE,fx,aq,a0,e1,gX,cV,l,EJ,cf,cl,ch,bM,bw,Aq,dh,uz,aq,aq];exact e;have t:=λk=>MG (n:=n) k;have e0:=zV o;have E:=xA (n:=n.natAbs) (by omega);have G:=Kv n;have hd:(bF n.natAbs)[(bF n.natAbs).length-1-0]? =some ((bF n.natAbs)[(bF n.natAbs).length-1-0]'(by omega)):=fo _;have p:=λk=>Lp o (i:=0) (by omega) hd k;have z:=QJ (n:=n.natAbs) (k:=(bF n.natAbs).length-1-0) (by omega) hd;have A:=jy n.natAbs _ (eH hd);generalize (bF n.natAbs)[(bF n.natAbs).length-1-0]'(by omega)=c at p z A;have F:=λ(neg:Bool)=>amm (u:=u) o x neg (bF n.natAbs).length 1000000 (bN 0 .nil) .ba (dn _) (by omega) inferInstance inferInstance (.inl ⟨rfl,by simp⟩);have j:((Lib.itoa n).length:Int)-1=(jq n:Int)+(bF n.natAbs).length-1:=by omega
 by_cases g:n<0;obtain⟨w,s,d,q,a⟩:=F true;have B:=λk=>RI (K6 g) k;have C:∀k,ne (dQ n) (aA 0) k=k (jO 45):=λk=>B k;rw[show jq n=1 by unfold jq;rw[if_pos g]]at a j;have I:=a.symm;rw[<-j]at a;rw[dJ g];refine⟨w,q,s,d,?_⟩;rw[Ja,bE,fx,aq,a0,e1,gX,cV,l,EJ,cf,cl,ch,bA,bc,I9,b7,C,HY,CT,bM,bw,I8,t,b8,g5];exact a;obtain⟨w,s,d,q,a⟩:=F false;rw[show jq n=0 by unfold jq;rw[if_neg g]]at a j p;rw[<-j]at a;have D:∀k,ne (dQ n) (aA 0) k=k (jO (48+c)):=p;rw[gy g];refine⟨w,q,s,d,?_⟩;rw[Ja,bE,fx,aq,a0,e1,gX,cV,l,EJ,cf,cl,ch,bA,bc,I9,b7,D,HY,CT,bA,bc,I8,t,b8,g5];exact a
theorem aiI{d e:Nat}{h:aO}{x:ao}{l:List UInt8}(O:gm b d e 1 h x (l.map λc=>[jO c.toNat]))(k:ao->ay):dj (tC h.am x) k=k (wj l):=by
 have a:∀l:List UInt8,Cm (l.map λc=>[jO c.toNat])=some (l.map UInt8.toNat):=by
  intro l;induction l with
  |nil=>rfl
  |cons c r g=>simp only[hN,nY] at*;rw[Cm,g,eT,bM,e6,sv,Nat.add_sub_cancel_left]
 have i:rY h.am 1 x=some (l.map λc=>[jO c.toNat]):=by rcases O with⟨rfl,e⟩|⟨s,rfl,ho⟩;rw[e];rfl;simp only[rY,ho,fI,yI];rw[eT,dJ (by rw[h5];omega),e6];simp[part]
 have j:(l.map UInt8.toNat).map UInt8.ofNat=l:=by
  rw[yK];conv=>rhs;rw[<-List.map_id l]
  exact AX λc _=>UInt8.ofNat_toNat
 unfold tC;rw[i];dsimp only;rw[a];dsimp only;rw[j,mw,nR];rfl
theorem aes{dd:Nat}(x:2078≠dd)(y:dd<4096){a:List Nat}(A:ek v a)(hd:∀d∈a,d<10)(M:a.length<900)(pre:List UInt8)(Q:pre.length<=1)(B:pre=[]->2079=dd):∀(j N:Nat) (h:aO) (ca:ao),j<=a.length->j<N->cp h 0->dS h->gm 0 dd 5 1 h ca ((pre++((a.drop j).reverse.map λd=>UInt8.ofNat (48+d))).map λc=>[jO c.toNat])->
 ∃s d,ji 1 5 6 N (Bw u 0 (λg i=>dj (tC i.am g) λk=>Ar 0 k i)) v ca (aA ((j:Int)-1)) h= .ok (wj (pre++(a.reverse.map λd=>UInt8.ofNat (48+d)))) 0 s d:=by
 intro j;induction j with
 |zero=>intro N h ca C D ub b5 O;obtain⟨N,rfl⟩:=eC N;have P:=λk=>aiI O k;rw[sA]at P;have E:∀(l:List UInt8) (ob:dE) (f:gI),bi ob (wj l) f=f (wj l) []:=λ_ _ _=>rfl;rw[oW];generalize ji 1 5 6 N (Bw u 0 (λg i=>dj (tC i.am g) λk=>Ar 0 k i))=F;rw[Bw,b7,lR,bA,bc,P,Ar,bJ,E,aq];exact b6
 |succ j G=>
  intro N h ca C D ub b5 O;obtain⟨N,rfl⟩:=eC N;have hi:a[j]? =some (a[j]'(by omega)):=fo _;have o:=A.at hi h.am;have p:=hd _ (eH hi);have q:a.drop j=a[j]'(by omega)::a.drop (j+1):=sy (by omega);generalize a[j]'(by omega)=c at hi o p q;have H:((48:Int)+c).toNat=48+c:=by omega
  obtain⟨r,h',I,J,t,-,P⟩:=GS (d1:=2078) (d3:=2079) (bytes:=1) (z:=[tA]) (ad0 (c:=((48:Int)+c).toNat)) O (by simp;omega) (by decide) x (by decide) y (λe=>B (List.append_eq_nil_iff.1 (DQ.1 e)).1);have K:gm 0 dd 5 1 h' r ((pre++((a.drop j).reverse.map λd=>UInt8.ofNat (48+d))).map λc=>[jO c.toNat]):=by rw[H,<-DH p]at t;rw[q];simpa using t
  have w:=G N h' r (by omega) (by omega) I J K;have L:((j+1:Nat):Int)-1=(j:Int):=by omega
  rw[L];rw[oW];generalize ji 1 5 6 N (Bw u 0 (λg i=>dj (tC i.am g) λk=>Ar 0 k i))=F at w;rw[Bw,b7,lR,bM,bw,Vf,o,kL,b8,arK,fV,apn,P,g5];exact w
theorem avN{neg:Bool}{m:Nat}(h:m≠0):Lib.itoa (bj neg m)=(if neg then[45] else[])++((bF m).reverse.map λd=>UInt8.ofNat (48+d)):=by cases neg;have e:bj false m=(m:Int):=rfl;rw[e,GL (by omega),dU (by omega),show((m:Int)).natAbs=m by omega];rfl;have e:bj true m= -(m:Int):=rfl;rw[e,GL (by omega),dr (by omega),show(-(m:Int)).natAbs=m by omega];rfl
theorem aky{l:List Nat}(neg:Bool)(hd:∀d∈l,d<10)(C:l.length<900){w:ao}(H:bf u 191 [v] w)(j:ek w (lr l))(q:ek v l):∃s d,EM u [.U neg,v] 0 .nil= .ok (dQ (bj neg (dK l))) 0 s d:=by
 have o:=cE.fh q;have a:=j.len;have e0:=AF hd;have D:=Tr l;rw[EM,ep];by_cases g:dK l=0;have i:bj neg 0=0:=by cases neg<;>rfl
 rw[g,Ks]at e0;rw[e0]at a;have r:dQ 0= .s 1 0x30:=by unfold dQ;rw[K5];rfl
 rw[g,i,r];have t:∀k,cv false w k=k (aA 0):=a;rw[Jd,bE,o,aq,a0,t,b7,cd,bM,bw,Ar,bJ,qV,aq];exact b6;have i:=avN (neg:=neg) g;rw[<-e0]at i;have E:(lr l).length≠0:=by rw[e0];exact xA g
 have p:∀d∈lr l,d<10:=by rw[e0];exact jy _
 have es:dQ (bj neg (dK l))=wj ((if neg then[45] else[])++((lr l).reverse.map λd=>UInt8.ofNat (48+d))):=by rw[<-i];rfl
 rw[es];cases neg;have F:=aes (u:=u) (dd:=2079) (by decide) (by decide) j p (by omega) [] (by simp) (λ_=>rfl) (lr l).length 1000000 (bN 0 .nil) .ba (dn _) (by omega) inferInstance inferInstance (.inl ⟨rfl,by simp⟩);rw[Jd,bE,o,aq,a0,a,b7,cd,bA,bc,Oa,bc,Jc,a,b8,g5];exact F;obtain⟨x,h',y,A,B,-,P⟩:=GS (b:=0) (d1:=2062) (d2:=2063) (e:=5) (bytes:=1) (z:=[tA]) (h:=bN 0 .nil) (ca:= .ba) (ad0 (c:=45)) (.inl ⟨rfl,rfl⟩) (by simp);have F:=aes (u:=u) (dd:=2063) (by decide) (by decide) j p (by omega) [45] (by simp) (by simp) (lr l).length 1000000 h' x (dn _) (by omega) y A (by simpa using B);rw[Jd,bE,o,aq,a0,a,b7,cd,bA,bc,Oa,bw,Vg,HY,P,Jc,a,b8,g5];exact F
end
end
section
variable{l:List Nat}{n x y:Nat}{v w:ao}
theorem Sw(h:∀d∈l,d<10)(a:n<=l.length):dK (l.take n)<10^n:=by have:=LU (l:=l.take n) λd hd=>h d (List.mem_of_mem_take hd);rwa [AY,Nat.min_eq_left a]at this
theorem Zl{k:Nat}(h:k<(bF n).length):10^k<=n:=by apply Classical.byContradiction;intro a;have:=vI k n (by omega);omega
theorem avQ{P c d:Nat}(g:x<P)(h:y<P):iC ((x+P*c:Nat):Int) ((y+P*d:Nat):Int)=if c<d then-1 else if d<c then 1 else iC (x:Int) (y:Int):=by
 unfold iC;by_cases a:c<d;have:=Ih P (show c+1<=d by omega);rw[Nat.mul_add]at this;rw[dr a,dr (by omega)]
 ·by_cases e:d<c
  ·have:=Ih P (show d+1<=c by omega);rw[Nat.mul_add]at this;rw[dU a,dr e,dU (by omega),dr (by omega)]
  ·have:c=d:=by omega
   subst this;rw[dU a,dU e];split<;>split<;>(try split)<;>(try split)<;>omega
section
variable[Tok] {u:Fn}{b:Nat}
theorem atT{r:List Nat}(q:ek v l)(t:ek w r)(K:l.length=r.length)(L:l.length<1000)(C:∀d∈l,d<10)(D:∀d∈r,d<10):∀(j N:Nat) (h:aO),j<=l.length->j<N->dS h->
 ∃s d,ji 0 1 5 N (w1 u 0 (λg=>q9 0 bt g)) v w (aA ((j:Int)-1)) h= .ok (aA (iC (dK (l.take j):Nat) (dK (r.take j):Nat))) 0 s d:=by
 intro j;induction j with
 |zero=>
  intro N h E F b5;obtain⟨N,rfl⟩:=eC N;have e:iC ((dK (l.take 0):Nat):Int) ((dK (r.take 0):Nat):Int)=0:=by simp[dK,iC]
  rw[e];rw[oW];generalize ji 0 1 5 N (w1 u 0 (λg=>q9 0 bt g))=G;rw[w1,b7,lR,bA,bc,q9,bJ,ei,aq];exact b6
 |succ j H=>
  intro N h E F b5;obtain⟨N,rfl⟩:=eC N;have A:=H N h (by omega) (by omega) b5;have hi:l[j]? =some (l[j]'(by omega)):=fo _;have I:r[j]? =some (r[j]'(by omega)):=fo _;have a:=q.at hi h.am;have i:=t.at I h.am;have k:=λ(xs:az) (z:ay)=>q.met (b:=0) (rk:=[]) xs z;have o:=λ(xs:az) (z:ay)=>t.met (b:=0) (rk:=[]) xs z;have J:((j+1:Nat):Int)-1=(j:Int):=by omega
  rw[J,Sv (l:=l) (by omega),Sv (l:=r) (by omega),avQ (Sw C (by omega)) (Sw D (by omega))];generalize l[j]'(by omega)=c at a;generalize r[j]'(by omega)=d at i;rw[oW];generalize ji 0 1 5 N (w1 u 0 (λg=>q9 0 bt g))=G at A;by_cases p:c<d;rw[dr p];rw[w1,b7,lR,bM,bw,Jr,dW,k,be,aP,a,aS,be,aP,kL,dW,o,be,aP,i,aS,be,aP,kL,cz,bM,bw,q9,bJ,R4,ei,aq];exact b6;by_cases B:d<c;rw[dU p,dr B];rw[w1,b7,lR,bM,bw,Jr,dW,k,be,aP,a,aS,be,aP,kL,dW,o,be,aP,i,aS,be,aP,kL,cz,bA,bc,Oq,dW,k,be,aP,a,aS,be,aP,kL,dW,o,be,aP,i,aS,be,aP,kL,i1,bM,bw,q9,bJ,b8,ei,aq];exact b6;rw[dU p,dU B];rw[w1,b7,lR,bM,bw,Jr,dW,k,be,aP,a,aS,be,aP,kL,dW,o,be,aP,i,aS,be,aP,kL,cz,bA,bc,Oq,dW,k,be,aP,a,aS,be,aP,kL,dW,o,be,aP,i,aS,be,aP,kL,i1,bA,bc,b8,g5];exact A
theorem akZ(g:ek v (bF x))(i:ek w (bF y))(j:(bF x).length<1000)(p:(bF y).length<1000):∃s d,EW u [v,w] 0 .nil= .ok (aA (iC (x:Int) (y:Int))) 0 s d:=by
 have a:=g.len;have c:=i.len;rw[EW,ep];by_cases h:(bF x).length=(bF y).length;have F:=atT (u:=u) g i h j (jy x) (jy y) (bF x).length 1000000 (bN 0 .nil) (dn _) (by omega) inferInstance;rw[vd,h,vd,nm,nm,<-h]at F;rw[Js,a,c,eL,bA,bc,VS,a,b8,g5];exact F;by_cases k:(bF x).length<(bF y).length;have o:x<y:=pi (xB (dn _)) (Zl k);have e:iC (x:Int) (y:Int)= -1:=HE (by omega);rw[e];rw[Js,a,c,eL,bM,bw,Ot,a,c,cz,bM,bw,q9,bJ,R4,ei,aq];exact b6;have o:y<x:=pi (xB (dn _)) (Zl (show(bF y).length<(bF x).length by omega));have e:iC (x:Int) (y:Int)=1:=by unfold iC;rw[if_neg (by omega),if_pos (by omega)]
 rw[e];rw[Js,a,c,eL,bM,bw,Ot,a,c,cz,bA,bc,q9,bJ,b8,ei,aq];exact b6
end
end
section
variable{a x y:Nat}{v w:ao}{l r:List Nat}
theorem Hc(l:List Nat)(i:Nat):∃d,dK (l.drop i)=d+10*dK (l.drop (i+1))/\((i<l.length/\l[i]? =some d)\/(l.length<=i/\d=0)):=by by_cases h:i<l.length;exact⟨l[i],Su h,.inl ⟨h,fo h⟩⟩;exact⟨0,by rw[pm,pm];rfl,.inr ⟨by omega,rfl⟩⟩
theorem acG(l:List Nat)(d:Nat):dK (l++[d])=dK l+10^l.length*d:=by rw[St];simp[dK]
section
variable[Tok] {u:Fn}{b:Nat}
theorem CY(k:ao->ay):dj (gR .rem (aA a) (aA 10)) k=k (aA (a%10:Nat)):=by rw[ap0 (by omega)];rfl
theorem CX(c:a<1000000:=by omega)(k:ao->ay):dj (gR .quo (aA a) (aA 10)) k=k (aA (a/10:Nat)):=by rw[apZ (by omega) (by omega)];rfl
theorem r6{c:Nat}(d:a+c<1000000:=by omega)(k:ao->ay):dT (aA a) (aA c) k=k (aA (a+c:Nat)):=by rw[fV (by omega) (by omega)];rfl
theorem adP{c:List Nat}{d:Nat}:(c++[d]).map gh=c.map gh++[[aA d]]:=by rw[oz];rfl
theorem at9(E:ek v l)(F:ek w r)(hl:l.length<=800)(hr:r.length<=800)(Q:∀d∈l,d<10)(R:∀d∈r,d<10)(G:Nat):∀(m i N:Nat) (h:aO) (ca:ao) (j:List Nat) (c:Nat),m+i=802->m<N->cp h 0->dS h->gm 0 2098 3 1 h ca (j.map gh)->j.length=i->(∀d∈j,d<10)->c<=1->(800<i->c=0)->dK j+10^i*(c+dK (l.drop i)+dK (r.drop i))=G->
 ∃x o s d,ek x o/\(∀d∈o,d<10)/\o.length<=802/\dK o=G/\fm 0 1 5 6 7 N (tX u 0 (λe f=>Dp 0 e f)) v w ca (aA c) (aA i) h= .ok x 0 s d:=by
 intro m;induction m with
 |zero=>intro i N h ca j c S T ub b5 O H hd V hi p;obtain⟨N,rfl⟩:=eC N;obtain⟨x,A,B⟩:=O.fh;have g:=E.len;have k:=F.len;obtain⟨s,d,e⟩:=b6 (r:=x) (h:=h);have c0:=hi (by omega);rw[pm,pm,c0]at p;rw[iz];generalize fm 0 1 5 6 7 N (tX u 0 (λe f=>Dp 0 e f))=W;refine⟨x,j,s,d,A,hd,by omega,by simpa[dK] using p,?_⟩;rw[tX,g,cz,bA,cV,k,cz,xc,cf,ch,bA,cV,b7,i1,xb,cf,ch,bA,bc,Dp,bJ,B,aq];exact e
 |succ m X=>
  intro i N h ca j c S T ub b5 O H hd V hi p;obtain⟨N,rfl⟩:=eC N;have g:=E.len;have k:=F.len;obtain⟨q,Y,C⟩:=Hc l i;obtain⟨t,Z,D⟩:=Hc r i;have bx:q<10:=C.elim (λh=>Q _ (eH h.2)) (λh=>by omega);have pl:t<10:=D.elim (λh=>R _ (eH h.2)) (λh=>by omega);obtain⟨al,h',ar,a1,L,-,P⟩:=GS (d1:=2097) (bytes:=8) (z:=[bt]) (Dv (c:=((c+q+t) %10:Nat))) O (by simp;omega);rw[<-adP]at L;have a2:dK (j++[(c+q+t) %10])+10^(i+1)*((c+q+t)/10+dK (l.drop (i+1))+dK (r.drop (i+1)))=G:=by rw[acG,H,m1,Nat.mul_assoc,rp,<-Nat.mul_add,<-p,Y,Z];congr 2;omega
  have I:=X (i+1) N h' al (j++[(c+q+t) %10]) ((c+q+t)/10) (by omega) (by omega) ar a1 L (by simp[H]) (λd h=>(fq.1 h).elim (hd d) λh=>by simp at h;omega) (by omega) (λh=>by rcases C with⟨_,_⟩|⟨_,_⟩<;>rcases D with⟨_,_⟩|⟨_,_⟩<;>omega) a2;have a3:((i+1:Nat):Int)=(i:Int)+1:=by omega
  rw[a3]at I;rw[iz];generalize fm 0 1 5 6 7 N (tX u 0 (λe f=>Dp 0 e f))=W at I;by_cases a4:l.length<=i/\r.length<=i/\c=0;obtain⟨b1,b2,a5⟩:=a4;obtain⟨x,A,B⟩:=O.fh;obtain⟨s,d,e⟩:=b6 (r:=x) (h:=h);rw[pm,pm,a5]at p;refine⟨x,j,s,d,A,hd,by omega,by simpa[dK] using p,?_⟩;rw[tX,g,cz,bA,cV,k,cz,xc,cf,ch,bA,cV,b7,i1,xb,cf,ch,bA,bc,Dp,bJ,B,aq];exact e;obtain⟨x,o,s,d,A,B,bd,bs,n⟩:=I;refine⟨x,o,s,d,A,B,bd,bs,?_⟩;rcases C with⟨C,cc⟩|⟨C,rfl⟩<;>rcases D with⟨D,M⟩|⟨D,rfl⟩;have J:=E.at cc h.am;have K:=F.at M h.am;rw[tX,g,cz,bM,gf,xc,cf,cA,gf,xb,cf,cA,bw,BR,g,cz,bM,bw,OY,J,kL,r6,BQ,k,cz,bM,bw,OX,K,kL,r6,BP,yb,CY,P,CX,b8,fV];exact n;have J:=E.at cc h.am;rw[rq]at P n;rw[tX,g,cz,bM,gf,xc,cf,cA,gf,xb,cf,cA,bw,BR,g,cz,bM,bw,OY,J,kL,r6,BQ,k,cz,bA,bc,BP,yb,CY,P,CX,b8,fV];exact n;have K:=F.at M h.am;rw[rq]at P n;rw[tX,g,cz,bA,cV,k,cz,xc,cf,ch,bM,gf,xb,cf,cA,bw,BR,g,cz,bA,bc,BQ,k,cz,bM,bw,OX,K,kL,r6,BP,yb,CY,P,CX,b8,fV];exact n;simp only[rq]at P n;rw[tX,g,cz,bA,cV,k,cz,xc,cf,ch,bA,cV,b7,i1,xb,cf,ch,bM,bw,BR,g,cz,bA,bc,BQ,k,cz,bA,bc,BP,yb,CY,P,CX,b8,fV];exact n
theorem ak1(h:ek v l)(i:ek w r)(j:l.length<=800)(k:r.length<=800)(n:∀d∈l,d<10)(o:∀d∈r,d<10):∃x c,ek x c/\(∀d∈c,d<10)/\c.length<=802/\dK c=dK l+dK r/\∃s d,Fo u [v,w] 0 .nil= .ok x 0 s d:=by obtain⟨x,c,s,d,p,q,t,z,g⟩:=at9 (u:=u) h i j k n o (dK l+dK r) 802 0 1000000 (bN 0 .nil) .ba [] 0 (by omega) (by omega) inferInstance inferInstance (.inl ⟨rfl,rfl⟩) rfl (by simp) (by omega) (by omega) (by simp[dK]);refine⟨x,c,p,q,t,z,s,d,?_⟩;have e:(aA ((0:Nat):Int):ao)=bt:=b7.symm;rw[e]at g;rw[Fo,ep];rw[WV];exact g
def Bb(u:Fn):Prop:=∀v l,ek v l->l.length<=900->∃w,ek w (lr l)/\bf u 191 [v] w
theorem arx(T:Bb u)(W:y<=x)(H:ek v (bF x))(I:ek w (bF y))(hl:(bF x).length<=800):∀(m i N:Nat) (h:aO) (ca:ao) (n:List Nat) (g:Nat),m+i=(bF x).length->m<N->cp h 0->dS h->gm 0 2086 3 1 h ca (n.map gh)->n.length=i->(∀d∈n,d<10)->g<=1->dK n+10^i*dK ((bF x).drop i)=(x-y)+10^i*(g+dK ((bF y).drop i))->
 ∃z s d,ek z (bF (x-y))/\fm 0 1 5 6 7 N (vv u 0 (λe f=>bE u 0 191 e f λk l=>Hu 0 k l)) v w ca (aA g) (aA i) h= .ok z 0 s d:=by
 have cY:(bF y).length<=(bF x).length:=vI _ _ (Nat.lt_of_le_of_lt W (xB (dn _)));intro m;induction m with
 |zero=>
  intro i N h ca n g X Y ub b5 O D hd Z B;obtain⟨N,rfl⟩:=eC N;obtain⟨z,J,p⟩:=O.fh;have C:=H.len;rw[pm,pm]at B;have al:=LU hd;rw[D]at al;have ar:g=0:=by
   have:g=0\/g=1:=by omega
   rcases this with h|h;exact h;rw[h]at B;simp[dK]at B;omega
  have a1:dK n=x-y:=by rw[ar]at B;simpa[dK] using B
  obtain⟨q,K,q2⟩:=T z n J (by omega);rw[AF hd,a1]at K;have a2:=cE.fh K;obtain⟨s,d,e⟩:=b6 (r:=q) (h:=h);rw[iz];generalize fm 0 1 5 6 7 N (vv u 0 (λe f=>bE u 0 191 e f λk l=>Hu 0 k l))=j5;refine⟨q,s,d,K,?_⟩;rw[vv,C,cz,bA,bc,bE,p,aq,a0,Hu,bJ,a2,aq];exact e
 |succ m a3=>
  intro i N h ca n g X Y ub b5 O D hd Z B;obtain⟨N,rfl⟩:=eC N;have C:=H.len;have E:=I.len;obtain⟨j,a4,R⟩:=Hc (bF x) i;obtain⟨o,a5,F⟩:=Hc (bF y) i;obtain⟨R,cc⟩:i<(bF x).length/\(bF x)[i]? =some j:=R.elim id (λh=>by omega);have c0:j<10:=jy _ _ (eH cc);have pl:o<10:=F.elim (λh=>jy _ _ (eH h.2)) (λh=>by omega);obtain⟨t,A,ht,c1,bd,bs⟩:∃t A:Nat,j+10*A=t+g+o/\t<10/\A<=1/\((A=0/\0<=(j:Int)-g-o/\(t:Int)=j-g-o)\/(A=1/\(j:Int)-g-o<0/\(t:Int)=j-g-o+10)):=by by_cases h:(j:Int)-g-o<0;exact⟨((j:Int)-g-o+10).toNat,1,by omega,by omega,by omega,.inr ⟨rfl,h,by omega⟩⟩;exact⟨((j:Int)-g-o).toNat,0,by omega,by omega,by omega,.inl ⟨rfl,by omega,by omega⟩⟩
  obtain⟨bx,h',b1,b2,S,-,P⟩:=GS (d1:=2085) (bytes:=8) (z:=[bt]) (Dv (c:=t)) O (by simp;omega);rw[<-adP]at S;have cn:dK (n++[t])+10^(i+1)*dK ((bF x).drop (i+1))=(x-y)+10^(i+1)*(A+dK ((bF y).drop (i+1))):=by
   rw[a4,a5]at B;have h3:10^i*(j+10*A)=10^i*(t+g+o):=by rw[ht]
   rw[acG,D,m1,Nat.mul_assoc,Nat.mul_assoc];generalize 10^i=Q at*;simp only[Nat.mul_add] at*;omega
  have cs:=a3 (i+1) N h' bx (n++[t]) A (by omega) (by omega) b1 b2 S (by simp[D]) (λd h=>(fq.1 h).elim (hd d) λh=>by simp at h;omega) bd cn;obtain⟨z,s,d,J,p⟩:=cs;have cu:((i+1:Nat):Int)=(i:Int)+1:=by omega
  rw[cu]at p;rw[iz];generalize fm 0 1 5 6 7 N (vv u 0 (λe f=>bE u 0 191 e f λk l=>Hu 0 k l))=j5 at p;refine⟨z,s,d,J,?_⟩;have G:=H.at cc h.am;rcases bs with⟨rfl,hs,L⟩|⟨rfl,hs,L⟩<;>rcases F with⟨F,V⟩|⟨F,rfl⟩;have M:=I.at V h.am;rw[L]at P;rw[vv,C,cz,bM,bw,EY,G,kL,g5,E,cz,bM,bw,Ou,M,kL,g5,BI,b7,cz,bA,bc,BH,P,b8,fV];exact p;rw[show(t:Int)=j-g by omega]at P;rw[vv,C,cz,bM,bw,EY,G,kL,g5,E,cz,bA,bc,BI,b7,cz,bA,bc,BH,P,b8,fV];exact p;have M:=I.at V h.am;rw[L]at P;rw[vv,C,cz,bM,bw,EY,G,kL,g5,E,cz,bM,bw,Ou,M,kL,g5,BI,b7,cz,bM,bw,yb,fV,BH,P,b8,fV];exact p;rw[show(t:Int)=j-g+10 by omega]at P;rw[vv,C,cz,bM,bw,EY,G,kL,g5,E,cz,bA,bc,BI,b7,cz,bM,bw,yb,fV,BH,P,b8,fV];exact p
theorem ak0(T:Bb u)(g:y<=x)(h:ek v (bF x))(i:ek w (bF y))(j:(bF x).length<=800):∃z,ek z (bF (x-y))/\∃s d,EX u [v,w] 0 .nil= .ok z 0 s d:=by obtain⟨z,s,d,k,c⟩:=arx T g h i j (bF x).length 0 1000000 (bN 0 .nil) .ba [] 0 rfl (by omega) inferInstance inferInstance (.inl ⟨rfl,rfl⟩) rfl (by simp) (by omega) (by simp only[sA,nm,dK];omega);refine⟨z,k,s,d,?_⟩;have e:(aA ((0:Nat):Int):ao)=bt:=b7.symm;rw[e]at c;rw[EX,ep];rw[VT];exact c
end
end
section
variable{d s i n c a x y:Nat}{h:aO}{L l:List Nat}{v w:ao}
section
variable[Tok] {u:Fn}{b:Nat}
def oF(b d s:Nat)(h:aO)(L:List Nat):Prop:=h.am (b+d)= .aV s 3 1 (L.map gh) true
theorem oF.gN(R:oF b d s h L)(e:n=L.length)(hi:i<n)(k:ao->ay):de h.am 1 (.aV (b+d) s 0 n) (aA i) k=k (.eP (b+d) s i 0):=GR R hi k
theorem oF.qX(R:oF b d s h L)(hi:L[i]? =some c)(k:ao->ay):bh h.am false 1 (.eP (b+d) s i 0) k=k (aA c):=by rw[aby R (cs:=gh c) (by simp[hi]),aL (v:=aA c) rfl]
theorem oF.bZ[cp h b][dS h](R:oF b d s h L)(hi:i<L.length)(hd:d<4096:=by decide):∃h',cp h' b/\dS h'/\oF b d s h' (L.set i c)/\∀k:dv,bl b none 1 (.eP (b+d) s i 0) (aA c) h k=k .undef h':=by
 refine⟨h.dP b d (.ae (.aV s 3 1 ((L.set i c).map gh) true)),inferInstance,inferInstance,Em hd,λk=>?_⟩;have e:bl b none 1 (.eP (b+d) s i 0) (aA c) h k=lJ b none (pN h.am 1 (.eP (b+d) s i 0) (aA c)) h k:=rfl;have g:pN h.am 1 (.eP (b+d) s i 0) (aA c)=some (.undef,[(b+d,.aV s 3 1 ((L.set i c).map gh) true)]):=by
  have j:h.am (b+d)= .aV s 3 1 (L.map gh) true:=R;have o:mV h.am (aA c)=some (aA c):=by rw[db];rfl
  have p:(aA (c:Int)).cells=some [aA c]:=by rw[db];rfl
  have q:(aA (c:Int)).dl=[]:=by rw[db];rfl
  have r:(L.map gh)[i]? =some (gh L[i]):=by simp[fo hi]
  simp only[pN,j,o,p,r,q,fI,List.map_set];rfl
 rw[e,g,z2 (kC b _) (cp.lt hd)];rfl
theorem acj[cp h b][dS h](o:n<=2000)(hd:d<4096:=by decide):∃s h',cp h' b/\dS h'/\oF b d s h' (List.replicate n 0)/\∀k:dv,lJ b none (rj (Nat.add b d) 3 1 8 (h.am (Nat.add b d)).cH [bt] (aA n) (aA n)) h k=k (.aV (b+d) s 0 n) h':=by
 refine⟨_,h.dP b d (.ae (.aV (Nat.add (h.am (b+d)).cH 1) 3 1 ((List.replicate n 0).map gh) true)),inferInstance,inferInstance,Em hd,λk=>?_⟩;have e:Nat.sub ((n:Int)+18446744073709551616).toNat 18446744073709551616=n:=Tn n;have g:rj (Nat.add b d) 3 1 8 (h.am (Nat.add b d)).cH [bt] (aA n) (aA n)=some (.aV (b+d) (Nat.add (h.am (b+d)).cH 1) 0 n,[(b+d,.aV (Nat.add (h.am (b+d)).cH 1) 3 1 ((List.replicate n 0).map gh) true)]):=by
  have j:(List.replicate n 0).map gh=List.replicate n [bt]:=by rw[DS,b7];rfl
  rw[j,db];simp only[rj,e];rw[eT,bM,eT,dJ (dn _),eT,dJ (by rw[tE];omega),eT,bM];rfl
 rw[g,z2 (kC b _) (cp.lt hd)];rfl
theorem apS(e:a<100:=by omega)(g:c<100:=by omega)(k:ao->ay):dj (gR .mul (aA a) (aA c)) k=k (aA (a*c:Nat)):=by rw[apT (by omega) (by omega)];rfl
theorem ad4(h:∀d∈L,d<10)(g:c<10):∀d∈L.set i c,d<10:=λd hd=>(List.mem_or_eq_of_mem_set hd).elim (h d) λe=>by omega
theorem aw6{r:List Nat}(G:ek v l)(C:ek w r)(hl:l.length<=800)(hr:r.length<=800)(V:∀d∈r,d<10)(H:l[i]? =some a)(cn:a<10){T:Nat}(cs:T<10^(l.length+r.length)){R:ay->Prop}{K:iF}
 (I:∀(h:aO) (O:List Nat),cp h 0->dS h->oF 0 2064 s h O->O.length=l.length+r.length+1->(∀d∈O,d<10)->dK O=T->R (K v w (.aV (0+2064) s 0 (l.length+r.length+1)) (aA i) h)):∀(m j N:Nat) (h:aO) (O:List Nat) (c:Nat),m+j=l.length+r.length+1->m<N->cp h 0->dS h->oF 0 2064 s h O->O.length=l.length+r.length+1->(∀d∈O,d<10)->c<=9->dK O+10^(i+j)*(c+a*dK (r.drop j))=T->
 R (k1 0 1 5 6 7 8 N (vz u 0 K) v w (.aV (0+2064) s 0 (l.length+r.length+1)) (aA i) (aA c) (aA j) h):=by
 have cu:i<l.length:=(g8.1 H).1;intro m;induction m with
 |zero=>
  intro j N h O c W X ub b5 q t hd Y g;obtain⟨N,rfl⟩:=eC N;have p:=C.len;rw[pm]at g;have c0:c=0:=by apply Classical.byContradiction;intro Z;have J:10^(i+j)*1<=10^(i+j)*(c+a*dK []):=Ih _ (by omega);have al:10^(l.length+r.length)<=10^(i+j):=Nat.pow_le_pow_right (by decide) (by omega);omega
  subst c0;have F:=I h O ub b5 q t hd (by simpa[dK] using g);rw[ti];generalize k1 0 1 5 6 7 8 N (vz u 0 K)=j6;rw[vz,p,cz,bA,cV,b7,i1,BT,cf,ch,bA,bc];exact F
 |succ m ar=>
  intro j N h O c W X ub b5 q t hd Y g;obtain⟨N,rfl⟩:=eC N;have p:=C.len;by_cases a1:r.length<=j/\c=0;obtain⟨cY,rfl⟩:=a1;rw[pm]at g;have F:=I h O ub b5 q t hd (by simpa[dK] using g);rw[ti];generalize k1 0 1 5 6 7 8 N (vz u 0 K)=j6;rw[vz,p,cz,bA,cV,b7,i1,BT,cf,ch,bA,bc];exact F;obtain⟨e,a2,A⟩:=Hc r j;have pl:e<10:=A.elim (λh=>V _ (eH h.2)) (λh=>by omega);have c2:i+j<l.length+r.length:=by
   rcases A with⟨h,_⟩|⟨h,_⟩;omega;have c1:1<=c:=by omega
   have J:10^(i+j)*1<=10^(i+j)*(c+a*dK (r.drop j)):=Ih _ (by omega);apply Classical.byContradiction;intro Z;have al:10^(l.length+r.length)<=10^(i+j):=Nat.pow_le_pow_right (by decide) (by omega);omega
  obtain⟨o,E⟩:∃o,O[i+j]? =some o:=⟨_,fo (by omega)⟩;have c3:=hd o (eH E);have c4:a*e<=81:=AZ (by omega:a<=9) (by omega:e<=9);obtain⟨h',a3,a4,M,P⟩:=q.bZ (i:=i+j) (c:=(o+c+a*e) %10) (by omega);have a5:dK (O.set (i+j) ((o+c+a*e) %10))+10^(i+(j+1))*((o+c+a*e)/10+a*dK (r.drop (j+1)))=T:=by
   have bd:=acF (l:=O) (n:=i+j) ((o+c+a*e) %10) (by omega);rw[(g8.1 E).2]at bd;rw[a2]at g;have J:10^(i+j)*(o+c+a*e)=10^(i+j)*((o+c+a*e) %10+10*((o+c+a*e)/10)):=by congr 1;omega
   rw[show i+(j+1)=i+j+1 by omega,m1,Nat.mul_assoc];rw[show a*(e+10*dK (r.drop (j+1)))=a*e+10*(a*dK (r.drop (j+1))) by rw[Nat.mul_add,Nat.mul_left_comm]]at g;generalize 10^(i+j)=Q at*;simp only[Nat.mul_add] at*;omega
  have B:=ar (j+1) N h' (O.set (i+j) ((o+c+a*e) %10)) ((o+c+a*e)/10) (by omega) (by omega) a3 a4 M (by rw[List.length_set];exact t) (ad4 hd (by omega)) (by omega) a5;have bs:((j+1:Nat):Int)=(j:Int)+1:=by omega
  rw[bs]at B;have D:=λk=>q.gN (n:=l.length+r.length+1) t.symm (i:=i+j) (by omega) k;have S:=λk=>q.qX E k;have c5:=λk=>M.gN (n:=l.length+r.length+1) (by rw[List.length_set];exact t.symm) (i:=i+j) (by omega) k;have la:=G.at H h.am;have bx:=λ(xs:az) (z:ay)=>G.met (b:=0) (rk:=[]) xs z;have b1:=λ(xs:az) (z:ay)=>C.met (b:=0) (rk:=[]) xs z;rw[ti];generalize k1 0 1 5 6 7 8 N (vz u 0 K)=j6 at B;rcases A with⟨A,b2⟩|⟨A,rfl⟩;have cc:=C.at b2 h.am;rw[vz,p,cz,bM,gf,BT,cf,cA,bw,JK,r6,D,S,r6,p,cz,bM,bw,Xa,dW,bx,be,aP,la,aS,be,aP,kL,dW,b1,be,aP,cc,aS,be,aP,kL,apS,r6,JJ,r6,yb,CY,D,P,CX,b8,fV];exact B;have e0:o+c+a*0=o+c:=rfl;rw[e0]at P B;rw[vz,p,cz,bA,cV,b7,i1,BT,cf,ch,bM,bw,JK,r6,D,S,r6,p,cz,bA,bc,JJ,r6,yb,CY,D,P,CX,b8,fV];exact B
theorem Zk(h:i<l.length):∃a,l[i]? =some a/\dK (l.take (i+1))=dK (l.take i)+10^i*a:=⟨l[i],fo h,Sv h⟩
theorem aw9(T:Bb u)(B:ek v (bF x))(J:ek w (bF y))(hl:(bF x).length<=400)(hr:(bF y).length<=400):∀(m i N:Nat) (h:aO) (O:List Nat),m+i=(bF x).length->m<N->cp h 0->dS h->oF 0 2064 s h O->O.length=(bF x).length+(bF y).length+1->(∀d∈O,d<10)->dK O=dK ((bF x).take i)*y->
 ∃z t d,ek z (bF (x*y))/\gd 0 1 5 6 N (BU u 0 (λm n=>bE u 0 191 m n λq r=>Hw 0 q r)) v w (.aV (0+2064) s 0 ((bF x).length+(bF y).length+1)) (aA i) h= .ok z 0 t d:=by
 intro m;induction m with
 |zero=>intro i N h O M P ub b5 p A hd j;obtain⟨N,rfl⟩:=eC N;have C:=B.len;rw[Tp,nm]at j;have Q:h.am (0+2064)= .aV s 3 1 (O.map gh) true:=p;obtain⟨q,D,S⟩:=T (.aN 1 (O.map gh)) O (.inr rfl) (by omega);rw[AF hd,j]at D;have V:=cE.fh D;have W:=λf=>abw (n:=(bF x).length+(bF y).length+1) Q (by rw[mw];exact A.symm) f;have X:=λ(k:dv)=>abs (d:=2064) (o:= .aV s 3 1 (O.map gh) false) (wk:=none) (h:=h) S (λo=>kC 0 _) k;obtain⟨t,d,e⟩:=b6 (r:=q) (h:=h.dP 0 2064 (.ae (.aV s 3 1 (O.map gh) false)));rw[jt];generalize gd 0 1 5 6 N (BU u 0 (λm n=>bE u 0 191 m n λq r=>Hw 0 q r))=G;refine⟨q,t,d,D,?_⟩;rw[BU,C,cz,bA,bc,bE,W,Uy,X,Hw,bJ,V,aq];exact e
 |succ m Y=>
  intro i N h O M P ub b5 p A hd j;obtain⟨N,rfl⟩:=eC N;have C:=B.len;obtain⟨a,H,Z⟩:=Zk (l:=bF x) (i:=i) (by omega);have al:=jy _ a (eH H);have E:=Y (i+1) N;have ar:((i+1:Nat):Int)=(i:Int)+1:=by omega
  rw[ar]at E;have a1:dK ((bF x).take (i+1))*y<10^((bF x).length+(bF y).length):=by have h2:=Sw (jy x) (n:=i+1) (by omega);have h3:10^(i+1)<=10^(bF x).length:=Nat.pow_le_pow_right (by decide) (by omega);have a2:y<10^(bF y).length:=xB (dn _);rw[AQ];exact Nat.mul_lt_mul_of_lt_of_lt (by omega) a2
  rw[jt];generalize gd 0 1 5 6 N (BU u 0 (λm n=>bE u 0 191 m n λq r=>Hw 0 q r))=G at E;have F:=aw6 (u:=u) B J (by omega) (by omega) (jy y) H al a1 (R:=λa3=>∃z t d,ek z (bF (x*y))/\a3= .ok z 0 t d) (K:=λg i k l m=>dT l br λn=>G g i k n m) (λh O ub b5 p A hd j=>by rw[b8,fV];exact E h O (by omega) (by omega) ub b5 p A hd j) ((bF x).length+(bF y).length+1) 0 1000000 h O 0 (by omega) (by omega) ub b5 p A hd (by omega) (by rw[j,sA,nm,Z,rq,iT,ou,Nat.mul_assoc])
  obtain⟨z,t,d,a4,I⟩:=F;refine⟨z,t,d,a4,?_⟩;have e0:(aA ((0:Nat):Int):ao)=bt:=b7.symm;rw[e0]at I;rw[BU,C,cz,bM,bw,Xb];exact I
theorem akQ(T:Bb u)(e:ek v (bF x))(g:ek w (bF y))(k:(bF x).length<=400)(o:(bF y).length<=400):∃z,ek z (bF (x*y))/\∃s d,Fs u [v,w] 0 .nil= .ok z 0 s d:=by
 have p:=e.len;have q:=g.len;obtain⟨s,h',ub,b5,R,P⟩:=acj (b:=0) (d:=2064) (n:=(bF x).length+(bF y).length+1) (h:=bN 0 .nil) (by omega);obtain⟨z,t,d,r,j⟩:=aw9 T e g k o (s:=s) (bF x).length 0 1000000 h' _ rfl (by omega) ub b5 R (by simp) (λd hd=>by rw[List.eq_of_mem_replicate hd];omega) (by rw[acH];simp[dK]);refine⟨z,r,t,d,?_⟩;have e0:(aA ((0:Nat):Int):ao)=bt:=b7.symm;rw[e0]at j;have A:(((bF x).length+(bF y).length+1:Nat):Int)=((bF x).length+(bF y).length:Nat)+1:=by omega
 rw[A]at P;rw[Fs,ep];rw[Xc,p,q,r6,b8,fV,P];exact j
end
end
section
variable{x y s i c:Nat}{v w:ao}
section
variable[Tok] {u:Fn}{b:Nat}
structure A8 (u:Fn):Prop where
 aeB:Bb u
 Hj:∀v w x y,ek v (bF x)->ek w (bF y)->(bF x).length<=800->(bF y).length<=800->bf u 192 [v,w] (aA (iC (x:Int) (y:Int)))
 Sd:∀v w x y,ek v (bF x)->ek w (bF y)->(bF x).length<=800->y<=x->∃z,ek z (bF (x-y))/\bf u 193 [v,w] z
theorem sY(h:x<=y):(bF x).length<=(bF y).length:=vI _ _ (Nat.lt_of_le_of_lt h (xB (dn _)))
theorem ar1(D:A8 u)(j:ek w (bF y))(Y:∀(ob:dE) (f:gI),bi ob v f=f v [])(Z:y≠0)(al:(bF y).length<=700){n:Nat}(hi:i<n){R:ay->Prop}{K:lA}{Q0:List Nat}{c0 R0:Nat}
 (B:∀(h:aO) (r:ao),cp h 0->dS h->oF 0 2059 s h (Q0.set i (c0+R0/y))->ek r (bF (R0%y))->R (K v w (.aV (0+2059) s 0 n) r (aA i) h)):∀(m N c d:Nat) (h:aO) (r:ao),d<(m+1)*y->m<N->c+m<=50->cp h 0->dS h->oF 0 2059 s h (Q0.set i c)->Q0.length=n->ek r (bF d)->(bF d).length<=800->d/y+c=c0+R0/y->d%y=R0%y->
 R (fm 0 1 6 7 8 N (wY u 0 K) v w (.aV (0+2059) s 0 n) r (aA i) h):=by
 intro m;induction m with
 |zero=>intro N c d h r C L M ub b5 g t e p A q;obtain⟨N,rfl⟩:=eC N;have ho:=D.Hj r w d y e j p (by omega);rw[HE (by omega)]at ho;have hd:d/y=0:=DX (by omega);have F:=B h r ub b5 (by rw[<-A,hd,ou];exact g) (by rw[<-q,qx (by omega)];exact e);have l:=cE.fh e;have o:=cE.fh j;rw[iz];generalize fm 0 1 6 7 8 N (wY u 0 K)=E;rw[wY,b4,l,o,aq,aq,a0,b7,lR,bA,bc];exact F
 |succ m O=>
  intro N c d h r C L M ub b5 g t e p A q;obtain⟨N,rfl⟩:=eC N;have ho:=D.Hj r w d y e j p (by omega);have l:=cE.fh e;have o:=cE.fh j;by_cases ar:d<y;rw[HE (by omega)]at ho;have hd:d/y=0:=DX (by omega);have F:=B h r ub b5 (by rw[<-A,hd,ou];exact g) (by rw[<-q,qx (by omega)];exact e);rw[iz];generalize fm 0 1 6 7 8 N (wY u 0 K)=E;rw[wY,b4,l,o,aq,aq,a0,b7,lR,bA,bc];exact F
  ·have a1:0<=iC (d:Int) (y:Int):=by unfold iC;split<;>(try split)<;>omega
   obtain⟨z,G,a2⟩:=D.Sd r w d y e j p (by omega);have a3:=cE.fh G;have Q:(Q0.set i c)[i]? =some c:=List.getElem?_set_self (by omega);have H:=λk=>g.gN (n:=n) (by rw[List.length_set];exact t.symm) (i:=i) hi k;have S:=λk=>g.qX Q k;obtain⟨h',T,V,I,P⟩:=g.bZ (i:=i) (c:=c+1) (by rw[List.length_set];omega);rw[List.set_set]at I;have W:d-y<(m+1)*y:=by rw[iT (m+1)]at C;omega
   have J:=O N (c+1) (d-y) h' z W (by omega) (by omega) T V I t G (by have:=sY (show d-y<=d by omega);omega) (by have:=Nat.div_eq_sub_div (a:=d) (b:=y) (by omega) (by omega);omega) (by rw[<-q,Nat.mod_eq_sub_mod (a:=d) (by omega)])
   have X:((c+1:Nat):Int)=(c:Int)+1:=by omega
   rw[X]at P;rw[iz];generalize fm 0 1 6 7 8 N (wY u 0 K)=E at J;rw[wY,b4,l,o,aq,aq,a0,b7,lR,bM,bw,Vc,b4,l,o,aq,aq,a0,H,S,b8,fV,H,P];exact J
theorem apm{f:ao}{r:List Nat}{h:aO}[cp h b][dS h](a:ek f r)(q:r.length<=900):∃p h',cp h' b/\dS h'/\(∀d,2071≠d->d<4096->h'.am (b+d)=h.am (b+d))/\(∃w,ek w (c::r)/\∀g:ao->fk->ay,bi h'.am p g=g w [])/\
 ∀k:dv,(eo h.am 1 0 (aA c) (eF 1 [bt]) λl m=>fB b 2071 none 3 1 1 false l (aZ m []) h λn o=>fW b 2073 none 3 1 8 n f false o k)=k p h':=by
 have j:=λk=>K9 (d:=2071) (d':=2073) (e:=3) (sz:=1) (bytes:=8) (wk:=none) (bL:=false) (h:=h.fc b 2071 3 1 [[aA c]] false) (ca:=[[aA c]]) (n:=1) (ys:=r.map gh) hX (λg=>cE.mK a _ g) rfl (λo=>kC b _) (by simp;omega) (by simp;omega) k;refine⟨.aV (b+2071) (Nat.add (ie h b 2071) 1) 0 ([[(aA c:ao)]].length+(r.map gh).length),(h.fc b 2071 3 1 [[aA c]] false).je b 2071 (Nat.add (ie h b 2071) 1) 3 1 ([[aA c]]++r.map gh) false,inferInstance,inferInstance,λd br hd=>ic (fJ rfl br) br,⟨.aN 1 ([[aA c]]++r.map gh),.inr rfl,λg=>jY kk (by simp;omega) g⟩,λk=>?_⟩;rw[RF (Dv.fh _) Dv.cells rfl (by rw[Dt];simp),aq,show((eF 1 [bt]).set 0 [aA c]=[[aA c]]) from by rw[Dt];rfl,iR _,j]
theorem avL{l:List Nat}(h:i<l.length)(a:l[i]? =some 0):dK ((l.set i c).drop i)=c+10*dK (l.drop (i+1)):=by rw[Su (by rw[List.length_set];exact h),List.getElem_set_self,List.drop_set_of_lt (by omega)]
theorem atP(D:A8 u)(O:ek v (bF x))(hw:ek w (bF y))(hy:y≠0)(hl:(bF x).length<=700)(al:(bF y).length<=700):∀(m N:Nat) (h:aO) (r:ao) (Q:List Nat),m<=(bF x).length->m<N->cp h 0->dS h->oF 0 2059 s h Q->Q.length=(bF x).length->(∀d∈Q,d<10)->(∀i,i<m->Q[i]? =some 0)->ek r (bF (dK ((bF x).drop m) %y))->dK (Q.drop m)=dK ((bF x).drop m)/y->
 ∃p q t d,ek p (bF (x/y))/\ek q (bF (x%y))/\fm 0 1 6 7 8 N (Bv u 0 (λl m n=>bE u 0 191 l n λq r=>Hs 0 q m r)) v w (.aV (0+2059) s 0 (bF x).length) r (aA ((m:Int)-1)) h= .ok (.bD [p,q]) 0 t d:=by
 intro m;induction m with
 |zero=>intro N h r Q hm ar ub b5 E j hd G g A;obtain⟨N,rfl⟩:=eC N;simp only[sA,nm]at g A;have R':h.am (0+2059)= .aV s 3 1 (Q.map gh) true:=E;obtain⟨q,I,q2⟩:=D.aeB (.aN 1 (Q.map gh)) Q (.inr rfl) (by omega);rw[AF hd,A]at I;have a1:=cE.fh I;have a2:=cE.fh g;have hb:=λf=>abw (n:=(bF x).length) R' (by rw[mw];exact j.symm) f;have hg:=λ(k:dv)=>abs (d:=2059) (o:= .aV s 3 1 (Q.map gh) false) (wk:=none) (h:=h) q2 (λo=>kC 0 _) k;obtain⟨t,d,e⟩:=b6 (r:= .bD [q,r]) (h:=h.dP 0 2059 (.ae (.aV s 3 1 (Q.map gh) false)));refine⟨q,r,t,d,I,g,?_⟩;rw[iz];generalize fm 0 1 6 7 8 N (Bv u 0 (λl m n=>bE u 0 191 l n λq r=>Hs 0 q m r))=S;rw[Bv,b7,lR,bA,bc,bE,hb,Uy,hg,Hs,a1,a2,aq,aq];exact e
 |succ m a3=>
  intro N h r Q hm ar ub b5 E j hd G g A;obtain⟨N,rfl⟩:=eC N;obtain⟨a,J,-⟩:=Zk (l:=bF x) (i:=m) (by omega);have a4:=jy _ a (eH J);have la:=O.at J h.am;have T:dK ((bF x).drop m)=a+10*dK ((bF x).drop (m+1)):=by rw[Su (by omega),(g8.1 J).2]
  have a5:dK ((bF x).drop (m+1)) %y<y:=u5 _ (by omega);generalize c5:dK ((bF x).drop (m+1))=H at*;have dd:=sY (Nat.le_of_lt a5);obtain⟨p,V,bd,bs,bx,⟨b1,b2,cc⟩,P⟩:=apm (b:=0) (c:=a) (h:=h) g (by omega);have cn:oF 0 2059 s V Q:=(bx 2059 (by decide) (by decide)).trans E;obtain⟨z,W,ds⟩:=D.aeB b1 _ b2 (by simp;omega);have cs:dK (a::bF (H%y))=a+10*(H%y):=by show a+10*dK (bF (H%y))=_;rw[nm]
  rw[AF (λd hd=>by rcases e9.1 hd with rfl|hd;exact a4;exact jy _ d hd),cs]at W;have cu:(a+10*(H%y)) %y=dK ((bF x).drop m) %y:=by rw[T,Nat.add_mod,Nat.mul_mod,Nat.mod_mod,<-Nat.mul_mod,<-Nat.add_mod]
  have cY:dK ((bF x).drop m)/y=(a+10*(H%y))/y+10*(H/y):=by
   have h2:=Nat.div_add_mod H y;have h3:dK ((bF x).drop m)=(a+10*(H%y))+y*(10*(H/y)):=by rw[T,Nat.mul_left_comm y 10 (H/y)];omega
   rw[h3,Nat.add_mul_div_left _ _ (by omega)]
  have c1:a+10*(H%y)<10*y:=by omega
  have dt:(a+10*(H%y))/y<10:=(Nat.div_lt_iff_lt_mul (by omega)).2 c1;have dz:(bF (a+10*(H%y))).length<=702:=by refine jv (vI ((bF y).length+1) _ ?_) (by omega);have:=xB (n:=y) (dn _);rw[m1];omega
  have X:=G m (by omega);have Y:=λ(h:aO) (Z:ao) (ub:cp h 0) (b5:dS h) (L:oF 0 2059 s h (Q.set m (0+(a+10*(H%y))/y))) (c2:ek Z (bF ((a+10*(H%y)) %y)))=>a3 N h Z (Q.set m (0+(a+10*(H%y))/y)) (by omega) (by omega) ub b5 L (by rw[List.length_set];exact j) (ad4 hd (by omega)) (λi hi=>by rw[List.getElem?_set_ne (by omega)];exact G i (by omega)) (by rw[<-cu];exact c2) (by rw[avL (by omega) X,A,cY];omega)
  have c3:((m+1:Nat):Int)-1=(m:Int):=by omega
  rw[c3];rw[iz];generalize fm 0 1 6 7 8 N (Bv u 0 (λl m n=>bE u 0 191 l n λq r=>Hs 0 q m r))=S at Y;have c4:=cE.fh O;have F:=ar1 D (v:=v) (w:=w) hw c4 hy al (s:=s) (i:=m) (n:=(bF x).length) (by omega) (R:=λM=>∃p q t d,ek p (bF (x/y))/\ek q (bF (x%y))/\M= .ok (.bD [p,q]) 0 t d) (K:=λw x y z M B=>gU M br λC=>S w x y z C B) (Q0:=Q) (c0:=0) (R0:=a+10*(H%y)) (λh r ub b5 L g=>by
   rw[b8,g5];exact Y h r ub b5 L g) 9 1000000 0 (a+10*(H%y)) V z (by omega) (by omega) (by omega) bd bs (by
    have:Q.set m 0=Q:=vc λi=>by by_cases hi:m=i;subst hi;rw[List.getElem?_set_self (by omega),X];rw[List.getElem?_set_ne hi]
    rw[this];exact cn) j W (by omega) (by omega) rfl
  obtain⟨p',q',t,d,f1,f2,f3⟩:=F;refine⟨p',q',t,d,f1,f2,?_⟩;rw[Bv,b7,lR,bM,bw,Vd,la,kL,P,bE,cc,aq,a0];exact f3
theorem akP(D:A8 u)(a:ek v (bF x))(j:ek w (bF y))(k:y≠0)(o:(bF x).length<=700)(r:(bF y).length<=700):∃p q,ek p (bF (x/y))/\ek q (bF (x%y))/\∃s d,EL u [v,w] 0 .nil= .ok (.bD [p,q]) 0 s d:=by have e:=a.len;obtain⟨s,h',ub,b5,R,P⟩:=acj (b:=0) (d:=2059) (n:=(bF x).length) (h:=bN 0 .nil) (by omega);have g:∀{α:Type} (l:List α),l.drop l.length=[]:=λl=>pm;obtain⟨p,q,t,d,z,A,B⟩:=atP D a j k o r (s:=s) (bF x).length 1000000 h' .ba _ (dn _) (by omega) ub b5 R (by simp) (λd hd=>by rw[List.eq_of_mem_replicate hd];omega) (λi hi=>by simp[hi]) (.inl ⟨rfl,by rw[g];simp[dK,Ks]⟩) (by rw[g,pm (by simp)];simp[dK]);refine⟨p,q,z,A,t,d,?_⟩;rw[EL,ep];rw[Ve,e,P,e,b8,g5];exact B
def IL(u:Fn):Prop:=∀v w x y,ek v (bF x)->ek w (bF y)->y≠0->(bF x).length<=700->(bF y).length<=700->∃p q,ek p (bF (x/y))/\ek q (bF (x%y))/\bf u 152 [v,w] (.bD [p,q])
structure vi (u:Fn):Prop where
 qM:∀n:Int,(bF n.natAbs).length<900->∃w,ek w (bF n.natAbs)/\bf u 150 [dQ n] (.bD [.U (decide (n<0)),w])
 yC:∀(neg:Bool) v l,ek v l->(∀d∈l,d<10)->l.length<900->bf u 153 [.U neg,v] (dQ (bj neg (dK l)))
theorem an0(O:IL u)(J:vi u):∀(k x y N:Nat) (h:aO) (v w:ao),y<2^k->2*k<N->dS h->ek v (bF x)->ek w (bF y)->(bF x).length<=700->(bF y).length<=700->
 ∃s d,lK 6 8 N (zd u 0 (λm n=>bi n.am m λo p=>cm u 0 none 153 [cQ,o] (aZ p []) n λq r=>Mh 0 q r)) v w h= .ok (dQ (Nat.gcd x y)) 0 s d:=by
 have B:∀(x N:Nat) (h:aO) (v w:ao),0<N->dS h->ek v (bF x)->ek w (bF 0)->(bF x).length<=700->∃s d,lK 6 8 N (zd u 0 (λm n=>bi n.am m λo p=>cm u 0 none 153 [cQ,o] (aZ p []) n λq r=>Mh 0 q r)) v w h= .ok (dQ (Nat.gcd x 0)) 0 s d:=by intro x N h v w E b5 e a j;obtain⟨N,rfl⟩:=eC N;have l:∀k,cv false w k=k (aA 0):=a.len;have t:=cE.fh e;have G:=J.yC false v _ e (jy x) (by omega);rw[nm,<-cl]at G;have X:bf u 153 [cQ,v] (dQ x):=G;rw[Nat.gcd_zero_right];rw[vX];generalize lK 6 8 N _=H;rw[zd,l,b7,i1,bA,bc,t,aq,a0,Mh,bJ,fx,aq];exact b6
 intro k;induction k with
 |zero=>
  intro x y N h v w I E b5 e a j z;have:y=0:=by omega
  subst this;exact B x N h v w (by omega) b5 e a j
 |succ k K=>
  intro x y N h v w I E b5 e a j z;by_cases C:y=0;subst C;exact B x N h v w (by omega) b5 e a j;obtain⟨N,rfl⟩:=eC N;obtain⟨N,rfl⟩:=eC N;have l:=a.len;have dM:=xA C;obtain⟨p,q,L,g,Y⟩:=O v w x y e a C j z;have Z:=L.k4;have M:=u5 x (show 0<y by omega);have al:=sY (Nat.le_of_lt M);have t:=cE.fh e;have D:=cE.fh a;rw[vX];by_cases A:x%y=0;rw[A]at g;have F:=B y (N+1) h w q (by omega) b5 a g z;rw[Nat.gcd_comm,Nat.gcd_rec,A,Nat.gcd_comm];generalize lK 6 8 (N+1) _=H at F;rw[zd,l,b7,i1,bM,bw,Jb,b4,t,D,aq,aq,a0,ez _ _,eA _ _];exact F;obtain⟨p',P,Q,R,ar⟩:=O w q y (x%y) a g A z (by omega);have a1:=Q.k4;have eB:=xA A;have S:=g.len;have T:=cE.fh g;have V:=u5 y (show 0<x%y by omega);have a2:=sY (Nat.le_of_lt V);have W:y% (x%y)<2^k:=by
   rw[m1]at I;by_cases a3:x%y<=y/2;omega;have:y% (x%y)=y-x%y:=by rw[Nat.mod_eq_sub_mod (by omega),qx (by omega)]
   omega
  have F:=K (x%y) (y% (x%y)) N h q P W (by omega) b5 g R (by omega) (by omega);rw[Nat.gcd_comm,Nat.gcd_rec,Nat.gcd_rec,Nat.gcd_comm];rw[vX];generalize lK 6 8 N _=H at F;rw[zd,l,b7,i1,bM,bw,Jb,b4,t,D,aq,aq,a0,ez _ _,eA _ _,zd,S,b7,i1,bM,bw,Jb,b4,D,T,aq,aq,a0,ez _ _,eA _ _];exact F
theorem akO(O:IL u)(a:vi u){x y:Int}(g:(bF x.natAbs).length<=700)(h:(bF y.natAbs).length<=700):∃s d,EK u [dQ x,dQ y] 0 .nil= .ok (dQ (Nat.gcd x.natAbs y.natAbs)) 0 s d:=by obtain⟨v,e,l⟩:=a.qM x (by omega);obtain⟨w,j,n⟩:=a.qM y (by omega);have k:y.natAbs<2^(4*(bF y.natAbs).length):=pi (xB (dn _)) (by rw[Nat.pow_mul];exact Nat.pow_le_pow_left (by decide) _);have F:=an0 O a _ x.natAbs y.natAbs 1000000 (bN 0 .nil) v w k (by omega) inferInstance e j g h;have o:=e.k4;rw[EK,ep];rw[Vb,bE,fx,aq,a0,ez _ _,Va,eA _ _,bE,fx,aq,a0,ez _ _,eA _ _];exact F
end
end
section
variable{x y:Int}{k q:Nat}
theorem avM(x y:Int):bj (xor true (decide (x<0)==decide (y<0))) (x.natAbs*y.natAbs)=x*y:=by rw[Go.Hf.bj,wy];by_cases a:x<0<;>by_cases c:y<0;rw[dJ a,dJ c,show(xor true (true==true))=false from rfl,dU (by simp),show((x.natAbs:Int))= -x by omega,show((y.natAbs:Int))= -y by omega,Int.neg_mul_neg];rw[dJ a,gy c,show(xor true (true==false))=true from rfl,dr rfl,show((x.natAbs:Int))= -x by omega,show((y.natAbs:Int))=y by omega,Int.neg_mul,Int.neg_neg];rw[gy a,dJ c,show(xor true (false==true))=true from rfl,dr rfl,show((x.natAbs:Int))=x by omega,show((y.natAbs:Int))= -y by omega,Int.mul_neg,Int.neg_neg];rw[gy a,gy c,show(xor true (false==false))=false from rfl,dU (by simp),show((x.natAbs:Int))=x by omega,show((y.natAbs:Int))=y by omega]
def b5(x:Int):Nat:=(bF x.natAbs).length
theorem Sg:b5 x<=k↔x.natAbs<10^k:=⟨λh=>xB h,λh=>vI k _ h⟩
theorem q1{l:Nat}(a:b5 x<=k)(c:b5 y<=l):b5 (x*y)<=k+l:=by rw[Sg] at*;rw[Int.natAbs_mul,AQ];exact Nat.mul_lt_mul_of_lt_of_lt a c
theorem acu(a:b5 x<=k)(c:b5 y<=k):b5 (x+y)<=k+1:=by rw[Sg] at*;have:=Int.natAbs_add_le x y;rw[m1];omega
theorem LB(p:Int)(c:q≠0):(mkRat p q).num=bj (decide (p<0)) (p.natAbs/Nat.gcd p.natAbs q)/\(mkRat p q).den=q/Nat.gcd p.natAbs q:=by
 have e:mkRat p q=Rat.normalize p q c:=by unfold mkRat;rw[dif_neg c]
 rw[e,Rat.normalize_eq];refine⟨?_,rfl⟩;show p/_=_;obtain⟨a,d⟩:=Nat.gcd_dvd_left p.natAbs q;have l:Nat.gcd p.natAbs q≠0:=λh=>c (Nat.eq_zero_of_gcd_eq_zero_right h);have j:p.natAbs/Nat.gcd p.natAbs q=a:=by
  conv=>lhs;lhs;rw[d]
  exact Nat.mul_div_cancel_left _ (by omega)
 rw[j];generalize Nat.gcd p.natAbs q=g at*;by_cases h:p<0;have i:p=(g:Int)*(-(a:Int)):=by rw[Int.mul_neg,<-wy,<-d];omega
 rw[dJ h,i,Int.mul_ediv_cancel_left _ (by omega)];rfl;have i:p=(g:Int)*(a:Int):=by rw[<-wy,<-d];omega
 rw[gy h,i,Int.mul_ediv_cancel_left _ (by omega)];rfl
section
variable[Tok] {u:Fn}{b:Nat}
theorem akt(a:vi u)(j:∀v w x y,ek v (bF x)->ek w (bF y)->(bF x).length<=400->(bF y).length<=400->∃z,ek z (bF (x*y))/\bf u 318 [v,w] z)(c:b5 x<=400)(e:b5 y<=400):∃s d,Fq u [dQ x,dQ y] 0 .nil= .ok (dQ (x*y)) 0 s d:=by
 unfold b5 at c e;obtain⟨v,g,r⟩:=a.qM x (by omega);obtain⟨w,h,t⟩:=a.qM y (by omega);obtain⟨z,i,A⟩:=j v w _ _ g h c e;have B:(bF (x.natAbs*y.natAbs)).length<=400+400:=by have:=q1 (x:=x) (y:=y) c e;rwa [b5,Int.natAbs_mul]at this
 have l:=a.yC (xor true (decide (x<0)==decide (y<0))) z _ i (jy _) (by omega);rw[nm,avM]at l;have n:=cE.fh g;have o:=cE.fh h;have p:=cE.fh i;rw[Fq,ep];rw[W2,bE,fx,aq,a0,ez _ _,eA _ _,W1,bE,fx,aq,a0,ez _ _,eA _ _,GM,b4,n,o,aq,aq,a0,b4,dh,p,aq,aq,a0,adz,bJ,fx,aq];exact b6
theorem akR(h:vi u)(D:A8 u)(K:∀v w l r,ek v l->ek w r->l.length<=800->r.length<=800->(∀d∈l,d<10)->(∀d∈r,d<10)->∃x c,ek x c/\(∀d∈c,d<10)/\c.length<=802/\dK c=dK l+dK r/\bf u 269 [v,w] x)(A:b5 x<=800)(B:b5 y<=800):∃s d,Fp u [dQ x,dQ y] 0 .nil= .ok (dQ (x+y)) 0 s d:=by
 unfold b5 at A B;obtain⟨v,i,R⟩:=h.qM x (by omega);obtain⟨w,j,S⟩:=h.qM y (by omega);have n:=cE.fh i;have o:=cE.fh j;have L:=D.Hj v w _ _ i j A B;rw[Fp,ep];by_cases C:decide (x<0)=decide (y<0);have E:(xor false (decide (x<0)==decide (y<0)))=true:=by rw[C];simp
 obtain⟨z,c,a,M,F,G,H⟩:=K v w _ _ i j A B (jy _) (jy _);have g:=h.yC (decide (x<0)) z c a M (by omega);rw[nm,nm]at G;rw[G]at g;have e:bj (decide (x<0)) (x.natAbs+y.natAbs)=x+y:=by
  unfold bj;have N:(x<0↔y<0):=by simpa using C
  by_cases p:x<0;rw[dJ p,dr rfl];omega;rw[gy p,dU (by simp)];omega
 rw[e]at g;have t:=cE.fh a;rw[JG,bE,fx,aq,a0,ez _ _,JF,eA _ _,bE,fx,aq,a0,ez _ _,eA _ _,GM,E,bw,W0,b4,n,o,aq,aq,a0,b4,dh,t,aq,aq,a0,Dq,bJ,fx,aq];exact b6
 ·have E:(xor false (decide (x<0)==decide (y<0)))=false:=by cases O:decide (x<0)<;>cases P:decide (y<0)<;>first|rfl|exact absurd (O.trans P.symm) C
  have N:¬(x<0↔y<0):=by simpa using C
  by_cases Q:y.natAbs<=x.natAbs
  ·have I:0<=iC (x.natAbs:Int) (y.natAbs:Int):=by unfold iC;split<;>(try split)<;>omega
   obtain⟨z,a,H⟩:=D.Sd v w _ _ i j A Q;have F:=sY (show x.natAbs-y.natAbs<=x.natAbs by omega);have g:=h.yC (decide (x<0)) z _ a (jy _) (by omega);have e:bj (decide (x<0)) (x.natAbs-y.natAbs)=x+y:=by unfold bj;by_cases p:x<0;rw[dJ p,dr rfl];omega;rw[gy p,dU (by simp)];omega
   rw[nm,e]at g;have t:=cE.fh a;rw[JG,bE,fx,aq,a0,ez _ _,JF,eA _ _,bE,fx,aq,a0,ez _ _,eA _ _,GM,E,bc,O0,b4,n,o,aq,aq,a0,b7,lR,bM,bw,WZ,b4,n,o,aq,aq,a0,b4,dh,t,aq,aq,a0,Dq,bJ,fx,aq];exact b6
  have I:iC (x.natAbs:Int) (y.natAbs:Int)= -1:=HE (by omega);obtain⟨z,a,H⟩:=D.Sd w v _ _ j i B (by omega);have F:=sY (show y.natAbs-x.natAbs<=y.natAbs by omega);have g:=h.yC (decide (y<0)) z _ a (jy _) (by omega);have e:bj (decide (y<0)) (y.natAbs-x.natAbs)=x+y:=by unfold bj;by_cases J:y<0;rw[dJ J,dr rfl];omega;rw[gy J,dU (by simp)];omega
  rw[nm,e]at g;rw[I]at L;have t:=cE.fh a;rw[JG,bE,fx,aq,a0,ez _ _,JF,eA _ _,bE,fx,aq,a0,ez _ _,eA _ _,GM,E,bc,O0,b4,n,o,aq,aq,a0,b7,lR,bA,bc,WY,b4,o,n,aq,aq,a0,b4,dh,t,aq,aq,a0,Dq,bJ,fx,aq];exact b6
theorem ake(a:vi u)(g:b5 x<=800):∃s d,Fm u [dQ x] 0 .nil= .ok (dQ (-x)) 0 s d:=by
 unfold b5 at g;obtain⟨v,c,l⟩:=a.qM x (by omega);have i:=a.yC (!decide (x<0)) v _ c (jy _) (by omega);have e:dQ (bj (!decide (x<0)) x.natAbs)=dQ (-x):=by congr 1;unfold bj;by_cases h:x<0;rw[dJ h];simp;omega;rw[gy h];simp;omega
 rw[nm,e]at i;have j:=cE.fh c;rw[Fm,jp];rw[WU,bE,fx,aq,a0,ez _ _,eA _ _,e1,b4,dh,j,aq,aq,a0,ady,bJ,fx,aq];exact b6
theorem akS(o:vi u)(D:A8 u)(i:b5 x<=800)(j:b5 y<=800):∃s d,Ft u [dQ x,dQ y] 0 .nil= .ok (aA (iC x y)) 0 s d:=by
 unfold b5 at i j;obtain⟨v,l,a⟩:=o.qM x (by omega);obtain⟨w,n,c⟩:=o.qM y (by omega);have p:=cE.fh l;have r:=cE.fh n;have fP:=D.Hj v w _ _ l n i j;have t:=D.Hj w v _ _ n l j i;rw[Ft,ep];by_cases g:x<0<;>by_cases h:y<0
 ·have e:iC (y.natAbs:Int) (x.natAbs:Int)=iC x y:=by unfold iC;split<;>(try split)<;>(try split)<;>(try split)<;>omega
  rw[dJ g]at a;rw[dJ h]at c;rw[e]at t;rw[Fw,bE,fx,aq,a0,ez _ _,eA _ _,Fv,bE,fx,aq,a0,ez _ _,eA _ _,dR,e1,gX,BV,cl,cA,bc,JL,e1,gX,gB,Fu,cl,ch,bw,bc,Xe,b4,r,p,aq,aq,a0,yt,bJ,ei,aq];exact b6
 rw[HE (by omega)];rw[dJ g]at a;rw[gy h]at c;rw[Fw,bE,fx,aq,a0,ez _ _,eA _ _,Fv,bE,fx,aq,a0,ez _ _,eA _ _,dR,e1,jI,BV,cl,cA,bw,yt,bJ,R4,ei,aq];exact b6;rw[avP (by omega)];rw[gy g]at a;rw[dJ h]at c;rw[Fw,bE,fx,aq,a0,ez _ _,eA _ _,Fv,bE,fx,aq,a0,ez _ _,eA _ _,gB,BV,cl,ch,bc,JL,e1,jI,dR,Fu,cl,cA,bw,yt,bJ,b8,ei,aq];exact b6
 ·have e:iC (x.natAbs:Int) (y.natAbs:Int)=iC x y:=by unfold iC;split<;>(try split)<;>(try split)<;>(try split)<;>omega
  rw[gy g]at a;rw[gy h]at c;rw[e]at fP;rw[Fw,bE,fx,aq,a0,ez _ _,eA _ _,Fv,bE,fx,aq,a0,ez _ _,eA _ _,gB,BV,cl,ch,bc,JL,e1,jI,dR,Fu,cl,cA,bc,bc,O4,b4,p,r,aq,aq,a0,yt,bJ,ei,aq];exact b6
theorem aks(c:vi u)(g:b5 x<=800):∃s d,Fh u [dQ x] 0 .nil= .ok (aA (max 1 (b5 x))) 0 s d:=by unfold b5 at*;obtain⟨v,a,h⟩:=c.qM x (by omega);have e:=a.len;have i:=a.k4;rw[Fh,jp];rw[WN,bE,fx,aq,a0,ez _ _,eA _ _,e,b8,Ln,adx,bJ,ei,aq];exact b6
theorem akr(e:vi u)(O:IL u){p:Int}(i:q≠0)(o:b5 p<=700)(r:b5 q<=700)(J:bf u 151 [dQ p,dQ q] (dQ (Nat.gcd p.natAbs q))):∃s d,Ev u [dQ p,dQ q] 0 .nil= .ok (.bD [dQ (mkRat p q).num,dQ ((mkRat p q).den:Nat)]) 0 s d:=by
 unfold b5 at o r;rw[(LB p i).1,(LB p i).2];have t:Nat.gcd p.natAbs q≠0:=λh=>i (Nat.eq_zero_of_gcd_eq_zero_right h);have gl:=sY (Nat.gcd_le_right p.natAbs (show 0<q by omega));obtain⟨v,z,K⟩:=e.qM p (by omega);obtain⟨w,j,B⟩:=e.qM q (by omega);obtain⟨g,c8,C⟩:=e.qM (Nat.gcd p.natAbs q) (by simp only[Int.natAbs_natCast] at*;omega);rw[gy (by omega)]at B C;simp only[Int.natAbs_natCast] at*;obtain⟨a,L,l,-,M⟩:=O v g _ _ z c8 t o (by omega);obtain⟨c,c',c1,-,N⟩:=O w g _ _ j c8 t r (by omega);have P:=sY (Nat.div_le_self p.natAbs (Nat.gcd p.natAbs q));have jx:=sY (Nat.div_le_self q (Nat.gcd p.natAbs q));have D:=e.yC (decide (p<0)) a _ l (jy _) (by omega);have n:=e.yC false c _ c1 (jy _) (by omega);rw[nm]at D n;rw[<-cl]at n;have Q:bf u 153 [cQ,c] (dQ (q/Nat.gcd p.natAbs q:Nat)):=n;have E:(xor true (decide (p<0)==false))=decide (p<0):=by cases decide (p<0)<;>rfl
 have F:=cE.fh z;have G:=cE.fh j;have A:=cE.fh c8;have H:=cE.fh l;have nI:=cE.fh c1;have c7:=l.k4;have R:=c1.k4;have I:=j.len;have S:=xA i;rw[Ev,ep];rw[UR,bE,fx,aq,a0,ez _ _,eA _ _,I,b7,cd,bA,bc,UQ,bE,fx,aq,a0,ez _ _,eA _ _,UP,b4,fx,fx,aq,aq,a0,bE,fx,aq,a0,ez _ _,eA _ _,b4,F,A,aq,aq,a0,ez _ _,eA _ _,UO,b4,G,A,aq,aq,a0,ez _ _,eA _ _,GM,E,b4,dh,H,aq,aq,a0,nI,aq,a0,SU,fx,fx,aq,aq];exact b6
end
end
section
variable[Tok]
structure yX (u:Fn):Prop where
 mul:∀x y:Int,b5 x<=400->b5 y<=400->bf u 272 [dQ x,dQ y] (dQ (x*y))
 add:∀x y:Int,b5 x<=800->b5 y<=800->bf u 271 [dQ x,dQ y] (dQ (x+y))
 neg:∀x:Int,b5 x<=800->bf u 268 [dQ x] (dQ (-x))
 alR:∀x y:Int,b5 x<=800->b5 y<=800->bf u 320 [dQ x,dQ y] (aA (iC x y))
 Zm:∀x:Int,b5 x<=800->bf u 235 [dQ x] (aA (max 1 (b5 x)))
 adM:∀(p:Int) (q:Nat),q≠0->b5 p<=700->b5 q<=700->bf u 116 [dQ p,dQ q] (.bD [dQ (mkRat p q).num,dQ ((mkRat p q).den:Nat)])
theorem Gv:bV yX:=by
 have A:bV Bb:=bV.lL.up λn _ v l c B=>by obtain⟨w,o,t⟩:=akU (u:=bR bX n) c (by omega);exact⟨w,o,eO EU t⟩
 have L:bV λu=>∀n:Int,(bF n.natAbs).length<900->bf u 190 [dQ n] (.U true):=bV.lL.up λn _ x a=>eO ET (akT (by omega));have F:bV vi:=(A.and L).up λn h=>⟨λx a=>by
  obtain⟨w,o,t⟩:=akw (h.2 x a) (by omega);exact⟨w,o,eO EI t⟩,λneg v l c hd B=>by
  obtain⟨w,o,t⟩:=h.1 v l c (by omega);exact eO EM (aky neg hd (by omega) t o c)⟩
 have H:bV A8:=(A.and (A.up (C:=λu=>(∀v w x y,ek v (bF x)->ek w (bF y)->(bF x).length<=800->(bF y).length<=800->bf u 192 [v,w] (aA (iC (x:Int) (y:Int))))/\∀v w x y,ek v (bF x)->ek w (bF y)->(bF x).length<=800->y<=x->∃z,ek z (bF (x-y))/\bf u 193 [v,w] z) λn h=>⟨λv w x y c i a g=>eO EW (akZ c i (by omega) (by omega)),λv w x y c i a N=>by obtain⟨z,D,E⟩:=ak0 h N c i a;exact⟨z,D,eO EX E⟩⟩)).imp λn h=>⟨h.1,h.2.1,h.2.2⟩
 have Q:bV λu=>∀v w x y,ek v (bF x)->ek w (bF y)->(bF x).length<=400->(bF y).length<=400->∃z,ek z (bF (x*y))/\bf u 318 [v,w] z:=A.up λn h v w x y c i a g=>by obtain⟨z,D,E⟩:=akQ h c i a g;exact⟨z,D,eO Fs E⟩
 have R:bV λu=>∀v w l r,ek v l->ek w r->l.length<=800->r.length<=800->(∀d∈l,d<10)->(∀d∈r,d<10)->∃x j,ek x j/\(∀d∈j,d<10)/\j.length<=802/\dK j=dK l+dK r/\bf u 269 [v,w] x:=bV.lL.up λn _ v w l r c i B S T W=>by obtain⟨x,j,X,Y,Z,al,ar⟩:=ak1 (u:=bR bX n) c i B S T W;exact⟨x,j,X,Y,Z,al,eO Fo ar⟩
 have I:bV IL:=H.up λn h v w x y c i g a a1=>by obtain⟨p,q,a2,a3,e⟩:=akP h c i g a a1;exact⟨p,q,a2,a3,eO EL e⟩
 have a4:bV λu=>∀x y:Int,b5 x<=700->b5 y<=700->bf u 151 [dQ x,dQ y] (dQ (Nat.gcd x.natAbs y.natAbs)):=(I.and F).up λn h x y a g=>eO EK (akO h.1 h.2 a g);refine(((F.and H).and (Q.and R)).and (I.and a4)).up λn h=>?_;obtain⟨⟨⟨k,O⟩,M,P⟩,V,G⟩:=h;exact⟨λx y a g=>eO Fq (akt k M a g),λx y a g=>eO Fp (akR k O P a g),λx a=>eO Fm (ake k a),λx y a g=>eO Ft (akS k O a g),λx a=>eO Fh (aks k a),λp q hq J K=>eO Ev (akr k V hq J K (G p q J K))⟩
end
section
variable{n c:Nat}{m:Int}{r:Rat}{o:az}
section
variable[Tok] {u:Fn}{b:Nat}
theorem aa8{n:Int}(h:(Lib.itoa n)[0]? =some 45)(d:n≠0):n<0:=by
 apply Classical.byContradiction;intro g;have j:jq n=0:=by unfold jq;rw[if_neg g]
 have l:=xA (n:=n.natAbs) (by omega);have hd:(bF n.natAbs)[(bF n.natAbs).length-1-0]? =some ((bF n.natAbs)[(bF n.natAbs).length-1-0]'(by omega)):=fo _;have a:=GK d (i:=0) (by omega) hd;have k:=jy n.natAbs _ (eH hd);rw[j,h]at a;have:=oy UInt8.toNat (l2 a);rw[DH k]at this;have e:(45:UInt8).toNat=45:=rfl;omega
theorem aoA{n:Int}(h:Lib.itoa n=Lib.itoa m):n=m:=by
 by_cases g:n=0;rw[g,K5]at h;rw[g,RB.1 h.symm];by_cases k:m=0;rw[k,K5]at h;exact absurd (RB.1 h) g;have l:n<0↔m<0:=⟨λx=>aa8 (h▸K6 x) k,λx=>aa8 (h▸K6 x) g⟩;have t:jq n=jq m:=by unfold jq;by_cases x:n<0<;>simp[x,l.1,<-l]
 have w:=zV g;have y:=zV k;rw[h,y]at w;have z:(bF n.natAbs).length=(bF m.natAbs).length:=by omega
 have e:bF n.natAbs=bF m.natAbs:=by apply vc;intro j;by_cases p:j<(bF n.natAbs).length;have a:(bF n.natAbs)[j]? =some ((bF n.natAbs)[j]'p):=fo _;have c:(bF m.natAbs)[j]? =some ((bF m.natAbs)[j]'(by omega)):=fo _;have q:=GK g (i:=(bF n.natAbs).length-1-j) (by omega) (d:=(bF n.natAbs)[j]'p) (by rw[show(bF n.natAbs).length-1-((bF n.natAbs).length-1-j)=j by omega];exact a);have c1:=GK k (i:=(bF n.natAbs).length-1-j) (by omega) (d:=(bF m.natAbs)[j]'(by omega)) (by rw[z,show(bF m.natAbs).length-1-((bF m.natAbs).length-1-j)=j by omega];exact c);rw[h,t,c1]at q;have:=oy UInt8.toNat (l2 q);rw[DH (jy _ _ (eH a)),DH (jy _ _ (eH c))]at this;rw[a,c];congr 1;omega;rw[rt (by omega),rt (by omega)]
 have A:=oy dK e;rw[nm,nm]at A;omega
theorem aei{n:Int}(h:dQ n=dQ m):n=m:=by unfold dQ at h;simp only[ao.s.injEq]at h;exact aoA (acD h.1 h.2)
theorem ar0{s:Rat}(h:eK r=eK s):r=s:=by unfold eK fw at h;simp only[jQ,and_true,true_and]at h;have a:=aei h.2;exact Rat.ext (aei h.1) (by omega)
def dY(o:az):Rat:=open Classical in if h:∃r,o=eK r then h.choose else 0
theorem Ms(r:Rat):dY (eK r)=r:=by have h:∃s,eK r=eK s:=⟨r,rfl⟩;unfold dY;rw[dif_pos h];exact(ar0 h.choose_spec).symm
theorem Mr(h:∀r,o≠eK r):dY o=0:=by unfold dY;rw[dif_neg (λ⟨r,e⟩=>h r e)]
def yT(o:az):Prop:=o∈jZ\/∃r:Rat,o=eK r/\b5 r.num<=100/\b5 r.den<=100
theorem th(o:az)(h:yT o):Nx o:=by rcases h with h|⟨r,rfl,_⟩;exact abN o (qt _ h);exact⟨1,_,_,_,_,_,_,_,_,_,_,by omega,by omega,⟨rfl,rfl⟩⟩
theorem aqT(o:az)(h:yT o):Eb o:=by obtain⟨k,a,c1,d,e,g,i,j,l,p,q,w,x,t⟩:=th o h;exact⟨k,a,c1,d,e,g,i,j,l,p,q,by omega,by omega,t⟩
abbrev ki (n c:Nat) (o:az):Prop:=rF yT n c o
theorem ki.Hb(h:ki n c o):kF n c o:=by
 induction h with
 |leaf h=>exact .leaf (aqT _ h)
 |cons _ _ a d=>exact .cons a d
theorem ki.mono(h:ki n c o):ki (n+1) c o:=by
 induction h with
 |leaf h=>exact .leaf h
 |cons _ _ a d=>exact .cons a d
theorem ki.le{m:Nat}(h:ki n c o)(a:n<=m):ki m c o:=by
 induction a with
 |refl=>exact h
 |step _ d=>exact d.mono
theorem ki.amh(h:ki n c o):ki c c o:=by
 induction h with
 |leaf h=>exact .leaf h
 | @cons n c c' a d _ _ e g=>exact .le (n:=c+c'+1) (.cons (e.le (by omega)) (g.le (by omega))) (by omega)
def dL(o:az):Prop:=∃c,c<=3000/\ki 3000 c o
theorem uo(h:ki n c o)(a:c<=3000):dL o:=⟨c,a,h.amh.le a⟩
theorem dL.v{o:az}(h:dL o):o.length=7/\cg o=true:=by obtain⟨c,_,h⟩:=h;exact h.v th
theorem dL.cases{o:az}(h:dL o):o∈jZ\/(∃r:Rat,o=eK r/\b5 r.num<=100/\b5 r.den<=100)\/∃a d,o=il a d/\dL a/\dL d:=by
 obtain⟨c,g,h⟩:=h;cases h with
 |leaf h=>exact h.elim .inl λh=> .inr (.inl h)
 | @cons n c c' a d e hd=>exact .inr (.inr ⟨a,d,rfl,uo e (by omega),uo hd (by omega)⟩)
theorem an1(a:b5 r.num<=100)(d:b5 r.den<=100):dL (eK r):=uo (n:=0) (.leaf (.inr ⟨r,rfl,a,d⟩)) (by omega)
theorem Rg(h:o∈jZ):dL o:=uo (n:=0) (.leaf (.inl h)) (by omega)
theorem abM(h:o∈jZ):(∃d c1 e g,o=iD d c1 e g)\/∃a c,o=pM a c:=by simp only[jZ,e9,iV,iU]at h;rcases h with h|h|h|h|h|h|h|h;exact .inl ⟨_,_,_,_,h⟩;exact .inl ⟨_,_,_,_,h⟩;exact .inl ⟨_,_,_,_,h⟩;exact .inl ⟨_,_,_,_,h⟩;exact .inl ⟨_,_,_,_,h⟩;exact .inr ⟨_,_,h⟩;exact .inr ⟨_,_,h⟩;exact .inr ⟨_,_,h⟩
theorem AK{c d:Int}{l m:az}(h:c≠d)(a: -1000<c:=by omega)(hd: -1000<d:=by omega):aA c::l≠aA d::m:=λe=>h (pe (List.cons.inj e).1 a hd)
theorem dL.kind(h:dL o):∃k g c1 i j l p q t w x e,1<=k/\k<=4/\l4 o k g c1 i j l p q t w x e/\((k=1/\∃r:Rat,o=eK r/\b5 r.num<=100/\b5 r.den<=100)\/(k≠1/\dY o=0))/\((k=4/\∃a d,o=il a d/\dL a/\dL d/\e= .aN 7 [a,d])\/(k≠4/\e= .ba)):=by rcases h.cases with h|⟨r,rfl,y,z⟩|⟨a,d,rfl,A,hd⟩;rcases abM h with⟨g,c1,i,j,rfl⟩|⟨a,c,rfl⟩;exact⟨2,_,_,_,_,_,_,_,_,_,_,_,by omega,by omega,⟨rfl,rfl⟩,.inr ⟨by omega,Mr λr=>AK (by omega)⟩,.inr ⟨by omega,rfl⟩⟩;exact⟨3,_,_,_,_,_,_,_,_,_,_,_,by omega,by omega,⟨rfl,rfl⟩,.inr ⟨by omega,Mr λr=>AK (by omega)⟩,.inr ⟨by omega,rfl⟩⟩;exact⟨1,_,_,_,_,_,_,_,_,_,_,_,by omega,by omega,⟨rfl,rfl⟩,.inl ⟨rfl,r,rfl,y,z⟩,.inr ⟨by omega,rfl⟩⟩;exact⟨4,_,_,_,_,_,_,_,_,_,_,_,by omega,by omega,ug,.inr ⟨by omega,Mr λr=>AK (by omega)⟩,.inl ⟨rfl,a,d,rfl,A,hd,rfl⟩⟩
end
end
section
variable{o x y:az}
def gW(x:Bool):az:=bif x then iD 4 0x6c697370 1 0x74 else iD 4 0x6c697370 3 0x6e696c
section
variable[Tok] {u:Fn}{b:Nat}
theorem uV(h:dL o):b5 (dY o).num<=100/\b5 (dY o).den<=100:=by obtain⟨k,d,c1,e,g,i,j,l,n,p,q,t,w,z,A,⟨-,r,rfl,a,c⟩|⟨-,a⟩,B⟩:=h.kind;rw[Ms];exact⟨a,c⟩;rw[a];exact⟨pg _,by decide⟩
theorem oY(r:Rat):(eK r).length=7:=rfl
theorem nV(r:Rat):cg (eK r)=true:=Ac _ _
theorem akb(h:dL o)(H:bf u 72 [aA 0] (.agg (eK 0))):∃s d,zn u [.agg o] 0 .nil= .ok (.agg (eK (dY o))) 0 s d:=by obtain⟨e,g⟩:=h.v;obtain⟨k,i,c1,j,l,n,p,q,t,w,z,A,B,C,c,⟨rfl,r,rfl,a,D⟩|⟨E,a⟩,F⟩:=h.kind;rw[Ms];exact aka;have dB:=c.dB;have G:=oY 0;have np:=nV 0;rw[a,zn,jp];rw[OH,b3,cF,OG,bn,aH,av,aL,b8,cd,bA,bc,b7,a0,cM,Mk,eU,aU,bJ,a6,aq];exact b6
theorem zM(r:Rat):(eK r)[0+1]? =some (dQ r.num):=rfl
theorem zN(r:Rat):(eK r)[0+2]? =some (dQ r.den):=rfl
theorem akv(N:yX u){r s:Rat}(H:∀r:Rat,bf u 319 [.agg (eK r)] (aA 1))(a:b5 r.num<=100/\b5 r.den<=100)(c:b5 s.num<=100/\b5 s.den<=100):∃t d,Fr u [.agg (eK r),.agg (eK s)] 0 .nil= .ok (aA (iC (r.num*s.den) (s.num*r.den))) 0 t d:=by have ll:=N.mul r.num s.den (by omega) (by omega);have e:=N.mul s.num r.den (by omega) (by omega);have br:=q1 a.1 c.2;have dM:=q1 c.1 a.2;have g:=N.alR (r.num*s.den) (s.num*r.den) (by omega) (by omega);have h:=oY r;have i:=nV r;have j:=oY s;have k:=nV s;have l:=zM r;have n:=zN r;have p:=zM s;have q:=zN s;have w:=H r;have A:=H s;generalize eK r=x at*;generalize eK s=y at*;have B:=λ(z:Int)=>kB z;rw[Fr,ep];rw[W6,b3,b3,aS,bO,aP,av,aU,W5,be,aP,a6,aq,a0,aS,bO,aP,av,aU,be,aP,a6,aq,a0,eL,bA,bc,W4,av,aU,bE,a6,aq,a0,b8,cd,bM,bw,W3,aH,aS,bO,aP,av,aL,aH,W9,aS,bO,aP,av,aL,be (kB _ _ _),be (kB _ _ _),aP,fx,fx,aq,aq,a0,aH,aS,bO,aP,av,aL,aH,W8,aS,bO,aP,av,aL,be (kB _ _ _),be (kB _ _ _),aP,fx,fx,aq,aq,a0,be (kB _ _ _),be (kB _ _ _),aP,fx,fx,aq,aq,a0,wb,bJ,ei,aq];exact b6
theorem aj8(N:yX u)(a:dL x)(g:dL y)(F:∀o,dL o->bf u 212 [.agg o] (.agg (eK (dY o))))(C:∀r s:Rat,b5 r.num<=100/\b5 r.den<=100->b5 s.num<=100/\b5 s.den<=100->bf u 273 [.agg (eK r),.agg (eK s)] (aA (iC (r.num*s.den) (s.num*r.den)))):∃t d,E8 u [.agg x,.agg y] 0 .nil= .ok (.U (decide (dY x<dY y))) 0 t d:=by
 obtain⟨h,i⟩:=a.v;obtain⟨j,k⟩:=g.v;have f1:=F x a;have f2:=F y g;have c:=C _ _ (uV a) (uV g);have e:decide (dY x<dY y)=decide (iC ((dY x).num*(dY y).den) ((dY y).num*(dY x).den)<0):=by apply sw.2;rw[Rat.lt_iff];unfold iC;split<;>(try split)<;>omega
 have l:=avO ((dY x).num*(dY y).den) ((dY y).num*(dY x).den);rw[e];have n:=nV (dY x);have p:=nV (dY y);generalize iC ((dY x).num*(dY y).den) ((dY y).num*(dY x).den)=z at*;rw[E8,ep];rw[Wz,b3,b3,aS,bO,aP,av,aU,be,aP,a6,aq,a0,Wy,aS,bO,aP,av,aU,be,aP,a6,aq,a0,be,be,aP,a6,a6,aq,aq,a0,b7,cz,adw,bJ,dh,aq];exact b6
def IP(u:Fn):Prop:=∀(p:Int) (q:Nat),q≠0->b5 p<=700->b5 q<=700->bf u 73 [dQ p,dQ q] (.agg (eK (mkRat p q)))
def D7(u:Fn):Prop:=∀o,dL o->bf u 212 [.agg o] (.agg (eK (dY o)))
theorem aku(N:yX u)(R:IP u)(F:D7 u)(e:dL x)(g:dL y):∃t d,E6 u [.agg x,.agg y] 0 .nil= .ok (.agg (eK (dY x+dY y))) 0 t d:=by obtain⟨q,w⟩:=e.v;obtain⟨z,A⟩:=g.v;have f1:=F x e;have f2:=F y g;obtain⟨j,h⟩:=uV e;obtain⟨k,i⟩:=uV g;have l:=(dY x).den_nz;have n:=(dY y).den_nz;rw[Rat.add_def'];generalize dY x=r at*;generalize dY y=s at*;have ll:=N.mul r.num s.den (by omega) (by omega);have B:=N.mul s.num r.den (by omega) (by omega);have p:=N.mul r.den s.den (by omega) (by omega);have br:=q1 j i;have dM:=q1 k h;have eB:=q1 h i;have ku:=acu br dM;have C:=N.add (r.num*s.den) (s.num*r.den) (by omega) (by omega);rw[<-wy]at p eB;have c:=R (r.num*s.den+s.num*r.den) (r.den*s.den) (Nat.mul_ne_zero l n) (by omega) (by omega);have D:=oY (mkRat (r.num*s.den+s.num*r.den) (r.den*s.den));have E:=nV (mkRat (r.num*s.den+s.num*r.den) (r.den*s.den));have G:=oY r;have H:=nV r;have I:=oY s;have J:=nV s;have K:=zM r;have L:=zN r;have M:=zM s;have O:=zN s;generalize eK (mkRat (r.num*s.den+s.num*r.den) (r.den*s.den))=o at*;generalize eK r=a at*;generalize eK s=c at*;rw[E6,ep];rw[Ws,b3,b3,cF,aS,bO,aP,av,aU,be,aP,a6,aq,a0,Wr,aS,bO,aP,av,aU,be,aP,a6,aq,a0,hL,hL,bO,aP,eS,bO,aP,eS,Wq,aH,aS,bO,aP,av,aL,aH,aS,bO,aP,av,aL,be (kB _ _ _),be (kB _ _ _),aP,fx,fx,aq,aq,a0,Wp,aH,aS,bO,aP,av,aL,aH,aS,bO,aP,av,aL,be (kB _ _ _),be (kB _ _ _),aP,fx,fx,aq,aq,a0,Wo,be (kB _ _ _),be (kB _ _ _),aP,fx,fx,aq,aq,a0,aH,aS,bO,aP,av,aL,aH,aS,bO,aP,av,aL,Wn,be (kB _ _ _),be (kB _ _ _),aP,fx,fx,aq,aq,a0,be (kB _ _ _),be (kB _ _ _),aP,fx,fx,aq,aq,a0,bO,aP,eS,adu,eU,aU,bJ,a6,aq];exact b6
theorem aj7(N:yX u)(R:IP u)(F:D7 u)(e:dL x)(g:dL y):∃t d,E7 u [.agg x,.agg y] 0 .nil= .ok (.agg (eK (dY x*dY y))) 0 t d:=by obtain⟨q,w⟩:=e.v;obtain⟨z,A⟩:=g.v;have f1:=F x e;have f2:=F y g;obtain⟨h,i⟩:=uV e;obtain⟨j,k⟩:=uV g;have l:=(dY x).den_nz;have n:=(dY y).den_nz;rw[Rat.mul_def'];generalize dY x=r at*;generalize dY y=s at*;have ll:=N.mul r.num s.num (by omega) (by omega);have p:=N.mul r.den s.den (by omega) (by omega);have br:=q1 h j;have eB:=q1 i k;rw[<-wy]at p eB;have c:=R (r.num*s.num) (r.den*s.den) (Nat.mul_ne_zero l n) (by omega) (by omega);have B:=oY (mkRat (r.num*s.num) (r.den*s.den));have C:=nV (mkRat (r.num*s.num) (r.den*s.den));have D:=oY r;have E:=nV r;have G:=oY s;have H:=nV s;have I:=zM r;have J:=zN r;have K:=zM s;have L:=zN s;generalize eK (mkRat (r.num*s.num) (r.den*s.den))=o at*;generalize eK r=a at*;generalize eK s=c at*;rw[E7,ep];rw[Wx,b3,b3,cF,aS,bO,aP,av,aU,Ww,be,aP,a6,aq,a0,aS,bO,aP,av,aU,be,aP,a6,aq,a0,hL,hL,Wv,bO,aP,eS,bO,aP,eS,aH,aS,bO,aP,av,aL,aH,aS,bO,aP,av,aL,Wu,be (kB _ _ _),be (kB _ _ _),aP,fx,fx,aq,aq,a0,aH,aS,bO,aP,av,aL,aH,aS,bO,aP,av,aL,Wt,be (kB _ _ _),be (kB _ _ _),aP,fx,fx,aq,aq,a0,be (kB _ _ _),be (kB _ _ _),aP,fx,fx,aq,aq,a0,bO,aP,eS,adv,eU,aU,bJ,a6,aq];exact b6
theorem alb(N:yX u)(R:IP u)(F:D7 u)(g:dL x):∃t d,E4 u [.agg x] 0 .nil= .ok (.agg (eK (-dY x))) 0 t d:=by
 obtain⟨i,j⟩:=g.v;have f1:=F x g;obtain⟨k,l⟩:=uV g;have h:=(dY x).den_nz;have e: -dY x=mkRat (-(dY x).num) (dY x).den:=by have:=Rat.mkRat_self (-dY x);rw[<-this];rfl
 rw[e];generalize dY x=r at*;have ll:=N.neg r.num (by omega);have br:b5 (-r.num)<=100:=by rw[Sg] at*;omega
 have c:=R (-r.num) r.den h (by omega) (by omega);have n:=oY (mkRat (-r.num) r.den);have p:=nV (mkRat (-r.num) r.den);have q:=oY r;have w:=nV r;have z:=zM r;have A:=zN r;generalize eK (mkRat (-r.num) r.den)=o at*;generalize eK r=a at*;rw[E4,jp];rw[Wk,b3,cF,av,aU,bE,a6,aq,a0,cF,cM,aH,aS,bO,aP,av,aL,Wj,be (kB _ _ _),aP,fx,aq,a0,aH,aS,bO,aP,av,aL,be (kB _ _ _),be (kB _ _ _),aP,fx,fx,aq,aq,a0,bO,aP,eS,ads,eU,aU,bJ,a6,aq];exact b6
end
end
end Go.Hf

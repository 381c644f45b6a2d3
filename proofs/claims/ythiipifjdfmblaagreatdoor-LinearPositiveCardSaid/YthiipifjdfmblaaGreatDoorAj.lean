import Derived.Test.YthiipifjdfmblaaGreatDoorProg
import Derived.Test.YthiipifjdfmblaaGreatDoorAi
set_option linter.all false
set_option maxRecDepth 100000
namespace Go.Hf
open Go.RowKit
section
open Go.Proofs
def L2(c:Nat):List Nat:=if Nat.beq c 9999 then[4096,4098] else[c]
def U8:List Nat->List (Nat×List Nat)
 |[]=>[]
 |x::r=>match U8 r with
  |[]=>[(x/10000,L2 (x%10000))]
  |(t,cs)::q=>if Nat.beq t (x/10000) then(t,L2 (x%10000)++cs)::q else(x/10000,L2 (x%10000))::(t,cs)::q
def L3:Nat->List Nat->List (Option (List Nat))
 |n+1,0::r=>none::L3 n r
 |n+1,(k+1)::r=>some (r.take k)::L3 n (r.drop k)
 |_,_=>[]
def GZ(b:Nat):Nat->Nat->List Nat
 |0,_=>[]
 |k+1,n=>bif Nat.beq n 1 then[] else bif Nat.beq (n%b) (b-1) then(n/b% (b*b))::GZ b k (n/(b*b*b)) else(n%b)::GZ b k (n/b)
def QE:Nat->List Nat->List Nat
 |s,d::c::r=>((s+d)*10000+bif Nat.beq c 0 then 9999 else c-1)::QE (s+d) r
 |_,_=>[]
noncomputable def bz(f:Nat)(fn:Func)(a:Nat)(b:List kL)(p l:List Nat)(c:List Nat:=[])(as8:List Bool:=[]):Cu:=⟨f,fn,⟨c,at9,[],U8 p,[]⟩,a,b,as8,L3 l.length l⟩
noncomputable def dN(f:Nat)(fn:Func)(a:Nat)(b:List kL)(p l:Nat)(c:List Nat:=[])(as8:List Bool:=[]):Cu:=bz f fn a b (QE 0 (GZ 128 999 p)) (GZ 32 999 l) c as8
theorem FT:Tryz.prog.follows .mixedOrders=true:=by kernel_rfl
abbrev bv [Tok] (gl:eI) (f:Nat) (g:jq):=i5 gl Tryz.prog f g
theorem bw[Tok]{gl:eI}(d:Cu){g:jq}(a:Tryz.prog.funcs[d.f]? =some d.fn)(b:g=d.den Tryz.prog:=by kernel_rfl)(c:d.fn.body.isSome=true:=by kernel_rfl)
 (e:(d.fn.name== "runtime.NumGoroutine")=false:=by kernel_rfl)(h:Nat.ble d.ns d.fn.ntmps=true:=by kernel_rfl)(i:rt Tryz.prog d.fn.results.toList=some d.g3:=by kernel_rfl):i5 gl Tryz.prog d.f g:=
 alO d FT a c e h i b
end
section
variable{a b:Int} {c d e:an} {α:Type} {n q s sz i:Nat} {cs:aB} {ob:ej} {es:aY} {r:Bool}
section
variable[Tok]
theorem akc{x:aw}:bV [] x=x:=rfl
theorem dK{f:an->aw}{a:an}:aZ [a] (λc l=>bV l (f c))=f a:=rfl
theorem dE{f:an->an->aw}{a:an}:aZ [a,c] (λc l=>aZ l λd l=>bV l (f c d))=f a c:=rfl
theorem vE{f:an->an->an->aw}{a:an}:aZ [a,c,d] (λc l=>aZ l λd l=>aZ l λe l=>bV l (f c d e))=f a c d:=rfl
theorem GH{f:an->an->an->an->aw}{a:an}:aZ [a,c,d,e] (λc l=>aZ l λd l=>aZ l λe l=>aZ l λg l=>bV l (f c d e g))=f a c d e:=rfl
theorem Ok{f:an->an->an->an->an->aw}{a g:an}:aZ [a,c,d,e,g] (λc l=>aZ l λd l=>aZ l λe l=>aZ l λg l=>aZ l λi l=>bV l (f c d e g i))=f a c d e g:=rfl
theorem jL{α:Sort _}{a b:α}(h:a=b):a=b:=h
@[irreducible] def ao (c:Int):an:= .V .i64 (c+18446744073709551616).toNat
theorem cX(c:Int):ao c= .V .i64 (c+18446744073709551616).toNat:=by unfold ao;rfl
theorem ek(a b:Nat):Nat.ble a b=decide (a<=b):=by rw[gK,hZ,fo]
theorem K6(a b:Nat):Nat.beq a b=decide (a=b):=by rw[gK,IY,fo]
theorem cM(a b:aw):bf true a b=a:=jL rfl
theorem Kh(a b:aw):bf false a b=b:=jL rfl
theorem bL(a b:aw):aP (.a9 true) a b=a:=jL rfl
theorem a6(a b:aw):aP (.a9 false) a b=b:=jL rfl
theorem gB(x:α)(f:α->aw):bC x f=f x:=jL rfl
theorem wg(q:IntKind)(a:Nat)(f:IntKind->Nat->aw):jR (.V q a) f=f q a:=rfl
theorem Kk(q:IntKind)(a:Nat)(f:IntKind->Nat->aw)(g:Nat->Nat->aw):vd (.V q a) f g=f q a:=rfl
theorem Cp:lQ .i64 .i64=true:=rfl
theorem HI(f:Nat->Nat->Bool)(g:Nat->Nat->Nat->Nat->Bool)(a b:Nat)(k:an->aw):vK f g (.V .i64 a) (.V .i64 b) k=k (.a9 (f a b)):=by unfold vK;rw[Kk,wg,Cp,cM]
theorem bO(g: -18446744073709551616<=a:=by omega)(h: -18446744073709551616<=b:=by omega)(k:an->aw):cm (ao a) (ao b) k=k (.a9 (decide (a<b))):=by unfold cm;rw[cX,cX,HI,ek];congr 2;exact L9.2 (by omega)
theorem hH(g: -18446744073709551616<=a:=by omega)(h: -18446744073709551616<=b:=by omega)(k:an->aw):fw (ao a) (ao b) k=k (.a9 (decide (b<a))):=by unfold fw;rw[cX,cX,HI,ek];congr 2;exact L9.2 (by omega)
theorem ix(g: -18446744073709551616<=a:=by omega)(h: -18446744073709551616<=b:=by omega)(k:an->aw):il (ao a) (ao b) k=k (.a9 (decide (b<=a))):=by unfold il;rw[cX,cX,HI,ek];congr 2;exact L9.2 (by omega)
theorem qd(g: -18446744073709551616<=a:=by omega)(h: -18446744073709551616<=b:=by omega)(k:an->aw):kt (ao a) (ao b) k=k (.a9 (decide (a<=b))):=by unfold kt;rw[cX,cX,HI,ek];congr 2;exact L9.2 (by omega)
theorem dj(g: -18446744073709551616<=a:=by omega)(h: -18446744073709551616<=b:=by omega)(k:an->aw):bY (ao a) (ao b) k=k (.a9 (decide (a=b))):=by unfold bY;rw[cX,cX,Kk,wg,Cp,cM,K6];congr 2;exact L9.2 (by omega)
theorem Bn{c:Int}(g: -9223372036854775808<=c)(h:c<9223372036854775808):qX .i64 (c+18446744073709551616).toNat=true:=by rw[zZ];simp only[lr,u1,wC,Hi,hZ];constructor<;>omega
theorem cK(j: -18446744073709551616<=a:=by omega)(l: -18446744073709551616<=b:=by omega)(g: -9223372036854775808<=a+b:=by omega)(h:a+b<9223372036854775808:=by omega)(k:an->aw):bR (ao a) (ao b) k=k (ao (a+b)):=by
 unfold bR;rw[cX,cX,Kk,wg,Cp,cM,fd];have e:Nat.sub (Nat.add (a+18446744073709551616).toNat (b+18446744073709551616).toNat) 18446744073709551616=(a+b+18446744073709551616).toNat:=by rw[cY,Ct];omega
 rw[e,Bn g h,cM,cX]
theorem e1(j: -18446744073709551616<=a:=by omega)(l: -18446744073709551616<=b:=by omega)(g: -9223372036854775808<=a-b:=by omega)(h:a-b<9223372036854775808:=by omega)(k:an->aw):cP (ao a) (ao b) k=k (ao (a-b)):=by
 unfold cP;rw[cX,cX,wg,wg,Cp,cM,fd,ek];have e:Nat.sub (Nat.add (a+18446744073709551616).toNat 18446744073709551616) (b+18446744073709551616).toNat=(a-b+18446744073709551616).toNat:=by rw[cY,Ct];omega
 rw[e,Bn g h,cM,cX,pl (by rw[Ct];omega),cM]
theorem fi(f g:aw):b0 (.a9 true) true f g=f:=jL rfl
theorem iE(f g:aw):b0 (.a9 false) true f g=g:=jL rfl
theorem lL(f g:aw):b0 (.a9 true) false f g=g:=jL rfl
theorem fZ(f g:aw):b0 (.a9 false) false f g=f:=jL rfl
theorem dR(a b:an)(k:an->aw):bX (.a9 true) a b k=k a:=jL rfl
theorem dO(a b:an)(k:an->aw):bX (.a9 false) a b k=k b:=jL rfl
theorem hj(a:Bool)(k:an->aw):ni (.a9 a) k=k (.a9 (!a)):=by cases a<;>rfl
theorem aN(b:Nat)(rk:List Nat)(a:aw):met b rk [] a=a:=jL rfl
theorem aV{b:Nat}{rk:List Nat}{x:an}(h:jP b rk x=true:=by first|exact(kd ‹_›)|exact(yr _ _ _)|exact(asD _ _ _ _)|exact(aCL _ _ _ _)|exact(aAV _ _ _))(xs:aB)(a:aw):met b rk (x::xs) a=met b rk xs a:=by have e:met b rk (x::xs) a=bf (jP b rk x) (met b rk xs a) .ax:=rfl;rw[e,h,cM]
theorem yr(b:Nat)(rk:List Nat)(c:Int):jP b rk (ao c)=true:=by rw[cX];rfl
theorem aEh(b:Nat)(rk:List Nat)(q s o l:Nat):jP b rk (.az q s o l)=eb rk (iD b q):=rfl
theorem aoz(b:Nat)(rk:List Nat)(q s i o:Nat):jP b rk (.dH q s i o)=eb rk (iD b q):=rfl
theorem apR(b:Nat)(rk:List Nat)(q s o:Nat):jP b rk (.bn q s o)=eb rk (iD b q):=rfl
theorem aCL(b:Nat)(rk:List Nat)(sz:Nat)(es:aY):jP b rk (.aQ sz es)=true:=rfl
theorem asD(b:Nat)(rk:List Nat)(cs:aB)(o:Nat):jP b rk (.ep cs o)=true:=rfl
theorem ajQ(b:Nat)(rk:List Nat):jP b rk .aE=true:=rfl
theorem EW{l:List α}{x:α}(h:l[n]? =some x)(f:α->aw):wr n l f=f x:=by unfold wr;rw[tB];obtain⟨g,rfl⟩:=e6.1 h;rw[iK g];rfl
theorem qC(s e sz:Nat)(es:aY)(r:Bool)(f:Nat->Nat->Nat->aY->Bool->aw):jQ (.az s e sz es r) f=f s e sz es r:=jL rfl
theorem be(h:cs.length=n:=by first|assumption|rfl)(k:an->aw):kJ true n cs 0 k=k (.agg cs):=by subst h;have e:kJ true cs.length cs 0 k=bf (cS (Nat.beq 0 0) (Nat.beq cs.length (ea cs))) (k (.agg cs)) (bf (Nat.ble (Nat.add 0 cs.length) (ea cs)) (k (.agg (sP cs.length (lK 0 cs)))) .ax):=rfl;rw[e,jg,gr,wT,wT];rfl
theorem zE{e:Nat}(h:ob q= .az s e sz es r)(hi:es[i]? =some cs)(g:cs.length=n)(k:an->aw):
 aW ob true n (.dH q s i 0) k=k (.agg cs):=by
 have j:aW ob true n (.dH q s i 0) k=jQ (ob q) λl _ _ es _=>bf (Nat.beq s l) (wr i es λcs=>kJ true n cs 0 k) .ax:=rfl;rw[j,h,qC,wT,cM,EW hi,be g]
theorem gu{e len:Nat}(h:ob q= .az s e sz es r:=by repeat first|assumption|with_reducible first|exact fE|exact i9|exact pi|exact vl|apply gS|refine gF ?_|refine gi ?_|refine ga ?_|refine l5 ?_|refine t ?_|refine u ?_|refine w ?_|refine x ?_|decide)(hi:i<len:=by omega)(k:an->aw):
 cb ob sz (.az q s 0 len) (ao i) k=k (.dH q s i 0):=by
 rw[cX];have g:cb ob sz (.az q s 0 len) (.V .i64 ((i:Int)+18446744073709551616).toNat) k=jQ (ob q) λl _ o _ _=>bf (Nat.beq s l) (bf (Nat.beq o sz) (bf (Nat.ble 18446744073709551616 ((i:Int)+18446744073709551616).toNat) (bf (Nat.blt (Nat.sub ((i:Int)+18446744073709551616).toNat 18446744073709551616) len)
  (eF (Nat.add 0 (Nat.sub ((i:Int)+18446744073709551616).toNat 18446744073709551616)) λj=>k (.dH q s j 0)) .ax) .ax) .ax) .ax:=rfl
 have p:Nat.sub ((i:Int)+18446744073709551616).toNat 18446744073709551616=i:=by rw[cY];omega
 rw[g,h,qC,wT,cM,wT,cM,p,ek,bN,cM,oW,pl hi,cM,fd,Ct,Fa]
theorem eE(hi:es[i]? =some cs:=by assumption)(k:an->aw):cb ob sz (.aQ sz es) (ao i) k=k (.ep cs 0):=by
 rw[cX];have g:cb ob sz (.aQ sz es) (.V .i64 ((i:Int)+18446744073709551616).toNat) k=bf (Nat.beq sz sz) (bf (Nat.ble 18446744073709551616 ((i:Int)+18446744073709551616).toNat) (wr (Nat.sub ((i:Int)+18446744073709551616).toNat 18446744073709551616) es λcs=>k (.ep cs 0)) .ax) .ax:=rfl;have h:Nat.sub ((i:Int)+18446744073709551616).toNat 18446744073709551616=i:=by rw[cY];omega
 rw[g,wT,cM,h,ek,bN,cM,EW hi]
end
end
section
variable{ob:ej} {cs new:aB} {q s e sz i n b:Nat} {es:aY} {wk:Option (List Nat)} {o:dM} {h:aI} {α:Type}
section
variable[Tok]
theorem Zu(h:b8 cs=true):l8 ob (.agg cs)=some (.agg cs):=by obtain⟨a,_⟩:=N8 (ob:=ob) h;simp only[l8,a]
theorem ab1(h:b8 cs=true):(an.agg cs).cR=[]:=by
 have d:∀cs:aB,b8 cs=true->cs.flatMap an.key=[]:=by
  intro cs;induction cs with
  |nil=>intro _;rfl
  |cons c r g=>
   intro h;have a:b8 r=true/\c.key=[]:=by cases c<;>first|exact⟨h,rfl⟩|exact absurd h (by intro h;cases h)
   rw[Ph,a.2,g a.1];rfl
 exact d cs h
theorem axH(h:new.length=cs.length):rI cs 0 new=new:=by simp[rI,h]
theorem amq(h:ob q= .az s e sz es true)(hi:es[i]? =some cs)(a:cs.length=n)(c:new.length=n)(d:b8 new=true):
 qh ob n (.dH q s i 0) (.agg new)=some (.undef,[(q,.az s e sz (es.set i new) true)]):=by
 have g:(an.agg new).cells=some new:=rfl;simp only[qh,h,Zu d,g,hi,wT,c,a,Ct,Fa,ab1 d,List.isEmpty_nil,Bool.and_true,gy];rw[ek,pl (sm n),lR,axH (by rw[c,a])]
theorem zm{v:an}(a:gO b wk [(q,o)]=true)(c:q<h.bh)(k:dg):i3 b wk (some (v,[(q,o)])) h k=k v (h.eW b q (.ae o)):=by have d:i3 b wk (some (v,[(q,o)])) h k=bf (gO b wk [(q,o)]) (bf (Nat.ble (Nat.succ q) h.bh) (k v (h.eW b q (.ae o))) .ax) .ax:=rfl;rw[d,a,cM,ek,pl (nM c),cM]
theorem U3(a:h.aj q= .az s e sz es true)(hi:es[i]? =some cs)(c:cs.length=n)(d:new.length=n)(g:b8 new=true)
 (j:gO b wk [(q,.az s e sz (es.set i new) true)]=true)(l:q<h.bh)(k:dg):
 aX b wk n (.dH q s i 0) (.agg new) h k=k .undef (h.eW b q (.ae (.az s e sz (es.set i new) true))):=by
 have p:aX b wk n (.dH q s i 0) (.agg new) h k=i3 b wk (qh h.aj n (.dH q s i 0) (.agg new)) h k:=rfl;rw[p,amq a hi c d g,zm j l]
theorem WW{l:List Nat}(h:eb l (iD b q)=true):gO b (some l) [(q,o)]=true:=by have e:gO b (some l) [(q,o)]=cS (eb l (iD b q)) true:=rfl;rw[e,h];rfl
theorem bm(h:b8 cs=true:=by first|assumption|rfl)(f:jm):aD ob (.agg cs) f=f (.agg cs) []:=by have e:aD ob (.agg cs) f=bf (b8 cs) (f (.agg cs) []) (k3 ob cs λa us=>f (.agg a) us):=rfl;rw[e,h,cM]
theorem av(l:List α):aA [] l=l:=by rw[mJ];rfl
theorem Pa(l:List α):aA l []=l:=by rw[mJ,fr]
theorem avz{u:Fn}{f:Nat}{wk:List Nat}{x y:aB}{r:an}(a:b8 x=true)(c:b8 y=true)
 (g:u f [.agg x,.agg y] h.bh h.au= .ok r h.bh h.au [])(k:dg):
 n6 u b [4097] wk (.bu (.func (.func f) #[] #[])) [.agg x,.agg y] [] h k=k r h:=by
 have j:n6 u b [4097] wk (.bu (.func (.func f) #[] #[])) [.agg x,.agg y] [] h k=
  aD h.aj (.agg x) λq e0=>aD h.aj (.agg y) λl p=>o7 u b [4097] wk [.agg x,.agg y] f (aA [q,l] []) (aA e0 (aA p [])) h k:=rfl
 rw[j,bm a,bm c];obtain⟨ub,s,d⟩:=h;have t:o7 u b [4097] wk [.agg x,.agg y] f (aA [.agg x,.agg y] []) (aA [] (aA [] [])) (aI.mk ub s d) k=
  xH b [4097] wk [] (aA [.agg x,.agg y] (aA [.agg x,.agg y] [])) ub s d k (u f [.agg x,.agg y] ub s):=rfl
 have w:u f [.agg x,.agg y] ub s= .ok r ub s []:=g;rw[t,w];have z:xH b [4097] wk [] (aA [.agg x,.agg y] (aA [.agg x,.agg y] [])) ub s d k (.ok r ub s [])=
  bf (Nat.ble ub ub) (bf true (bf (rn wk ub ub) (bf true (k r (.mk ub s d)) .ax) .ax) .ax) .ax:=rfl
 have A:rn wk ub ub=true:=by unfold rn;rw[Nat.beq_refl]
 rw[z,A,ek,pl (sm ub),cM,cM,cM,cM]
end
end
section
variable{b d q t n s off e sz i bytes:Nat} {S:List Nat} {h h':aI} {o:e9} {wk:Option (List Nat)} {cs new z:aB} {v x:an} {ob:ej} {isAgg r as0:Bool} {es arZ:aY}
section
variable[Tok]
structure eY (b:Nat) (S:List Nat) (h h':aI):Prop where
 bh:h'.bh=h.bh
 bQ:h'.bQ=h.bQ
 aj:∀k,(∀d∈S,k≠b+d)->h'.aj k=h.aj k
theorem eY.refl:eY b S h h:=⟨rfl,rfl,λ_ _=>rfl⟩
theorem eY.trans{b:Nat}{S:List Nat}{h h' a:aI}(x:eY b S h h')(y:eY b S h' a):eY b S h a:=
 ⟨y.bh.trans x.bh,y.bQ.trans x.bQ,λk c=>(y.aj k c).trans (x.aj k c)⟩
theorem eY.mono{a:List Nat}(x:eY b S h h')(c:∀d∈S,d∈a):eY b a h h':=⟨x.bh,x.bQ,λk g=>x.aj k λd hd=>g d (c d hd)⟩
theorem eY.eW(hd:b+d<h.bh):eY b [d] h (h.eW b (b+d) o):=by
 refine⟨aI.qv,?_,λk a=>?_⟩
 ·obtain⟨ub,s,dd⟩:=h;show @Bool.rec (λ_=>List Nat) dd ((b+d)::dd) (Nat.blt (b+d) b)=dd;rw[oW,bk]
 ·rw[aI.tS hd];have:=a d (by simp);simp[Go.Hf.dl,this]
theorem kB(a:q<h.bh):(h.eW b q o).aj q=o.ag:=by rw[aI.tS a];simp[Go.Hf.dl]
theorem td(a:gO b wk [(q,o.ag)]=true)(c:q<h.bh)(k:aI->aw):ky b wk q o h k=k (h.eW b q o):=by unfold ky;rw[a,cM,ek,pl (nM c),cM]
theorem gs(b:Nat)(us:eH):gO b none us=true:=rfl
theorem Sd(hd:d<4096):iD b (b+d)=d:=by rw[wb];unfold fl;rw[if_pos ⟨by omega,by omega⟩];omega
theorem mN{o:dM}{l:List Nat}(hd:d<4096)(h:eb l d=true):gO b (some l) [(b+d,o)]=true:=WW (by rw[Sd hd];exact h)
theorem C7(a:∀o,gO b wk [(b+d,o)]=true)(hd:b+d<h.bh):∃s h',eY b [d] h h'/\h'.aj (b+d)= .box s cs/\∀k:dg,ci t b d wk cs h k=k (.bn (b+d) s 0) h':=by refine⟨jG (iH (h.aj (b+d))) t,_,eY.eW (o:= .ae (.box (jG (iH (h.aj (b+d))) t) cs)) hd,kB hd,λk=>?_⟩;have e:ci t b d wk cs h k=eF (b+d) λq=>eF (jG (iH (h.aj q)) t) λs=>ky b wk q (.ae (.box s cs)) h λh'=>k (.bn q s 0) h':=rfl;rw[e,fd,fd,td (a _) hd]
theorem Qc(a:∀o,gO b wk [(b+d,o)]=true)(hd:b+d<h.bh):∃s h',eY b [d] h h'/\h'.aj (b+d)= .box s cs/\∀k:dg,ip t b d wk (.agg cs) h k=k (.bn (b+d) s 0) h':=by obtain⟨s,h',c,g,j⟩:=C7 (t:=t) (cs:=cs) a hd;refine⟨s,h',c,g,λk=>?_⟩;have e:ip t b d wk (.agg cs) h k=lG cs λcs=>ci t b d wk cs h k:=rfl;rw[e,lu,j]
theorem tD(c:h.aj q= .box s cs)(a:new.length=n)(g:off+n<=cs.length)(j:∀o,gO b wk [(q,o)]=true)(l:q<h.bh)(k:dg):
 aX b wk n (.bn q s off) (.agg new) h k=k .undef (h.eW b q (.ae (.box s (cs.take off++new++cs.drop (off+n))))):=by
 have e:aX b wk n (.bn q s off) (.agg new) h k=nA (h.aj q) λp cs=>bf (Nat.beq s p) (bf (Nat.beq (ea new) n) (bf (Nat.ble (Nat.add off n) (ea cs)) (lG (ug off cs new) λasq=>ky b wk q (.ae (.box s asq)) h λh'=>k .undef h') .ax) .ax) .ax:=rfl;have u:∀f:Nat->aB->aw,nA (.box s cs) f=f s cs:=λ_=>rfl;rw[e,c,u,wT,cM,gr,a,wT,cM,gr,ek,pl (by rw[Ct];exact g),cM,lu,Ah,a,td (j _) l]
theorem e8(h:off+n<=cs.length)(k:an->aw):kJ true n cs off k=k (.agg ((cs.drop off).take n)):=by
 have e:kJ true n cs off k=bf (cS (Nat.beq off 0) (Nat.beq n (ea cs))) (k (.agg cs)) (bf (Nat.ble (Nat.add off n) (ea cs)) (k (.agg (sP n (lK off cs)))) .ax):=rfl;rw[e,jg,gr];cases a:(Nat.beq off 0&&Nat.beq n cs.length) with
 |true=>simp only[Hi,IY] at a;obtain⟨rfl,rfl⟩:=a;rw[cM];simp
 |false=>rw[Kh,ek,pl (by rw[Ct];exact h),cM,Jn,tB]
theorem bc(h:cs[off]? =some v:=by first|assumption|exact rfl)(k:an->aw):kJ false n cs off k=k v:=EW h k
theorem acZ(s:Nat)(cs:aB)(f:Nat->aB->aw):nA (.box s cs) f=f s cs:=jL rfl
theorem aH(a:ob q= .box s cs:=by repeat first|assumption|with_reducible first|exact fE|exact i9|exact pi|exact vl|apply gS|refine gF ?_|refine gi ?_|refine ga ?_|refine l5 ?_|refine g ?_|refine j ?_|refine l ?_|refine p ?_|decide)(k:an->aw):aW ob isAgg n (.bn q s off) k=kJ isAgg n cs off k:=by have e:aW ob isAgg n (.bn q s off) k=nA (ob q) λc cs=>bf (Nat.beq s c) (kJ isAgg n cs off k) .ax:=rfl;rw[e,a,acZ,wT,cM]
theorem ch(ob:ej)(isAgg:Bool)(n off:Nat)(cs:aB)(k:an->aw):aW ob isAgg n (.ep cs off) k=kJ isAgg n cs off k:=jL rfl
theorem hg(h:ob q= .az s e sz es r:=by repeat first|assumption|with_reducible first|exact fE|exact i9|exact pi|exact vl|apply gS|refine gF ?_|refine gi ?_|refine ga ?_|refine l5 ?_|refine g ?_|refine j ?_|refine l ?_|refine p ?_|decide)(hi:es[i]? =some cs:=by assumption)(k:an->aw):
 aW ob isAgg n (.dH q s i off) k=kJ isAgg n cs off k:=by
 have a:aW ob isAgg n (.dH q s i off) k=jQ (ob q) λc _ _ es _=>bf (Nat.beq s c) (wr i es λcs=>kJ isAgg n cs off k) .ax:=rfl;rw[a,h,qC,wT,cM,EW hi]
theorem bb(o q s off:Nat)(k:an->aw):bt o (.bn q s off) k=k (.bn q s (off+o)):=jL rfl
theorem hP(o q s i off:Nat)(k:an->aw):bt o (.dH q s i off) k=k (.dH q s i (off+o)):=jL rfl
theorem ko(o off:Nat)(cs:aB)(k:an->aw):bt o (.ep cs off) k=k (.ep cs (off+o)):=jL rfl
theorem ayM(g:h.aj q= .az s e sz es true)(hi:es[i]? =some cs)(j:off+n<=cs.length)(a:new.length=n)(c:b8 new=true)
 (l:∀o,gO b wk [(q,o)]=true)(p:q<h.bh)(k:dg):
 aX b wk n (.dH q s i off) (.agg new) h k=k .undef (h.eW b q (.ae (.az s e sz (es.set i (cs.take off++new++cs.drop (off+n))) true))):=by
 have u:aX b wk n (.dH q s i off) (.agg new) h k=i3 b wk (qh h.aj n (.dH q s i off) (.agg new)) h k:=rfl;have w:qh h.aj n (.dH q s i off) (.agg new)=some (.undef,[(q,.az s e sz (es.set i (cs.take off++new++cs.drop (off+n))) true)]):=by have y:(an.agg new).cells=some new:=rfl;simp only[qh,g,Zu c,y,hi,wT,a,Ct,ab1 c,List.isEmpty_nil,Bool.and_true,gy];rw[ek,pl j,lR];simp only[rI,a]
 rw[u,w,zm (l _) p]
def aK(u:Fn)(f:Nat)(a:aB)(r:an):Prop:=∃atf d,u f a 0 .nil= .ok r 0 atf d
theorem aT{u:Fn}{f:Nat}{a:aB}{r:an}(H:aK u f a r:=by assumption)(h:aI)(k:dg):bH u b wk f a [] h k=k r h:=by obtain⟨atf,d,e⟩:=H;have c:bH u b wk f a [] h k=bf (gO b wk []) (EN b [] h k (u f a 0 .nil)) .ax:=rfl;have g:EN b [] h k (.ok r 0 atf d)=k r h:=rfl;rw[c,WX,cM,e,g]
theorem CG{vs:aB}(h:vs[i]? =some v)(a:∀r,vs≠ .undef::r)(c:vs≠[])(k:an->aw):bS (.a0 vs) i k=k v:=by
 have e:bS (.a0 vs) i k=Jx vs (wr i vs k):=rfl;rw[e,EW h];cases vs with
 |nil=>exact absurd rfl c
 |cons y r=>cases y<;>first|rfl|exact absurd rfl (a r)
theorem tZ{x:aB}(a:x.length=n)(c:off+n<=cs.length:=by simp)(f:aB->aw):cC off n (.agg x) cs f=f (cs.take off++x++cs.drop (off+n)):=by have e:cC off n (.agg x) cs f=bf (Nat.beq (ea x) n) (bf (Nat.ble (Nat.add off n) (ea cs)) (f (ug off cs x)) .ax) .ax:=rfl;rw[e,gr,a,wT,cM,gr,ek,pl (by rw[Ct];exact c),cM,Ah,a]
theorem hL(cs:aB)(k:an->aw):eT cs k=k (.agg cs):=by unfold eT;rw[lu]
theorem By(cs:aB)(f:aB->aw):lp (.agg cs) f=f cs:=jL rfl
theorem hX{x:aB}(a:b8 x=true:=by assumption)(c:x.length=sz:=by assumption)(f:aY->eH->aw):cj ob sz 0 (.agg x) (cG 1 z) f=f [x] []:=by have e:cj ob sz 0 (.agg x) (cG 1 z) f=aD ob (.agg x) λq e0=>lp q λnew=>bf (Nat.beq (ea new) sz) (bf (Nat.blt 0 (ea (cG 1 z))) (f (tO (cG 1 z) 0 new) e0) .ax) .ax:=rfl;rw[e,bm a,By,gr,c,wT,cM];rfl
theorem K7{o:dM}(a:gO b wk [(q,o)]=true)(c:q<h.bh)(k:aI->aw):lk b wk [(q,o)] h k=k (h.eW b q (.ae o)):=by have e:lk b wk [(q,o)] h k=bf (gO b wk [(q,o)]) (bf (Nat.ble (Nat.succ q) h.bh) (k (h.eW b q (.ae o))) .ax) .ax:=rfl;rw[e,a,cM,ek,pl (nM c),cM]
theorem Bm{len:Nat}(a:∀o,gO b wk [(b+d,o)]=true)(hd:b+d<h.bh):
 ∃s h',eY b [d] h h'/\h'.aj (b+d)= .az s e sz es as0/\∀k:dg,c6 b d wk e sz len as0 es [] h k=k (.az (b+d) s 0 len) h':=by
 refine⟨Nat.add (iH (h.aj (b+d))) 1,_,eY.eW (o:= .ae (.az (Nat.add (iH (h.aj (b+d))) 1) e sz es as0)) hd,kB hd,λk=>?_⟩;have c:c6 b d wk e sz len as0 es [] h k=eF (b+d) λq=>eF (Nat.add (iH (h.aj q)) 1) λs=>lG es λes=>lk b wk [(q,.az s e sz es as0)] h λh'=>k (.az q s 0 len) h':=rfl;rw[c,fd,fd,lu,K7 (a _) hd]
theorem zj(es:aY):l3 es 0 es.length=es:=by rw[yk];simp[part]
def db(b d e sz:Nat)(as0:Bool)(h:aI)(x:an)(arZ:aY):Prop:=(x= .aE/\arZ=[])\/∃s,x= .az (b+d) s 0 arZ.length/\h.aj (b+d)= .az s e sz arZ as0
theorem db.jv(r:db b d e sz as0 h x arZ)(o:eY b S h h')(hd:d∉S):db b d e sz as0 h' x arZ:=by
 rcases r with r|⟨s,r1,a⟩
 ·exact .inl r
 ·refine .inr ⟨s,r1,?_⟩;rw[o.aj _ λc g=>?_]
  ·exact a
  ·intro e;have:c=d:=by omega
   exact hd (this▸g)
theorem NN(h:o.ag= .az s e sz es r)(f:Nat->Nat->Nat->aY->Bool->aw):wm o f=f s e sz es.reverse r:=by
 cases o with
 |ae o=>have h':o= .az s e sz es r:=h;subst h';show f s e sz (nx es) r=_;rw[qL]
 |kr a c g rs j=>have h':dM.az a c g (nx rs) j= .az s e sz es r:=h;simp only[dM.az.injEq] at h';obtain⟨rfl,rfl,rfl,rfl,rfl⟩:=h';rw[qL,o2];rfl
theorem Jb{y:an}{ys:aY}(r:db b d e sz as0 h x arZ)(p:∀f:aY->aw,ke h.aj sz y f=f ys)(B:ys≠[])
 (u:∀o,gO b wk [(b+d,o)]=true)(hd:b+d<h.bh)(a:(arZ.length+ys.length)*bytes<=1099511627776)(c:arZ.length+ys.length<=1099511627776):
 ∃s h',eY b [d] h h'/\h'.aj (b+d)= .az s e sz (arZ++ys) as0/\∀k:dg,eC b d wk e sz bytes x y as0 h k=k (.az (b+d) s 0 (arZ.length+ys.length)) h':=by
 have w:∀k:dg,eC b d wk e sz bytes x y as0 h k=ke h.aj sz y λys=>lG ys λys=>eF (ea ys) λn=>
  ty x
   (bf (Nat.ble (Nat.mul n bytes) 1099511627776) (bf (Nat.ble n 1099511627776)
    (@List.rec aB (λ_=>aw) (lk b wk [] h λh'=>k .aE h') (λ_ _ _=>eF (Nat.add b d) λq=>eF (Nat.add (iH (h.aj q)) 1) λaM=>nQ ys [] λrs=>ky b wk q (.kr aM e sz rs as0) h λh'=>k (.az q aM 0 n) h') ys) .ax) .ax)
   (λ_ _=> .ax)
   (λq aM off len=>bf (Nat.beq off 0) (wm (h.Bo q) λC D j rs r=>bf (Nat.beq aM C) (bf (Nat.beq D e) (bf (Nat.beq j sz)
    (@Bool.rec (λ_=>aw) (bf r (bf (Nat.ble len (ea rs)) (lB b wk bytes q aM e sz (lK (Nat.sub (ea rs) len) rs) n ys r len h k) .ax) .ax) (lB b wk bytes q aM e sz rs n ys r len h k) (Nat.beq len (ea rs))) .ax) .ax) .ax) .ax)
   (λvs=>FN vs λj es=>bf (Nat.beq j sz) (bf (Nat.ble 1 n) (eF (Nat.add (ea es) n) λm=>bf (Nat.ble (Nat.mul m bytes) 1099511627776) (bf (Nat.ble m 1099511627776)
    (eF (Nat.add b d) λq=>eF (Nat.add (iH (h.aj q)) 1) λaM=>nQ es [] λrs=>nQ ys rs λrs=>ky b wk q (.kr aM e sz rs as0) h λh'=>k (.az q aM 0 m) h') .ax) .ax) .ax) .ax):=λ_=>rfl
 rcases r with⟨rfl,rfl⟩|⟨s,rfl,E⟩
 ·refine⟨Nat.add (iH (h.aj (b+d))) 1,h.eW b (b+d) (.kr (Nat.add (iH (h.aj (b+d))) 1) e sz ys.reverse as0),eY.eW hd,?_,λk=>?_⟩
  ·rw[kB hd];show dM.az _ _ _ (nx ys.reverse) _=_;rw[qL,o2];rfl
  ·rw[w,p,lu,fd,gr];simp only[Md,Fa] at a c;have l:∀z f g t,ty .aE z f g t=z:=λ_ _ _ _=>rfl;rw[l,ek,pl (by rw[hW];exact a),cM,ek,pl c,cM];cases ys with
   |nil=>exact absurd rfl B
   |cons A r0=>show(eF (b+d) λq=>eF (Nat.add (iH (h.aj q)) 1) λaM=>nQ (A::r0) [] λrs=>ky b wk q (.kr aM e sz rs as0) h λh'=>k (.az q aM 0 (A::r0).length) h')=_;rw[fd,fd,sf,fr,td (u _) hd,Md,Fa]
 ·refine⟨Nat.add s 1,h.eW b (b+d) (.kr (Nat.add s 1) e sz (ys.reverse++arZ.reverse) as0),eY.eW hd,?_,λk=>?_⟩
  ·rw[kB hd];show dM.az _ _ _ (nx (ys.reverse++arZ.reverse)) _=_;rw[qL,oc,o2,o2]
  ·rw[w,p,lu,fd,gr];have l:∀z f g t,ty (.az (b+d) s 0 arZ.length) z f g t=g (b+d) s 0 arZ.length:=λ_ _ _ _=>rfl;rw[l,wT,cM,NN (by rw[aI.Hb];exact E),wT,cM,wT,cM,wT,cM,gr,oM,wT];show lB b wk bytes (b+d) s e sz arZ.reverse ys.length ys as0 arZ.length h k=_;unfold lB;rw[fd,ek,pl (by rw[hW,Ct];exact a),cM,ek,pl (by rw[Ct];exact c),cM,fd,sf,td (u _) hd];rfl
theorem QH(ob:ej)(sz:Nat)(es:aY)(f:aY->aw):ke ob sz (.aQ sz es) f=f es:=by have e:ke ob sz (.aQ sz es) f=bf (Nat.beq sz sz) (f es) .ax:=rfl;rw[e,wT,cM]
theorem yq(a:ob q= .az s e sz es r)(f:aY->aw):ke ob sz (.az q s 0 es.length) f=f es:=by have c:ke ob sz (.az q s 0 es.length) f=jQ (ob q) λg _ j asH _=>bf (Nat.beq s g) (bf (Nat.beq j sz) (bf (Nat.ble (Nat.add 0 es.length) (ea asH)) (f (l3 asH 0 es.length)) .ax) .ax) .ax:=rfl;rw[c,a,qC,wT,cM,wT,cM,gr,ek,pl (by rw[Ct];omega),cM,zj]
theorem G8{d1 d2:Nat}{atm atn:Option (List Nat)}{r1:Bool}{y:aB}(r:db b d2 e sz as0 h x arZ)(j:b8 y=true)(l:y.length=sz)
 (p:∀o,gO b atm [(b+d1,o)]=true)(u:∀o,gO b atn [(b+d2,o)]=true)(w:b+d1<h.bh)(A:b+d2<h.bh)(J:d1≠d2)(B:(arZ.length+1)*bytes<=1099511627776)(C:arZ.length+1<=1099511627776):
 ∃a s c h',eY b [d1] h c/\eY b [d1,d2] h h'/\db b d2 e sz as0 h' (.az (b+d2) s 0 (arZ.length+1)) (arZ++[y])/\
  (∀k:aY->eH->aw,cj h.aj sz 0 (.agg y) (cG 1 z) k=k [y] [])/\(∀k:dg,c6 b d1 atm e sz 1 r1 [y] [] h k=k (.az (b+d1) a 0 1) c)/\
  (∀k:dg,eC b d2 atn e sz bytes x (.az (b+d1) a 0 1) as0 c k=k (.az (b+d2) s 0 (arZ.length+1)) h'):=by
 obtain⟨a,c,g,D,E⟩:=Bm (e:=e) (sz:=sz) (len:=1) (as0:=r1) (es:=[y]) p w;have F:=r.jv g (by simp;omega);obtain⟨s,h',G,H,I⟩:=Jb (bytes:=bytes) F (y:= .az (b+d1) a 0 1) (ys:=[y]) (λf=>yq D f) (by simp) u (by rw[g.bh];exact A) B C;exact⟨a,s,c,h',g,(g.mono (by simp)).trans (G.mono (by simp)),.inr ⟨s,by simp,H⟩,λk=>hX j l k,E,I⟩
theorem hy(k:an->aw):bq false .aE k=k (ao 0):=by rw[cX];rfl
theorem jw(q s o len:Nat)(k:an->aw):bq false (.az q s o len) k=k (ao len):=by rw[cX];have e:bq false (.az q s o len) k=k (.V .i64 (Nat.add 18446744073709551616 len)):=rfl;rw[e];congr 2;rw[Ct];omega
theorem eA(sz:Nat)(es:aY)(k:an->aw):bq false (.aQ sz es) k=k (ao es.length):=by rw[cX];have e:bq false (.aQ sz es) k=eF (Nat.add 18446744073709551616 (ea es)) λn=>k (.V .i64 n):=rfl;rw[e,fd,gr];congr 2;rw[Ct];omega
theorem db.len(r:db b d e sz as0 h x arZ)(k:an->aw):bq false x k=k (ao arZ.length):=by
 rcases r with⟨rfl,rfl⟩|⟨s,rfl,_⟩
 ·exact hy k
 ·exact jw _ _ _ _ k
end
end
theorem AN(a b n:Nat)(f:gT->gT):oq a b (n+1) f=f (oq a b n f):=rfl
theorem hI(a b c n:Nat)(f:mj->mj):fM a b c (n+1) f=f (fM a b c n f):=rfl
theorem fj(a b c a4 n:Nat)(f:mS->mS):du a b c a4 (n+1) f=f (du a b c a4 n f):=rfl
theorem gI(a b c a4 d n:Nat)(f:kb->kb):fs a b c a4 d (n+1) f=f (fs a b c a4 d n f):=rfl
theorem mb(a b c a4 d e n:Nat)(f:nP->nP):ih a b c a4 d e (n+1) f=f (ih a b c a4 d e n f):=rfl
theorem X3(a b c a4 d e g h n:Nat)(f:tA->tA):yJ a b c a4 d e g h (n+1) f=f (yJ a b c a4 d e g h n f):=rfl
theorem Mv(a b c a4 d e g h i n:Nat)(f:sZ->sZ):zl a b c a4 d e g h i (n+1) f=f (zl a b c a4 d e g h i n f):=rfl
theorem acF(a b c a4 d e g h i j n:Nat)(f:u6->u6):DM a b c a4 d e g h i j (n+1) f=f (DM a b c a4 d e g h i j n f):=rfl
section
variable{i j:Nat}
section
variable{α:Type} [Inhabited α]
def el(es:List α)(i:Nat):α:=es.getD i default
theorem YS(es:List α)(i:Nat)(x:α)(j:Nat):el (es.set i x) j=if i=j/\j<es.length then x else el es j:=by
 unfold el;simp only[List.getD_eq_getElem?_getD,oG];by_cases h:i=j
 ·subst h;by_cases a:i<es.length
  ·simp[a]
  ·simp[a,qQ (xk a)]
 ·simp[h]
theorem XO{es:List α}{x:α}(h:es[i]? =some x):el es i=x:=by unfold el;simp[List.getD_eq_getElem?_getD,h]
theorem xl{es:List α}(h:i<es.length):es[i]? =some (el es i):=by unfold el;simp[List.getD_eq_getElem?_getD,h]
theorem sb{es:List α}(h:i<es.length):el es i∈es:=On (xl h)
def kn(es:List α)(i j:Nat):List α:=(es.set i (el es j)).set j (el es i)
theorem jo(es:List α)(i j:Nat):(kn es i j).length=es.length:=by simp[kn]
theorem AE(es:List α)(hi:i<es.length)(a:j<es.length):(kn es i j).Perm es:=by
 have h:=List.set_set_perm hi a;have b:es[i]=el es i:=by have:=xl hi;rw[dC hi] at this;exact jZ this
 have c:es[j]=el es j:=by have:=xl a;rw[dC a] at this;exact jZ this
 rw[b,c] at h;exact h
theorem oB{es:List α}(hi:i<es.length:=by omega)(c:j<es.length:=by omega)(k:Nat):el (kn es i j) k=if k=j then el es i else if k=i then el es j else el es k:=by
 unfold kn;rw[YS,YS];by_cases a:k=j
 ·subst a;simp[c]
 ·by_cases b:k=i
  ·subst b;simp[Ne.symm a,a,hi]
  ·simp[Ne.symm a,Ne.symm b,a,b]
variable(ρ:α->Nat)
def fR(es:List α)(a b:Nat):Prop:=∀i j,a<=i->i<j->j<b->ρ (el es i)<=ρ (el es j)
def mo(a:Nat):Nat->List α->List α
 |0,es=>es
 |k+1,es=>if ρ (el es (a+k+1))<ρ (el es (a+k)) then mo a k (kn es (a+k+1) (a+k)) else es
theorem sF(a:Nat):∀(k:Nat) (es:List α),(mo ρ a k es).length=es.length
 |0,_=>rfl
 |k+1,es=>by
  unfold mo;split
  ·rw[sF a k,jo]
  ·rfl
theorem GM(a:Nat):∀(k:Nat) (es:List α),a+k<es.length->(mo ρ a k es).Perm es
 |0,es,_=>Kn es
 |k+1,es,h=>by
  unfold mo;split
  ·exact(GM a k _ (by rw[jo];omega)).trans (AE es (by omega) (by omega))
  ·exact Kn es
theorem HN(a:Nat):∀(k:Nat) (es:List α),a+k<es.length->∀i,i<a\/a+k<i->el (mo ρ a k es) i=el es i
 |0,es,_,_,_=>rfl
 |k+1,es,h,i,hi=>by
  unfold mo;split
  ·rw[HN a k _ (by rw[jo];omega) i (by omega),oB,cz,cz]
  ·rfl
theorem aeu(a b:Nat):∀(k:Nat) (es:List α),a+k<es.length->(∀i,a<=i->i<=a+k->ρ (el es i)<=b)->∀i,a<=i->i<=a+k->ρ (el (mo ρ a k es) i)<=b
 |0,es,_,h=>h
 |k+1,es,g,h=>by
  intro i c d;unfold mo;split
  ·by_cases e:i=a+k+1
   ·rw[HN ρ a k _ (by rw[jo];omega) i (by omega),oB];rw[cz,y1 e];exact h _ (by omega) (by omega)
   ·refine aeu a b k _ (by rw[jo];omega) ?_ i c (by omega);intro m fC l;rw[oB];split
    ·exact h _ (by omega) (by omega)
    ·split
     ·exact h _ (by omega) (by omega)
     ·exact h m fC (by omega)
  ·exact h i c d
theorem aaN(a:Nat):∀(k:Nat) (es:List α),a+k<es.length->fR ρ es a (a+k)->fR ρ (mo ρ a k es) a (a+k+1)
 |0,es,_,h=>λi j b c g=>absurd c (by omega)
 |k+1,es,o,h=>by
  intro i j b c g;unfold mo;split
  ·rename_i p;have l:fR ρ (kn es (a+k+1) (a+k)) a (a+k):=by intro i j b c g;rw[oB,oB,cz,cz,cz,cz];exact h i j b c (by omega)
   have n:=aaN a k _ (by rw[jo];omega) l;by_cases d:j=a+k+1
   ·rw[HN ρ a k _ (by rw[jo];omega) j (by omega)];have e:el (kn es (a+k+1) (a+k)) j=el es (a+k):=by rw[oB,cz,y1 d]
    rw[e];refine aeu ρ a _ k _ (by rw[jo];omega) ?_ i b (by omega);intro m fC q;rw[oB];split
    ·omega
    ·split
     ·exact sm _
     ·by_cases r:m=a+k
      ·omega
      ·exact h m (a+k) fC (by omega) (by omega)
   ·exact n i j b c (by omega)
  ·rename_i t;by_cases d:j=a+k+1
   ·subst d;by_cases hi:i=a+k
    ·subst hi;omega
    ·exact y4 (h i (a+k) b (by omega) (by omega)) (by omega)
   ·exact h i j b c (by omega)
def jx(a:Nat):Nat->Nat->List α->List α
 |0,_,es=>es
 |m+1,i,es=>jx a m (i+1) (mo ρ a (i-a) es)
theorem Ry(a:Nat):∀(m i:Nat) (es:List α),(jx ρ a m i es).length=es.length
 |0,_,_=>rfl
 |m+1,i,es=>by unfold jx;rw[Ry a m,sF]
theorem YP(a:Nat):∀(m i:Nat) (es:List α),a<=i->i+m<=es.length->(jx ρ a m i es).Perm es
 |0,_,es,_,_=>Kn es
 |m+1,i,es,b,c=>by unfold jx;exact(YP a m (i+1) _ (by omega) (by rw[sF];omega)).trans (GM ρ a (i-a) es (by omega))
theorem aeq(a:Nat):∀(m i:Nat) (es:List α),a<=i->i+m<=es.length->∀j,j<a\/i+m<=j->el (jx ρ a m i es) j=el es j
 |0,_,es,_,_,_,_=>rfl
 |m+1,i,es,b,c,j,d=>by unfold jx;rw[aeq a m (i+1) _ (by omega) (by rw[sF];omega) j (by omega),HN ρ a (i-a) es (by omega) j (by omega)]
theorem VK(a:Nat):∀(m i:Nat) (es:List α),a<=i->i+m<=es.length->fR ρ es a i->fR ρ (jx ρ a m i es) a (i+m)
 |0,_,es,_,_,h=>h
 |m+1,i,es,b,c,h=>by
  unfold jx;have e:i+(m+1)=i+1+m:=by omega
  rw[e];refine VK a m (i+1) _ (by omega) (by rw[sF];omega) ?_;have:=aaN ρ a (i-a) es (by omega) (by rw[show a+(i-a)=i by omega];exact h);rw[show a+(i-a)+1=i+1 by omega] at this;exact this
end
end
section
variable{x:aB} {i j f:Nat} {o:e9} {u:Fn}
section
variable[Tok]
theorem bF:(aL:an)=ao 0:=by rw[cX];rfl
theorem bK:(aS:an)=ao 1:=by rw[cX];rfl
def Good(sz:Nat)(es:aY):Prop:=∀cs∈es,cs.length=sz/\b8 cs=true
structure eL (b:Nat) (h:aI) (q s e sz:Nat) (es:aY):Prop where
 lt:q<b
 bh:b<=h.bh
 ld:2048<=q%4096
 aj:h.aj q= .az s e sz es true
 iJ:Good sz es
 le:es.length<1000000
theorem axn{b q:Nat}(c:q<b)(d:2048<=q%4096):eb [4098] (iD b q)=true:=by rw[wb];unfold fl;rw[cz,cz];rfl
theorem eL.fl{b:Nat}{h:aI}{q s e sz:Nat}{es:aY}(a:eL b h q s e sz es):eb [4098] (iD b q)=true:=axn a.lt a.ld
noncomputable abbrev rL(b:Nat)(h:aI)(q s e sz:Nat)(es:aY):aI:=h.eW b q (.ae (.az s e sz es true))
theorem eL.dl{b:Nat}{h:aI}{q s e sz:Nat}{es:aY}(a:eL b h q s e sz es){asH:aY}(c:asH.length=es.length)(d:Good sz asH):eL b (rL b h q s e sz asH) q s e sz asH:=by have g:q<h.bh:=iC a.lt a.bh;refine⟨a.lt,by rw[aI.qv];exact a.bh,a.ld,?_,d,by rw[c];exact a.le⟩;rw[aI.tS g];simp[Go.Hf.dl,e9.ag]
theorem Good.set{sz:Nat}{es:aY}(g:Good sz es)(k:x.length=sz/\b8 x=true)(i:Nat):Good sz (es.set i x):=by
 intro c d;rcases List.mem_or_eq_of_mem_set d with d|rfl
 ·exact g c d
 ·exact k
theorem Good.kn{sz:Nat}{es:aY}(g:Good sz es)(hi:i<es.length)(c:j<es.length):Good sz (kn es i j):=
 (g.set (g _ (sb c)) i).set (g _ (sb hi)) j
structure g6 (q:Nat) (h h':aI):Prop where
 bh:h'.bh=h.bh
 aj:∀k,k≠q->h'.aj k=h.aj k
 bQ:∀k∈h'.bQ,k∈h.bQ\/k=q
theorem g6.refl{q:Nat}{h:aI}:g6 q h h:=⟨rfl,λ_ _=>rfl,λ_ h=> .inl h⟩
theorem g6.trans{q:Nat}{h h' d:aI}(x:g6 q h h')(y:g6 q h' d):g6 q h d:=
 ⟨y.bh.trans x.bh,λk c=>(y.aj k c).trans (x.aj k c),λk c=>(y.bQ k c).elim (x.bQ k) .inr⟩
theorem aI.aaC{b q:Nat}{h:aI}:∀k∈(h.eW b q o).bQ,k∈h.bQ\/k=q:=by
 intro k c;obtain⟨ub,s,d⟩:=h;change k∈ @Bool.rec (λ_=>List Nat) d (q::d) (Nat.blt q b) at c;cases g:Nat.blt q b with
 |true=>rw[g] at c;exact(pG.1 c).symm
 |false=>rw[g] at c;exact .inl c
theorem g6.eW{b q:Nat}{h:aI}(c:q<h.bh):g6 q h (h.eW b q o):=
 ⟨aI.qv,λk d=>by rw[aI.tS c];simp[Go.Hf.dl,d],aI.aaC⟩
section
variable{b:Nat} {h:aI} {q s e sz:Nat} {es:aY} (a:eL b h q s e sz es)
include a
theorem eL.FD:q<h.bh:=iC a.lt a.bh
theorem eL.met(o l:Nat)(xs:aB)(z:aw):met b [4098] (.az q s o l::xs) z=Go.Hf.met b [4098] xs z:=aV (show jP b [4098] (.az q s o l)=true from a.fl) xs z
theorem eL.zQ(i o:Nat)(xs:aB)(z:aw):Go.Hf.met b [4098] (.dH q s i o::xs) z=Go.Hf.met b [4098] xs z:=aV (show jP b [4098] (.dH q s i o)=true from a.fl) xs z
theorem eL.ji{i:Int}(c:0<=i)(d:i<es.length)(k:an->aw):cb h.aj sz (.az q s 0 es.length) (ao i) k=k (.dH q s i.toNat 0):=by
 have e:i=(i.toNat:Int):=by omega
 rw[e,gu a.aj];congr 2
theorem eL.load(hi:i<es.length)(k:an->aw):aW h.aj true sz (.dH q s i 0) k=k (.agg (el es i)):=
 zE a.aj (xl hi) (a.iJ _ (sb hi)).1 k
theorem eL.store(hi:i<es.length)(c:x.length=sz/\b8 x=true)(k:dg):aX b (some [4098]) sz (.dH q s i 0) (.agg x) h k=k .undef (rL b h q s e sz (es.set i x)):=
 U3 a.aj (xl hi) (a.iJ _ (sb hi)).1 c.1 c.2 (WW a.fl) a.FD k
theorem eL.swap{i j:Int}(A:0<=i)(hi:i<es.length)(k:0<=j)(l:j<es.length)(K:aI->aw):
 (Go.Hf.met b [4098] [.az q s 0 es.length,ao j]<| cb h.aj sz (.az q s 0 es.length) (ao j) λn=>Go.Hf.met b [4098] [n]<| aW h.aj true sz n λB=>
  Go.Hf.met b [4098] [.az q s 0 es.length,ao i]<| cb h.aj sz (.az q s 0 es.length) (ao i) λp=>Go.Hf.met b [4098] [p]<| aW h.aj true sz p λC=>
  Go.Hf.met b [4098] [.az q s 0 es.length,ao i]<| cb h.aj sz (.az q s 0 es.length) (ao i) λr=>Go.Hf.met b [4098] [r]<| aX b (some [4098]) sz r B h λ_ t=>
  Go.Hf.met b [4098] [.az q s 0 es.length,ao j]<| cb t.aj sz (.az q s 0 es.length) (ao j) λw=>Go.Hf.met b [4098] [w]<| aX b (some [4098]) sz w C t λ_ D=>K D)=
 K (rL b (rL b h q s e sz (es.set i.toNat (el es j.toNat))) q s e sz (kn es i.toNat j.toNat)):=by
 have d:i.toNat<es.length:=by omega
 have c:j.toNat<es.length:=by omega
 have y:=a.dl (asH:=es.set i.toNat (el es j.toNat)) (by simp) (a.iJ.set (a.iJ _ (sb c)) _);have g:(es.set i.toNat (el es j.toNat)).length=es.length:=by simp
 have z:=y.ji (i:=j) k (by rw[g];exact l);rw[g] at z;simp only[aJ,bZ,bp,bg,ce,bj,a.met,a.zQ,aV (yr _ _ _),aN,a.ji k l,a.ji A hi,a.load c,a.load d,a.store d (a.iJ _ (sb c)),z,
  y.store (by rw[g];exact c) (a.iJ _ (sb d))]
 rfl
end
theorem eL.Dn{b:Nat}{h:aI}{q s e sz:Nat}{es:aY}(a:eL b h q s e sz es)(hi:i<es.length)(c:j<es.length):
 eL b (rL b (rL b h q s e sz (es.set i (el es j))) q s e sz (kn es i j)) q s e sz (kn es i j)/\g6 q h (rL b (rL b h q s e sz (es.set i (el es j))) q s e sz (kn es i j)):=by
 have d:=a.dl (asH:=es.set i (el es j)) (by simp) (a.iJ.set (a.iJ _ (sb c)) _);have g:=d.dl (asH:=kn es i j) (by simp[kn]) (a.iJ.kn hi c);exact⟨g,(g6.eW a.FD).trans (g6.eW d.FD)⟩
structure jS where
 ai:aB->Nat
 Y:Fn->Prop
def yP(u:Fn)(f:Nat)(ρ:jS)(x y:aB):Prop:=∃c:Int,(-9000<c/\c<9000)/\(c<0↔ρ.ai x<ρ.ai y)/\(c=0↔ρ.ai x=ρ.ai y)/\∀ub atf,u f [.agg x,.agg y] ub atf= .ok (ao c) ub atf []
def iq(u:Fn)(f:Nat)(ρ:jS)(es:aY):Prop:=ρ.Y u/\∀u,ρ.Y u->es.Pairwise λx y=>yP u f ρ x y/\yP u f ρ y x
theorem iq.mono{ρ:jS}{es asH:aY}(h:iq u f ρ es)(c:asH.Perm es):iq u f ρ asH:=⟨h.1,λu d=>(c.pairwise_iff λh=>⟨h.2,h.1⟩).2 (h.2 u d)⟩
abbrev dI (f:Nat):an:= .bu (.func (.func f) #[] #[])
theorem eL.mP{ρ:jS}{b:Nat}{h:aI}{q s e sz:Nat}{es:aY}(a:eL b h q s e sz es)(g:iq u f ρ es)(hi:i<es.length)(d:j<es.length)(y:i≠j):
 ∃c:Int,(∀k:an->aw,cm (ao c) (ao 0) k=k (.a9 (decide (ρ.ai (el es i)<ρ.ai (el es j)))))/\∀K:an->aI->aw,n6 u b [4097] [4096,4098] (dI f) [.agg (el es i),.agg (el es j)] [] h K=K (ao c) h:=by
 have r:yP u f ρ (el es i) (el es j):=by
  have l:=zJ.1 (g.2 u g.1);have n:es[i]=el es i:=by have:=xl hi;rw[dC hi] at this;exact jZ this
  have p:es[j]=el es j:=by have:=xl d;rw[dC d] at this;exact jZ this
  rcases DL i j with h|h
  ·have:=(l i j hi d h).1;rwa [n,p] at this
  ·have:=(l j i d hi (by omega)).2;rwa [n,p] at this
 obtain⟨c,⟨c1,z⟩,t,A,w⟩:=r;refine⟨c,λk=>?_,λK=>avz (a.iJ _ (sb hi)).2 (a.iJ _ (sb d)).2 (w _ _) K⟩;rw[bO];congr 2;exact L9.2 t
end
end
section
variable{u:Fn} {b f q s e a:Nat} {ρ:jS}
section
variable[Tok]
theorem atZ(g:kb){i:Nat}(X:an):∀(k N:Nat) (es:aY) (h:aI),eL b h q s e 8 es->iq u f ρ es->a+k<es.length->k<N->
 ∃h',eL b h' q s e 8 (mo ρ.ai a k es)/\g6 q h h'/\ih 0 1 2 3 8 9 N (z4 u b g) (.az q s 0 es.length) (ao a) X (dI f) (ao i) (ao (a+k:Nat)) h=g (.az q s 0 es.length) (ao a) X (dI f) (ao i) h':=by
 intro k;induction k with
 |zero=>intro N es h d n r t;obtain⟨N,rfl⟩:=cN N;have:=d.le;refine⟨h,d,.refl,?_⟩;rw[mb];generalize ih 0 1 2 3 8 9 N (z4 u b g)=j6;unfold z4;simp only[aJ,bZ,bp,bg,ce,bj,gB,hH (a:=((a+0:Nat):Int)) (b:=(a:Int)) (by omega) (by omega),GG (show¬(a:Int)<((a+0:Nat):Int) by omega),iE];unfold Jk;rw[show(ay:an)= .a0 [] from rfl,dO,show(bG:an)= .a9 false from rfl,a6]
 |succ k w=>
  intro N es h d n r t;obtain⟨N,rfl⟩:=cN N;have:=d.le;rw[mb];have hi:mo ρ.ai a (k+1) es=if ρ.ai (el es (a+k+1))<ρ.ai (el es (a+k)) then mo ρ.ai a k (kn es (a+k+1) (a+k)) else es:=rfl;rw[hi];have o:((a+(k+1):Nat):Int)-1=((a+k:Nat):Int):=by omega
  have t1:((a+(k+1):Nat):Int).toNat=a+k+1:=by omega
  have t2:((a+k:Nat):Int).toNat=a+k:=by omega
  generalize x:ih 0 1 2 3 8 9 N (z4 u b g)=j6;unfold z4;simp only[aJ,bZ,bp,bg,ce,bj,gB,hH (a:=((a+(k+1):Nat):Int)) (b:=(a:Int)) (by omega) (by omega),pl (show(a:Int)<((a+(k+1):Nat):Int) by omega),fi];unfold aaS;simp only[aJ,bZ,bp,bg,ce,bj,d.met,d.zQ,aV (yr _ _ _),aN,bK,bF,d.ji (i:=((a+(k+1):Nat):Int)) (by omega) (by omega),t1,d.load (i:=a+k+1) (by omega),e1 (a:=((a+(k+1):Nat):Int)) (b:=1) (by omega) (by omega) (by omega) (by omega),o,
   d.ji (i:=((a+k:Nat):Int)) (by omega) (by omega),t2,d.load (i:=a+k) (by omega)]
  obtain⟨c,c1,y⟩:=d.mP n (i:=a+k+1) (j:=a+k) (by omega) (by omega) (by omega);rw[y,c1];unfold Jk;rw[dR];by_cases l:ρ.ai (el es (a+k+1))<ρ.ai (el es (a+k))
  ·rw[pl l,bL,y1 l];unfold NK;simp only[aJ,bZ,bp,bg,ce,bj,gB,bK,e1 (a:=((a+(k+1):Nat):Int)) (b:=1) (by omega) (by omega) (by omega) (by omega),o];unfold Z8;simp only[aJ,bZ];rw[d.swap (i:=((a+(k+1):Nat):Int)) (j:=((a+k:Nat):Int)) (by omega) (by omega) (by omega) (by omega),t1,t2];simp only[bK,e1 (a:=((a+(k+1):Nat):Int)) (b:=1) (by omega) (by omega) (by omega) (by omega),o];obtain⟨z,A⟩:=d.Dn (i:=a+k+1) (j:=a+k) (by omega) (by omega);obtain⟨h',r1,B,p⟩:=w N _ _ z (n.mono (AE es (i:=a+k+1) (j:=a+k) (by omega) (by omega))) (by rw[jo];omega) (by omega);rw[jo] at p;subst x;exact⟨h',r1,A.trans B,p⟩
  ·rw[GG l,a6,Ca l];exact⟨h,d,.refl,rfl⟩
theorem amx{B:Nat}:∀(m N i:Nat) (es:aY) (h:aI),eL b h q s e 8 es->iq u f ρ es->a<=i->i+m=B->B<=es.length->m<N->
 ∃h',eL b h' q s e 8 (jx ρ.ai a m i es)/\g6 q h h'/\fs 0 1 2 3 8 N (sR u b) (.az q s 0 es.length) (ao a) (ao B) (dI f) (ao i) h=acR b h':=by
 intro m;induction m with
 |zero=>intro N i es h c d l n o p;have:=c.le;obtain⟨N,rfl⟩:=cN N;refine⟨h,c,.refl,?_⟩;rw[gI];generalize fs 0 1 2 3 8 N (sR u b)=j;rw[sR,bO (a:=(i:Int)) (b:=(B:Int)),GG (show¬(i:Int)<(B:Int) by omega),a6]
 |succ m r=>
  intro N i es h c d l n o p;have:=c.le;obtain⟨N,rfl⟩:=cN N;rw[gI,sR,bO (a:=(i:Int)) (b:=(B:Int)),pl (show(i:Int)<(B:Int) by omega),bL,Wg];have t:i=a+(i-a):=by omega
  obtain⟨w,x,y,g⟩:=atZ (u:=u) (b:=b) (f:=f) (ρ:=ρ) (λz A C D E F=>bR E aS λG=>fs 0 1 2 3 8 N (sR u b) z A C D G F) (q:=q) (s:=s) (e:=e) (a:=a) (i:=i) (ao B) (i-a) 1000000 es h c d (by omega) (by omega);rw[<-t] at g;rw[g];simp only[bK,cK (a:=(i:Int)) (b:=1) (by omega) (by omega) (by omega) (by omega)];obtain⟨h',r1,H,k⟩:=r N (i+1) _ w x (d.mono (GM ρ.ai a (i-a) es (by omega))) (by omega) (by omega) (by rw[sF];omega) (by omega);refine⟨h',r1,y.trans H,?_⟩;rw[show((i:Int)+1)=((i+1:Nat):Int) by omega];rw[sF] at k;exact k
end
end
section
variable{b q s e sz f:Nat} {atf:b1} {es asH:aY} {u:Fn}
section
variable[Tok]
def kA(a:aw)(b:Nat)(atf:b1)(q s e sz:Nat)(es:aY):Prop:=
 ∃c d,a= .ok (.a0 []) b c d/\(∀k,k≠q->cE b c k=cE b atf k)/\cE b c q= .az s e sz es true/\∀k∈d,k=q
theorem ads(b:Nat)(atf:b1):(ba b atf).bh=b+4096:=rfl
theorem kz{k:Nat}(atf:b1)(a:k<b):(ba b atf).aj k=cE b atf k:=by show cE (b+4096) (.cons b .nil atf) k=cE b atf k;rw[ic,ic a];show(@Bool.rec (λ_=>e9) (atf.get k) (jO.get .nil k) (Nat.ble b k)).ag=_;rw[ek,bk]
theorem GL{b:Nat}{atf:b1}{q s e sz:Nat}{es:aY}{r:Bool}(a:(atf.get q).ag= .az s e sz es r):∀(d:List Nat),(∀k∈d,k=q)->kE b atf d=true
 |[],_=>rfl
 |k::d,h=>by have c:kE b atf (k::d)=cS (xF b (atf.get k).ag) (kE b atf d):=rfl;rw[c,h k HO,a,GL a d λj g=>h j (OJ _ g)];rfl
theorem oL{h:aI}(t:g6 q (ba b atf) h)(j:q<b)(g:h.aj q= .az s e sz es true):kA (dJ b (.a0 []) [] h) b atf q s e sz es:=by
 obtain⟨ub,a8,d⟩:=h;have p:ub=b+4096:=t.bh;have hd:∀k∈d,k=q:=λk a=>(t.bQ k a).elim (λh=>by cases h) id;have l:(a8.get q).ag= .az s e sz es true:=by have:cE ub a8 q= .az s e sz es true:=g;rw[ic] at this;exact this
 have n:dJ b (.a0 []) [] (.mk ub a8 d)= @Bool.rec (λ_=>aw) (.ok (.a0 []) ub a8 d) (.ok (.a0 []) b (a8.drop b) d) (kE b a8 d):=rfl;rw[n,GL l d hd];have i:∀k,cE b (a8.drop b) k=if k<b then(aI.mk ub a8 d).aj k else .ax 0:=by
  intro k;by_cases a:k<b
  ·rw[y1 a,ic a,b1.rB b a8 k a];show _=cE ub a8 k;rw[ic]
  ·rw[Ca a,jz]
 refine⟨a8.drop b,d,rfl,λk a=>?_,?_,hd⟩
 ·rw[i];by_cases c:k<b
  ·rw[y1 c,t.aj k a,kz atf c]
  ·rw[Ca c,jz]
 ·rw[i,y1 j,g]
theorem uC{b:Nat}:∀{l:List Nat} {k:Nat},k∈gZ b l->k∈l
 |j::r,k,h=>by
  have e:gZ b (j::r)= @Bool.rec (λ_=>List Nat) (gZ b r) (j::gZ b r) (Nat.ble (Nat.succ j) b):=rfl;rw[e] at h;cases a:Nat.ble (Nat.succ j) b with
  |true=>rw[a] at h;exact(pG.1 h).elim (λh=>by rw[h];exact HO) λh=>OJ _ (uC h)
  |false=>rw[a] at h;exact OJ _ (uC h)
theorem qm{a:aB}{h:aI}(H:kA (u f a h.bh h.au) h.bh h.au q s e sz es):
 ∃h',g6 q h h'/\h'.aj q= .az s e sz es true/\∀k:dg,fD u b f a [] h k=k (.a0 []) h':=by
 obtain⟨c,d,j,l,n,o⟩:=H;obtain⟨ub,a8,dd⟩:=h;have p:u f a ub a8= .ok (.a0 []) ub c d:=j;refine⟨.mk ub c (aA (gZ b d) dd),⟨rfl,λk g=>l k g,λk g=>?_⟩,n,λk=>?_⟩
 ·have i:k∈aA (gZ b d) dd:=g;rw[mJ,Ic] at i;exact i.elim (λh=> .inr (o k (uC h))) .inl
 ·have r:fD u b f a [] (.mk ub a8 dd) k=jT b ub dd k (u f a ub a8):=rfl;rw[r,p];have t:jT b ub dd k (.ok (.a0 []) ub c d)=bf (Nat.ble ub ub) (k (.a0 []) (.mk ub c (aA (gZ b d) dd))) .ax:=rfl;rw[t,ek,pl (sm ub),cM]
theorem eL.rF(a:q<b)(c:2048<=q%4096)(d:cE b atf q= .az s e sz es true)(g:Good sz es)(h:es.length<1000000):eL b (ba b atf) q s e sz es:=
 ⟨a,by rw[ads];omega,c,by rw[kz atf a];exact d,g,h⟩
theorem eL.nD{h h':aI}(a:eL b h q s e sz es)(t:g6 q h h')(c:h'.aj q= .az s e sz asH true)(d:Good sz asH)(g:asH.length=es.length):eL b h' q s e sz asH:=
 ⟨a.lt,by rw[t.bh];exact a.bh,a.ld,c,d,by rw[g];exact a.le⟩
theorem aI.vZ(h:aI):cE h.bh h.au=h.aj:=by cases h;rfl
theorem eL.sub{h:aI}(a:eL b h q s e sz es):q<h.bh/\cE h.bh h.au q= .az s e sz es true:=⟨a.FD,by rw[aI.vZ];exact a.aj⟩
theorem Good.mW(g:Good sz es)(h:asH.Perm es):Good sz asH:=λc a=>g c (h.mem_iff.1 a)
theorem ayc{ρ:jS}{a B:Nat}(c:q<b)(g:2048<=q%4096)(h:cE b atf q= .az s e 8 es true)(i:Good 8 es)(k:es.length<1000000)(l:iq u f ρ es)(w:a<=B)(n:B<=es.length):
 kA (vV u [.az q s 0 es.length,ao a,ao B,dI f] b atf) b atf q s e 8 (jx ρ.ai a (B-(a+1)) (a+1) es):=by
 have d:=eL.rF c g h i k;rw[vV,GH,Ln,bK,cK (a:=(a:Int)) (b:=1),show((a:Int)+1)=((a+1:Nat):Int) by omega];by_cases x:a<B
 ·obtain⟨h',r1,o,p⟩:=amx (u:=u) (b:=b) (f:=f) (ρ:=ρ) (q:=q) (s:=s) (e:=e) (a:=a) (B:=B) (B-(a+1)) 1000000 (a+1) es (ba b atf) d l (by omega) (by omega) n (by omega);rw[p];exact oL o c r1.aj
 ·have r:B=a:=by omega
  subst r;have t:B-(B+1)=0:=by omega
  rw[t,hQ,gI];generalize fs 0 1 2 3 8 999999 (sR u b)=j;rw[sR,bO (a:=((B+1:Nat):Int)) (b:=(B:Int)),GG (show¬((B+1:Nat):Int)<(B:Int) by omega),a6];exact oL .refl c d.aj
end
end
section
variable{u:Fn} {b q s e A B n f m:Nat} {es:aY} {atf:b1}
section
variable{α:Type} [Inhabited α]
def om(a b:Nat):Nat->Nat->List α->List α
 |0,_,es=>es
 |m+1,i,es=>om a b m (i+1) (kn es (a+i) (b+i))
theorem pW(a b:Nat):∀(m i:Nat) (es:List α),(om a b m i es).length=es.length
 |0,_,_=>rfl
 |m+1,i,es=>by unfold om;rw[pW a b m,jo]
theorem xj(a b:Nat):∀(m i:Nat) (es:List α),a+i+m<=es.length->b+i+m<=es.length->(om a b m i es).Perm es
 |0,_,es,_,_=>Kn es
 |m+1,i,es,c,d=>by unfold om;exact(xj a b m (i+1) _ (by rw[jo];omega) (by rw[jo];omega)).trans (AE es (by omega) (by omega))
theorem IN(a b:Nat):∀(m i:Nat) (es:List α),b+i+m<=es.length->a+i+m<=b+i->∀k,el (om a b m i es) k=if a+i<=k/\k<a+i+m then el es (k-a+b) else if b+i<=k/\k<b+i+m then el es (k-b+a) else el es k
 |0,i,es,d,g,k=>by unfold om;rw[cz,cz]
 |m+1,i,es,d,g,k=>by
  unfold om;rw[IN a b m (i+1) _ (by rw[jo];omega) (by omega)];by_cases c1:a+i<=k/\k<a+i+(m+1)
  ·rw[y1 c1];by_cases h:k=a+i
   ·rw[cz,cz,oB,cz,y1 h,show k-a+b=b+i by omega]
   ·rw[fS,oB,cz,cz]
  ·rw[Ca c1,cz];by_cases c:b+i<=k/\k<b+i+(m+1)
   ·rw[y1 c];by_cases j:k=b+i
    ·rw[cz,oB,y1 j,show k-b+a=a+i by omega]
    ·rw[fS,oB,cz,cz]
   ·rw[Ca c,cz,oB,cz,cz]
def rR(m:Nat):Nat->Nat->Nat->List α->List α
 |0,_,_,es=>es
 |n+1,i,j,es=>if i=j then om (m-i) m i 0 es else if j<i then rR m n (i-j) j (om (m-i) m j 0 es) else rR m n i (j-i) (om (m-i) (m+j-i) i 0 es)
theorem My(m:Nat):∀(n i j:Nat) (es:List α),i<=m->m+j<=es.length->(rR m n i j es).Perm es
 |0,_,_,es,_,_=>Kn es
 |n+1,i,j,es,a,c=>by
  unfold rR;split
  ·exact xj _ _ _ _ _ (by omega) (by omega)
  ·split
   ·exact(My m n _ _ _ (by omega) (by rw[pW];omega)).trans (xj _ _ _ _ _ (by omega) (by omega))
   ·exact(My m n _ _ _ (by omega) (by rw[pW];omega)).trans (xj _ _ _ _ _ (by omega) (by omega))
theorem Mb(m:Nat):∀(n i j:Nat) (es:List α),i+j<=n->0<i->0<j->i<=m->m+j<=es.length->∀k,el (rR m n i j es) k=
 if m-i<=k/\k<m-i+j then el es (k+i) else if m-i+j<=k/\k<m+j then el es (k-j) else el es k
 |0,i,j,es,h,o,_,_,_,_=>absurd h (by omega)
 |n+1,i,j,es,h,hi,p,r,t,k=>by
  unfold rR;split
  ·rename_i e;subst e;rw[IN _ _ _ _ _ (by omega) (by omega)];by_cases c1:m-i<=k/\k<m-i+i
   ·rw[fS,y1 c1];congr 1;omega
   ·rw[cz,Ca c1];by_cases a:m-i+i<=k/\k<m+i
    ·rw[fS,y1 a];congr 1;omega
    ·rw[cz,Ca a]
  ·split
   ·rename_i d g;rw[Mb m n (i-j) j _ (by omega) (by omega) (by omega) (by omega) (by rw[pW];omega)];have E:=IN (m-i) m j 0 es (by omega) (by omega);by_cases c1:m-i<=k/\k<m-i+j
    ·rw[cz,cz,E,fS,y1 c1];congr 1;omega
    ·rw[Ca c1];by_cases a:m-(i-j)<=k/\k<m-(i-j)+j
     ·rw[y1 a,E];by_cases l:k+(i-j)<m
      ·omega
      ·rw[cz,fS,fS];congr 1;omega
     ·rw[Ca a];by_cases c:m-(i-j)+j<=k/\k<m+j
      ·rw[y1 c,E,cz,cz,fS]
      ·rw[Ca c,E,cz,cz,cz]
   ·rename_i d g;rw[Mb m n i (j-i) _ (by omega) (by omega) (by omega) (by omega) (by rw[pW];omega)];have E:=IN (m-i) (m+j-i) i 0 es (by omega) (by omega);by_cases c1:m-i<=k/\k<m-i+(j-i)
    ·rw[y1 c1,E,cz,cz,fS]
    ·rw[Ca c1];by_cases a:m-i+(j-i)<=k/\k<m+(j-i)
     ·rw[y1 a,E,fS,fS];congr 1;omega
     ·rw[Ca a,E];by_cases l:m+j-i<=k/\k<m+j
      ·rw[cz,fS,cz,fS];congr 1;omega
      ·rw[cz,cz,cz,cz]
end
section
variable[Tok]
theorem b7(ob:ej)(c:Int)(f:jm):aD ob (ao c) f=f (ao c) []:=by rw[cX];rfl
theorem lY(ob:ej)(g:Nat)(f:jm):aD ob (dI g) f=f (dI g) []:=jL rfl
theorem aCk(c:kb){i:Nat}{h:aI}(d:eL b h q s e 8 es)(l:A+i<es.length)(o:B+i<es.length):
 Qe u b c (.az q s 0 es.length) (ao A) (ao B) (ao n) (ao i) h=c (.az q s 0 es.length) (ao A) (ao B) (ao n) (ao (i+1:Nat)) (rL b (rL b h q s e 8 (es.set (A+i) (el es (B+i)))) q s e 8 (kn es (A+i) (B+i))):=by
 have:=d.le;have g:(A:Int)+(i:Int)=((A+i:Nat):Int):=by omega
 have k:(B:Int)+(i:Int)=((B+i:Nat):Int):=by omega
 have t1:((A+i:Nat):Int).toNat=A+i:=by omega
 have t2:((B+i:Nat):Int).toNat=B+i:=by omega
 unfold Qe;simp only[aJ,bZ,bp,bg,ce,bj,gB,cK (a:=(A:Int)) (b:=(i:Int)) (by omega) (by omega) (by omega) (by omega),cK (a:=(B:Int)) (b:=(i:Int)) (by omega) (by omega) (by omega) (by omega),g,k];unfold aeC;simp only[aJ,bZ];rw[d.swap (i:=((A+i:Nat):Int)) (j:=((B+i:Nat):Int)) (by omega) (by omega) (by omega) (by omega),t1,t2];simp only[bK,cK (a:=(i:Int)) (b:=1) (by omega) (by omega) (by omega) (by omega),show((i:Int)+1)=((i+1:Nat):Int) by omega]
theorem aBI:∀(m N i:Nat) (es:aY) (h:aI),eL b h q s e 8 es->i+m=n->A+n<=es.length->B+n<=es.length->m<N->
 ∃h',eL b h' q s e 8 (om A B m i es)/\g6 q h h'/\fs 0 1 2 3 10 N (Cl u b) (.az q s 0 es.length) (ao A) (ao B) (ao n) (ao i) h=adq b h':=by
 intro m;induction m with
 |zero=>intro N i es h c g k l o;have:=c.le;obtain⟨N,rfl⟩:=cN N;refine⟨h,c,.refl,?_⟩;rw[gI];generalize fs 0 1 2 3 10 N (Cl u b)=j;rw[Cl,bO (a:=(i:Int)) (b:=(n:Int)),GG (show¬(i:Int)<(n:Int) by omega),a6]
 |succ m p=>intro N i es h c g k l o;have:=c.le;obtain⟨N,rfl⟩:=cN N;rw[gI,Cl,bO (a:=(i:Int)) (b:=(n:Int)),pl (show(i:Int)<(n:Int) by omega),bL,aCk _ c (by omega) (by omega)];obtain⟨r,t⟩:=c.Dn (i:=A+i) (j:=B+i) (by omega) (by omega);obtain⟨h',r1,w,d⟩:=p N (i+1) _ _ r (by omega) (by rw[jo];omega) (by rw[jo];omega) (by omega);rw[jo] at d;exact⟨h',r1,t.trans w,d⟩
theorem ajC(a:q<b)(c:2048<=q%4096)(d:cE b atf q= .az s e 8 es true)(g:Good 8 es)(h:es.length<1000000)(i:A+n<=es.length)(j:B+n<=es.length):
 kA (CQ u [.az q s 0 es.length,ao A,ao B,ao n,dI f] b atf) b atf q s e 8 (om A B n 0 es):=by
 have k:=eL.rF a c d g h;rw[CQ,Ok,XC,bF];obtain⟨h',r1,l,o⟩:=aBI (u:=u) (b:=b) (q:=q) (s:=s) (e:=e) (A:=A) (B:=B) (n:=n) n 1000000 0 es (ba b atf) k (by omega) i j (by omega);rw[show ao (0:Int)=ao ((0:Nat):Int) from rfl,o];exact oL l a r1.aj
def PF(u:Fn)(f:Nat):Prop:=∀{b:Nat} {atf:b1} {q s e A B n:Nat} {es:aY},q<b->2048<=q%4096->cE b atf q= .az s e 8 es true->Good 8 es->es.length<1000000->A+n<=es.length->B+n<=es.length->
 kA (u 372 [.az q s 0 es.length,ao A,ao B,ao n,dI f] b atf) b atf q s e 8 (om A B n 0 es)
theorem dF{a b:Int}(c: -18446744073709551616<=a:=by omega)(d: -18446744073709551616<=b:=by omega)(k:an->aw):eQ (ao a) (ao b) k=k (.a9 (decide (a≠b))):=by unfold eQ;rw[cX,cX,Kk,wg,Cp,cM,K6,zu,<-decide_not];congr 2;exact L9.2 (by omega)
theorem auj(k:PF u f):∀(n N i j:Nat) (es:aY) (h:aI),eL b h q s e 8 es->i+j<=n->0<i->0<j->i<=m->m+j<=es.length->n<N->
 ∃h',eL b h' q s e 8 (rR m n i j es)/\g6 q h h'/\fs 0 2 4 10 11 N (Lu u b (OU u b)) (.az q s 0 es.length) (ao m) (dI f) (ao i) (ao j) h=YM b h':=by
 intro n;induction n with
 |zero=>intro N i j es h c z g;omega
 |succ n t=>
  intro N i j es h c C hi x y D E;have:=c.le;obtain⟨N,rfl⟩:=cN N;have l:(m:Int)-(i:Int)=((m-i:Nat):Int):=by omega
  rw[gI,Lu,dF (a:=(i:Int)) (b:=(j:Int))];unfold rR;by_cases o:i=j
  ·rw[bk,a6,y1 o];subst o;unfold OU;obtain⟨h',t1,t2,t3⟩:=qm (b:=b) (k (A:=m-i) (B:=m) (n:=i) c.sub.1 c.ld c.sub.2 c.iJ c.le (by omega) (by omega));simp only[e1 (a:=(m:Int)) (b:=(i:Int)) (by omega) (by omega) (by omega) (by omega),l,b7,lY,av,t3];exact⟨h',c.nD t1 t2 (c.iJ.mW (xj _ _ _ _ _ (by omega) (by omega))) (pW _ _ _ _ _),t1,rfl⟩
  ·rw[bN,bL,Ca o];unfold Vh;rw[hH (a:=(i:Int)) (b:=(j:Int))];by_cases w:j<i
   ·rw[bN,bL,y1 w];unfold WK;obtain⟨h',t1,t2,t3⟩:=qm (b:=b) (k (A:=m-i) (B:=m) (n:=j) c.sub.1 c.ld c.sub.2 c.iJ c.le (by omega) (by omega));simp only[e1 (a:=(m:Int)) (b:=(i:Int)) (by omega) (by omega) (by omega) (by omega),l,b7,lY,av,t3,e1 (a:=(i:Int)) (b:=(j:Int)) (by omega) (by omega) (by omega) (by omega),show(i:Int)-(j:Int)=((i-j:Nat):Int) by omega];have p:=c.nD t1 t2 (c.iJ.mW (xj _ _ _ _ _ (by omega) (by omega))) (pW _ _ _ _ _);obtain⟨g,r1,r,d⟩:=t N (i-j) j _ _ p (by omega) (by omega) x (by omega) (by rw[pW];omega) (by omega);rw[pW] at d;exact⟨g,r1,t1.trans r,d⟩
   ·rw[bk,a6,Ca w];unfold adU;obtain⟨h',t1,t2,t3⟩:=qm (b:=b) (k (A:=m-i) (B:=m+j-i) (n:=i) c.sub.1 c.ld c.sub.2 c.iJ c.le (by omega) (by omega));simp only[e1 (a:=(m:Int)) (b:=(i:Int)) (by omega) (by omega) (by omega) (by omega),l,cK (a:=(m:Int)) (b:=(j:Int)) (by omega) (by omega) (by omega) (by omega),e1 (a:=(m:Int)+(j:Int)) (b:=(i:Int)) (by omega) (by omega) (by omega) (by omega),
     show(m:Int)+(j:Int)-(i:Int)=((m+j-i:Nat):Int) by omega,b7,lY,av,t3,e1 (a:=(j:Int)) (b:=(i:Int)) (by omega) (by omega) (by omega) (by omega),show(j:Int)-(i:Int)=((j-i:Nat):Int) by omega]
    have p:=c.nD t1 t2 (c.iJ.mW (xj _ _ _ _ _ (by omega) (by omega))) (pW _ _ _ _ _);obtain⟨g,r1,r,d⟩:=t N i (j-i) _ _ p (by omega) hi (by omega) y (by rw[pW];omega) (by omega);rw[pW] at d;exact⟨g,r1,t1.trans r,d⟩
theorem arD(d:PF u f)(c:q<b)(g:2048<=q%4096)(h:cE b atf q= .az s e 8 es true)(i:Good 8 es)(j:es.length<1000000)(p:A<m)(r:m<B)(t:B<=es.length):
 kA (C4 u [.az q s 0 es.length,ao A,ao m,ao B,dI f] b atf) b atf q s e 8 (rR m (B-A) (m-A) (B-m) es):=by
 have k:=eL.rF c g h i j;rw[C4,Ok,abz,e1 (a:=(m:Int)) (b:=(A:Int)),e1 (a:=(B:Int)) (b:=(m:Int)),show(m:Int)-(A:Int)=((m-A:Nat):Int) by omega,show(B:Int)-(m:Int)=((B-m:Nat):Int) by omega];obtain⟨h',r1,l,o⟩:=auj (u:=u) (f:=f) (b:=b) (q:=q) (s:=s) (e:=e) (m:=m) d (B-A) 1000000 (m-A) (B-m) es (ba b atf) k (by omega) (by omega) (by omega) (by omega) (by omega) (by omega);rw[o];exact oL l c r1.aj
def Qt(u:Fn)(f:Nat):Prop:=∀{b:Nat} {atf:b1} {q s e A m B:Nat} {es:aY},q<b->2048<=q%4096->cE b atf q= .az s e 8 es true->Good 8 es->es.length<1000000->A<m->m<B->B<=es.length->
 kA (u 358 [.az q s 0 es.length,ao A,ao m,ao B,dI f] b atf) b atf q s e 8 (rR m (B-A) (m-A) (B-m) es)
end
end
section
variable{u:Fn} {b f q s e a m i:Nat} {ρ:jS} {es:aY} {h:aI}
section
variable[Tok]
theorem G6{n:Int}(p:0<=n:=by omega)(r:n<4611686018427387904:=by omega)(k:an->aw):
 (c8 (hs .u64 (ao n)) λx=>c8 (pt .shr x (.V .u64 18446744073709551617)) λy=>c8 (hs .i64 y) k)=k (ao (n/2)):=by
 rw[cX,cX];have c:hs .u64 (.V .i64 (n+18446744073709551616).toNat)=some (.V .u64 (n+18446744073709551616).toNat):=by
  have:lr .u64 (n+18446744073709551616).toNat=true:=by simp only[lr,u1,wC,Hi,hZ];constructor<;>omega
  simp only[hs,this,lR]
 have d:pt .shr (.V .u64 (n+18446744073709551616).toNat) (.V .u64 18446744073709551617)=some (.V .u64 (n/2+18446744073709551616).toNat):=by
  have g:intOf (n+18446744073709551616).toNat=n:=by unfold intOf;omega
  have j:intOf 18446744073709551617=1:=by unfold intOf;omega
  have e:pt .shr (.V .u64 (n+18446744073709551616).toNat) (.V .u64 18446744073709551617)=(Ak .shr (.int .u64 (intOf (n+18446744073709551616).toNat)) (.int .u64 (intOf 18446744073709551617))).bind tr:=rfl;rw[e,g,j];have l:Ak .shr (.int .u64 n) (.int .u64 1)=some (.int .u64 (n.fdiv 2)):=rfl;rw[l,Int.fdiv_eq_ediv_of_nonneg _ (by omega)];simp only[h9,tr];rw[fS]
 have o:hs .i64 (.V .u64 (n/2+18446744073709551616).toNat)=some (.V .i64 (n/2+18446744073709551616).toNat):=by
  have:lr .i64 (n/2+18446744073709551616).toNat=true:=by simp only[lr,u1,wC,Hi,hZ];constructor<;>omega
  simp only[hs,this,lR]
 rw[c];show(c8 (pt .shr (.V .u64 (n+18446744073709551616).toNat) (.V .u64 18446744073709551617)) λy=>c8 (hs .i64 y) k)=_;rw[d];show c8 (hs .i64 (.V .u64 (n/2+18446744073709551616).toNat)) k=_;rw[o];rfl
theorem apY(p:mj){B:Nat}(g:eL b h q s e 8 es)(D:iq u f ρ es)(J:a<m)(K:B<=es.length)(w:fR ρ.ai es m B):
 ∀(d N i j:Nat),j-i<=d->i<=j->m<=i->j<=B->d<N->(∀x,m<=x->x<i->ρ.ai (el es x)<ρ.ai (el es a))->(∀x,j<=x->x<B->ρ.ai (el es a)<=ρ.ai (el es x))->
 ∃i',m<=i'/\i'<=B/\(∀x,m<=x->x<i'->ρ.ai (el es x)<ρ.ai (el es a))/\(∀x,i'<=x->x<B->ρ.ai (el es a)<=ρ.ai (el es x))/\
  fs 0 1 4 10 11 N (Dp u b p) (.az q s 0 es.length) (ao a) (dI f) (ao i) (ao j) h=p (.az q s 0 es.length) (ao a) (ao i') h:=by
 have L:=g.le;intro d;induction d with
 |zero=>
  intro N i j hd E r k F l n;obtain⟨N,rfl⟩:=cN N;have:j=i:=by omega
  subst this;refine⟨j,r,k,l,n,?_⟩;rw[gI];generalize fs 0 1 4 10 11 N (Dp u b p)=M;rw[Dp,bO (a:=(j:Int)) (b:=(j:Int)),bk,a6]
 |succ d y=>
  intro N i j hd E r k F l n;obtain⟨N,rfl⟩:=cN N;rw[gI,Dp,bO (a:=(i:Int)) (b:=(j:Int))];by_cases O:i<j
  ·rw[bN,bL];generalize P:(i+j)/2=c;have G:((i:Int)+(j:Int))/2=(c:Int):=by omega
   unfold SC;rw[cK (a:=(i:Int)) (b:=(j:Int)),G6,G];unfold aee;simp only[aJ,bZ,bp,bg,ce,bj,g.met,g.zQ,aV (yr _ _ _),aN,bK,bF,g.ji (i:=(c:Int)) (by omega) (by omega),show((c:Int)).toNat=c from by omega,g.load (i:=c) (by omega),g.ji (i:=(a:Int)) (by omega) (by omega),show((a:Int)).toNat=a from by omega,g.load (i:=a) (by omega)];obtain⟨z,H,I⟩:=g.mP D (i:=c) (j:=a) (by omega) (by omega) (by omega);rw[I,H];by_cases o:ρ.ai (el es c)<ρ.ai (el es a)
   ·rw[pl o,bL,cK (a:=(c:Int)) (b:=1),show(c:Int)+1=((c+1:Nat):Int) by omega];refine y N (c+1) j (by omega) (by omega) (by omega) k (by omega) ?_ n;intro x A C;by_cases t:x=c
    ·subst t;exact o
    ·exact o4 (w x c A (by omega) (by omega)) o
   ·rw[GG o,a6];refine y N i c (by omega) (by omega) (by omega) (by omega) (by omega) l ?_;intro x A C;by_cases t:x=c
    ·subst t;omega
    ·exact y4 (by omega) (w c x (by omega) (by omega) C)
  ·rw[bk,a6];have:j=i:=by omega
   subst this;exact⟨j,r,k,l,n,rfl⟩
theorem am8(o:mj)(g:eL b h q s e 8 es)(C:iq u f ρ es)(I:m<es.length)(w:fR ρ.ai es a m):
 ∀(d N i j:Nat),j-i<=d->i<=j->a<=i->j<=m->d<N->(∀x,a<=x->x<i->ρ.ai (el es x)<=ρ.ai (el es m))->(∀x,j<=x->x<m->ρ.ai (el es m)<ρ.ai (el es x))->
 ∃i',a<=i'/\i'<=m/\(∀x,a<=x->x<i'->ρ.ai (el es x)<=ρ.ai (el es m))/\(∀x,i'<=x->x<m->ρ.ai (el es m)<ρ.ai (el es x))/\
  fs 0 2 4 14 15 N (Ek u b o) (.az q s 0 es.length) (ao m) (dI f) (ao i) (ao j) h=o (.az q s 0 es.length) (ao m) (ao i') h:=by
 have J:=g.le;intro d;induction d with
 |zero=>
  intro N i j hd D p k E l n;obtain⟨N,rfl⟩:=cN N;have:j=i:=by omega
  subst this;refine⟨j,p,k,l,n,?_⟩;rw[gI];generalize fs 0 2 4 14 15 N (Ek u b o)=K;rw[Ek,bO (a:=(j:Int)) (b:=(j:Int)),bk,a6]
 |succ d y=>
  intro N i j hd D p k E l n;obtain⟨N,rfl⟩:=cN N;rw[gI,Ek,bO (a:=(i:Int)) (b:=(j:Int))];by_cases L:i<j
  ·rw[bN,bL];generalize M:(i+j)/2=c;have F:((i:Int)+(j:Int))/2=(c:Int):=by omega
   unfold Vl;rw[cK (a:=(i:Int)) (b:=(j:Int)),G6,F];unfold acm;simp only[aJ,bZ,bp,bg,ce,bj,g.met,g.zQ,aV (yr _ _ _),aN,bK,bF,g.ji (i:=(c:Int)) (by omega) (by omega),show((c:Int)).toNat=c from by omega,g.load (i:=c) (by omega),g.ji (i:=(m:Int)) (by omega) (by omega),show((m:Int)).toNat=m from by omega,g.load (i:=m) (by omega)];obtain⟨z,G,H⟩:=g.mP C (i:=m) (j:=c) (by omega) (by omega) (by omega);rw[H,G,hj];by_cases r:ρ.ai (el es m)<ρ.ai (el es c)
   ·rw[pl r,tF,a6];refine y N i c (by omega) (by omega) (by omega) (by omega) (by omega) l ?_;intro x A B;by_cases t:x=c
    ·subst t;omega
    ·exact iC r (w c x (by omega) (by omega) B)
   ·rw[GG r,uD,bL,cK (a:=(c:Int)) (b:=1),show(c:Int)+1=((c+1:Nat):Int) by omega];refine y N (c+1) j (by omega) (by omega) (by omega) k (by omega) ?_ n;intro x A B;by_cases t:x=c
    ·subst t;omega
    ·exact y4 (w x c A (by omega) (by omega)) (by omega)
  ·rw[bk,a6];have:j=i:=by omega
   subst this;exact⟨j,p,k,l,n,rfl⟩
end
section
variable{α:Type} [Inhabited α]
def kv:Nat->Nat->List α->List α
 |0,_,es=>es
 |m+1,k,es=>kv m (k+1) (kn es k (k+1))
def wJ:Nat->Nat->List α->List α
 |0,_,es=>es
 |m+1,k,es=>wJ m (k-1) (kn es k (k-1))
theorem T2:∀(m k:Nat) (es:List α),k+m<es.length->(kv m k es).Perm es
 |0,_,es,_=>Kn es
 |m+1,k,es,h=>by unfold kv;exact(T2 m (k+1) _ (by rw[jo];omega)).trans (AE es (by omega) (by omega))
theorem acg:∀(m k:Nat) (es:List α),m<=k->k<es.length->(wJ m k es).Perm es
 |0,_,es,_,_=>Kn es
 |m+1,k,es,h,c=>by unfold wJ;exact(acg m (k-1) _ (by omega) (by rw[jo];omega)).trans (AE es (by omega) (by omega))
theorem ace:∀(m k:Nat) (es:List α),k+m<es.length->∀x,el (kv m k es) x=if k<=x/\x<k+m then el es (x+1) else if x=k+m then el es k else el es x
 |0,k,es,h,x=>by
  unfold kv;rw[cz];split
  ·rename_i e;subst e;rfl
  ·rfl
 |m+1,k,es,h,x=>by
  unfold kv;rw[ace m (k+1) _ (by rw[jo];omega)];simp only[oB (es:=es) (i:=k) (j:=k+1) (by omega) (by omega)]
  (repeat' split)<;>first|rfl|(exfalso;omega)|exact absurd trivial ‹¬True› |(congr 1;omega)
theorem Vz:∀(m k:Nat) (es:List α),m<=k->k<es.length->∀x,el (wJ m k es) x=if k-m<x/\x<=k then el es (x-1) else if x=k-m then el es k else el es x
 |0,k,es,h,c,x=>by
  unfold wJ;rw[cz];split
  ·rename_i e;subst e;rfl
  ·rfl
 |m+1,k,es,h,c,x=>by
  unfold wJ;rw[Vz m (k-1) _ (by omega) (by rw[jo];omega)];simp only[oB (es:=es) (i:=k) (j:=k-1) (by omega) (by omega)]
  (repeat' split)<;>first|rfl|(exfalso;omega)|exact absurd trivial ‹¬True› |(congr 1;omega)
end
section
variable[Tok]
theorem agI:∀(m N k:Nat) (es:aY) (h:aI),eL b h q s e 8 es->k+m+1=i->i<=es.length->m<N->
 ∃h',eL b h' q s e 8 (kv m k es)/\g6 q h h'/\fM 0 10 13 N (Ab u b) (.az q s 0 es.length) (ao i) (ao k) h=qu b h':=by
 intro m;induction m with
 |zero=>intro N k es h c l hi n;have:=c.le;obtain⟨N,rfl⟩:=cN N;refine⟨h,c,.refl,?_⟩;rw[hI];generalize fM 0 10 13 N (Ab u b)=j;rw[Ab,bK,e1 (a:=(i:Int)) (b:=1),bO (a:=(k:Int)),bk,a6]
 |succ m o=>
  intro N k es h c l hi n;have:=c.le;obtain⟨N,rfl⟩:=cN N;rw[hI,Ab,bK,e1 (a:=(i:Int)) (b:=1),bO (a:=(k:Int)),bN,bL];unfold VG;have d:(k:Int)+1=((k+1:Nat):Int):=by omega
  simp only[aJ,bZ,bp,bg,ce,bj,gB,bK,cK (a:=(k:Int)) (b:=1) (by omega) (by omega) (by omega) (by omega),d];unfold YB;simp only[aJ,bZ];rw[c.swap (i:=(k:Int)) (j:=((k+1:Nat):Int)) (by omega) (by omega) (by omega) (by omega)];simp only[bK,cK (a:=(k:Int)) (b:=1) (by omega) (by omega) (by omega) (by omega),d,show((k:Int)).toNat=k from by omega,show((k+1:Nat):Int).toNat=k+1 from by omega];obtain⟨p,r⟩:=c.Dn (i:=k) (j:=k+1) (by omega) (by omega);obtain⟨h',r1,t,g⟩:=o N (k+1) _ _ p (by omega) (by rw[jo];omega) (by omega);rw[jo] at g;exact⟨h',r1,r.trans t,g⟩
theorem anE:∀(m N k:Nat) (es:aY) (h:aI),eL b h q s e 8 es->i+m=k->k<es.length->m<N->
 ∃h',eL b h' q s e 8 (wJ m k es)/\g6 q h h'/\fM 0 14 17 N (AQ u b) (.az q s 0 es.length) (ao i) (ao k) h=qu b h':=by
 intro m;induction m with
 |zero=>intro N k es h c l hi n;have:=c.le;obtain⟨N,rfl⟩:=cN N;refine⟨h,c,.refl,?_⟩;rw[hI];generalize fM 0 14 17 N (AQ u b)=j;rw[AQ,hH (a:=(k:Int)) (b:=(i:Int)),bk,a6]
 |succ m o=>
  intro N k es h c l hi n;have:=c.le;obtain⟨N,rfl⟩:=cN N;rw[hI,AQ,hH (a:=(k:Int)) (b:=(i:Int)),bN,bL];unfold aex;have d:(k:Int)-1=((k-1:Nat):Int):=by omega
  simp only[aJ,bZ,bp,bg,ce,bj,gB,bK,e1 (a:=(k:Int)) (b:=1) (by omega) (by omega) (by omega) (by omega),d];unfold aew;simp only[aJ,bZ];rw[c.swap (i:=(k:Int)) (j:=((k-1:Nat):Int)) (by omega) (by omega) (by omega) (by omega)];simp only[bK,e1 (a:=(k:Int)) (b:=1) (by omega) (by omega) (by omega) (by omega),d,show((k:Int)).toNat=k from by omega,show((k-1:Nat):Int).toNat=k-1 from by omega];obtain⟨p,r⟩:=c.Dn (i:=k) (j:=k-1) (by omega) (by omega);obtain⟨h',r1,t,g⟩:=o N (k-1) _ _ p (by omega) (by rw[jo];omega) (by omega);rw[jo] at g;exact⟨h',r1,r.trans t,g⟩
end
end
section
variable{a b m B mid s0 r0 aM:Nat}
section
variable{α:Type} [Inhabited α] (ρ:α->Nat)
structure na (es asH:List α) (a b:Nat):Prop where
 mW:asH.Perm es
 kH:∀i,i<a\/b<=i->el asH i=el es i
 xy:∀i,a<=i->i<b->∃j,a<=j/\j<b/\el asH i=el es j
theorem na.refl{es:List α}{a b:Nat}:na es es a b:=⟨Kn es,λ_ _=>rfl,λi c d=>⟨i,c,d,rfl⟩⟩
theorem na.len{es asH:List α}(h:na es asH a b):asH.length=es.length:=h.mW.length_eq
structure KF (es:List α) (a m B mid aM en:Nat):Prop where
 am:a<=aM
 ap:aM<=m
 aF:m<=en
 br:en<=B
 cV:aM+en=mid+m
 dL:∀x y,a<=x->x<aM->en<=y->y<B->ρ (el es x)<=ρ (el es y)
 eB:∀x y,aM<=x->x<m->m<=y->y<en->ρ (el es y)<=ρ (el es x)
theorem atA{es:List α}(r:a<m)(t:m<B)(u:mid=(a+B)/2)(g:fR ρ es a m)(h:fR ρ es m B)
 (w:(mid<m/\s0=mid+m-B/\r0=mid)\/(m<=mid/\s0=a/\r0=m))(dB:s0<=aM)(cT:aM<=r0)
 (n:∀c,s0<=c->c<aM->ρ (el es c)<=ρ (el es (mid+m-1-c)))(o:∀c,aM<=c->c<r0->ρ (el es (mid+m-1-c))<ρ (el es c)):KF ρ es a m B mid aM (mid+m-aM):=by
 refine⟨by omega,by omega,by omega,by omega,by omega,?_,?_⟩
 ·intro x y i j k l;have c0:s0<aM:=by omega
  have:=n (aM-1) (by omega) (by omega);rw[show mid+m-1-(aM-1)=mid+m-aM by omega] at this;have p:ρ (el es x)<=ρ (el es (aM-1)):=by
   by_cases d:x=aM-1
   ·subst d;exact sm _
   ·exact g x (aM-1) i (by omega) (by omega)
  have q:ρ (el es (mid+m-aM))<=ρ (el es y):=by
   by_cases e:y=mid+m-aM
   ·subst e;exact sm _
   ·exact h (mid+m-aM) y (by omega) (by omega) l
  omega
 ·intro x y i j k l;have c0:aM<r0:=by omega
  have:=o aM (by omega) (by omega);have p:ρ (el es aM)<=ρ (el es x):=by
   by_cases d:x=aM
   ·subst d;exact sm _
   ·exact g aM x (by omega) (by omega) j
  have q:ρ (el es y)<=ρ (el es (mid+m-1-aM)):=by
   by_cases e:y=mid+m-1-aM
   ·subst e;exact sm _
   ·exact h y (mid+m-1-aM) k (by omega) (by omega)
  omega
structure ali (es es1:List α) (a m B mid aM en:Nat):Prop where
 mW:es1.Perm es
 kH:∀i,i<a\/B<=i->el es1 i=el es i
 xy:∀i,a<=i->i<B->∃j,a<=j/\j<B/\el es1 i=el es j
 cQ:fR ρ es1 a aM
 cL:fR ρ es1 aM mid
 cF:fR ρ es1 mid en
 ed:fR ρ es1 en B
 ae:∀ae y,a<=ae->ae<mid->mid<=y->y<B->ρ (el es1 ae)<=ρ (el es1 y)
theorem anI{es o:List α}{d:Nat}(c:KF ρ es a m B mid aM d)(G:B<=es.length)(p:fR ρ es a m)(q:fR ρ es m B)(A:o.Perm es)
 (hd:∀k,el o k=if aM<=k/\k<mid then el es (k+(m-aM)) else if mid<=k/\k<d then el es (k-(d-m)) else el es k):ali ρ es o a m B mid aM d:=by
 obtain⟨H,I,J,K,L,C,D⟩:=c;have r:∀i j,a<=i->i<=j->j<m->ρ (el es i)<=ρ (el es j):=λi j e l g=>by
  by_cases h:i=j
  ·subst h;exact sm _
  ·exact p i j e (by omega) g
 have t:∀i j,m<=i->i<=j->j<B->ρ (el es i)<=ρ (el es j):=λi j e l g=>by
  by_cases h:i=j
  ·subst h;exact sm _
  ·exact q i j e (by omega) g
 refine⟨A,?_,?_,?_,?_,?_,?_,?_⟩
 ·intro i hi;rw[hd,cz,cz]
 ·intro i E F;rw[hd];split
  ·exact⟨i+(m-aM),by omega,by omega,rfl⟩
  ·split
   ·exact⟨i-(d-m),by omega,by omega,rfl⟩
   ·exact⟨i,E,F,rfl⟩
 ·intro i j e l g;rw[hd,hd,cz,cz,cz,cz];exact p i j e l (by omega)
 ·intro i j e l g;rw[hd,hd,fS,fS];exact t _ _ (by omega) (by omega) (by omega)
 ·intro i j e l g;rw[hd,hd,cz,fS,cz,fS];exact r _ _ (by omega) (by omega) (by omega)
 ·intro i j e l g;rw[hd,hd,cz,cz,cz,cz];exact q i j (by omega) l g
 ·intro x y u M N w;rw[hd,hd];rw[Ca (show¬(aM<=y/\y<mid) by omega)];by_cases z:aM<=x/\x<mid
  ·rw[y1 z];by_cases n:mid<=y/\y<d
   ·rw[y1 n];exact D _ _ (by omega) (by omega) (by omega) (by omega)
   ·rw[Ca n];exact t _ _ (by omega) (by omega) w
  ·rw[Ca z,Ca (show¬(mid<=x/\x<d) by omega)];by_cases n:mid<=y/\y<d
   ·rw[y1 n];exact r _ _ u (by omega) (by omega)
   ·rw[Ca n];exact C _ _ u (by omega) (by omega) w
theorem agX{e h g:List α}(H:a<=mid)(I:mid<=B)(x:∀x y,a<=x->x<mid->mid<=y->y<B->ρ (el e x)<=ρ (el e y))
 (fC:na e h a mid)(t:fR ρ h a mid)(d:na h g mid B)(s2:fR ρ g mid B):na e g a B/\fR ρ g a B:=by
 refine⟨⟨d.mW.trans fC.mW,λi hi=>?_,λi u w=>?_⟩,λi j l n o=>?_⟩
 ·rw[d.kH i (by omega),fC.kH i (by omega)]
 ·by_cases c:i<mid
  ·rw[d.kH i (by omega)];obtain⟨j,p,q,k⟩:=fC.xy i u c;exact⟨j,p,by omega,k⟩
  ·obtain⟨j,p,q,k⟩:=d.xy i (by omega) w;exact⟨j,by omega,q,by rw[k,fC.kH j (by omega)]⟩
 ·by_cases c1:j<mid
  ·rw[d.kH i (by omega),d.kH j (by omega)];exact t i j l n c1
  ·by_cases z:mid<=i
   ·exact s2 i j z n o
   ·rw[d.kH i (by omega)];obtain⟨i',A,C,D⟩:=fC.xy i l (by omega);obtain⟨r,E,F,G⟩:=d.xy j (by omega) o;rw[D,G,fC.kH r (by omega)];exact x i' r A C E F
end
section
variable[Tok]
theorem aBe{u:Fn}{f:Nat}{ρ:jS}(y:tA){q s e n p:Nat}{es:aY}{h:aI}(g:eL b h q s e 8 es)(J:iq u f ρ es)(W:B<=es.length)(E:fR ρ.ai es a m)(F:fR ρ.ai es m B)
 (A:∀c,s0<=c->c<r0->a<=c/\c<m/\m+c<=p/\p<B+c)(X:mid<1000000)(Z:n<2000000)(ar:p<2000000)(a1:r0<1000000):
 ∀(d N aM r:Nat),r-aM<=d->s0<=aM->aM<=r->r<=r0->d<N->(∀c,s0<=c->c<aM->ρ.ai (el es c)<=ρ.ai (el es (p-c)))->(∀c,r<=c->c<r0->ρ.ai (el es (p-c))<ρ.ai (el es c))->
 ∃k,s0<=k/\k<=r0/\(∀c,s0<=c->c<k->ρ.ai (el es c)<=ρ.ai (el es (p-c)))/\(∀c,k<=c->c<r0->ρ.ai (el es (p-c))<ρ.ai (el es c))/\
  DM 0 1 2 3 4 18 19 20 21 22 N (Dg u b y) (.az q s 0 es.length) (ao a) (ao m) (ao B) (dI f) (ao mid) (ao n) (ao aM) (ao r) (ao p) h=y (.az q s 0 es.length) (ao a) (ao m) (ao B) (dI f) (ao mid) (ao n) (ao k) h:=by
 have a2:=g.le;intro d;induction d with
 |zero=>
  intro N aM r hd l K o L t w;obtain⟨N,rfl⟩:=cN N;have:r=aM:=by omega
  subst this;refine⟨r,l,o,t,w,?_⟩;rw[acF];generalize DM 0 1 2 3 4 18 19 20 21 22 N (Dg u b y)=a3;rw[Dg,bO (a:=(r:Int)) (b:=(r:Int)),bk,a6]
 |succ d G=>
  intro N aM r hd l K o L t w;obtain⟨N,rfl⟩:=cN N;rw[acF,Dg,bO (a:=(aM:Int)) (b:=(r:Int))];by_cases a4:aM<r
  ·rw[bN,bL];generalize hc:(aM+r)/2=c;have M:((aM:Int)+(r:Int))/2=(c:Int):=by omega
   obtain⟨r1,O,a5,bd⟩:=A c (by omega) (by omega);have P:(p:Int)-(c:Int)=((p-c:Nat):Int):=by omega
   unfold aaZ;rw[cK (a:=(aM:Int)) (b:=(r:Int)),G6,M];unfold UI;simp only[aJ,bZ,bp,bg,ce,bj,g.met,g.zQ,aV (yr _ _ _),aN,bK,bF,e1 (a:=(p:Int)) (b:=(c:Int)) (by omega) (by omega) (by omega) (by omega),P,g.ji (i:=((p-c:Nat):Int)) (by omega) (by omega),show((p-c:Nat):Int).toNat=p-c from by omega,g.load (i:=p-c) (by omega),g.ji (i:=(c:Int)) (by omega) (by omega),show((c:Int)).toNat=c from by omega,g.load (i:=c) (by omega)];obtain⟨z,Q,R⟩:=g.mP J (i:=p-c) (j:=c) (by omega) (by omega) (by omega);rw[R,Q,hj];by_cases C:ρ.ai (el es (p-c))<ρ.ai (el es c)
   ·rw[pl C,tF,a6];refine G N aM c (by omega) l (by omega) (by omega) (by omega) t ?_;intro x H I;obtain⟨t1,t2,t3,t4⟩:=A x (by omega) I;by_cases D:x=c
    ·subst D;exact C
    ·have S:=E c x r1 (by omega) t2;have T:=F (p-x) (p-c) (by omega) (by omega) (by omega);omega
   ·rw[GG C,uD,bL,cK (a:=(c:Int)) (b:=1),show(c:Int)+1=((c+1:Nat):Int) by omega];refine G N (c+1) r (by omega) (by omega) (by omega) o (by omega) ?_ w;intro x H I;obtain⟨t1,t2,t3,t4⟩:=A x H (by omega);by_cases D:x=c
    ·subst D;omega
    ·have S:=E x c t1 (by omega) O;have T:=F (p-c) (p-x) (by omega) (by omega) (by omega);omega
  ·rw[bk,a6];have:r=aM:=by omega
   subst this;exact⟨r,l,o,t,w,rfl⟩
def zS(u:Fn)(f:Nat)(ρ:jS)(D:Nat):Prop:=∀{b:Nat} {atf:b1} {q s e a m B:Nat} {es:aY},q<b->2048<=q%4096->cE b atf q= .az s e 8 es true->Good 8 es->es.length<1000000->iq u f ρ es->
 B-a<=D->a<m->m<B->B<=es.length->fR ρ.ai es a m->fR ρ.ai es m B->
 ∃asH,kA (u 336 [.az q s 0 es.length,ao a,ao m,ao B,dI f] b atf) b atf q s e 8 asH/\na es asH a B/\fR ρ.ai asH a B
end
end
end Go.Hf

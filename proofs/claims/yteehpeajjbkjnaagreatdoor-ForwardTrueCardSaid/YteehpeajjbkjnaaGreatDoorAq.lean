import Derived.Test.YteehpeajjbkjnaaGreatDoorAp
import Derived.Test.YteehpeajjbkjnaaGreatDoorAl
import Derived.Test.YteehpeajjbkjnaaGreatDoorAm
import Derived.Test.YteehpeajjbkjnaaGreatDoorAn
set_option maxRecDepth 100000
set_option linter.all false
noncomputable section
namespace Go.Hf
open Go.RowKit
section
variable{xs:bg}{o:az}
def GC:eZ:=(4,0x6c697370,8,0x62696e6172792d2b,2)
def KZ:eZ:=(4,0x6c697370,1,0x3c,2)
def CK:eZ:=(4,0x6c697370,3,0x6e6f74,1)
def xR:eZ:=(4,0x6c697370,3,0x6c656e,1)
def aaS:eZ:=(4,0x75736572,4,0x74726565,1)
def K0:eZ:=(4,0x6c697370,4,0x6e617470,1)
def aaR:eZ:=(4,0x6c697370,4,0x706f7370,1)
def CJ:eZ:=(4,0x6c697370,8,0x696e746567657270,1)
def aoh:eZ:=(4,0x6c697370,5,0x636f6e7370,1)
def aog:eZ:=(4,0x6c697370,3,0x636472,1)
section
variable[Tok] {D:eZ->List dc->az->Prop}{e:List (dc×az)}
def Kb(v:az):az:=eG i5 [v,fg (gW false),fg (gW true)]
def Qb(v:az):az:=eG i5 [eG CJ [v],eG CK [eG KZ [v,fg (fw 0 1)]],fg (gW false)]
def Ym(v:az):az:=eG i5 [eG CJ [v],eG KZ [fg (fw 0 1),v],fg (gW false)]
def Qa(v:az):az:=eG i5 [eG aoh [v],eG GC [fg (fw 1 1),eG xR [eG aog [v]]],fg (fw 0 1)]
def H2(s:dc):az:=kQ (.s s.1 s.2.1) (.s s.2.2.1 s.2.2.2)
def ud:List (eZ×(az->az)):=[(CK,Kb),(K0,Qb),(aaR,Ym),(xR,Qa)]
structure sC (D:eZ->List dc->az->Prop):Prop where
 fn:∀h ps gz ps' bd',D h ps gz->D h ps' bd'->ps=ps'/\gz=bd'
 gz:∀p∈ud,∀ps gz,D p.1 ps gz->∃s:dc,ps=[s]/\gz=p.2 (H2 s)
 dm:∀p∈ud,∃ps gz,D p.1 ps gz
theorem sC.aF{D:eZ->List dc->az->Prop}(H:sC D):∀ps a,D CK ps a->∃s:dc,ps=[s]/\a=eG i5 [kQ (.s s.1 s.2.1) (.s s.2.2.1 s.2.2.2),fg (gW false),fg (gW true)]:=λps a h=>H.gz (CK,Kb) fQ ps a h
theorem ae1{l ys:bg}(b:l.length=xs.length)(d:l.length=ys.length)(H:∀(i:Nat) (t x y:az),l[i]? =some t->xs[i]? =some x->ys[i]? =some y->x=y):xs=ys:=by refine List.ext_getElem (by omega) λi a c=>?_;exact H i (l[i]'(by omega)) _ _ (fo _) (fo _) (fo _)
theorem MQ{p q:Prop}{o':az}(a:∃e,o=gW e/\(e=true↔p))(b:∃e,o'=gW e/\(e=true↔p)):o=o':=by obtain⟨e,rfl,a⟩:=a;obtain⟨e',rfl,b⟩:=b;congr 1;cases e<;>cases e'<;>simp_all
theorem aul{h:eZ}(c:h∈lW){p:az}(a:lg h.2.2.2.1 xs o)(b:lg h.2.2.2.1 xs p):o=p:=by simp only[lW,Ak,Al,hN,ny,wx,yO,e9,iV,iU]at c;rcases c with rfl|rfl|rfl|rfl|rfl|rfl|rfl|rfl|rfl|rfl|rfl|rfl;exact(a.Gb rfl).trans (b.Gb rfl).symm;exact(a.YO rfl).trans (b.YO rfl).symm;exact(a.YU rfl).trans (b.YU rfl).symm;exact MQ (q:=True) (a.sym rfl) (b.sym rfl);exact MQ (q:=True) (a.adI rfl) (b.adI rfl);exact MQ (q:=True) (a.int rfl) (b.int rfl);exact(a.neg rfl).trans (b.neg rfl).symm;exact MQ (q:=True) (a.Gt rfl) (b.Gt rfl);exact(a.Km rfl).trans (b.Km rfl).symm;exact(a.add rfl).trans (b.add rfl).symm;exact(a.mul rfl).trans (b.mul rfl).symm;exact(a.Lt rfl).trans (b.Lt rfl).symm
theorem aeR(H:sC D){e:List (dc×az)}{t:az}(V:eD D e t o):∀o',eD D e t o'->o=o':=by
 induction V with
 |var e s o h=>intro o' b;have:=(AI b).1 s rfl;rw[h]at this;exact l2 this
 |gT e o=>intro o' b;exact((AI b).2.1 o rfl).symm
 |vQ e a c d x y A B J n C=>intro o' b;rcases aeT b with⟨x',g,j,z⟩|⟨g,j⟩;exact C _ z;exact absurd (n _ g) B
 |xU e a c d y A hd n E=>intro o' b;rcases aeT b with⟨x',g,j,z⟩|⟨g,j⟩;exact absurd (n _ g).symm j;exact E _ j
 |Aj e h k l xs o p F ho q=>intro o' b;obtain⟨ys,r,u,w⟩:=TH k b;obtain rfl:=ae1 p r λi t x y a c d=>q i t x a c y (u i t y a d);exact aul k ho w
 |fn e h k ps K G l xs o p F L q I=>intro o' b;obtain⟨M,N,ys,k0,r,u,w⟩:=aeS k b;obtain rfl:=ae1 p r λi t x y a c d=>q i t x a c y (u i t y a d);obtain⟨rfl,rfl⟩:=H.fn _ _ _ _ _ G k0;exact I _ w
theorem awS(s:dc):HO s s=true:=by
 have e:∀a c:Nat,eN a c a c=true:=λa c=>by unfold eN;rw[Nat.beq_refl,Nat.beq_refl];rfl
 unfold HO;rw[e,e];rfl
theorem arP(x:Bool):gW x=e5↔x=false:=by cases x;exact⟨λ_=>rfl,λ_=>rfl⟩;refine⟨λh=>?_,λh=>by cases h⟩;unfold gW e5 iD at h;simp at h
theorem Tt{x y:Bool}(h:gW x=gW y):x=y:=by cases x<;>cases y<;>first|rfl|exact absurd ((arP true).1 (by first|exact h|exact h.symm)) (by simp)
end
end
section
variable[Tok] {D:eZ->List dc->az->Prop}{e:List (dc×az)}{o:az}
theorem aaW:∀h∈kn++lQ++lP,h∈hT:=by decide+kernel
end
def mc(a:ay):az:=match a with
 | .ok (.bD [.agg F,.U _]) _ _ _=>F
 |_=>[]
def K4(a:ay):Bool:=match a with
 | .ok (.bD [.agg _,.U _]) ub _ _=>Nat.beq ub 0
 |_=>false
theorem aov{a:ay}(h:K4 a=true):∃e s d,a= .ok (.bD [.agg (mc a),.U e]) 0 s d:=by unfold K4 at h;split at h;rename_i F e ub s d;have:=e8 h;subst this;exact⟨e,s,d,rfl⟩;cases h
def HP:bg->List dc
 |[]=>[]
 |[.s a b,.s c d]::r=>(a,b,c,d)::HP r
 |_::r=>(0,0,0,0)::HP r
def MJ:bg->Bool
 |[]=>true
 |[.s _ _,.s _ _]::r=>MJ r
 |_=>false
theorem aeo:∀{l:bg},MJ l=true->(HP l).map cw=l
 |[],_=>rfl
 |x::r,h=>by unfold MJ at h;split at h;rename_i e;cases e;rename_i a b c d g e;simp only[jQ]at e;obtain⟨rfl,rfl⟩:=e;simp only[HP,hN,aeo h,cw];cases h
def vY(x:Option ao):bg:=match x with
 |some (.aN _ l)=>l
 |_=>[]
def Rx(n:Nat)(x:Option ao):Bool:=match x with
 |some (.aN m _)=>Nat.beq m n
 |_=>false
theorem aow{n:Nat}{x:Option ao}(h:Rx n x=true):x=some (.aN n (vY x)):=by unfold Rx at h;split at h;have:=e8 h;subst this;rfl;cases h
def kI(x y:az):Bool:=vL (.agg x) (.agg y)
theorem na{x y:az}(h:kI x y=true):x=y:=by have:=QR (.agg x) (.agg y) h;simpa using this
section
variable[Tok]
def YV:bg:=jZ++[eK 0,eK 1,eK (-1),eK 2]
theorem alT:∀o∈YV,dL o:=λo h=>by rcases fq.1 h with h|h;exact Rg h;have a:∀z:Int,(b5 z<=100/\b5 1<=100)->dL (eK z):=λz b=>uo (n:=0) (.leaf (.inr ⟨z,rfl,b⟩)) (by omega);simp only[e9,iV,iU]at h;rcases h with rfl|rfl|rfl|rfl;exact a 0 (by decide+kernel);exact a 1 (by decide+kernel);exact a (-1) (by decide+kernel);exact a 2 (by decide+kernel)
def aen(t:az):az:=match t with
 |[_,.s a b,.s c d,_,_,_,_,_,_,_,_]=>kQ (.s a b) (.s c d)
 |_=>fg e5
def MN(a:List eZ):Nat->az->Bool
 |0,t=>false
 |n+1,t=>kI (aen t) t||(YV.any (λo=>kI (fg o) t)||a.any λh=>Rx 11 t[10]? &&(kI ((eG h []).take 10) (t.take 10)&&(Nat.beq t.length 11&&(Nat.beq (vY t[10]?).length h.2.2.2.2&&(vY t[10]?).all (MN a n)))))
theorem awT{h:eZ}{t:az}{l:bg}(a:(eG h []).take 10=t.take 10)(b:t[10]? =some (.aN 11 l))(c:t.length=11):eG h l=t:=by
 have e:t.drop 10=[.aN 11 l]:=by rw[sy (by omega),If (by omega)];rw[(g8.1 b).2]
 rw[<-List.take_append_drop 10 t,<-a,e];rfl
theorem aet{b:List eZ}(c:∀h∈b,h∈hT):∀{n:Nat}{t:az},MN b n t=true->n5 n t
 |0,t,h=>by cases h
 |n+1,t,h=>by simp only[MN,oA]at h;rcases h with h|h|h;have h:=na h;unfold aen at h;split at h;rw[<-h];exact .var _ (_,_,_,_);rw[<-h];exact .gT _ _ (pZ false);obtain⟨o,ho,h⟩:=nC.1 h;rw[<-na h];exact .gT _ o (alT o ho);obtain⟨g,k,h⟩:=nC.1 h;simp only[cC]at h;obtain⟨d,i,j,a,p⟩:=h;have e:=awT (na i) (aow d) (e8 j);have a:=e8 a;clear d i j;generalize vY t[10]? =l at*;subst e;exact .g3 n g (c g k) l a λs q=>aet c (gp p q)
end
section
variable{x:az}
section
variable[Tok] {u:Fn}{b:Nat}
theorem alr{y:az}(e:fR x)(i:fR y)(j:∀a c l,bf u 125 [.s a c,.aN 11 l] (.agg (dI dH (.s a c) l))):∃s d,FT u [.agg x,.agg y] 0 .nil= .ok (.agg (dI dH (.s 5 0x657175616c) [x,y])) 0 s d:=by obtain⟨k,o⟩:=e;obtain⟨p,q⟩:=i;have h:=j 5 0x657175616c [x,y];have r:(dI dH (.s 5 0x657175616c) [x,y]).length=11:=rfl;have w:cg (dI dH (.s 5 0x657175616c) [x,y])=true:=rfl;rw[FT,ep];rw[X1,b3,X0,b3,cF,av,aU,av,aU,vT,vU,aq,aq,iR,jY,aq,a0,cM,adG,eU,aU,bJ,a6,aq];exact b6
theorem akJ(e:fR x)(i:∀a c l,bf u 125 [.s a c,.aN 11 l] (.agg (dI dH (.s a c) l))):∃s d,E1 u [.agg x] 0 .nil= .ok (.agg (dI dH (.s 3 0x6e6f74) [x])) 0 s d:=by obtain⟨j,k⟩:=e;have h:=i 3 0x6e6f74 [x];have o:(dI dH (.s 3 0x6e6f74) [x]).length=11:=rfl;have p:cg (dI dH (.s 3 0x6e6f74) [x])=true:=rfl;rw[E1,jp];rw[We,b3,cF,av,aU,jB,aq,iR,jY,aq,a0,cM,adr,eU,aU,bJ,a6,aq];exact b6
def HA:List (Nat×Nat×Nat):=[(5,0x636f6e7370,1536),(7,0x73796d626f6c70,224),(9,0x726174696f6e616c70,31),(8,0x696e746567657270,7)]
def ql(a c:Nat):Option Nat:=(HA.find? λx=>Nat.beq x.1 a&&Nat.beq x.2.1 c).map (·.2.2)
theorem apc(n:Nat):(oS.all λh=>iu (bR bX (n+30) 94 [.agg [.s h.1 h.2.1,.s h.2.2.1 h.2.2.2.1]] 0 .nil) (.bD [aA (((bif Nat.beq h.2.1 0x6c697370 then ql h.2.2.1 h.2.2.2.1 else none).getD 0:Nat):Int),.U ((bif Nat.beq h.2.1 0x6c697370 then ql h.2.2.1 h.2.2.2.1 else none).isSome)]))=true:=by kernel_rfl
theorem aoV(n:Nat):(iu (bR bX (n+30) 266 [aA 0] 0 .nil) (.agg (fw 0 1))&&iu (bR bX (n+30) 265 [.agg (fw 0 1)] 0 .nil) (.agg (fg (fw 0 1))))=true:=by kernel_rfl
def o9:List (az×Nat):=[(e5,32),(iD 4 0x6c697370 1 0x74,64),(fw 0 1,1)]
def Ry(o:az):Bool:=o9.any λp=>kI p.1 o
theorem aoW(n:Nat):(nf.all λo=>iu (bR bX (n+60) 267 [.agg (fg o)] 0 .nil) (.U (Ry o)))=true:=by kernel_rfl
theorem aoY(n:Nat)(a d:az):iu (bR bX (n+60) 267 [.agg (fg (il a d))] 0 .nil) (.U false)=true:=by kernel_rfl
theorem aoZ(n i:Nat):iu (bR bX (n+60) 267 [.agg (gS i)] 0 .nil) (.U false)=true:=by kernel_rfl
theorem aoX(n:Nat)(p q:ao)(l:bg):iu (bR bX (n+60) 267 [.agg (dI p q l)] 0 .nil) (.U false)=true:=by kernel_rfl
theorem aoK(n:Nat):(o9.all λp=>iu (bR bX (n+60) 129 [.agg p.1] 0 .nil) (aA ((p.2:Nat):Int)))=true:=by kernel_rfl
inductive jR (t:az):az->Nat->Prop
 |adK (a c s:Nat) (h:ql a c=some s):jR t (dI dH (.s a c) [t]) s
 |LP:jR t (dI dH (.s 1 0x3c) [t,fg (fw 0 1)]) 20
 |a9:jR t (dI dH (.s 1 0x3c) [fg (fw 0 1),t]) 10
 |Cz (o:az) (s:Nat) (h:(o,s)∈o9):jR t (dI dH (.s 5 0x657175616c) [t,fg o]) s
 |el (o:az) (s:Nat) (h:(o,s)∈o9):jR t (dI dH (.s 5 0x657175616c) [fg o,t]) s
def iW(C:Nat->Prop)(a:ay):Prop:=∃(s:Nat) (l:az) (e:Bool),fR l/\s<=2047/\(e=true->C s)/\∃bj d,a= .ok (.bD [aA ((s:Nat):Int),.agg l,.U e]) 0 bj d
structure A5 (u:Fn) (n:Nat):Prop where
 qS:∀m k x y,m<=n->cq m x->cq k y->rx u x y
 KY:∀h∈oS,bf u 94 [.agg [.s h.1 h.2.1,.s h.2.2.1 h.2.2.2.1]] (.bD [aA (((bif Nat.beq h.2.1 0x6c697370 then ql h.2.2.1 h.2.2.2.1 else none).getD 0:Nat):Int),.U ((bif Nat.beq h.2.1 0x6c697370 then ql h.2.2.1 h.2.2.2.1 else none).isSome)])
 aaO:∀m y,cq m y->∃e,bf u 267 [.agg y] (.U e)/\(e=true->∃o s,(o,s)∈o9/\y=fg o/\bf u 129 [.agg o] (aA ((s:Nat):Int)))
 vN:bf u 266 [bt] (.agg (fw 0 1))
 r2:bf u 265 [.agg (fw 0 1)] (.agg (fg (fw 0 1)))
 aaQ:∀x y,fR x->fR y->bf u 92 [.agg x,.agg y] (.agg (dI dH (.s 5 0x657175616c) [x,y]))
theorem iW.aF{C:Nat->Prop}{a:ay}{l:az}(c:fR l)(h:∃bj d,a= .ok (.bD [bt,.agg l,.U false]) 0 bj d):iW C a:=by rw[b7]at h;exact⟨0,l,false,c,by omega,λe=>(by cases e),h⟩
theorem auO{a c s:Nat}(h:ql a c=some s):s<=2047:=by
 unfold ql at h;cases e:HA.find? λx=>Nat.beq x.1 a&&Nat.beq x.2.1 c with
 |none=>rw[e]at h;cases h
 |some x=>rw[e]at h;have:=List.mem_of_find?_eq_some e;simp only[HA,e9,iV,iU]at this;simp only[jH,dN]at h;rcases this with rfl|rfl|rfl|rfl<;>simp at h<;>omega
theorem TT:cq 0 (fg (fw 0 1)):=by have:=cq.gT 0 _ Sr;rwa [G8]at this
section
variable{n m:Nat}{a t:az}{h:aO} [cp h 0] [dS h] {g s3 s5:Nat}{Z:az}
end
end
end
section
variable{a o x y t Z:az}{s n m e g c j i:Nat}{h:aO}
section
variable[Tok] {u:Fn}{b:Nat}
theorem iW.AL{C:Nat->Prop}{a:ay}{l:az}(k:fR l)(p:s<=2047)(q:C s)(h:∃bj d,a= .ok (.bD [aA ((s:Nat):Int),.agg l,.U true]) 0 bj d):iW C a:=⟨s,l,true,k,p,λ_=>q,h⟩
theorem aeb(h:(o,s)∈o9):s<=2047:=by simp only[o9,e9,h4,iV,iU]at h;rcases h with⟨_,rfl⟩|⟨_,rfl⟩|⟨_,rfl⟩<;>omega
theorem aea(h:(o,s)∈o9):o.length=7:=by simp only[o9,e9,h4,iV,iU]at h;rcases h with⟨rfl,_⟩|⟨rfl,_⟩|⟨rfl,_⟩<;>rfl
theorem aed(h:(o,s)∈o9):cg o=true:=by simp only[o9,e9,h4,iV,iU]at h;rcases h with⟨rfl,_⟩|⟨rfl,_⟩|⟨rfl,_⟩;exact(pZ false).v.2;exact(pZ true).v.2;exact Ac _ _
theorem akM(O:A5 u n)(N:g<256^e)(p:∃k,k<=n/\cq k x)(d:∃k,k<=n/\cq k y)(H:cq m t)(I:a=dI dH (.s e g) [x,y])(cs:a[9+1]? =some (.aN 11 [x,y]))(cu:a[0+1+1]? =some (.s e g))(X:fR a)[cp h 0][dS h](cY:h.am (0+2)= .box c a)(o3:h.am (0+3)= .box j t)(o5:h.am (0+5)= .box i Z)(c0:Z.length=11)
 (f1:eN e g 1 0x3c=false)(f2:eN e g 5 0x657175616c=true):iW (jR t a) (lE u 0 (.aQ (0+2) c 10) (.aQ (0+2) c 0) (.aQ (0+3) j 0) (.aQ (0+5) i 0) h):=by
 obtain⟨J,P,p⟩:=p;obtain⟨w,D,d⟩:=d;obtain⟨Y,al⟩:=p.p;obtain⟨ar,a1⟩:=d.p;obtain⟨t1,t2⟩:=H.p;obtain⟨Q,R⟩:=X;have a3:= @jR.LP t;have a4:= @jR.a9 t;have K:=TT;obtain⟨a5,bd⟩:(fw 0 1).length=7/\cg (fw 0 1)=true:=⟨rfl,Ac _ _⟩;have bs:=O.vN;have S:=O.r2;have E:=λw D y d=>(O.qS w 0 y _ D d K).aX;obtain⟨c1,T⟩:∃z,z=fw 0 1:=⟨_,rfl⟩;obtain⟨z,V⟩:∃z,z=fg (fw 0 1):=⟨_,rfl⟩;rw[<-V]at a3 a4 K S E;rw[<-T]at S bs a5 bd;clear V T;obtain⟨c3,c4⟩:=K.p;obtain⟨A,bx,c5⟩:=(O.qS J m x t P p H).aX;obtain⟨dd,ds,dt⟩:=E J P x p;obtain⟨dz,ee,E⟩:=E w D y d;obtain⟨B,b1,em⟩:=(O.qS w m y t D d H).aX;have L:=oe N (by decide) f2;rw[L.1,L.2]at I;clear L N;obtain⟨q,en,b2⟩:=O.aaO w y d;obtain⟨r,eq,cc⟩:=O.aaO J x p;have F:∀(c8:(bif A then q else false)=false) (cX:(bif B then r else false)=false),iW (jR t a) (lE u 0 (.aQ (0+2) c 10) (.aQ (0+2) c 0) (.aQ (0+3) j 0) (.aQ (0+5) i 0) h):=by intro c8 cX;refine iW.aF ⟨Q,R⟩ ?_;cases A<;>cases B;rw[lE];rw[aS,bO,aP,av,aL,be,aP,b7,gQ,aS,be,aP,cI,aU,aH,aS,bO,aP,av,aL,be,aP,b8,jC,oK,aS,be,aP,cI,aU,hL,hL,bO,aP,eS,bO,aP,eS,a0,bE,a6,aq,a0,oJ,cF,cM,aH,bn,aH,av,aL,jX,f1,bc,vx,jX,f2,bw,w5,av,aU,w4,av,aU,b4,a6,a6,aq,aq,a0,gB,vw,cl,ch,bc,av,aU,zj,av,aU,b4,a6,a6,aq,aq,a0,gB,w3,cl,ch,bc,sR,aS,bO,aP,av,aU,bO,aP,eS,ky,b7,ei,eU,aU,a6,cl,dh,aq,aq,aq];exact b6;obtain rfl:r=false:=cX;rw[lE];rw[aS,bO,aP,av,aL,be,aP,b7,gQ,aS,be,aP,cI,aU,aH,aS,bO,aP,av,aL,be,aP,b8,jC,oK,aS,be,aP,cI,aU,hL,hL,bO,aP,eS,bO,aP,eS,a0,bE,a6,aq,a0,oJ,cF,cM,aH,bn,aH,av,aL,jX,f1,bc,vx,jX,f2,bw,w5,av,aU,w4,av,aU,b4,a6,a6,aq,aq,a0,gB,vw,cl,ch,bc,av,aU,zj,av,aU,b4,a6,a6,aq,aq,a0,dR,av,aU,bE,a6,aq,a0,w3,cl,cA,bc,sR,aS,bO,aP,av,aU,bO,aP,eS,ky,b7,ei,eU,aU,a6,cl,dh,aq,aq,aq];exact b6;obtain rfl:q=false:=c8;rw[lE];rw[aS,bO,aP,av,aL,be,aP,b7,gQ,aS,be,aP,cI,aU,aH,aS,bO,aP,av,aL,be,aP,b8,jC,oK,aS,be,aP,cI,aU,hL,hL,bO,aP,eS,bO,aP,eS,a0,bE,a6,aq,a0,oJ,cF,cM,aH,bn,aH,av,aL,jX,f1,bc,vx,jX,f2,bw,w5,av,aU,w4,av,aU,b4,a6,a6,aq,aq,a0,dR,av,aU,bE,a6,aq,a0,vw,cl,cA,bc,av,aU,zj,av,aU,b4,a6,a6,aq,aq,a0,gB,w3,cl,ch,bc,sR,aS,bO,aP,av,aU,bO,aP,eS,ky,b7,ei,eU,aU,a6,cl,dh,aq,aq,aq];exact b6;obtain rfl:q=false:=c8;obtain rfl:r=false:=cX;rw[lE];rw[aS,bO,aP,av,aL,be,aP,b7,gQ,aS,be,aP,cI,aU,aH,aS,bO,aP,av,aL,be,aP,b8,jC,oK,aS,be,aP,cI,aU,hL,hL,bO,aP,eS,bO,aP,eS,a0,bE,a6,aq,a0,oJ,cF,cM,aH,bn,aH,av,aL,jX,f1,bc,vx,jX,f2,bw,w5,av,aU,w4,av,aU,b4,a6,a6,aq,aq,a0,dR,av,aU,bE,a6,aq,a0,vw,cl,cA,bc,av,aU,zj,av,aU,b4,a6,a6,aq,aq,a0,dR,av,aU,bE,a6,aq,a0,w3,cl,cA,bc,sR,aS,bO,aP,av,aU,bO,aP,eS,ky,b7,ei,eU,aU,a6,cl,dh,aq,aq,aq];exact b6
 have W:∀(c8:(bif A then q else false)=false),B=true->r=true->iW (jR t a) (lE u 0 (.aQ (0+2) c 10) (.aQ (0+2) c 0) (.aQ (0+3) j 0) (.aQ (0+5) i 0) h):=by intro c8 cX ih;subst cX ih;obtain⟨o,s,ho,rfl,cn⟩:=cc rfl;obtain rfl:=b1 rfl;have er:=O.aaQ y (fg o) ⟨ar,a1⟩ ⟨Y,al⟩;have lo:o.length=7:=aea ho;have M:cg o=true:=aed ho;have C:=qm lo M;have G:=C.t3;have gD:=C.gD;have es:(dI dH (.s 5 0x657175616c) [y,fg o]).length=11:=rfl;have ex:cg (dI dH (.s 5 0x657175616c) [y,fg o])=true:=rfl;refine iW.AL (l:=dI dH (.s 5 0x657175616c) [y,fg o]) ⟨rfl,rfl⟩ (aeb ho) (I▸jR.el o s ho) ?_;cases A;rw[lE];rw[aS,bO,aP,av,aL,be,aP,b7,gQ,aS,be,aP,cI,aU,aH,aS,bO,aP,av,aL,be,aP,b8,jC,oK,aS,be,aP,cI,aU,hL,hL,bO,aP,eS,bO,aP,eS,a0,bE,a6,aq,a0,oJ,cF,cM,aH,bn,aH,av,aL,jX,f1,bc,vx,jX,f2,bw,w5,av,aU,w4,av,aU,b4,a6,a6,aq,aq,a0,gB,vw,cl,ch,bc,av,aU,zj,av,aU,b4,a6,a6,aq,aq,a0,dR,av,aU,bE,a6,aq,a0,w3,cl,cA,bw,OB,aH,aS,bO,aP,av,dG gD,G,be,aP,a6,aq,a0,OF,aS,bO,aP,av,aU,aS,bO,aP,av,aU,be,be,aP,a6,a6,aq,aq,a0,bO,aP,eS,ky,ei,eU,aU,a6,cf,dh,aq,aq,aq];exact b6;obtain rfl:q=false:=c8;rw[lE];rw[aS,bO,aP,av,aL,be,aP,b7,gQ,aS,be,aP,cI,aU,aH,aS,bO,aP,av,aL,be,aP,b8,jC,oK,aS,be,aP,cI,aU,hL,hL,bO,aP,eS,bO,aP,eS,a0,bE,a6,aq,a0,oJ,cF,cM,aH,bn,aH,av,aL,jX,f1,bc,vx,jX,f2,bw,w5,av,aU,w4,av,aU,b4,a6,a6,aq,aq,a0,dR,av,aU,bE,a6,aq,a0,vw,cl,cA,bc,av,aU,zj,av,aU,b4,a6,a6,aq,aq,a0,dR,av,aU,bE,a6,aq,a0,w3,cl,cA,bw,OB,aH,aS,bO,aP,av,dG gD,G,be,aP,a6,aq,a0,OF,aS,bO,aP,av,aU,aS,bO,aP,av,aU,be,be,aP,a6,a6,aq,aq,a0,bO,aP,eS,ky,ei,eU,aU,a6,cf,dh,aq,aq,aq];exact b6
 cases A;cases B;exact F rfl rfl;cases r;exact F rfl rfl;exact W rfl rfl rfl;cases q;cases B;exact F rfl rfl;cases r;exact F rfl rfl;exact W rfl rfl rfl;obtain⟨o,s,ho,rfl,cn⟩:=b2 rfl;obtain rfl:=bx rfl;have lo:o.length=7:=aea ho;have M:cg o=true:=aed ho;have C:=qm lo M;have G:=C.t3;have gD:=C.gD;refine iW.AL ⟨Q,R⟩ (aeb ho) (I▸jR.Cz o s ho) ?_;rw[lE];rw[aS,bO,aP,av,aL,be,aP,b7,gQ,aS,be,aP,cI,aU,aH,aS,bO,aP,av,aL,be,aP,b8,jC,oK,aS,be,aP,cI,aU,hL,hL,bO,aP,eS,bO,aP,eS,a0,bE,a6,aq,a0,oJ,cF,cM,aH,bn,aH,av,aL,jX,f1,bc,vx,jX,f2,bw,w5,av,aU,w4,av,aU,b4,a6,a6,aq,aq,a0,dR,av,aU,bE,a6,aq,a0,vw,cl,cA,bw,Wf,aH,aS,bO,aP,av,dG gD,G,be,aP,a6,aq,a0,aS,bO,aP,av,aU,bO,aP,eS,ky,ei,eU,aU,a6,cf,dh,aq,aq,aq];exact b6
theorem akN(O:A5 u n)(K:g<256^e)(q:∃k,k<=n/\cq k x)(d:∃k,k<=n/\cq k y)(E:cq m t)(F:a=dI dH (.s e g) [x,y])(bx:a[9+1]? =some (.aN 11 [x,y]))(b1:a[0+1+1]? =some (.s e g))(W:fR a)[cp h 0][dS h](b2:h.am (0+2)= .box c a)(o3:h.am (0+3)= .box j t)(o5:h.am (0+5)= .box i Z)(cc:Z.length=11)
 (f1:eN e g 1 0x3c=true):iW (jR t a) (lE u 0 (.aQ (0+2) c 10) (.aQ (0+2) c 0) (.aQ (0+3) j 0) (.aQ (0+5) i 0) h):=by
 obtain⟨L,M,q⟩:=q;obtain⟨A,B,d⟩:=d;obtain⟨cn,cs⟩:=q.p;obtain⟨cu,cY⟩:=d.p;obtain⟨t1,t2⟩:=E.p;obtain⟨G,H⟩:=W;have N:= @jR.LP t;have P:= @jR.a9 t;have I:=TT;obtain⟨X,Y⟩:(fw 0 1).length=7/\cg (fw 0 1)=true:=⟨rfl,Ac _ _⟩;have al:=O.vN;have Q:=O.r2;have C:=λA B y d=>(O.qS A 0 y _ B d I).aX;obtain⟨c0,R⟩:∃z,z=fw 0 1:=⟨_,rfl⟩;obtain⟨z,S⟩:∃z,z=fg (fw 0 1):=⟨_,rfl⟩;rw[<-S]at N P I Q C;rw[<-R]at Q al X Y;clear S R;obtain⟨c1,c3⟩:=I.p;obtain⟨r,ar,c4⟩:=(O.qS L m x t M q E).aX;obtain⟨w,a1,c5⟩:=C L M x q;obtain⟨l,a3,C⟩:=C A B y d;obtain⟨p,a4,dd⟩:=(O.qS A m y t B d E).aX;have a5:∀ob (f:gI),bi ob n20 f=f n20 []:=λ_ _=>rfl;have T:∀ob (f:gI),bi ob tj f=f tj []:=λ_ _=>rfl;have J:=oe K (by decide) f1;rw[J.1,J.2]at F;clear J K;have bd:n20=aA ((20:Nat):Int):=by rw[db];rfl
 have bs:tj=aA ((10:Nat):Int):=by rw[db];rfl
 have D:∀(c8:(bif r then l else false)=false) (cX:(bif w then p else false)=false),iW (jR t a) (lE u 0 (.aQ (0+2) c 10) (.aQ (0+2) c 0) (.aQ (0+3) j 0) (.aQ (0+5) i 0) h):=by intro c8 cX;refine iW.aF ⟨G,H⟩ ?_;cases r<;>cases w;rw[lE];rw[aS,bO,aP,av,aL,be,aP,b7,gQ,aS,be,aP,cI,aU,aH,aS,bO,aP,av,aL,be,aP,b8,jC,oK,aS,be,aP,cI,aU,hL,hL,bO,aP,eS,bO,aP,eS,a0,bE,a6,aq,a0,oJ,cF,cM,aH,bn,aH,av,aL,jX,f1,bw,w9,av,aU,av,aU,w8,b4,a6,a6,aq,aq,a0,gB,vy,cl,ch,bc,av,aU,av,aU,zm,b4,a6,a6,aq,aq,a0,gB,w6,cl,ch,bc,sR,aS,bO,aP,av,aU,bO,aP,eS,ky,b7,ei,eU,aU,a6,cl,dh,aq,aq,aq];exact b6;obtain rfl:p=false:=cX;rw[lE];rw[aS,bO,aP,av,aL,be,aP,b7,gQ,aS,be,aP,cI,aU,aH,aS,bO,aP,av,aL,be,aP,b8,jC,oK,aS,be,aP,cI,aU,hL,hL,bO,aP,eS,bO,aP,eS,a0,bE,a6,aq,a0,oJ,cF,cM,aH,bn,aH,av,aL,jX,f1,bw,w9,av,aU,av,aU,w8,b4,a6,a6,aq,aq,a0,gB,vy,cl,ch,bc,av,aU,av,aU,zm,b4,a6,a6,aq,aq,a0,dR,av,aU,av,aU,b4,a6,a6,aq,aq,a0,w6,cl,cA,bc,sR,aS,bO,aP,av,aU,bO,aP,eS,ky,b7,ei,eU,aU,a6,cl,dh,aq,aq,aq];exact b6;obtain rfl:l=false:=c8;rw[lE];rw[aS,bO,aP,av,aL,be,aP,b7,gQ,aS,be,aP,cI,aU,aH,aS,bO,aP,av,aL,be,aP,b8,jC,oK,aS,be,aP,cI,aU,hL,hL,bO,aP,eS,bO,aP,eS,a0,bE,a6,aq,a0,oJ,cF,cM,aH,bn,aH,av,aL,jX,f1,bw,w9,av,aU,av,aU,w8,b4,a6,a6,aq,aq,a0,dR,av,aU,av,aU,b4,a6,a6,aq,aq,a0,vy,cl,cA,bc,av,aU,av,aU,zm,b4,a6,a6,aq,aq,a0,gB,w6,cl,ch,bc,sR,aS,bO,aP,av,aU,bO,aP,eS,ky,b7,ei,eU,aU,a6,cl,dh,aq,aq,aq];exact b6;obtain rfl:l=false:=c8;obtain rfl:p=false:=cX;rw[lE];rw[aS,bO,aP,av,aL,be,aP,b7,gQ,aS,be,aP,cI,aU,aH,aS,bO,aP,av,aL,be,aP,b8,jC,oK,aS,be,aP,cI,aU,hL,hL,bO,aP,eS,bO,aP,eS,a0,bE,a6,aq,a0,oJ,cF,cM,aH,bn,aH,av,aL,jX,f1,bw,w9,av,aU,av,aU,w8,b4,a6,a6,aq,aq,a0,dR,av,aU,av,aU,b4,a6,a6,aq,aq,a0,vy,cl,cA,bc,av,aU,av,aU,zm,b4,a6,a6,aq,aq,a0,dR,av,aU,av,aU,b4,a6,a6,aq,aq,a0,w6,cl,cA,bc,sR,aS,bO,aP,av,aU,bO,aP,eS,ky,b7,ei,eU,aU,a6,cl,dh,aq,aq,aq];exact b6
 have V:∀(c8:(bif r then l else false)=false),w=true->p=true->iW (jR t a) (lE u 0 (.aQ (0+2) c 10) (.aQ (0+2) c 0) (.aQ (0+3) j 0) (.aQ (0+5) i 0) h):=by intro c8 cX ih;subst cX ih;obtain rfl:=a1 rfl;obtain rfl:=a4 rfl;refine iW.AL (s:=10) ⟨G,H⟩ (by omega) (F▸P) ?_;rw[<-bs];cases r;rw[lE];rw[aS,bO,aP,av,aL,be,aP,b7,gQ,aS,be,aP,cI,aU,aH,aS,bO,aP,av,aL,be,aP,b8,jC,oK,aS,be,aP,cI,aU,hL,hL,bO,aP,eS,bO,aP,eS,a0,bE,a6,aq,a0,oJ,cF,cM,aH,bn,aH,av,aL,jX,f1,bw,w9,av,aU,av,aU,w8,b4,a6,a6,aq,aq,a0,gB,vy,cl,ch,bc,av,aU,av,aU,zm,b4,a6,a6,aq,aq,a0,dR,av,aU,av,aU,b4,a6,a6,aq,aq,a0,w6,cl,cA,bw,OC,aS,bO,aP,av,aU,bO,aP,eS,ky,T,eU,aU,a6,cf,dh,aq,aq,aq];exact b6;obtain rfl:l=false:=c8;rw[lE];rw[aS,bO,aP,av,aL,be,aP,b7,gQ,aS,be,aP,cI,aU,aH,aS,bO,aP,av,aL,be,aP,b8,jC,oK,aS,be,aP,cI,aU,hL,hL,bO,aP,eS,bO,aP,eS,a0,bE,a6,aq,a0,oJ,cF,cM,aH,bn,aH,av,aL,jX,f1,bw,w9,av,aU,av,aU,w8,b4,a6,a6,aq,aq,a0,dR,av,aU,av,aU,b4,a6,a6,aq,aq,a0,vy,cl,cA,bc,av,aU,av,aU,zm,b4,a6,a6,aq,aq,a0,dR,av,aU,av,aU,b4,a6,a6,aq,aq,a0,w6,cl,cA,bw,OC,aS,bO,aP,av,aU,bO,aP,eS,ky,T,eU,aU,a6,cf,dh,aq,aq,aq];exact b6
 cases r;cases w;exact D rfl rfl;cases p;exact D rfl rfl;exact V rfl rfl rfl;cases l;cases w;exact D rfl rfl;cases p;exact D rfl rfl;exact V rfl rfl rfl;obtain rfl:=ar rfl;obtain rfl:=a3 rfl;refine iW.AL (s:=20) ⟨G,H⟩ (by omega) (F▸N) ?_;rw[<-bd];rw[lE];rw[aS,bO,aP,av,aL,be,aP,b7,gQ,aS,be,aP,cI,aU,aH,aS,bO,aP,av,aL,be,aP,b8,jC,oK,aS,be,aP,cI,aU,hL,hL,bO,aP,eS,bO,aP,eS,a0,bE,a6,aq,a0,oJ,cF,cM,aH,bn,aH,av,aL,jX,f1,bw,w9,av,aU,av,aU,w8,b4,a6,a6,aq,aq,a0,dR,av,aU,av,aU,b4,a6,a6,aq,aq,a0,vy,cl,cA,bw,Wi,aS,bO,aP,av,aU,bO,aP,eS,ky,a5,eU,aU,a6,cf,dh,aq,aq,aq];exact b6
theorem akL(O:A5 u n)(F:g<256^e)(l:∃k,k<=n/\cq k x)(d:∃k,k<=n/\cq k y)(r:cq m t)(G:a=dI dH (.s e g) [x,y])(H:a[9+1]? =some (.aN 11 [x,y]))(I:a[0+1+1]? =some (.s e g))(R:fR a)[cp h 0][dS h](J:h.am (0+2)= .box c a)(K:h.am (0+3)= .box j t)(L:h.am (0+5)= .box i Z)(M:Z.length=11):
 iW (jR t a) (lE u 0 (.aQ (0+2) c 10) (.aQ (0+2) c 0) (.aQ (0+3) j 0) (.aQ (0+5) i 0) h):=by
 obtain⟨w,A,l⟩:=l;obtain⟨p,q,d⟩:=d;obtain⟨Y,al⟩:=l.p;obtain⟨ar,a1⟩:=d.p;obtain⟨t1,t2⟩:=r.p;obtain⟨C,D⟩:=R;have S:= @jR.LP t;have T:= @jR.a9 t;have E:=TT;obtain⟨V,W⟩:(fw 0 1).length=7/\cg (fw 0 1)=true:=⟨rfl,Ac _ _⟩;have X:=O.vN;have N:=O.r2;have B:=λp q y d=>(O.qS p 0 y _ q d E).aX;obtain⟨a3,P⟩:∃z,z=fw 0 1:=⟨_,rfl⟩;obtain⟨z,Q⟩:∃z,z=fg (fw 0 1):=⟨_,rfl⟩;rw[<-Q]at S T E N B;rw[<-P]at N X V W;clear Q P;obtain⟨a4,a5⟩:=E.p;obtain⟨bd,bs,bx⟩:=(O.qS w m x t A l r).aX;obtain⟨b1,b2,cc⟩:=B w A x l;obtain⟨cn,cs,B⟩:=B p q y d;obtain⟨cu,cY,c0⟩:=(O.qS p m y t q d r).aX;cases f1:eN e g 1 0x3c;cases f2:eN e g 5 0x657175616c;refine iW.aF ⟨C,D⟩ ?_;rw[lE];rw[aS,bO,aP,av,aL,be,aP,b7,gQ,aS,be,aP,cI,aU,aH,aS,bO,aP,av,aL,be,aP,b8,jC,oK,aS,be,aP,cI,aU,hL,hL,bO,aP,eS,bO,aP,eS,a0,bE,a6,aq,a0,oJ,cF,cM,aH,bn,aH,av,aL,jX,f1,bc,vx,jX,f2,bc,sR,aS,bO,aP,av,aU,bO,aP,eS,ky,b7,ei,eU,aU,a6,cl,dh,aq,aq,aq];exact b6;exact akM O F ⟨w,A,l⟩ ⟨p,q,d⟩ r G H I ⟨C,D⟩ J K L M f1 f2;exact akN O F ⟨w,A,l⟩ ⟨p,q,d⟩ r G H I ⟨C,D⟩ J K L M f1
end
end
section
variable[Tok]
theorem GI(x:Nat):intOf (((x:Int)+18446744073709551616).toNat)=(x:Int):=by unfold intOf;omega
theorem aeY(r:BitVec 64)(h:r.toNat<9223372036854775808):IntKind.wrap .i64 (r.toNat:Int)=(r.toNat:Int):=by rw[IntKind.wrap_i64];omega
theorem Zu(x:Nat):mL (.int .i64 (x:Int))=some (aA (x:Int)):=by rw[db];show(if-18446744073709551616<=(x:Int) then some (ao.ag .i64 ((x:Int)+18446744073709551616).toNat) else none)=_;rw[dr (by omega)]
theorem Tz(x y:Nat)(a:x<9223372036854775808)(b:y<9223372036854775808):lZ .and (aA (x:Int)) (aA (y:Int))=some (aA ((x&&& y:Nat):Int)):=by
 have c:x&&& y<=x:=Nat.and_le_left;have e:(BitVec.ofInt 64 (x:Int)&&& BitVec.ofInt 64 (y:Int)).toNat=x&&& y:=by rw[BitVec.toNat_and,BitVec.ofInt_natCast,BitVec.ofInt_natCast,BitVec.toNat_ofNat,BitVec.toNat_ofNat,qx (by omega),qx (by omega)]
 rw[db,db];show((some (.int .i64 (IntKind.wrap .i64 ((BitVec.ofInt (IntKind.bits .i64) (intOf _)&&& BitVec.ofInt (IntKind.bits .i64) (intOf _)).toNat:Int))):Option Value).bind mL)=_;rw[GI,GI];show mL (.int .i64 (IntKind.wrap .i64 ((BitVec.ofInt 64 (x:Int)&&& BitVec.ofInt 64 (y:Int)).toNat:Int)))=_;rw[aeY _ (by rw[e];omega),e,Zu]
theorem aeO(x y:Nat)(a:x<9223372036854775808)(b:y<9223372036854775808):lZ .andNot (aA (x:Int)) (aA (y:Int))=some (aA (((BitVec.ofNat 64 x&&& ~~~ BitVec.ofNat 64 y).toNat:Nat):Int)):=by
 have e:(BitVec.ofNat 64 x&&& ~~~ BitVec.ofNat 64 y).toNat<=x:=by rw[BitVec.toNat_and,BitVec.toNat_ofNat,qx (by omega)];exact Nat.and_le_left
 rw[db,db];show((some (.int .i64 (IntKind.wrap .i64 ((BitVec.ofInt (IntKind.bits .i64) (intOf _)&&& ~~~ BitVec.ofInt (IntKind.bits .i64) (intOf _)).toNat:Int))):Option Value).bind mL)=_;rw[GI,GI];show mL (.int .i64 (IntKind.wrap .i64 ((BitVec.ofInt 64 (x:Int)&&& ~~~ BitVec.ofInt 64 (y:Int)).toNat:Int)))=_;rw[BitVec.ofInt_natCast,BitVec.ofInt_natCast,aeY _ (by omega),Zu]
def kK(s:Nat):Bool:=s.testBit 5
def wU(x y:Nat):Nat:=(BitVec.ofNat 64 x&&& ~~~ BitVec.ofNat 64 y).toNat
theorem af0{x y:Nat}(a:x<=2047):wU x y<=2047:=by unfold wU;rw[BitVec.toNat_and,BitVec.toNat_ofNat,qx (by omega)];exact jv Nat.and_le_left a
theorem afZ(y:Nat)(a:y<=2047):kK (wU 2047 y)= !kK y:=by
 unfold kK wU;rw[BitVec.toNat_and,DY,BitVec.testBit_toNat,BitVec.testBit_toNat,BitVec.getLsbD_not,BitVec.getLsbD_ofNat,BitVec.getLsbD_ofNat];have:(2047:Nat).testBit 5=true:=by decide
 simp[this]
theorem afV(x y:Nat):kK (x&&& y)=(kK x&&kK y):=by unfold kK;rw[Nat.testBit_and]
theorem afU(x:Nat)(h:x&&& 32=0):kK x=false:=by
 have e:(x&&& 32).testBit 5=false:=by rw[h];simp
 rw[DY]at e;unfold kK;rw[show Nat.testBit 32 5=true from by decide,Bool.and_true]at e;exact e
end
section
variable{a t:az}{n m:Nat}
section
variable[Tok] {u:Fn}{b:Nat}
theorem apV{a c d c':Nat}(h:eN a c d c'=false)(k:ao->ay):gJ (.s a c) (.s d c') k=k (.U true):=by show k (.U (gu (eN a c d c')))=_;rw[h];rfl
theorem DI(z:Int):aA z≠ .undef:=by rw[db];exactλh=>(by cases h)
theorem Lo(k:ao->ay):gJ (.s 4 0x6c697370) (.s 4 0x6c697370) k=k (.U false):=rfl
theorem Ql(O:A5 u n)(k:cq n a)(E:cq m t){p q:Nat}{o:az}{i:ao}{l:bg}(c:kj a 3 4 0x6c697370 p q o i)(d:l3 i l)(M:l.length<=3){r w z:Nat}{h:aO}[cp h 0][dS h]{A:az}(G:h.am (0+2)= .box r a)(H:h.am (0+3)= .box w t)(I:h.am (0+5)= .box z A)(J:A.length=11):
 iW (jR t a) (Jx u 0 (.aQ (0+2) r 0) (.aQ (0+3) w 0) (.aQ (0+5) z 0) h):=by
 have K:=c.v.iM;have N:=c.v.ad;have P:=c.v.ja;have e:=d.len;have L:a[0+1+1]? =some (.s p q):=by rw[c.v.eq];rfl
 obtain⟨B,C⟩:=k.p;by_cases e0:(l.length:Int)=2
 rotate_left 1
 refine iW.aF ⟨B,C⟩ ?_;rw[Jx];rw[bn,aH,av,aL,e,e4,eL,bM,bw,Wg,aS,bO,aP,av,aU,bO,aP,eS,ky,b7,ei,eU,aU,a6,cl,dh,aq,aq,aq];exact b6;obtain⟨j,D,rfl,Q,g⟩:=k.call c d c.cy (vK _ _) (vK _ _)
 match l,e0,d,j,g,e with
 |[x,y],_,d,j,g,e=>obtain rfl:i= .aN 11 [x,y]:=d.elim (λh=>by cases h.2) λh=>h.1;have F:=akL O c.cy ⟨D,by omega,g x fQ⟩ ⟨D,by omega,g y (ii _ fQ)⟩ E j K L ⟨B,C⟩ G H I J;have R:((([x,y]:bg).length:Nat):Int)=2:=rfl;rw[Jx];rw[bn,aH,av,aL,e,e4,eL,bA,bc,aH];exact F
theorem akK(O:A5 u n)(j:cq n a)(p:cq m t):iW (jR t a) (zi u [.agg a,.agg t] 0 .nil):=by
 obtain⟨k,H,c1,g,i,o,I,l,c,d,A,S⟩:=j.C8;have T:=c.v.dB;have V:=c.v.iM;have W:=c.aa;have B:=c.v.ad;have C:=c.v.ja;have q:=d.len;have X:a[0+1+0]? =some (.s H c1):=by rw[c.v.eq];rfl
 have Y:a[0+1+1]? =some (.s g i):=by rw[c.v.eq];rfl
 have r:=c.v.fC;have w:=c.v.t1;obtain⟨t1,t2⟩:=p.p;have D:cW.length=11:=rfl;by_cases e0:k=3
 rotate_left 1
 refine iW.aF ⟨B,C⟩ ?_;rw[zi,ep];rw[zl,b3,b3,cF,zk,bn,aH,av,aL,fu,eL,bM,gf,w7,cf,cA,bw,OE,aS,bO,aP,av,aU,bO,aP,eS,ky,b7,ei,eU,aU,a6,cl,dh,aq,aq,aq];exact b6;cases E:eN H c1 4 0x6c697370;refine iW.aF ⟨B,C⟩ ?_;rw[zi,ep];rw[zl,b3,b3,cF,zk,bn,aH,av,aL,fu,eL,bA,cV,aH,aH,av,aL,apV E,w7,cf,ch,bw,OE,aS,bO,aP,av,aU,bO,aP,eS,ky,b7,ei,eU,aU,a6,cl,dh,aq,aq,aq];exact b6;obtain⟨rfl,rfl⟩:=oe c.fD (by decide) E;clear E;have x:kj a 3 4 0x6c697370 g i o I:=e0▸c;obtain⟨F,P,Z,Q,G⟩:=j.call x d c.cy (vK _ _) (vK _ _);obtain⟨s,e,z,al⟩:∃(s:Nat) (e:Bool),(e=true->ql g i=some s)/\bf u 94 [.agg [.s 4 0x6c697370,.s g i]] (.bD [aA ((s:Nat):Int),.U e]):=by
  refine⟨(ql g i).getD 0,(ql g i).isSome,λe=>?_,O.KY _ Q⟩;cases h:ql g i with
  |none=>rw[h]at e;cases e
  |some s=>rfl
 have ar:aA ((s:Nat):Int)≠ .undef:=DI _;rw[zi,ep];cases e
 ·rw[zl,b3,b3,cF,zk,bn,aH,av,aL,fu,eL,bA,cV,aH,aH,av,aL,Lo,w7,cf,ch,bc,BM,aH,av,dG r,w,bE,a6,aq,a0,E2,ez _ _,eA _ _,gB,BL,cl,ch,gB,BK,cl,ch,bc];refine Ql O j p x d A ?_ ?_ ?_ D<;>(repeat first|assumption|with_reducible first|exact ec|exact hX|exact kk|exact J|apply gn|refine fZ ?_|refine fS ?_|refine fJ ?_|refine ic ?_|refine kT ?_|refine lB ?_|refine K ?_|refine L ?_|decide)
 have z:=z rfl;by_cases M:(l.length:Int)=1
 rotate_left 1
 ·rw[zl,b3,b3,cF,zk,bn,aH,av,aL,fu,eL,bA,cV,aH,aH,av,aL,Lo,w7,cf,ch,bc,BM,aH,av,dG r,w,bE,a6,aq,a0,E2,ez _ _,eA _ _,dR,aH,aS,bO,aP,av,aL,q,b8,cd,BL,cl,cA,bA,gB,BK,cl,ch,bc];refine Ql O j p x d A ?_ ?_ ?_ D<;>(repeat first|assumption|with_reducible first|exact ec|exact hX|exact kk|exact J|apply gn|refine fZ ?_|refine fS ?_|refine fJ ?_|refine ic ?_|refine kT ?_|refine lB ?_|refine K ?_|refine L ?_|decide)
 match l,M,d,F,G,q with
 |[y],M,d,F,G,q=>
  obtain rfl:I= .aN 11 [y]:=d.elim (λh=>by cases h.2) λh=>h.1;have N:=G y fQ;obtain⟨a3,a4⟩:=N.p;obtain⟨e,R,a5⟩:=(O.qS P m y t (by omega) N p).aX;cases e
  ·rw[zl,b3,b3,cF,zk,bn,aH,av,aL,fu,eL,bA,cV,aH,aH,av,aL,Lo,w7,cf,ch,bc,BM,aH,av,dG r,w,bE,a6,aq,a0,E2,ez _ _,eA _ _,dR,aH,aS,bO,aP,av,aL,q,b8,cd,BL,cl,cA,bM,dR,aH,aS,bO,aP,av,aL,OD,be,aP,b7,gQ,aS,be,aP,cI,aU,aS,bO,aP,av,aU,be,be,aP,a6,a6,aq,aq,a0,BK,cl,cA,bc];refine Ql O j p x d A ?_ ?_ ?_ D<;>(repeat first|assumption|with_reducible first|exact ec|exact hX|exact kk|exact J|apply gn|refine fZ ?_|refine fS ?_|refine fJ ?_|refine ic ?_|refine kT ?_|refine lB ?_|refine K ?_|refine L ?_|decide)
  obtain rfl:=R rfl;refine iW.AL ⟨B,C⟩ (auO z) (F▸jR.adK _ _ s z) ?_;rw[zl,b3,b3,cF,zk,bn,aH,av,aL,fu,eL,bA,cV,aH,aH,av,aL,Lo,w7,cf,ch,bc,BM,aH,av,dG r,w,bE,a6,aq,a0,E2,ez _ _,eA _ _,dR,aH,aS,bO,aP,av,aL,q,b8,cd,BL,cl,cA,bM,dR,aH,aS,bO,aP,av,aL,OD,be,aP,b7,gQ,aS,be,aP,cI,aU,aS,bO,aP,av,aU,be,be,aP,a6,a6,aq,aq,a0,BK,cl,cA,bw,Wh,aS,bO,aP,av,aU,bO,aP,eS,ky,ei,eU,aU,a6,cf,dh,aq,aq,aq];exact b6
end
end
section
variable{C:Nat->Prop}{a:ay}{l:az}{s:Nat}
section
variable[Tok] {u:Fn}{b:Nat}
inductive nD (t:az):az->Nat->Prop
 |self:nD t t 2015
 |Yp (a:az) (s:Nat) (h:jR t a s):nD t a s
 |neg:nD t (dI dH (.s 3 0x6e6f74) [t]) 32
 |act (a:az) (s:Nat) (h:jR t a s) (hs:s<=2047):nD t (dI dH (.s 3 0x6e6f74) [a]) (wU 2047 s)
def wz(C:Nat->Prop)(u:Fn)(f:Nat)(args:az):Prop:=∃(s:Nat) (l:az) (e:Bool),fR l/\s<=2047/\(e=true->C s)/\bf u f args (.bD [aA ((s:Nat):Int),.agg l,.U e])
structure afI (u:Fn) (n:Nat):Prop where
 qS:∀m k x y,m<=n->cq m x->cq k y->rx u x y
 aaN:∀m k x y,m<=n->cq m x->cq k y->wz (jR y x) u 211 [.agg x,.agg y]
 KV:∀x,fR x->bf u 210 [.agg x] (.agg (dI dH (.s 3 0x6e6f74) [x]))
 xP:∀t,cq n t->∀k a1 c1 a2 c2 o L l,kj t k a1 c1 a2 c2 o L->l3 L l->l.length<=3->∀a c (z:Int),0<=z/\z<=3->∃e,(e=true->k=3/\eN a1 c1 4 0x6c697370=true/\eN a2 c2 a c=true/\(l.length:Int)=z)/\bf u 89 [.agg t,.s a c,aA z] (.U e)
theorem arJ:(LH:ao)=aA ((2015:Nat):Int):=by rw[db];rfl
theorem LJ:(n32:ao)=aA ((32:Nat):Int):=by rw[db];rfl
theorem yc:(z8:ao)=aA ((2047:Nat):Int):=by rw[db];rfl
theorem iW.ae2{x:ao}(c:x=aA ((s:Nat):Int))(e:fR l)(g:s<=2047)(i:C s)(h:∃bj d,a= .ok (.bD [x,.agg l,.U true]) 0 bj d):iW C a:=by subst c;exact .AL e g i h
theorem iW.any{e:Bool}(c:fR l)(g:s<=2047)(i:e=true->C s)(h:∃bj d,a= .ok (.bD [aA ((s:Nat):Int),.agg l,.U e]) 0 bj d):iW C a:=⟨s,l,e,c,g,i,h⟩
theorem akq{n m:Nat}(O:afI u n){a t:az}(d:cq n a)(g:cq m t):iW (nD t a) (vr u [.agg a,.agg t] 0 .nil):=by
 obtain⟨k,I,c1,J,K,o,E,l,c,i,L,ar⟩:=d.C8;have a3:=c.v.dB;have a4:=c.v.iM;have a5:=c.aa;have F:=c.v.ad;have G:=c.v.ja;obtain⟨t1,t2⟩:=g.p;have M:∀ob (f:gI),bi ob n32 f=f n32 []:=λ_ _=>rfl;have N:∀ob (f:gI),bi ob LH f=f LH []:=λ_ _=>rfl;obtain⟨e,r,bd⟩:=(O.qS n m a t (dn _) d g).aX;cases e
 rotate_left 1
 obtain rfl:=r rfl;have P:=O.KV a ⟨F,G⟩;have Q:(dI dH (.s 3 0x6e6f74) [a]).length=11:=rfl;have R:cg (dI dH (.s 3 0x6e6f74) [a])=true:=rfl;refine iW.ae2 (l:=dI dH (.s 3 0x6e6f74) [a]) arJ ⟨rfl,rfl⟩ (by omega) .self ?_;rw[vr,ep];rw[BA,b3,b3,Bz,cF,av,aU,av,aU,b4,a6,a6,aq,aq,a0,bw,Vs,av,aU,bE,a6,aq,a0,cM,uU,N,eU,aU,a6,cf,dh,aq,aq,aq];exact b6;obtain⟨s,p,e,⟨S,T⟩,V,w,bs⟩:=O.aaN n m a t (dn _) d g;have bx:aA ((s:Nat):Int)≠ .undef:=DI _;have A:∀ob (z:Int) (f:gI),bi ob (aA z) f=f (aA z) []:=λob z f=>by rw[db];rfl
 cases e
 rotate_left 1
 have P:=O.KV p ⟨S,T⟩;have Q:(dI dH (.s 3 0x6e6f74) [p]).length=11:=rfl;have R:cg (dI dH (.s 3 0x6e6f74) [p])=true:=rfl;refine iW.AL (l:=dI dH (.s 3 0x6e6f74) [p]) ⟨rfl,rfl⟩ V (.Yp _ _ (w rfl)) ?_;rw[vr,ep];rw[BA,b3,b3,Bz,cF,av,aU,av,aU,b4,a6,a6,aq,aq,a0,bc,EQ,av,aU,av,aU,EP,b4,a6,a6,aq,aq,a0,uw _ _ _,ux _ _ _,uy _ _ _,cF,cM,bw,Vx,av,aU,bE,a6,aq,a0,cM,uU,A,eU,aU,a6,cf,dh,aq,aq,aq];exact b6;obtain⟨e,w,W⟩:=O.xP a d k I c1 J K o E l c i L 3 0x6e6f74 1 (by omega);rw[b8.symm]at W;cases e;refine iW.aF ⟨F,G⟩ ?_;rw[vr,ep];rw[BA,b3,b3,Bz,cF,av,aU,av,aU,b4,a6,a6,aq,aq,a0,bc,EQ,av,aU,av,aU,EP,b4,a6,a6,aq,aq,a0,uw _ _ _,ux _ _ _,uy _ _ _,cF,cM,bc,Jh,av,aU,a6,aq,a0,e1,jI,bw,Vw,aS,bO,aP,av,aU,bO,aP,eS,uU,b7,A,eU,aU,a6,cl,dh,aq,aq,aq];exact b6;obtain⟨rfl,f1,f2,f3⟩:=w rfl;obtain⟨q,H,en,hg,B⟩:=d.call c i (by decide) f1 f2
 match l,f3,i,q,B with
 |[y],_,i,q,B=>
  obtain rfl:E= .aN 11 [y]:=i.elim (λh=>by cases h.2) λh=>h.1;have D:=B y fQ;obtain⟨b1,b2⟩:=D.p;obtain⟨e,r,cc⟩:=(O.qS H m y t (by omega) D g).aX;cases e
  rotate_left 1
  obtain rfl:=r rfl;refine iW.ae2 LJ ⟨t1,t2⟩ (by omega) (q▸nD.neg) ?_;rw[vr,ep];rw[BA,b3,b3,Bz,cF,av,aU,av,aU,b4,a6,a6,aq,aq,a0,bc,EQ,av,aU,av,aU,EP,b4,a6,a6,aq,aq,a0,uw _ _ _,ux _ _ _,uy _ _ _,cF,cM,bc,Jh,av,aU,a6,aq,a0,e1,gX,bc,Og,aH,aS,bO,aP,av,aL,be,aP,b7,gQ,Of,aS,be,aP,cI,aU,aS,bO,aP,av,aU,be,be,aP,a6,a6,aq,aq,a0,bw,Vv,aS,bO,aP,av,aU,bO,aP,eS,uU,M,eU,aU,a6,cf,dh,aq,aq,aq];exact b6;obtain⟨j,cn,e,⟨X,Y⟩,Z,al,cs⟩:=O.aaN H m y t (by omega) D g;have cu:aA ((j:Nat):Int)≠ .undef:=DI _;have hv:lZ .andNot z8 (aA ((j:Nat):Int))=some (aA ((wU 2047 j:Nat):Int)):=by rw[yc];exact aeO 2047 j (by omega) (by omega)
  refine iW.any ⟨X,Y⟩ (af0 (x:=2047) (y:=j) (by omega)) (λe=>q▸nD.act _ _ (al e) Z) ?_;rw[vr,ep];rw[BA,b3,b3,Bz,cF,av,aU,av,aU,b4,a6,a6,aq,aq,a0,bc,EQ,av,aU,av,aU,EP,b4,a6,a6,aq,aq,a0,uw _ _ _,ux _ _ _,uy _ _ _,cF,cM,bc,Jh,av,aU,a6,aq,a0,e1,gX,bc,Og,aH,aS,bO,aP,av,aL,be,aP,b7,gQ,Of,aS,be,aP,cI,aU,aS,bO,aP,av,aU,be,be,aP,a6,a6,aq,aq,a0,bc,Vu,aH,aS,bO,aP,av,aL,Vt,be,aP,b7,gQ,aS,be,aP,cI,aU,aS,bO,aP,av,aU,be,be,aP,a6,a6,aq,aq,a0,uw _ _ _,Vr,ux _ _ _,uy _ _ _,hL,bO,aP,eS,hv,nR,aS,bO,aP,av,aU,bO,aP,eS,uU,A,eU,aU,a6,dh,aq,aq,aq];exact b6
end
end
section
variable{d q t:Nat}{z:eQ}{cs:az}
section
variable[Tok] {u:Fn}{b:Nat}
theorem NK{h:aO}{o:fb}[cp h b](e:h.am q=z)(g:q<b:=by assumption)(hd:d<4096:=by decide):(h.dP b d o).am q=z:=by rw[(n6 (cp.lt hd)).am _ λc a=>by simp at a;omega];exact e
theorem kT{h:aO}[cp h b](e:h.am q=z)(a:q<b:=by assumption)(hd:d<4096:=by decide):(h.cB b d t cs).am q=z:=NK e a hd
theorem lB{h:aO}[cp h b](e:h.am q=z)(a:q<b:=by assumption)(hd:d<4096:=by decide):(h.dp b d cs).am q=z:=NK e a hd
structure l8 (b:Nat) (aC:cD) (k0 s0 x:Nat) (h:aO):Prop where
 lt:k0<b
 ax:b+4096<=h.ax
 am:h.am k0= .box s0 [aA (x:Int)]
 ck:∀k∈h.ck,k=k0
 aj:∀k,k<b->k≠k0->h.am k=b9 b aC k
section
variable{aC:cD}{k0 s0 x:Nat}{h:aO}
theorem l8.aK(H:l8 b aC k0 s0 x h):cp h b:=⟨H.ax⟩
theorem l8.start(c:k0<b)(e:b9 b aC k0= .box s0 [aA (x:Int)]):l8 b aC k0 s0 x (bN b aC):=
 ⟨c,dn _,(r3 aC c).trans e,(λk a=>by cases a),λk a _=>r3 aC a⟩
theorem l8.dP(H:l8 b aC k0 s0 x h){d:Nat}{o:fb}(hd:d<4096:=by decide):l8 b aC k0 s0 x (h.dP b d o):=by
 haveI:=H.aK
 refine⟨H.lt,by rw[lC];exact H.ax,?_,?_,λk g i=>?_⟩;rw[(n6 (cp.lt hd)).am _ λc a=>by simp at a;have:=H.lt;omega];exact H.am;have e:(h.dP b d o).ck=h.ck:=(n6 (o:=o) (cp.lt hd)).ck;rw[e];exact H.ck;rw[(n6 (cp.lt hd)).am _ λc a=>by simp at a;omega];exact H.aj k g i
theorem l8.cB(H:l8 b aC k0 s0 x h)(hd:d<4096:=by decide):l8 b aC k0 s0 x (h.cB b d t cs):=H.dP hd
theorem l8.dp(H:l8 b aC k0 s0 x h)(hd:d<4096:=by decide):l8 b aC k0 s0 x (h.dp b d cs):=H.dP hd
theorem l8.dk(H:l8 b aC k0 s0 x h)(x':Nat):∃h',(∀k:aO->ay,nQ b [(k0,.box s0 [aA (x':Int)])] h k=k h')/\l8 b aC k0 s0 x' h'/\∀k,k≠k0->h'.am k=h.am k:=by
 have c:k0<h.ax:=by have:=H.lt;have:=H.ax;omega
 refine⟨h.g1 b k0 (.ae (.box s0 [aA (x':Int)])),λk=>?_,⟨H.lt,by rw[aO.lY];exact H.ax,?_,?_,λk a g=>?_⟩,λk g=>?_⟩;have e:nQ b [(k0,.box s0 [aA (x':Int)])] h k=bB (Nat.ble (Nat.succ k0) h.ax) (k (h.g1 b k0 (.ae (.box s0 [aA (x':Int)])))) .aF:=rfl;rw[e,eT,dJ (show Nat.succ k0<=h.ax from c),da];rw[aO.mu c];simp[Go.Hf.dk];rfl;intro k a;have e:(h.g1 b k0 (.ae (.box s0 [aA (x':Int)]))).ck=k0::h.ck:=by obtain⟨ub,bj,dd⟩:=h;show @Bool.rec (λ_=>List Nat) dd (k0::dd) (Nat.blt k0 b)=_;rw[m9,bM H.lt];rfl
 rw[e]at a;rcases e9.1 a with rfl|a;rfl;exact H.ck k a;rw[aO.mu c];simp[Go.Hf.dk,g];exact H.aj k a g;rw[aO.mu c];simp[Go.Hf.dk,g]
theorem abQ{bj:cD}(ho:(bj.get k0).aj= .box s0 [aA (x:Int)]):∀d:List Nat,(∀k∈d,k=k0)->kr b bj d=true
 |[],_=>rfl
 |k::d,h=>by
  have a:kr b bj (k::d)=c7 (uF b (bj.get k).aj) (kr b bj d):=rfl;have c:uF b (.box s0 [aA (x:Int)])=true:=by show oj b [aA (x:Int)]=true;rw[db];rfl
  rw[a,h k fQ,ho,c,abQ ho d λj e=>h j (ii _ e)];rfl
theorem l8.ret(H:l8 b aC k0 s0 x h):∃a d,im b (.bD []) [] h= .ok (.bD []) b a d/\b9 b a k0= .box s0 [aA (x:Int)]/\(∀k,k≠k0->b9 b a k=b9 b aC k)/\∀k∈d,k=k0:=by
 have i:=H.aj;have ho:=H.am;obtain⟨ub,bj,d⟩:=h;have n:b+4096<=ub:=H.ax;have e:=H.lt;have g:(bj.get k0).aj= .box s0 [aA (x:Int)]:=by have:b9 ub bj k0= .box s0 [aA (x:Int)]:=ho;rw[h7]at this;exact this
 have j:im b (.bD []) [] (.mk ub bj d)= @Bool.rec (λ_=>ay) (.ok (.bD []) ub bj d) (.ok (.bD []) b (bj.drop b) d) (kr b bj d):=rfl;rw[j,abQ g d H.ck];refine⟨bj.drop b,d,rfl,?_,λk l=>?_,H.ck⟩;rw[h7 e,cD.uq b bj k0 e];exact g;by_cases c:k<b;rw[h7 c,cD.uq b bj k c,<-i k c l];show _=b9 ub bj k;rw[h7];rw[mh,mh]
end
theorem anC{s:Nat}{l t:az}(o:l.length=11)(p:t.length=11)(k:ao->ay):
 (eu 0 1 (aA (s:Int)) Uq λr=>eu 1 11 (.agg l) r λw=>eu 12 11 (.agg t) w λy=>fO y k)=k (.agg (aA (s:Int)::(l++t))):=by
 obtain⟨a,c,e,gD,g,r9,i,j,py,n,tg,rfl⟩:∃a c e gD g r9 i j py n tg,l=[a,c,e,gD,g,r9,i,j,py,n,tg]:=by
  match l,o with
  |[a,c,e,gD,g,r9,i,j,py,n,tg],_=>exact⟨_,_,_,_,_,_,_,_,_,_,_,rfl⟩
 obtain⟨t0,t1,t2,t3,t4,t5,t6,t7,t8,t9,t10,rfl⟩:∃a c e gD g r9 i j py n tg,t=[a,c,e,gD,g,r9,i,j,py,n,tg]:=by
  match t,p with
  |[a,c,e,gD,g,r9,i,j,py,n,tg],_=>exact⟨_,_,_,_,_,_,_,_,_,_,_,rfl⟩
 rw[db];rfl
theorem aup(h:cg cs=true):cs.flatMap ao.dl=[]:=by
 induction cs with
 |nil=>rfl
 |cons x r a=>rw[lb];cases x<;>first|exact a h|exact absurd h (by intro h;cases h)
end
end
section
variable[Tok] {u:Fn}{b:Nat}
theorem aqs{C:az->Nat->Prop}{aC:cD}{k0 s0 j s3:Nat}{es:bg}{t:az}(a4:j<b)(M:j≠k0)(t1:t.length=11)(t2:cg t=true)(a5:es.length<=900)(O:∀a∈es,fR a/\wz (C a) u 169 [.agg a,.agg t])(P:∀a∈es,∃o,fR o/\bf u 91 [.agg a] (.agg o)):
 ∀(n i N x:Nat) (h:aO),n+i=es.length->n<N->x<=2047->l8 b aC k0 s0 x h->h.am j= .box s3 t->
 ∃(x':Nat) (c:cD) (d:List Nat),x'<=2047/\(kK x'=false->kK x=false\/∃a∈es,∃s,s<=2047/\C a s/\kK s=false)/\b9 b c k0= .box s0 [aA (x':Int)]/\(∀k,k≠k0->b9 b c k=b9 b aC k)/\(∀k∈d,k=k0)/\
  ∀l,fm 0 2 9 10 11 N (u2 u l k0 s0 b) (.bo (jF l)) (.aQ j s3 0) (.aN 11 es) (aA es.length) (aA ((i:Nat):Int)) h= .ok (.bD []) b c d:=by
 intro n;induction n with
 |zero=>
  intro i N x h Q R r H E;obtain⟨N,rfl⟩:=eC N
  haveI:=H.aK
  obtain⟨c,d,w,y,S,T⟩:=H.ret;refine⟨x,c,d,r,.inl,y,S,T,λl=>?_⟩;rw[iz];generalize fm 0 2 9 10 11 N (u2 u l k0 s0 b)=F;rw[u2,cz,bA,bc,As];exact w
 |succ n G=>
  intro i N x h Q R r H E;obtain⟨N,rfl⟩:=eC N
  haveI:=H.aK
  obtain⟨a,z⟩:∃a,es[i]? =some a:=⟨_,fo (by omega)⟩;obtain⟨⟨bd,bs⟩,s,p,e,⟨I,V⟩,W,X,bx⟩:=O a (eH z);obtain⟨o,⟨J,Y⟩,b1⟩:=P a (eH z);have K:((i+1:Nat):Int)=(i:Int)+1:=by omega
  have b2:aA ((s:Nat):Int)≠ .undef:=DI _;have A:l8 b aC k0 s0 x ((((h.cB b 5 44 cW).dp b 5 a).cB b 7 44 cW).dp b 7 p):=H.cB.dp.cB.dp;have fP:((((h.cB b 5 44 cW).dp b 5 a).cB b 7 44 cW).dp b 7 p).am j= .box s3 t:=lB (kT (lB (kT E)));cases e;obtain⟨x',c,d,B,D,eE,eV,hM,i4⟩:=G (i+1) N x _ (by omega) (by omega) r A fP;refine⟨x',c,d,B,D,eE,eV,hM,λl=>?_⟩;have q:=i4 l;rw[K]at q;rw[iz];generalize fm 0 2 9 10 11 N (u2 u l k0 s0 b)=F at q ⊢;rw[u2,cz,bM,bw,TR,fH,cI,aU,cF,cM,av,aU,av,aU,b4,a6,a6,aq,aq,a0,TQ,uw _ _ _,ux _ _ _,uy _ _ _,cF,cM,gB,Nb,cf,gB,Na,cl,gB,ch,bc,b8,fV];exact q;obtain⟨L,y,Z,k2⟩:=A.dk (x&&& s);have al:L.am j= .box s3 t:=(k2 j M).trans fP;obtain⟨x',c,d,B,D,eE,eV,hM,i4⟩:=G (i+1) N (x&&& s) _ (by omega) (by omega) (jv Nat.and_le_left r) Z al;refine⟨x',c,d,B,λar=>?_,eE,eV,hM,λl=>?_⟩;rcases D ar with g|g;rw[afV,Bool.and_eq_false_iff]at g;rcases g with g|g;exact .inl g;exact .inr ⟨a,eH z,s,W,X rfl,g⟩;exact .inr g;have q:=i4 l;rw[K]at q;have a1:cg (aA ((s:Nat):Int)::(p++o))=true:=by
   have w:cg (aA ((s:Nat):Int)::(p++o))=cg (p++o):=by rw[db];rfl
   rw[w,An V,Y]
  have a2:∀dA:aO->ay,yH (jF l) k0 s0 22 (.bo (jF l)) (.agg (aA ((s:Nat):Int)::(p++o))) b ((((h.cB b 5 44 cW).dp b 5 a).cB b 7 44 cW).dp b 7 p) dA=dA L:=λdA=>by rw[axP (by simp[I,J]) (aup a1) A.am (Tz x s (by omega) (by omega)),y]
  have a3:=λk=>anC (s:=s) I J k;rw[iz];generalize fm 0 2 9 10 11 N (u2 u l k0 s0 b)=F at q ⊢;rw[u2,cz,bM,bw,TR,fH,cI,aU,cF,cM,av,aU,av,aU,b4,a6,a6,aq,aq,a0,TQ,uw _ _ _,ux _ _ _,uy _ _ _,cF,cM,dR,aS,bO,aP,av,aU,aS,bO,aP,av,aU,be,aP,a6,aq,a0,a3,Nb,cf,dR,a2,Na,cl,dR,e1,gX,cA,bc,b8,fV];exact q
end
section
variable{t:az}{v:ao}{h:aO}{C:az->Nat->Prop}{s3 x:Nat}{es:bg}
section
variable[Tok] {u:Fn}{b:Nat}
def Ix(u:Fn)(v:ao)(t:az):Prop:=∀(ub:Nat) (aC:cD),∃c s3 a,u 132 [v,.agg t] ub aC= .ok (.ey 168 [.aQ (ub+2) c 0,.aQ (ub+3) s3 0]) (ub+4096) a []/\b9 (ub+4096) a (ub+2)= .box c [v]/\b9 (ub+4096) a (ub+3)= .box s3 t/\∀k,k<ub->b9 (ub+4096) a k=b9 ub aC k
theorem apj{t d:Nat}[cp h b](a:v= .ba\/∃l,v= .aN 11 l)(k:dv)(hd:d<4096:=by decide):eR t b d none v h k=k (.aQ (b+d) (fK h b d t) 0) (h.cB b d t [v]):=by
 have e:eR t b d none v h k=mr [v] λcs=>dw t b d none cs h k:=by rcases a with rfl|⟨l,rfl⟩<;>rfl
 rw[e,ms,cF k hd]
theorem akl(i:v= .ba\/∃l,v= .aN 11 l){n:Nat}:Ix (bR bX (n+1)) v t:=by
 intro ub aC;have e0:bR bX (n+1) 132 [v,.agg t] ub aC=N0 (bR bX n) ub v (.agg t) (bN ub aC):=rfl;have H:(bR bX (n+1) 132 [v,.agg t] ub aC)=so ub [.ey 168 [.aQ (ub+2) (fK (bN ub aC) ub 2 30) 0,.aQ (ub+3) (fK ((bN ub aC).cB ub 2 30 [v]) ub 3 44) 0]] [] (((bN ub aC).cB ub 2 30 [v]).cB ub 3 44 t):=by rw[e0,N0,apj i,b3];rfl
 obtain⟨h,c⟩:∃h,h=((bN ub aC).cB ub 2 30 [v]).cB ub 3 44 t:=⟨_,rfl⟩;have j:h.am (ub+2)= .box (fK (bN ub aC) ub 2 30) [v]:=by rw[c];exact fZ ec
 have o:h.am (ub+3)= .box (fK ((bN ub aC).cB ub 2 30 [v]) ub 3 44) t:=by rw[c];exact ec
 have p:∀k,k<ub->h.am k=b9 ub aC k:=λk q=>by rw[c];exact kT (kT (r3 aC q))
 have r:h.ax=ub+4096:=by rw[c];exact(lC _ _ _ _).trans (lC _ _ _ _)
 have w:h.ck=[]:=by rw[c];exact dS.eq
 rw[<-c]at H;generalize fK (bN ub aC) ub 2 30=a at*;generalize fK ((bN ub aC).cB ub 2 30 [v]) ub 3 44=s3 at*;clear c e0;obtain⟨y,g,d⟩:=h;obtain rfl:y=ub+4096:=r;obtain rfl:d=[]:=w;refine⟨a,s3,g,H.trans ?_,j,o,p⟩;have f1:sa ub (.ey 168 [.aQ (ub+2) a 0,.aQ (ub+3) s3 0])=c7 (Nat.ble (Nat.succ (ub+2)) ub) (c7 (Nat.ble (Nat.succ (ub+3)) ub) true):=rfl;have f2:sa (ub+4096) (.ey 168 [.aQ (ub+2) a 0,.aQ (ub+3) s3 0])=c7 (Nat.ble (Nat.succ (ub+2)) (ub+4096)) (c7 (Nat.ble (Nat.succ (ub+3)) (ub+4096)) true):=rfl;have c8:Nat.ble (Nat.succ (ub+2)) ub=false:=by
  cases h:Nat.ble (Nat.succ (ub+2)) ub with
  |false=>rfl
  |true=>have:=dX h;omega
 have e:so ub [.ey 168 [.aQ (ub+2) a 0,.aQ (ub+3) s3 0]] [] (.mk (ub+4096) g [])=
  @Bool.rec (λ_=>ay) (bB (sa (ub+4096) (.ey 168 [.aQ (ub+2) a 0,.aQ (ub+3) s3 0])) (.ok (.ey 168 [.aQ (ub+2) a 0,.aQ (ub+3) s3 0]) (ub+4096) g []) .aF) (.ok (.ey 168 [.aQ (ub+2) a 0,.aQ (ub+3) s3 0]) ub (g.drop ub) []) (c7 (sa ub (.ey 168 [.aQ (ub+2) a 0,.aQ (ub+3) s3 0])) (kr ub g [])):=rfl
 rw[e,f1,c8,f2,tF (by omega),tF (by omega)];rfl
def T7(C:az->Nat->Prop)(es:bg)(x x':Nat):Prop:=x'<=2047/\(kK x'=false->kK x=false\/∃a∈es,∃s,s<=2047/\C a s/\kK s=false)
theorem t168{aC:cD}{k0 s0 g i c:Nat}(r:cE 11 v es)(w:k0<b)(y:g<b)(j:c<b)(z:c≠k0)(t1:t.length=11)(t2:cg t=true)(A:es.length<=900)(B:∀a∈es,fR a/\wz (C a) u 169 [.agg a,.agg t])(D:∀a∈es,∃n,fR n/\bf u 91 [.agg a] (.agg n))
 (E:b9 b aC k0= .box s0 [aA (x:Int)])(F:b9 b aC g= .box i [v])(G:b9 b aC c= .box s3 t)(o:x<=2047):
 ∃(x':Nat) (e:cD) (d:List Nat),T7 C es x x'/\b9 b e k0= .box s0 [aA (x':Int)]/\(∀k,k≠k0->b9 b e k=b9 b aC k)/\(∀k∈d,k=k0)/\∀l,H8 u l k0 s0 [.bo (jF l),.aQ g i 0,.aQ c s3 0] b aC= .ok (.bD []) b e d:=by
 have p:=l8.start w E;have q:(bN b aC).am g= .box i [v]:=(r3 aC y).trans F;have H:(bN b aC).am c= .box s3 t:=(r3 aC j).trans G;have e0:∀l,H8 u l k0 s0 [.bo (jF l),.aQ g i 0,.aQ c s3 0] b aC=M9 u l k0 s0 b (.aQ g i 0) (.bo (jF l)) (.aQ c s3 0) (bN b aC):=λl=>rfl;have P:([v]:az)[0]? =some v:=rfl;rcases r with⟨rfl,rfl⟩|rfl;obtain⟨e,d,I,J,K,L⟩:=p.ret;refine⟨x,e,d,⟨o,.inl⟩,J,K,L,λl=>?_⟩;have M:∀k:ao->ay,cv false .ba k=k (aA ((0:Nat):Int)):=λk=>li k;rw[e0 l,M9,av q,aL,M];rw[p7,iz];generalize fm 0 2 9 10 11 999999 (u2 u l k0 s0 b)=Q;rw[u2,b7,cz,bA,bc,As];exact I;obtain⟨x',e,d,N,O,eE,eV,hM,i4⟩:=aqs j z t1 t2 A B D es.length 0 1000000 x (bN b aC) (by omega) (by omega) o p H;refine⟨x',e,d,⟨N,O⟩,eE,eV,hM,λl=>?_⟩;rw[e0 l,M9,av q,aL,gC,b7];exact i4 l
theorem alv(i:cE 11 v es)(t1:t.length=11)(t2:cg t=true)(p:es.length<=900)(q:∀a∈es,fR a/\wz (C a) u 169 [.agg a,.agg t])(w:∀a∈es,∃j,fR j/\bf u 91 [.agg a] (.agg j))(z:Ix u v t)
 [cp h 0][dS h]{s5:Nat}(A:h.am (0+3)= .box s3 t)(B:h.am (0+5)= .box s5 [aA (x:Int)])(D:x<=2047):∃x',T7 C es x x'/\∃bj d,yG u 0 v (.aQ (0+3) s3 0) (.aQ (0+5) s5 0) h= .ok (aA (x':Int)) 0 bj d:=by
 have hd:h.ck=[]:=dS.eq;have n:0+4096<=h.ax:=cp.eq;have E:∀(ob:dE) (f:gI),bi ob v f=f v []:=λob f=>by rcases i with⟨rfl,_⟩|rfl<;>rfl
 rw[yG,av A,aU,E,a6,aq,aq];obtain⟨ub,bj,dd⟩:=h;obtain rfl:dd=[]:=hd;have n:4096<=ub:=by have:0+4096<=ub:=n;omega
 obtain⟨c,e,g,F,H,I,J⟩:=z ub bj;obtain⟨x',o,d,K,L,eE,eV,hM⟩:=t168 (b:=ub+4096) (k0:=5) (s0:=s5) i (by omega) (by omega:ub+2<ub+4096) (by omega:ub+3<ub+4096) (by omega) t1 t2 p q w ((J 5 (by omega)).trans B) H I D;have M:∀k:dv,dC u 0 132 [v,.agg t] [] (.mk ub bj []) k=k (.ey 168 [.aQ (ub+2) c 0,.aQ (ub+3) e 0]) (.mk (ub+4096) g []):=λk=>by have f1:dC u 0 132 [v,.agg t] [] (.mk ub bj []) k=js 0 ub [] k (u 132 [v,.agg t] ub bj):=rfl;rw[f1,F];have f2:js 0 ub [] k (.ok (.ey 168 [.aQ (ub+2) c 0,.aQ (ub+3) e 0]) (ub+4096) g [])=bB (Nat.ble ub (ub+4096)) (k (.ey 168 [.aQ (ub+2) c 0,.aQ (ub+3) e 0]) (.mk (ub+4096) g [])) .aF:=rfl;rw[f2,eT,dJ (by omega),da]
 rw[M];have N:∀dA:aO->ay,yu (H8 u) 168 34 (Nat.add 0 5) (.aQ (0+5) s5 0) (.ey 168 [.aQ (ub+2) c 0,.aQ (ub+3) e 0]) 0 (.mk (ub+4096) g []) dA=dA (.mk (ub+4096) o (aZ (fA 0 d) [])):=λdA=>
  auM (G:=H8 u) (f:=168) (gu:=34) (k0:=5) (s0:=s5) (b:=0) (by show(2:Nat)+1<=34;omega) (dn _) hM
 rw[N];have f0:∀l:List Nat,fA 0 l=[]:=λl=>by
  induction l with
  |nil=>rfl
  |cons y r O=>exact O
 have P:aZ (fA 0 d) []=[]:=by rw[f0];rfl
 rw[P];have Q:(aO.mk (ub+4096) o []).am (0+5)= .box s5 [aA (x':Int)]:=L;refine⟨x',K,?_⟩;rw[av Q,aL,SY,bJ];have R:∀ob (f:gI),bi ob (aA (x':Int)) f=f (aA (x':Int)) []:=λob f=>by rw[db];rfl
 rw[R,aq];exact adN rfl
end
end
section
variable{d s i n:Nat}{h:aO}{L:List Nat}
section
variable[Tok] {u:Fn}{b:Nat}
def tQ(b d s:Nat)(h:aO)(L:List Nat):Prop:=h.am (b+d)= .aV s 78 1 (L.map gh) true
theorem tQ.gN(R:tQ b d s h L)(a:n=L.length)(hi:i<n)(k:ao->ay):de h.am 1 (.aV (b+d) s 0 n) (aA i) k=k (.eP (b+d) s i 0):=GR R hi k
theorem tQ.bZ{c:Nat}[cp h b][dS h](R:tQ b d s h L)(hi:i<L.length)(hd:d<4096:=by decide):tQ b d s (h.dP b d (.ae (.aV s 78 1 ((L.set i c).map gh) true))) (L.set i c)/\∀k:dv,bl b none 1 (.eP (b+d) s i 0) (aA c) h k=k .undef (h.dP b d (.ae (.aV s 78 1 ((L.set i c).map gh) true))):=by
 refine⟨Em hd,λk=>?_⟩;have e:bl b none 1 (.eP (b+d) s i 0) (aA c) h k=lJ b none (pN h.am 1 (.eP (b+d) s i 0) (aA c)) h k:=rfl;have a:pN h.am 1 (.eP (b+d) s i 0) (aA c)=some (.undef,[(b+d,.aV s 78 1 ((L.set i c).map gh) true)]):=by
  have g:h.am (b+d)= .aV s 78 1 (L.map gh) true:=R;have j:mV h.am (aA c)=some (aA c):=by rw[db];rfl
  have l:(aA (c:Int)).cells=some [aA c]:=by rw[db];rfl
  have o:(aA (c:Int)).dl=[]:=by rw[db];rfl
  have p:(L.map gh)[i]? =some (gh L[i]):=by simp[fo hi]
  simp only[pN,g,j,l,p,o,fI,List.map_set];rfl
 rw[e,a,z2 (kC b _) (cp.lt hd)];rfl
theorem arH[cp h b][dS h](g:n<=2000)(hd:d<4096:=by decide):∃s,tQ b d s (h.dP b d (.ae (.aV s 78 1 ((List.replicate n 0).map gh) true))) (List.replicate n 0)/\∀k:dv,lJ b none (rj (Nat.add b d) 78 1 8 (h.am (Nat.add b d)).cH [bt] (aA n) (aA n)) h k=k (.aV (b+d) s 0 n) (h.dP b d (.ae (.aV s 78 1 ((List.replicate n 0).map gh) true))):=by
 refine⟨Nat.add (h.am (b+d)).cH 1,Em hd,λk=>?_⟩;have a:Nat.sub ((n:Int)+18446744073709551616).toNat 18446744073709551616=n:=Tn n;have c:rj (Nat.add b d) 78 1 8 (h.am (Nat.add b d)).cH [bt] (aA n) (aA n)=some (.aV (b+d) (Nat.add (h.am (b+d)).cH 1) 0 n,[(b+d,.aV (Nat.add (h.am (b+d)).cH 1) 78 1 ((List.replicate n 0).map gh) true)]):=by
  have e:(List.replicate n 0).map gh=List.replicate n [bt]:=by rw[DS,b7];rfl
  rw[e,db];simp only[rj,a];rw[eT,bM,eT,dJ (dn _),eT,dJ (by rw[tE];omega),eT,bM];rfl
 rw[c,z2 (kC b _) (cp.lt hd)];rfl
theorem apC{f:Nat}{p r:ao}[cp h b](R:tQ b d s h L)(c:bf u f [p,.aN 1 (L.map gh)] r)(hd:d<4096:=by decide)(k:dv):
 (bi h.am (.aV (b+d) s 0 L.length) λq us=>cm u b none f [p,q] (aZ us []) h k)=k r (h.dP b d (.ae (.aV s 78 1 (L.map gh) false))):=by
 have g:h.am (b+d)= .aV s 78 1 (L.map gh) true:=R;have j:∀F:ao->fk->ay,bi h.am (.aV (b+d) s 0 L.length) F=lq (h.am (b+d)) λa e sz ea bL=>bB (Nat.beq s a) (bB (Nat.ble (Nat.add 0 L.length) (eJ ea)) (F (.aN sz (mU ea 0 L.length)) (@Bool.rec (λ_=>fk) [] [(b+d,.aV a e sz ea false)] bL)) .aF) .aF:=λF=>rfl;have l:mU (L.map gh) 0 L.length=L.map gh:=by have:=Ah (L.map gh);rwa [mw]at this
 rw[j,g,uO,fI,da,gV,eT,dJ (by rw[h5,mw];omega),da,l];obtain⟨bj,dd,o⟩:=c;have t:cm u b none f [p,.aN 1 (L.map gh)] (aZ [(b+d,.aV s 78 1 (L.map gh) false)] []) h k=zY b [(b+d,.aV s 78 1 (L.map gh) false)] h k (u f [p,.aN 1 (L.map gh)] 0 .nil):=rfl;show cm u b none f [p,.aN 1 (L.map gh)] (aZ [(b+d,.aV s 78 1 (L.map gh) false)] []) h k=_;rw[t,o];have w:zY b [(b+d,.aV s 78 1 (L.map gh) false)] h k (.ok r 0 bj dd)=bB (Nat.ble (Nat.succ (b+d)) h.ax) (k r (h.dP b d (.ae (.aV s 78 1 (L.map gh) false)))) .aF:=rfl;rw[w,eT,dJ (show Nat.succ (b+d)<=h.ax from cp.lt hd),da]
theorem aqJ{z s3 s5 x:Nat}{t:az}{v:ao}{R:ay->Prop}{K:iF}(E:z<=3)
 (r:∀h:aO,cp h 0->dS h->tQ 0 2093 s h (List.replicate z 2047)->h.am (0+3)= .box s3 t->h.am (0+5)= .box s5 [aA (x:Int)]->R (K v (.aQ (0+3) s3 0) (.aQ (0+5) s5 0) (.aV (0+2093) s 0 z) h)):
 ∀(m i N:Nat) (h:aO) (L:List Nat),m+i=z->m<N->cp h 0->dS h->tQ 0 2093 s h L->L.length=z->(∀j,j<i->L[j]? =some 2047)->h.am (0+3)= .box s3 t->h.am (0+5)= .box s5 [aA (x:Int)]->
 R (k1 0 3 5 8 47 48 N (Cg u 0 K) v (.aQ (0+3) s3 0) (.aQ (0+5) s5 0) (.aV (0+2093) s 0 z) (aA z) (aA i) h):=by
 intro m;induction m with
 |zero=>
  intro i N h L w y ub b5 a g k l o;obtain⟨N,rfl⟩:=eC N;have hi:i=z:=by omega
  subst hi;have e:L=List.replicate i 2047:=vc λj=>by by_cases p:j<i;rw[k j p];simp[p];rw[rt (by omega),rt (by simp;omega)]
  rw[ti];generalize k1 0 3 5 8 47 48 N (Cg u 0 K)=j6;rw[Cg,cz,bA,bc];exact r h ub b5 (e▸a) l o
 |succ m A=>
  intro i N h L w y ub b5 a g k l o;obtain⟨N,rfl⟩:=eC N;have q:=λh L ub b5 a g k l o=>A (i+1) N h L (by omega) (by omega) ub b5 a g k l o;have B:((i+1:Nat):Int)=(i:Int)+1:=by omega
  rw[B]at q;rw[ti];generalize k1 0 3 5 8 47 48 N (Cg u 0 K)=j6 at q ⊢;obtain⟨C,D⟩:=a.bZ (i:=i) (c:=2047) (by omega);rw[Cg,cz,bM,bw,X4,a.gN g.symm (by omega),yc,D,b8,fV];refine q _ _ inferInstance inferInstance C (by rw[List.length_set];exact g) (λj p=>?_) (oI l) (oI o);by_cases e:j=i;subst e;rw[List.getElem?_set_self (by omega)];rw[List.getElem?_set_ne (Ne.symm e)];exact k j (by omega)
end
end
section
variable{s i c1 c g:Nat}{h:aO}{C:az->Nat->Prop}{P:Prop}{v:ao}{es:bg}{t:az}
section
variable[Tok] {u:Fn}{b:Nat}
structure Uh (u:Fn) (C:az->Nat->Prop) (P:Prop) (v:ao) (es:bg) (t:az):Prop where
 xL:∀k i c1 c g o L,kj t k i c1 c g o L->k=2->P/\∃s:Nat,s<=2047/\bf u 129 [.agg o] (aA (s:Int))
 xP:∀k i c1 c g o L l,kj t k i c1 c g o L->l3 L l->l.length<=3->∃e,bf u 89 [.agg t,.s 2 0x6966,aA l.length] (.U e)
 ut:∀k i c1 c g o L l,kj t k i c1 c g o L->l3 L l->k=3->∃(z:Nat) (e:Bool),z<=3/\bf u 130 [.agg [.s i c1,.s c g]] (.bD [aA (z:Int),.U e])/\(e=true->z=l.length->P/\∃s:Nat,s<=2047/\bf u 131 [.agg [.s i c1,.s c g],.aN 1 ((List.replicate z 2047).map gh)] (aA (s:Int)))
 Rl:∀a∈es,fR a/\wz (C a) u 169 [.agg a,.agg t]
 xQ:∀a∈es,∃t',fR t'/\bf u 91 [.agg a] (.agg t')
 Rk:Ix u v t
def NI(C:az->Nat->Prop)(es:bg)(P:Prop)(x:Nat):Prop:=x<=2047/\(kK x=false->P\/∃a∈es,∃s,s<=2047/\C a s/\kK s=false)
def Ej(C:az->Nat->Prop)(es:bg)(P:Prop)(a:ay):Prop:=∃x,NI C es P x/\∃bj d,a= .ok (aA (x:Int)) 0 bj d
theorem apD{d f n:Nat}{a:List Nat}{p r:ao}[cp h b](e:n=a.length)(R:tQ b d s h a)(j:bf u f [p,.aN 1 (a.map gh)] r)(hd:d<4096:=by decide)(k:dv):
 (bi h.am (.aV (b+d) s 0 n) λq us=>cm u b none f [p,q] (aZ [] (aZ us [])) h k)=k r (h.dP b d (.ae (.aV s 78 1 (a.map gh) false))):=by
 subst e;exact apC R j hd k
theorem apL(q s n:Nat)(k:ao->ay):cv false (.aV q s 0 n) k=k (aA n):=z0 _ _ _ _ _
theorem alu{z:Nat}(l:z<=3)(o:s<=2047)(p:P)(D:t.length=11)(q:0+1+2<=t.length)(r:(t.drop (0+1)).take 2=[.s i c1,.s c g])(w:bf u 131 [.agg [.s i c1,.s c g],.aN 1 ((List.replicate z 2047).map gh)] (aA (s:Int)))
 (tail:∀{h:aO} [cp h 0] [dS h] {s3 s5 x:Nat},h.am (0+3)= .box s3 t->h.am (0+5)= .box s5 [aA (x:Int)]->x<=2047->(kK x=false->P)->Ej C es P (yG u 0 v (.aQ (0+3) s3 0) (.aQ (0+5) s5 0) h))
 [cp h 0][dS h]{s3 s5 x:Nat}(y:h.am (0+3)= .box s3 t)(A:h.am (0+5)= .box s5 [aA (x:Int)]):Ej C es P (PV u 0 (yG u 0) (aA (z:Int)) v (.aQ (0+3) s3 0) (.aQ (0+5) s5 0) h):=by
 obtain⟨E,R,e⟩:=arH (b:=0) (d:=2093) (n:=z) (h:=h) (by omega);rw[PV,e,apL,b7];refine aqJ (R:=Ej C es P) (K:=PU u 0 (yG u 0)) l (λh ub b5 B a k=>?_) z 0 1000000 _ _ (by omega) (by omega) inferInstance inferInstance R (by simp) (λj F=>by omega) (oI y) (oI A);rw[PU,aH,av a,dG q,r,b4,a6,apD (by simp) B w,uB,cM (ho:=oI k)];exact tail (fS (oI a)) (gn (oI k)) o λ_=>p
theorem aok:kK 2047=true:=by decide
theorem alt(I:cE 11 v es)(J:es.length<=900){k:Int}{o:az}{q:ao}{l:bg}(a:kj t k i c1 c g o q)(D:l3 q l)(K:l.length<=3)(O:Uh u C P v es t):
 Ej C es P (ws u [v,.agg t] 0 .nil):=by
 have Y:=a.v.dB;have Z:=a.v.iM;have al:=a.aa;have H:=a.v.ad;have L:=a.v.ja;have w:=a.v.fC;have y:=a.v.t1;have M:=a.v.gD;have N:=a.v.t3;have d:=D.len;obtain⟨ar,ho⟩:=a.aj;obtain⟨fP,a3⟩:=ho.p;have A:∀ob (z:Int) (f:gI),bi ob (aA z) f=f (aA z) []:=λob z f=>by rw[db];rfl
 have tail:∀{h:aO} [cp h 0] [dS h] {s3 s5 x:Nat},h.am (0+3)= .box s3 t->h.am (0+5)= .box s5 [aA (x:Int)]->x<=2047->(kK x=false->P)->Ej C es P (yG u 0 v (.aQ (0+3) s3 0) (.aQ (0+5) s5 0) h):=by intro h _ _ s3 s5 x E F Q r;obtain⟨x',⟨f1,f2⟩,f3⟩:=alv (C:=C) I H L J O.Rl O.xQ O.Rk E F Q;exact⟨x',⟨f1,λe=>(f2 e).imp r id⟩,f3⟩
 have B:=λ{h:aO} (R:cp h 0) (S:dS h) {s3 s5:Nat} (E:h.am (0+3)= .box s3 t) (F:h.am (0+5)= .box s5 [aA ((2047:Nat):Int)])=> @tail h R S s3 s5 2047 E F (by omega) (λe=>by rw[aok]at e;cases e);have e:ws u [v,.agg t] 0 .nil=TS u 0 (.agg t) v (bN 0 .nil):=rfl;rw[e,TS];by_cases e0:k=2
 ·obtain⟨r,s,G,a4⟩:=O.xL k i c1 c g o q a e0;rw[b3,cF,yc,uB,cM,bn,aH,av,aL,e4,cd,bM,bw,PT,aH,av,dG M,N,bE,a6,aq,a0,uB,cM];refine tail ?_ ?_ G (λ_=>r)<;>(repeat first|assumption|with_reducible first|exact ec|exact hX|exact kk|exact j|apply gn|refine fZ ?_|refine fS ?_|refine fJ ?_|refine ic ?_|refine kT ?_|refine lB ?_|refine n ?_|refine p ?_|decide)
 by_cases T:k=3
 rotate_left 1
 ·rw[b3,cF,yc,uB,cM,bn,aH,av,aL,e4,cd,bA,bc,zw,bn,aH,av,aL,fu,cd,bA,gB,zx,cl,ch,bc];refine B inferInstance inferInstance ?_ ?_<;>(repeat first|assumption|with_reducible first|exact ec|exact hX|exact kk|exact j|apply gn|refine fZ ?_|refine fS ?_|refine fJ ?_|refine ic ?_|refine kT ?_|refine lB ?_|refine n ?_|refine p ?_|decide)
 obtain⟨e,a5⟩:=O.xP k i c1 c g o q l a D K;cases e
 rotate_left 1
 ·rw[b3,cF,yc,uB,cM,bn,aH,av,aL,e4,cd,bA,bc,zw,bn,aH,av,aL,fu,cd,bM,dR,FX,av,aU,aH,av,aL,d,a6,A,aq,aq,a0,e1,gX,zx,cl,cA,bc];refine B inferInstance inferInstance ?_ ?_<;>(repeat first|assumption|with_reducible first|exact ec|exact hX|exact kk|exact j|apply gn|refine fZ ?_|refine fS ?_|refine fJ ?_|refine ic ?_|refine kT ?_|refine lB ?_|refine n ?_|refine p ?_|decide)
 obtain⟨z,e,V,bd,W⟩:=O.ut k i c1 c g o q l a D T;have bs:aA ((z:Nat):Int)≠ .undef:=DI _;cases e
 ·rw[b3,cF,yc,uB,cM,bn,aH,av,aL,e4,cd,bA,bc,zw,bn,aH,av,aL,fu,cd,bM,dR,FX,av,aU,aH,av,aL,d,a6,A,aq,aq,a0,e1,jI,zx,cl,cA,bw,aH,av,dG w,y,J1,bE,a6,aq,a0,ez _ _,eA _ _,gB,FY,cl,ch,bc];refine B inferInstance inferInstance ?_ ?_<;>(repeat first|assumption|with_reducible first|exact ec|exact hX|exact kk|exact j|apply gn|refine fZ ?_|refine fS ?_|refine fJ ?_|refine ic ?_|refine kT ?_|refine lB ?_|refine n ?_|refine p ?_|decide)
 by_cases bx:(z:Int)=(l.length:Int)
 rotate_left 1
 ·rw[b3,cF,yc,uB,cM,bn,aH,av,aL,e4,cd,bA,bc,zw,bn,aH,av,aL,fu,cd,bM,dR,FX,av,aU,aH,av,aL,d,a6,A,aq,aq,a0,e1,jI,zx,cl,cA,bw,aH,av,dG w,y,J1,bE,a6,aq,a0,ez _ _,eA _ _,dR,aH,av,aL,d,cd,FY,cl,cA,bA,bc];refine B inferInstance inferInstance ?_ ?_<;>(repeat first|assumption|with_reducible first|exact ec|exact hX|exact kk|exact j|apply gn|refine fZ ?_|refine fS ?_|refine fJ ?_|refine ic ?_|refine kT ?_|refine lB ?_|refine n ?_|refine p ?_|decide)
 obtain⟨r,s,G,X⟩:=W rfl (by omega);rw[b3,cF,yc,uB,cM,bn,aH,av,aL,e4,cd,bA,bc,zw,bn,aH,av,aL,fu,cd,bM,dR,FX,av,aU,aH,av,aL,d,a6,A,aq,aq,a0,e1,jI,zx,cl,cA,bw,aH,av,dG w,y,J1,bE,a6,aq,a0,ez _ _,eA _ _,dR,aH,av,aL,d,cd,FY,cl,cA,bM,bw];exact alu V G r H w y X tail (x:=2047) (by(repeat first|assumption|with_reducible first|exact ec|exact hX|exact kk|exact j|apply gn|refine fZ ?_|refine fS ?_|refine fJ ?_|refine ic ?_|refine kT ?_|refine lB ?_|refine n ?_|refine p ?_|decide)) (by(repeat first|assumption|with_reducible first|exact ec|exact hX|exact kk|exact j|apply gn|refine fZ ?_|refine fS ?_|refine fJ ?_|refine ic ?_|refine kT ?_|refine lB ?_|refine n ?_|refine p ?_|decide))
end
end
section
variable{C:az->Nat->Prop}{es:bg}{P:Prop}{t:az}
section
variable[Tok] {u:Fn}{b:Nat}
def wA(C:az->Nat->Prop)(es:bg)(P:Prop)(t:az)(r:Int):Prop:=0<=r/\r<=2/\(r=1->t∈es\/P\/∃a∈es,∃s,s<=2047/\C a s/\kK s=false)
def sB(C:az->Nat->Prop)(es:bg)(P:Prop)(t:az)(a:ay):Prop:=∃r:Int,wA C es P t r/\∃bj d,a= .ok (aA r) 0 bj d
structure Uf (u:Fn) (C:az->Nat->Prop) (P:Prop) (v:ao) (es:bg) (a c:Nat) (y t:az):Prop where
 arL:bf u 89 [.agg t,.s 3 0x6e6f74,br] (.U false)
 amo:bf u 89 [.agg t,.s 5 0x657175616c,dM] (.U false)
 CI:∀t',t'=t\/t'=dI dH (.s 3 0x6e6f74) [t]->∃e,(e=true->t'∈es)/\bf u 90 [v,.agg t'] (.U e)
 xQ:bf u 91 [.agg t] (.agg (dI dH (.s 3 0x6e6f74) [t]))
 KY:∃(s:Nat) (e:Bool),s<=2047/\(e=true->P)/\bf u 94 [.agg [.s 4 0x6c697370,.s a c]] (.bD [aA (s:Int),.U e])
 t95:∃x,NI C es P x/\bf u 95 [v,.agg t] (aA (x:Int))
 ws:∃x:Nat,x<=2047/\bf u 95 [v,.agg y] (aA (x:Int))
theorem sB.mk{a:ay}{r:Int}{x:ao}(c:x=aA r)(h:wA C es P t r)(e:∃bj d,a= .ok x 0 bj d):sB C es P t a:=by subst c;exact⟨r,h,e⟩
theorem ak7{v:ao}{a c:Nat}{y:az}(g:t=dI dH (.s a c) [y])(E:cE 11 v es)(F:fR y)(O:Uf u C P v es a c y t):sB C es P t (tY u [v,.agg t] 0 .nil):=by
 obtain⟨W,X⟩:=F;have G:t[0+0]? =some (aA 3):=by rw[g,fu.symm];rfl
 have Y:t[0+10]? =some (.aN 11 [y]):=by rw[g];rfl
 have Z:t.length=11:=by rw[g];rfl
 have al:cg t=true:=by rw[g];rfl
 have i:0+1+2<=t.length:=by omega
 have j:(t.drop (0+1)).take 2=[.s 4 0x6c697370,.s a c]:=by rw[g];rfl
 have d:∀(ob:dE) (f:gI),bi ob v f=f v []:=λob f=>by rcases E with⟨rfl,_⟩|rfl<;>rfl
 have ar:∀ob (z:Int) (f:gI),bi ob (aA z) f=f (aA z) []:=λob z f=>by rw[db];rfl
 obtain⟨a1,a2,A,H,⟨s,I,hs,J,a3⟩,⟨x,⟨hx,K⟩,a4⟩,⟨e,a5,bd⟩⟩:=O;obtain⟨L,c8,bs⟩:=A t (.inl rfl);obtain⟨M,cX,N⟩:=A _ (.inr rfl);obtain⟨l,p⟩:∃l,l=dI dH (.s 3 0x6e6f74) [t]:=⟨_,rfl⟩;rw[<-p]at cX N H;have bx:l.length=11:=by rw[p];rfl
 have q2:cg l=true:=by rw[p];rfl
 clear g;have cc:((3:Int)=2)=False:=by simp
 have Q:∃k:Int,k=3:=⟨3,rfl⟩;obtain⟨k,R⟩:=Q;rw[<-R]at G;have cn:k≠2:=by omega
 have n:∀o:ao->ay,cv false (.aN 11 [y]) o=o (aA 1):=λo=>gC _ _ o;have cs:aA ((s:Nat):Int)≠ .undef:=DI _;have q:lZ .andNot (aA (e:Int)) (aA (s:Int))=some (aA ((wU e s:Nat):Int)):=aeO e s (by omega) (by omega);have B:lZ .and (aA (e:Int)) (aA (s:Int))=some (aA ((e&&& s:Nat):Int)):=Tz e s (by omega) (by omega);have ik:lZ .and (aA (x:Int)) n32=some (aA ((x&&& 32:Nat):Int)):=by rw[LJ];exact Tz x 32 (by omega) (by omega)
 cases L
 rotate_left 1
 refine sB.mk b8 (r:=1) ⟨by omega,by omega,λ_=> .inl (c8 rfl)⟩ ?_;rw[tY,ep];rw[zp,b3,bn,aH,av,aL,e4,cd,bA,bc,zo,av,aU,a6,aq,a0,bc,xe,av,aU,b4,d,a6,aq,aq,a0,bw,ml,bJ,b8,ei,aq];exact b6;cases M
 rotate_left 1
 refine sB.mk e4 (r:=2) ⟨by omega,by omega,λh=>absurd h (by omega)⟩ ?_;rw[tY,ep];rw[zp,b3,bn,aH,av,aL,e4,cd,bA,bc,zo,av,aU,a6,aq,a0,bc,xe,av,aU,b4,d,a6,aq,aq,a0,bc,BW,av,aU,bE,a6,aq,a0,b4,d,a6,aq,aq,a0,bw,ml,bJ,e4,ei,aq];exact b6;have D:∀{h:aO} [cp h 0] [dS h] {s3:Nat},h.am (0+3)= .box s3 t->sB C es P t (BY u 0 v (.aQ (0+3) s3 0) h):=by intro h _ _ s3 o3;by_cases f1:(((x&&& 32:Nat):Int))=0;refine sB.mk b8 (r:=1) ⟨by omega,by omega,λ_=>?_⟩ ?_;rcases K (afU x (by omega)) with w|w;exact .inr (.inl w);exact .inr (.inr w);rw[BY];rw[av,aU,b4,d,a6,aq,aq,a0,ik,nR,b7,cd,bM,bw,ml,bJ,b8,ei,aq];exact b6;by_cases f2:(x:Int)=((32:Nat):Int);refine sB.mk e4 (r:=2) ⟨by omega,by omega,λh=>absurd h (by omega)⟩ ?_;rw[BY];rw[av,aU,b4,d,a6,aq,aq,a0,ik,nR,b7,cd,bA,bc,O5,LJ,cd,bM,bw,ml,bJ,e4,ei,aq];exact b6;refine sB.mk b7 (r:=0) ⟨by omega,by omega,λh=>absurd h (by omega)⟩ ?_;rw[BY];rw[av,aU,b4,d,a6,aq,aq,a0,ik,nR,b7,cd,bA,bc,O5,LJ,cd,bA,bc,ml,bJ,b7,ei,aq];exact b6
 cases I
 ·rw[tY,ep];rw[zp,b3,bn,aH,av,aL,e4,cd,bA,bc,zo,av,aU,a6,aq,a0,bc,xe,av,aU,b4,d,a6,aq,aq,a0,bc,BW,av,aU,bE,a6,aq,a0,b4,d,a6,aq,aq,a0,bc,Fx,av,aU,a6,aq,a0,bc,B0,bn,aH,av,aL,fu,cd,bM,dR,aH,av,aL,n,b8,cd,BZ,cl,cA,bM,bw,Fy,aH,av,dG i,j,bE,a6,aq,a0,ez _ _,eA _ _,bc];refine D ?_<;>(repeat first|assumption|with_reducible first|exact ec|exact hX|exact kk|exact S|apply gn|refine fZ ?_|refine fS ?_|refine fJ ?_|refine ic ?_|refine kT ?_|refine lB ?_|refine T ?_|refine V ?_|decide)
 by_cases f1:(((wU e s:Nat):Int))=0;refine sB.mk b8 (r:=1) ⟨by omega,by omega,λ_=> .inr (.inl (J rfl))⟩ ?_;rw[tY,ep];rw[zp,b3,bn,aH,av,aL,e4,cd,bA,bc,zo,av,aU,a6,aq,a0,bc,xe,av,aU,b4,d,a6,aq,aq,a0,bc,BW,av,aU,bE,a6,aq,a0,b4,d,a6,aq,aq,a0,bc,Fx,av,aU,a6,aq,a0,bc,B0,bn,aH,av,aL,fu,cd,bM,dR,aH,av,aL,n,b8,cd,BZ,cl,cA,bM,bw,Fy,aH,av,dG i,j,bE,a6,aq,a0,ez _ _,eA _ _,bw,JN,bn,aH,av,aL,b7,gQ,JM,cI,aU,b4,d,a6,aq,aq,a0,q,nR,b7,cd,bM,bw,ml,bJ,b8,ei,aq];exact b6;by_cases f2:(((e&&& s:Nat):Int))=0;refine sB.mk e4 (r:=2) ⟨by omega,by omega,λh=>absurd h (by omega)⟩ ?_;rw[tY,ep];rw[zp,b3,bn,aH,av,aL,e4,cd,bA,bc,zo,av,aU,a6,aq,a0,bc,xe,av,aU,b4,d,a6,aq,aq,a0,bc,BW,av,aU,bE,a6,aq,a0,b4,d,a6,aq,aq,a0,bc,Fx,av,aU,a6,aq,a0,bc,B0,bn,aH,av,aL,fu,cd,bM,dR,aH,av,aL,n,b8,cd,BZ,cl,cA,bM,bw,Fy,aH,av,dG i,j,bE,a6,aq,a0,ez _ _,eA _ _,bw,JN,bn,aH,av,aL,b7,gQ,JM,cI,aU,b4,d,a6,aq,aq,a0,q,nR,b7,cd,bA,bc,O6,B,nR,b7,cd,bM,bw,ml,bJ,e4,ei,aq];exact b6;rw[tY,ep];rw[zp,b3,bn,aH,av,aL,e4,cd,bA,bc,zo,av,aU,a6,aq,a0,bc,xe,av,aU,b4,d,a6,aq,aq,a0,bc,BW,av,aU,bE,a6,aq,a0,b4,d,a6,aq,aq,a0,bc,Fx,av,aU,a6,aq,a0,bc,B0,bn,aH,av,aL,fu,cd,bM,dR,aH,av,aL,n,b8,cd,BZ,cl,cA,bM,bw,Fy,aH,av,dG i,j,bE,a6,aq,a0,ez _ _,eA _ _,bw,JN,bn,aH,av,aL,b7,gQ,JM,cI,aU,b4,d,a6,aq,aq,a0,q,nR,b7,cd,bA,bc,O6,B,nR,b7,cd,bA,bc];refine D ?_<;>(repeat first|assumption|with_reducible first|exact ec|exact hX|exact kk|exact S|apply gn|refine fZ ?_|refine fS ?_|refine fJ ?_|refine ic ?_|refine kT ?_|refine lB ?_|refine T ?_|refine V ?_|decide)
end
end
section
variable{p:Nat×Nat×Nat}
section
variable[Tok] {u:Fn}{b:Nat}
def hR(w:Nat):az:=kQ kD (.s 1 w)
def ej(a c:Nat)(x:az):az:=dI dH (.s a c) [x]
def kV(w:Nat)(y:az):az:=[kD,.s 1 w]++y
def jx(k:Int)(r c1 z A:Nat)(g:Int)(q d1 j d2 ik d3 jT d4 jU d5:Nat)(d L:ao):az:=[aA k,.s r c1,.s z A,aA g,.s q d1,.s j d2,.s ik d3,.s jT d4,.s jU d5,d,L]
theorem cq.anD{n:Nat}{t:az}(h:cq n t):∃k r c1 z A g q d1 j d2 ik d3 jT d4 jU d5 d L,t=jx k r c1 z A g q d1 j d2 ik d3 jT d4 jU d5 d L/\(d= .ba\/∃e f,d= .aN 7 [e,f])/\(L= .ba\/∃l,L= .aN 11 l):=by obtain⟨k,r,c1,z,A,o,L,a,c⟩:=h.aa;obtain⟨_,ho⟩:=a.aj;obtain⟨g,q,d1,j,d2,ik,d3,jT,d4,jU,d5,d,i,w⟩:=ho.aa;refine⟨k,r,c1,z,A,g,q,d1,j,d2,ik,d3,jT,d4,jU,d5,d,L,?_,w.imp id λ⟨_,_,_,e,f,_,h,_⟩=>⟨e,f,h⟩,c.imp id λ⟨_,l,_,h,_⟩=>⟨l,h⟩⟩;rw[a.v.eq,i.v.eq];rfl
def qf:List (Nat×Nat×Nat):=[(4,0x706f7370,0x6e),(4,0x6e617470,0x6e),(3,0x6c656e,0x78)]
section
variable{k g:Int}{r c1 z A q d1 j d2 ik d3 jT d4 jU d5:Nat}{d L:ao}
theorem ao0(a:p∈qf)(n:Nat)(c:d= .ba\/∃e f,d= .aN 7 [e,f])(h:L= .ba\/∃l,L= .aN 11 l):
 nj (bR bX (n+40) 27 [.agg (ej p.1 p.2.1 (hR p.2.2)),.agg (ej p.1 p.2.1 (jx k r c1 z A g q d1 j d2 ik d3 jT d4 jU d5 d L)),.ba] 0 .nil)= .ok (.bD [.aN 13 [kV p.2.2 (jx k r c1 z A g q d1 j d2 ik d3 jT d4 jU d5 d L)],.U true]) 0 .nil []:=by
 simp only[qf,e9,iV,iU]at a;rcases a with rfl|rfl|rfl<;>rcases c with rfl|⟨e,f,rfl⟩<;>rcases h with rfl|⟨l,rfl⟩<;>kernel_rfl
theorem ao1(a:p∈qf)(n:Nat)(c:d= .ba\/∃e f,d= .aN 7 [e,f]):nj (bR bX (n+40) 27 [.agg (ej p.1 p.2.1 (hR p.2.2)),.agg (fg [aA g,.s q d1,.s j d2,.s ik d3,.s jT d4,.s jU d5,d]),.ba] 0 .nil)= .ok (.bD [.ba,.U false]) 0 .nil []:=by simp only[qf,e9,iV,iU]at a;rcases a with rfl|rfl|rfl<;>rcases c with rfl|⟨e,f,rfl⟩<;>kernel_rfl
end
theorem ao3(n:Nat):(qf.all λp=>[0,1,2].all λi=>iu (bR bX (n+40) 27 [.agg (ej p.1 p.2.1 (hR p.2.2)),.agg (gS i),.ba] 0 .nil) (.bD [.ba,.U false]))=true:=by kernel_rfl
theorem ao2(n:Nat)(l:bg):(qf.all λp=>oS.all λh=>(Nat.beq h.2.1 0x6c697370&&(Nat.beq h.2.2.1 p.1&&Nat.beq h.2.2.2.1 p.2.1))||iu (bR bX (n+40) 27 [.agg (ej p.1 p.2.1 (hR p.2.2)),.agg (eG h l),.ba] 0 .nil) (.bD [.ba,.U false]))=true:=by kernel_rfl
def pH:List (Nat×(az->az)):=[(0x6e,ej 4 0x706f7370),(0x6e,ej 4 0x6e617470),(0x6e,ej 8 0x696e746567657270),(0x78,λx=>ej 8 0x696e746567657270 (ej 3 0x6c656e x))]
section
variable{k g:Int}{r c1 z A q d1 j d2 ik d3 jT d4 jU d5:Nat}{d L:ao}
theorem ao4{p:Nat×(az->az)}(a:p∈pH)(n:Nat):nj (bR bX (n+40) 29 [.agg (p.2 (hR p.1)),.aN 13 [kV p.1 (jx k r c1 z A g q d1 j d2 ik d3 jT d4 jU d5 d L)]] 0 .nil)= .ok (.U false) 0 .nil []:=by simp only[pH,e9,iV,iU]at a;rcases a with rfl|rfl|rfl|rfl<;>kernel_rfl
theorem ao5{p:Nat×(az->az)}(a:p∈pH)(n:Nat)(c:d= .ba\/∃e f,d= .aN 7 [e,f])(h:L= .ba\/∃l,L= .aN 11 l):
 nj (bR bX (n+40) 30 [.agg (p.2 (hR p.1)),.aN 13 [kV p.1 (jx k r c1 z A g q d1 j d2 ik d3 jT d4 jU d5 d L)]] 0 .nil)= .ok (.agg (p.2 (jx k r c1 z A g q d1 j d2 ik d3 jT d4 jU d5 d L))) 0 .nil []:=by
 simp only[pH,e9,iV,iU]at a;rcases a with rfl|rfl|rfl|rfl<;>rcases c with rfl|⟨e,f,rfl⟩<;>rcases h with rfl|⟨l,rfl⟩<;>kernel_rfl
end
end
end
end Go.Hf

import Derived.Test.YthiipifjdfmblaaGreatDoorAu
set_option linter.all false
set_option maxRecDepth 100000
namespace Go.Hf
open Go.RowKit
variable{B B':Nat} {c d:Rat} {x y:Int} {p q:bE}
def gQ(B:Nat)(c:Rat):Prop:=∃z:Int,c=z/\z.natAbs<=B
theorem gQ.mono(h:gQ B c)(a:B<=B'):gQ B' c:=by obtain⟨z,e,b⟩:=h;exact⟨z,e,by omega⟩
theorem gQ.zero(B:Nat):gQ B 0:=⟨0,rfl,by simp⟩
theorem gQ.add(h:gQ B c)(g:gQ B' d):gQ (B+B') (c+d):=by obtain⟨z,rfl,a⟩:=h;obtain⟨w,rfl,b⟩:=g;exact⟨z+w,by rw[Rat.intCast_add],by omega⟩
theorem gQ.neg(h:gQ B c):gQ B (c*(-1)):=by obtain⟨z,rfl,a⟩:=h;exact⟨z*(-1),by rw[nj];rfl,by omega⟩
theorem gQ.mul(h:gQ B c)(g:gQ B' d):gQ (B*B') (c*d):=by obtain⟨z,rfl,a⟩:=h;obtain⟨w,rfl,b⟩:=g;exact⟨z*w,by rw[nj],by rw[JY];exact FE a b⟩
theorem wY(h:gQ 520 c):fV c:=by obtain⟨z,rfl,a⟩:=h;exact .inl ⟨rfl,by show-520<=z;omega,by show z<=520;omega⟩
theorem vM(h:x.natAbs<=700):m8 x=true:=gz h
theorem YO{a:Nat}(h:a<=700):rD a 1=true:=by unfold rD;rw[Bool.or_eq_true,Bool.and_eq_true,Bool.and_eq_true];exact .inr ⟨Nat.ble_eq_true_of_le h,rfl⟩
theorem ac6{p:Int}(h:p.natAbs<=520):Aj p 1=true:=by unfold Aj;rw[Bool.or_eq_true,Bool.and_eq_true];exact .inl ⟨rfl,Nat.ble_eq_true_of_le h⟩
theorem MW(a:tQ x.natAbs=true)(b:tQ y.natAbs=true)(l:x.natAbs<=256)(n:y.natAbs<=256):kj (x:Rat) (y:Rat)=true:=by have e:(x:Rat).num=x:=rfl;have g:(y:Rat).num=y:=rfl;have h:(((x:Rat).den:Nat):Int)=1:=rfl;have i:(((y:Rat).den:Nat):Int)=1:=rfl;have j:(x:Rat).den=1:=rfl;have k:(y:Rat).den=1:=rfl;unfold kj;rw[e,g,h,i,j,k,Int.mul_one,Int.mul_one];simp only[Hi];refine⟨vM (by omega),vM (by omega),rfl,rfl,vM (by omega),vM (by omega),rfl,vM (by omega),YO (by omega),YO (by omega),rfl,a,b,gz (by omega),ac6 (by omega)⟩
theorem Yg:((List.range 81).all λa=>tQ a)=true:=by kernel_rfl
theorem S6:((List.range 17).all λa=>(List.range 17).all λb=>tQ (a*b))=true:=by kernel_rfl
theorem Uy(h:gQ 80 c)(g:gQ 80 d):kj c d=true:=by obtain⟨x,rfl,a⟩:=h;obtain⟨y,rfl,b⟩:=g;exact MW (cB Yg (mem_range (by omega))) (cB Yg (mem_range (by omega))) (by omega) (by omega)
theorem YR(a:x.natAbs<=80)(b:y.natAbs<=18)(e:(x*y).natAbs<=520):l9 (x:Rat) (y:Rat)=true:=by have g:(x:Rat).num=x:=rfl;have h:(y:Rat).num=y:=rfl;have i:(((x:Rat).den:Nat):Int)=1:=rfl;have j:(((y:Rat).den:Nat):Int)=1:=rfl;have k:(x:Rat).den=1:=rfl;have l:(y:Rat).den=1:=rfl;unfold l9;rw[g,h,i,j,k,l];simp only[Hi];refine⟨vM (by omega),vM (by omega),rfl,rfl,vM (by omega),rfl,?_,rfl,ac6 e⟩;unfold rD;rw[Bool.or_eq_true,Bool.and_eq_true,Bool.and_eq_true];exact .inl ⟨Nat.ble_eq_true_of_le a,Nat.ble_eq_true_of_le b⟩
theorem axR(h:gQ 16 c)(g:gQ 16 d):l9 c d=true:=by obtain⟨x,rfl,a⟩:=h;obtain⟨y,rfl,b⟩:=g;exact YR (by omega) (by omega) (by rw[JY];have:=FE a b;omega)
theorem aBJ(h:gQ 80 c):l9 c (-1)=true:=by obtain⟨x,rfl,a⟩:=h;exact YR (x:=x) (y:= -1) a (by decide) (by omega)
theorem um:∀{p:bE},lI p->∀k,fa p k=[]\/∃x∈p,x.k=k/\fa p k=[x]
 |[],_,k=> .inl rfl
 |m::r,h,k=>by
  obtain⟨b,g⟩:=ku.1 h;by_cases e:m.k=k
  ·subst e;right;refine⟨m,HO,rfl,?_⟩;rw[Fx];have:fa r m.k=[]:=by unfold fa;rw[List.filter_eq_nil_iff];intro x a;have:=b x a;simp;omega
   rw[this]
  ·have i:fa (m::r) k=fa r k:=by unfold fa;rw[List.filter_cons_of_neg (by simpa using e)]
   rw[i];rcases um g k with h|⟨x,a,h⟩
   ·exact .inl h
   ·exact .inr ⟨x,OJ _ a,h⟩
theorem aco{s:Nat->Prop}(g:lI p)(i:lI q)(h:∀x∈p,∀y∈q,x.k=y.k->kj x.U y.U=true/\kj y.U x.U=true/\s x.k):Dq s (p++q):=by
 intro k;rw[E3];rcases um g k with e|⟨x,j,l,e⟩<;>rcases um i k with f|⟨y,n,o,f⟩
 ·rw[e,f];exact .inl rfl
 ·rw[e,f];exact .inr (.inl ⟨y,rfl⟩)
 ·rw[e,f];exact .inr (.inl ⟨x,rfl⟩)
 ·rw[e,f];obtain⟨a,b,c⟩:=h x j y n (by omega);exact .inr (.inr ⟨x,y,rfl,a,b,l▸c⟩)
def pw(B:Nat)(p:bE):Prop:=∀m∈p,gQ B m.U
theorem pw.cx{B:Nat}:∀{p:bE},pw B p->∀k,gQ (B*(fa p k).length) (Go.Hf.cx p k)
 |[],_,k=>gQ.zero _
 |m::r,h,k=>by
  have a:=pw.cx (p:=r) (λx b=>h x (OJ _ b)) k;by_cases e:m.k=k
  ·subst e;rw[Fx];simp only[Go.Hf.cx,w6,JO];exact((h m HO).add a).mono (by rw[Nat.mul_add,Et];omega)
  ·have g:fa (m::r) k=fa r k:=by unfold fa;rw[List.filter_cons_of_neg (by simpa using e)]
   rw[g];simp only[Go.Hf.cx,Ca e,gb];exact a
section
variable[Tok]
theorem am0(b:lI p)(g:lI q)(h:pw B p)(i:pw B q)(n:B+B<=520)(k:Nat):fV (cx (p++q) k):=by
 rw[qp];have a:=h.cx k;have c:=i.cx k;have j:(fa p k).length<=1:=by rcases um b k with e|⟨x,_,_,e⟩<;>rw[e]<;>simp
 have l:(fa q k).length<=1:=by rcases um g k with e|⟨x,_,_,e⟩<;>rw[e]<;>simp
 refine wY ((a.add c).mono ?_);have o:=AR B j;have r:=AR B l;omega
theorem Vg(b:g7 p)(g:g7 q)(e:pw 80 p)(a:pw 80 q)(j:p.length+q.length<=39)(k:∀m∈p,fT m.k)(l:∀m∈q,fT m.k):nv dk fT p q:=
 ⟨b,j,k,l,λm n=>wY ((a m n).mono (by omega)),aco b.g0 g.g0 λx h y i _=>⟨Uy (e x h) (a y i),Uy (a y i) (e x h),trivial⟩,am0 b.g0 g.g0 e a (by omega)⟩
theorem atN(e:g7 p)(b:pw 80 p)(g:p.length<=39)(h:∀m∈p,fT m.k):nB fT p:=
 ⟨e,g,h,λm a=>aBJ (b m a),λm a=>wY ((b m a).neg.mono (by omega))⟩
end
def pz:List Rat:=[mkRat 1 2,mkRat (-1) 2,mkRat 5 3,mkRat (-5) 3]
def rQ(c:Rat):Bool:=(decide ((c.den:Int)=1)&&Nat.ble c.num.natAbs 520)||u0.any λr=>decide (r.1=c.num)&&decide (r.2=c.den)
theorem sc(h:rQ c=true):fV c:=by
 unfold rQ at h;rw[dS,Hi] at h;rcases h with h|h
 ·have a:=gd h.1;have b:=pn h.2;exact .inl ⟨a,by omega,by omega⟩
 ·obtain⟨r,e,h⟩:=pL.1 h;rw[Hi] at h;have a:=gd h.1;have b:=gd h.2;exact .inr ⟨by rw[<-a,<-b];exact e⟩
def apz(p:bE):Prop:=∀m∈p,gQ 16 m.U/\(m.k=0->gQ 8 m.U)
def anX(p:bE):Prop:=∀m∈p,(m.k=0->m.U∈pz)/\(m.k≠0->m.U=1\/m.U= -1)
structure jp (p:bE):Prop where
 U:g7 p
 k:∀m∈p,m.k<10
 aa:p.length<=6
 t:apz p\/anX p
def I8(n:Nat):List Int:=(List.range (2*n+1)).map λ(i:Nat)=>((i:Int)-n)
theorem JV{n:Nat}{z:Int}(h:z.natAbs<=n):z∈I8 n:=yd.2 ⟨(z+n).toNat,by simp;omega,by omega⟩
theorem W7:((I8 16).all λz=>pz.all λq=>l9 (z:Rat) q&&(l9 q (z:Rat)&&rQ ((z:Rat)*q)))=true:=by kernel_rfl
theorem anp:(pz.all λr=>pz.all λq=>l9 r q&&rQ (r*q))=true:=by kernel_rfl
theorem amB:((I8 16).all λz=>pz.all λq=>(I8 8).all λm=>kj ((z:Rat)*q) (m:Rat)&&(kj (m:Rat) ((z:Rat)*q)&&rQ ((z:Rat)*q+(m:Rat))))=true:=by kernel_rfl
theorem agG:(pz.all λr=>pz.all λq=>([1,-1]:List Rat).all λe=>([1,-1]:List Rat).all λf=>kj (r*e) (f*q)&&(kj (f*q) (r*e)&&rQ (r*e+f*q)))=true:=by kernel_rfl
end Go.Hf

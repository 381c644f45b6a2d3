import Derived.Test.YteehpeajjbkjnaaGreatDoorBi
import Derived.Test.YteehpeajjbkjnaaGreatDoorRows
set_option linter.all false
noncomputable section
namespace Go.Hf
open Go
def ML(m f:Nat):Bool:=Nat.beq (Nat.land (Nat.shiftRight m f) 1) 1
def Q9{α:Type}(n:Nat)(f:Nat->α):α:= @Nat.rec (λ_=>α) (f 0) (λp _=>f (Nat.succ p)) n
theorem anF{α:Type}(n:Nat)(f:Nat->α):Q9 n f=f n:=by cases n<;>rfl
def HL{α:Type}(x:α):α:=x
def IY{α a:Type}(l r:List α)(k:List α->a):a:= @List.rec α (λ_=>(List α->a)->a) (λk=>k r) (λh _ b k=>b λt=>k (h::t)) l k
theorem Ux{α a:Type}:∀(l r:List α) (k:List α->a),IY l r k=k (l++r)
 |[],_,_=>rfl
 |h::t,r,k=>by show IY t r (λt=>k (h::t))=_;rw[Ux t r];rfl
def Gg(b:Nat->List Nat)(n:Nat):List Nat->List Nat->Nat->List Nat:=
 @Nat.rec (λ_=>List Nat->List Nat->Nat->List Nat) (λ_ seen _=>seen.reverse)
  (λ_ a c seen m=> @List.rec Nat (λ_=>List Nat) seen.reverse (λf r _=> @Bool.rec (λ_=>List Nat) (IY (b f) r λt=>Q9 (Nat.lor m (Nat.shiftLeft 1 f)) λm=>HL a t (f::seen) m) (HL a r seen m) (ML m f)) c) n
theorem awV(m f:Nat):ML m f=m.testBit f:=by
 unfold ML Nat.testBit;have a:Nat.land (Nat.shiftRight m f) 1=1&&&(m >>> f):=by rw[Nat.and_comm];rfl
 have b:1&&&(m >>> f)=(m >>> f) %2:=by rw[Nat.and_comm];exact Nat.and_one_is_mod _
 rw[a,b];rcases Nat.mod_two_eq_zero_or_one (m >>> f) with h|h<;>rw[h]<;>rfl
theorem Qw(P:Program)(a:Nat->List Nat)(b:∀f,(P.funcs[f]?).elim [] P.leadsTo=a f):∀(n:Nat) (d seen:List Nat) (m:Nat),(∀f,seen.contains f=m.testBit f)->P.closureVia n d seen=Gg a n d seen m
 |0,_,_,_,_=>rfl
 |_+1,[],_,_,_=>rfl
 |n+1,f::r,seen,m,h=>by
  have e:Gg a (n+1) (f::r) seen m= @Bool.rec (λ_=>List Nat) (IY (a f) r λt=>Q9 (Nat.lor m (Nat.shiftLeft 1 f)) λm=>HL (Gg a n) t (f::seen) m) (HL (Gg a n) r seen m) (ML m f):=rfl;rw[e,awV,<-h f];unfold Program.closureVia;cases j:seen.contains f with
  |true=>exact Qw P a b n r seen m h
  |false=>
   simp only[io,hV,Ux,anF,HL];rw[b];refine Qw P a b n _ _ _ λg=>?_;have i:Nat.lor m (Nat.shiftLeft 1 f)=m|||(1 <<< f):=rfl
   rw[i,yP,<-h g,List.contains_cons,Nat.one_shiftLeft,Nat.testBit_two_pow,Bool.or_comm];congr 1;by_cases c:g=f;subst c;simp;have:f≠g:=λe=>c e.symm;simp[c,this]
end Go.Hf

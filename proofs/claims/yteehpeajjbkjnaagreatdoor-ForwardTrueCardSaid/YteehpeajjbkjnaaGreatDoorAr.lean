import Derived.Test.YteehpeajjbkjnaaGreatDoorAq
set_option maxRecDepth 100000
set_option linter.all false
noncomputable section
namespace Go.Hf
open Go.RowKit
section
variable[Tok] {u:Fn}{b:Nat}
def Rz(r:ao):Bool:=match r with
 | .ag .i64 m=>c7 (Nat.ble 18446744073709551616 m) (Nat.ble m 18446744073709553663)
 |_=>false
def zU(a:ay):Bool:= @ay.rec (λ_=>Bool) false (λr ub _ _=>c7 (Nat.beq ub 0) (Rz r)) a
theorem CN{a:ay}(h:zU a=true):∃s:Nat,s<=2047/\∃bj d,a= .ok (aA (s:Int)) 0 bj d:=by
 cases a with
 |aF=>cases h
 |ok r ub bj d=>have h':c7 (Nat.beq ub 0) (Rz r)=true:=h;rw[hY,cC]at h';obtain⟨e,c⟩:=h';have:=e8 e;subst this;unfold Rz at c;clear h;split at c;rename_i m;rw[hY,cC]at c;have c8:=dX c.1;have cX:=dX c.2;refine⟨m-18446744073709551616,by omega,bj,d,?_⟩;rw[db];congr 2;omega;cases c
theorem aba(n:Nat):(nf.all λo=>zU (bR bX (n+60) 129 [.agg o] 0 .nil))=true:=by kernel_rfl
theorem aoH(n:Nat)(a:az):(nf.all λo=>zU (bR bX (n+60) 129 [.agg (il a o)] 0 .nil))=true:=by kernel_rfl
theorem aoI(n:Nat)(a b:az):(nf.all λo=>zU (bR bX (n+60) 129 [.agg (il a (il b o))] 0 .nil))=true:=by kernel_rfl
theorem aoJ(n:Nat)(a b c:az):(nf.all λo=>zU (bR bX (n+60) 129 [.agg (il a (il b (il c o)))] 0 .nil))=true:=by kernel_rfl
theorem amF:bV λu=>∀o,m2 o->∃s:Nat,s<=2047/\bf u 129 [.agg o] (aA (s:Int)):=bV.hE 60 λn o ho=>by
 cases ho with
 |nS o h=>exact CN (gp (aba n) (qt _ h))
 |Db x h=>exact CN (gp (aba n) (G7 h))
 |vF m c c' a d i j hd=>
  cases hd with
  |leaf h=>exact CN (gp (aoH n a) h)
  | @cons ll _ _ e d1 _ hd=>
    cases hd with
    |leaf h=>exact CN (gp (aoI n a e) h)
    | @cons k _ _ g d2 _ hd=>
      cases hd with
      |leaf h=>exact CN (gp (aoJ n a e g) h)
      |cons _ _=>omega
def G5(a c:Nat):Bool:=gu (Nat.beq a 4&&(Nat.beq c 0x706f7370||Nat.beq c 0x6e617470))
def Qt(h:Nat×Nat×Nat×Nat×Nat)(r:ao)(g:Nat->ay):Bool:=match r with
 | .bD [.ag .i64 m,.U e]=>c7 (Nat.ble 18446744073709551616 m) (c7 (Nat.ble m 18446744073709551619) (match e with|true=>c7 (G5 h.2.2.1 h.2.2.2.1) (zU (g (Nat.sub m 18446744073709551616)))|false=>true))
 |_=>false
def YS(h:Nat×Nat×Nat×Nat×Nat)(f:ay)(g:Nat->ay):Bool:= @ay.rec (λ_=>Bool) false (λr ub _ _=>c7 (Nat.beq ub 0) (Qt h r g)) f
theorem aoL(n:Nat):(oS.all λh=>YS h (bR bX (n+60) 130 [.agg [.s h.1 h.2.1,.s h.2.2.1 h.2.2.2.1]] 0 .nil) λz=>bR bX (n+60) 131 [.agg [.s h.1 h.2.1,.s h.2.2.1 h.2.2.2.1],.aN 1 ((List.replicate z 2047).map gh)] 0 .nil)=true:=by kernel_rfl
end
end Go.Hf

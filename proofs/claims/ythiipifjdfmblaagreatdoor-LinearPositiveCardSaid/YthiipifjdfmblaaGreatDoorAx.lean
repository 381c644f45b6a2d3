import Derived.Test.YthiipifjdfmblaaGreatDoorAw
set_option linter.all false
set_option maxRecDepth 100000
namespace Go.Hf
open Go.RowKit
variable{p:bE} {ln:Nat->Nat}
def Gt(B:Nat)(c:Rat):Bool:=Nat.beq c.den 1&&Nat.ble c.num.natAbs B
theorem Vu{B:Nat}{c:Rat}(h:Gt B c=true):gQ B c:=by
 simp only[Gt,Hi] at h;refine⟨c.num,?_,pn h.2⟩;apply Rat.ext
 ·rfl
 ·exact dp h.1
def F5(p:bE):Bool:=x4 p&&(Nat.ble p.length 6&&((p.all λm=>Nat.blt m.k 10)&&((p.all λm=>Gt 16 m.U&&(!Nat.beq m.k 0||Gt 8 m.U))||p.all λm=>bif Nat.beq m.k 0 then pz.any (λr=>decide (r=m.U)) else(decide (m.U=1)||decide (m.U= -1)))))
theorem abC(h:F5 p=true):jp p:=by
 simp only[F5,Hi,dS] at h;obtain⟨c,d,g,i⟩:=h;refine⟨B6 c,λm a=>pn (cB g a),pn d,?_⟩;rcases i with h|h
 ·refine .inl λm a=>?_;have:=cB h a;simp only[Hi,dS] at this;refine⟨Vu this.1,λb=>?_⟩;rcases this.2 with e|e
  ·rw[b] at e;simp at e
  ·exact Vu e
 ·refine .inr λm a=>?_;have:=cB h a;refine⟨λb=>?_,λb=>?_⟩
  ·rw[b,wT,lR] at this;obtain⟨r,j,e⟩:=pL.1 this;rw[<-gd e];exact j
  ·have e:Nat.beq m.k 0=false:=by
    cases k:Nat.beq m.k 0 with
    |true=>exact absurd (dp k) b
    |false=>rfl
   rw[e,cond_false,dS] at this;rcases this with e|e
   ·exact .inl (gd e)
   ·exact .inr (gd e)
def wZ:List (Int×Int):=aEB.drop 2
def xN(x:Int×Int):Rat:=mkRat x.1 x.2.toNat
theorem ahg:(aEB.all λx=>decide ((xN x).num=x.1)&&(decide (((xN x).den:Int)=x.2)&&rQ (xN x)))=true:=by kernel_rfl
theorem ah3[Tok]{x:Int×Int}(h:x∈wZ):b5 x.1 x.2=ef (xN x)/\fV (xN x):=by have:=cB ahg (List.mem_of_mem_drop h);simp only[Hi] at this;refine⟨?_,sc this.2.2⟩;unfold ef;rw[gd this.1,gd this.2.1]
section
variable[Tok]
inductive lz (ln:Nat->Nat):aB->bE->Prop
 |var (i:Nat) (hi:i<3):lz ln (dW i) [⟨ln i,1⟩]
 |num (x:Int×Int) (hx:x∈wZ):lz ln (cW (b5 x.1 x.2)) (ei [⟨0,xN x⟩])
 |tt (o:aB) (ho:o∈kY):lz ln (cW o) []
 |im (n c c':Nat) (a d:aB) (ha:h0 n c a) (hd:h0 n c' d):lz ln (cW (jU a d)) []
def zw(ln:Nat->Nat):List bE:=[[⟨ln 0,1⟩],[⟨ln 1,1⟩],[⟨ln 2,1⟩],[]]++wZ.map λx=>ei [⟨0,xN x⟩]
theorem lz.mem{t:aB}(h:lz ln t p):p∈zw ln:=by
 cases h with
 |var i hi=>
  have:i=0\/i=1\/i=2:=by omega
  rcases this with rfl|rfl|rfl<;>simp[zw]
 |num x a=>exact xb _ (Io a)
 |tt o b=>simp[zw]
 |im=>simp[zw]
section
variable{E:cr} {K:Nat->Prop} {L:Nat} (H:kI E K L)
include H
theorem kI.PD(q:∀i,i<3->E.di (ln i)= .aQ 11 [dW i]):bl λu=>∀t p,lz ln t p->mf u E t p:=by
 have r:bl λu=>∀i,i<3->mf u E (dW i) [⟨ln i,1⟩]:=bl.kQ 40 λn=>by
  intro i hi;have w:E.fp ⟨ln i,1⟩=b5 1 1++[tW (i+1)]:=by
   unfold cr.fp;rw[H.num,q i hi];have z:tW (i+1)= .aQ 11 [dW i]:=by unfold tW;rw[cz,fS,tc hi];rfl
   rw[z];rfl
  have j:cA E (.aQ 8 [b5 1 1++[tW (i+1)]]) [⟨ln i,1⟩]:= .inr (by rw[<-w];rfl);have h:=cB (T6 n) (mem_range (show i<9 by omega));rw[<-tc hi] at h;exact⟨⟨rfl,rfl⟩,_,j,eN h⟩
 have A:bl λu=>(∀o∈kY,fy u 154 E [.agg (cW o)] [])/\∀a d,fy u 154 E [.agg (cW (jU a d))] []:=bl.run λn=>by have j:cA E .aE []:= .inl ⟨rfl,rfl⟩;exact⟨λo g=>⟨_,j,eN (cB (auw n) g)⟩,λa d=>⟨_,j,hE (aA8 n a d)⟩⟩
 refine((r.and A).and H.Qm).imp λn h t p B=>?_;cases B with
 |var i hi=>exact h.1.1 i hi
 |num x k=>obtain⟨e,g⟩:=ah3 k;rw[e];exact h.2 _ g
 |tt o g=>have b:h0 0 1 o:= .leaf (gv _ g);exact⟨⟨(iA b.ak.1 b.ak.2).aa,(iA b.ak.1 b.ak.2).e5⟩,h.1.2.1 o g⟩
 |im n c D x y k C=>have b:(jU x y).length=7/\b8 (jU x y)=true:=h0.ak (lJ.cons k C);exact⟨⟨(iA b.1 b.2).aa,(iA b.1 b.2).e5⟩,h.1.2.2 x y⟩
end
inductive ka:aB->bE->Prop
 |t0 (t:aB) (p:bE) (h:lz (· +1) t p):ka t p
 |plus (t s:aB) (p q:bE) (h:lz (· +1) t p) (g:lz (· +1) s q):ka (bU bP fv [t,s]) (ei (p++q))
 |MU (t s:aB) (p q:bE) (h:lz (· +1) t p) (g:lz (· +1) s q):ka (bU bP eM [t,s]) (ei (eK fW p q))
 |neg (t:aB) (p:bE) (h:lz (· +1) t p):ka (bU bP jy [t]) (hB p)
def oR:List bE:=zw (· +1)
def uk(k:Nat):Bool:=Nat.blt k 10||(Nat.blt k 91&&Nat.ble ((k-10)/9) ((k-10) %9))
theorem y7(k:Nat)(h:uk k=true):fT k:=by
 simp only[uk,dS,Hi] at h;rcases h with h|h
 ·exact .inl (pn h)
 ·exact .inr ⟨pn h.1,pn h.2⟩
def zU(_:Nat):Bool:=true
theorem E0:(oR.all λp=>F5 p&&(IT uk p&&oR.all λq=>v8 uk zU p q))=true:=by kernel_rfl
theorem aaq:(oR.all λp=>oR.all λq=>v8 uk zU p (hB q)&&(F5 (lW p q)||h6 0 (lW p q)))=true:=by kernel_rfl
theorem axG:(oR.all λp=>oR.all λq=>oR.all λr=>v8 uk zU (ei (p++q)) (hB r))=true:=by kernel_rfl
theorem ano:(oR.all λp=>oR.all λq=>oR.all λr=>v8 uk zU (ei (eK fW p q)) (hB r))=true:=by kernel_rfl
theorem alU:(oR.all λp=>oR.all λr=>v8 uk zU (hB p) (hB r))=true:=by kernel_rfl
end
end Go.Hf

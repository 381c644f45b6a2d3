import Derived.Test.YteehpeajjbkjnaaGreatDoorBh
import Derived.Test.YteehpeajjbkjnaaGreatDoorBb
import Derived.Test.YteehpeajjbkjnaaGreatDoorBc
import Derived.Test.YteehpeajjbkjnaaGreatDoorBd
import Derived.Test.YteehpeajjbkjnaaGreatDoorAw
set_option maxRecDepth 100000
set_option linter.all false
namespace Go.Hf
open Go Go.Proofs Go.RowKit
variable{l:List (az×ao)}
section
variable[Tok]
theorem abG{l:az}{a:ao}{s:cD}{d:List Nat}:∀{K:List (az×ao)},dA K l= .ok a 0 s d->(l,a)∈K
 |[],h=>by have e:ay.aF= .ok a 0 s d:=h;cases e
 |p::K,h=>by
  have e: @Bool.rec (λ_=>ay) (dA K l) (.ok p.2 0 .nil []) (vL (.bD p.1.reverse) (.bD l.reverse))= .ok a 0 s d:=h;cases b:vL (.bD p.1.reverse) (.bD l.reverse) with
  |false=>rw[b]at e;exact .tail _ (abG e)
  |true=>rw[b]at e;have c:=QR _ _ b;cases p;cases e;cases List.reverse_inj.1 (ao.bD.inj c);exact .head _
theorem abi{f:Nat}{K:List (az×ao)}{T:my}(a:qz jw Tryz.prog T)(h:∀p∈K,iu (bR T 300 f p.1 0 .nil) p.2=true):iE jw Tryz.prog f (r7 K):=ac5 λu b args c s d e=>by obtain⟨g,d',e'⟩:=hF (h _ (abG e));exact awU a e'
theorem Nw:iE jw Tryz.prog 45 (r7 A3):=abi NE λp a=>by obtain rfl:=List.mem_singleton.1 a;exact avv
theorem afL:qz jw Tryz.prog NF:=IR Nw acJ LX SC
theorem vn{a b:Nat}(h:oi ((l.drop a).take b)=true)(g:oi (l.drop (a+b))=true):oi (l.drop a)=true:=by unfold oi at*;rw[kg] at*;intro x c;rw[<-List.take_append_drop b (l.drop a),List.drop_drop]at c;exact(fq.1 c).elim (h x) (g x)
theorem ap9:oi oE=true:=by have h:=vn auv (vn auw (vn aux (vn auy (vn auz (vn auA (vn auB (vn auC (vn auD auE))))))));rwa [sA]at h
theorem aqa(h:oi l=true):∀p∈l,iu (bR NF 300 46 p.1 0 .nil) p.2=true:=kg.1 h
theorem T9:iE jw Tryz.prog 46 (r7 oE):=abi afL (aqa ap9)
theorem afM:qz jw Tryz.prog NG:=IR Nw T9 LX SC
theorem afN:qz jw Tryz.prog (wJ (r7 A3) (r7 oE) zv FW):=IR Nw T9 LX atH
theorem axf(a:Nat):kS jw Tryz.prog (wo a):=by intro f args ub aC b c d e h;unfold wo at h;split at h;exact Dy afM 300 f args ub aC b c d e h;exact Dy NE a f args ub aC b c d e h
theorem aqP(a i:Nat):kS jw Tryz.prog (x5 a i):=by intro f args ub aC b c d g h;unfold x5 at h;split at h;rename_i e;subst e;exact Dy afN 300 4 args ub aC b c d g h;split at h;rename_i e;subst e;exact acK (gl:=jw) (wo a) (axf a) args ub aC b c d g h;exact Dy NE i f args ub aC b c d g h
theorem aqM{m:Nat}{x y:ao}{N N':Nat}(h:qA x N)(j:qA y N'):wH jw Tryz.prog 3 [bk (.ag .u32 (18446744073709551616+m)),bk x,bk y] (bk (.U true)):=by obtain⟨a,c,s,d,e⟩:=p4 (m:=m) h j;obtain⟨g,_,k⟩:=acI (gl:=jw) (x5 a c) (aqP a c) [.ag .u32 (18446744073709551616+m),x,y] 0 .nil (.U true) 0 s d e;rw[xC,xC]at g;refine⟨g,?_⟩;rw[p3];rfl
end
@[reducible] def aw8:Tok:=⟨λ_=>kv,λ_=>rfl⟩
end Go.Hf
